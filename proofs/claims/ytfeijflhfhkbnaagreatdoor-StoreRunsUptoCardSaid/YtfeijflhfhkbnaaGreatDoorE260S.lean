import Derived.Test.YtfeijflhfhkbnaaGreatDoorE250S
import Derived.Test.YtfeijflhfhkbnaaGreatDoorE330S
import Derived.Test.YtfeijflhfhkbnaaGreatDoorE190S
import Derived.Test.YtfeijflhfhkbnaaGreatDoorKT190S
import Derived.Test.YtfeijflhfhkbnaaGreatDoorKT102S
set_option linter.all false
/- The reference's store in this seat. -/
namespace Go.Proofs.YtfeijflhfhkbnaaGreatDoor
open Go Go.Am Go.ChangeShapes
set_option maxRecDepth 100000
variable {t1 t2:Nat} {mq:Int} {d:Doc} (hi:bQ d=true)
theorem U4 {l:List Step} (h:bQ d=true) (hg:bm l=true):ru d l d.length=cp d l:=by
 obtain⟨t,ht,rfl⟩:=dm.1 h;have hl:l≠[]:=by intro e;subst e;simp[bm] at hg
 exact(sX l hl).symm
theorem RX:ZC Tryz.prog (gQ t1 t2 mq) 161:=RU Tryz.UY Tryz.vU (m:=mq) rfl
theorem ZO:∀x:Tree,x.wt<=2^15->aj Tryz.prog (gQ t1 t2 mq) 76 [x.av] (.str x.sh):=by
 have:=Fl (M:=λl=>∀x∈l,x.wt<=2^15->aj Tryz.prog (gQ t1 t2 mq) 76 [x.av] (.str x.sh)) λl h x hx hB=>
  ZE (λs hs v=>ZD RX s hs v) x hB λk hk=>h x hx k hk anp
 exactλx h=>this [x] x ajL h
include hi
theorem Lq:aj Tryz.prog (gS t1 t2) 40 [Doc.av d,.int .i64 0] (cY d 0).1.av:=by
 have hw:=ua hi;rw[UZ hi];obtain⟨t,ht,rfl⟩:=dm.1 hi;exact U0 _ akh (ay t).length 0 ajK (by have:=Ag (t:=t);omega)
theorem Jy:aj Tryz.prog (gS t1 t2) 77 [Doc.av d] (.bool (bQ d)):=
 have hB:B=1073741824:=rfl
 ZF d hi (Lq hi) (Aa _ (by have:=Ec hi;omega)) (FO d d (by have:=ua hi;omega))
omit hi in
theorem RY (hd:mr d<=B) (hi:bQ d=true):∀(k:Nat) (l:List Step),l.length=k->l≠[]->l.length<=1000->∀m:Nat,m<d.length->aj Tryz.prog (gS t1 t2) 78 [Doc.av d,.int .i64 (m:Int),.list (l.map Step.iv)] (.bool (bx d l.reverse m)):=by
 intro k;induction k with
 |zero=>intro l h cf;exact absurd (agL.1 h) cf
 |succ k ih=>
 intro l hk cf hl m hm;obtain⟨l',s,rfl⟩:∃l' s,l=l'++[s]:=⟨_,_,(aiv cf).symm⟩;simp only[age,ahl] at hk hl;obtain⟨x,hx⟩:∃x,d[m]?=some x:=⟨_,af7 hm⟩;have hp:x.parent<(m:Int):=by
  obtain⟨t,ht,rfl⟩:=dm.1 hi;rcases tM hx with⟨rfl,h⟩|⟨_,_,h⟩
  ·omega
  exact h
 exact RI d hd l' s ajK m x hx hp (λy _=>Uz y s.name) (λh0 m' hm'=>ih l' ajK h0 ajK m' ajK)
theorem U5 (s:Bs) (he:(bM s).2.2=0):aj Tryz.prog (gS t1 t2) 41 [Doc.av d,.list ((bM s).2.1.map Step.iv)] (.bq [.list ((dr d (bM s).2.1).1.map aC),.int .i64 (dr d (bM s).2.1).2]):=by
 have hB:B=1073741824:=rfl;have hg:=Nf s he;obtain⟨h5,h8⟩:=ub s;have hw:=ua hi;have cf:(bM s).2.1≠[]:=by intro e;rw[e] at hg;simp[bm] at hg
 have:=Nw (P:=Tryz.prog) (G:=gS t1 t2) d ajK (bM s).2.1 (Jy hi) (Lh _ ajK (λx hx=>rY _ (by have:=h8 x hx;omega))) λ_ _ m hm=>RY ajK hi _ _ rfl cf ajK m hm;unfold Nv at this;rw[agc (by simp[hi,hg]),U4 hi hg] at this;unfold dr;rw[agc ⟨hi,hg⟩];exact this
theorem ZP (l:List Am.Op) (hl:Ud l):aj Tryz.prog (gQ t1 t2 mq) 42 [Doc.av d,.list (l.map Am.Op.iv)] (.bq [Doc.av (cq d l).1,.int .i64 (cq d l).2]):=by
 have h22:(2:Nat)^22=4194304:=ajN
 have hB:B=1073741824:=rfl;obtain⟨h1,h2⟩:=hl;exact Jx (λl h=>adx _ l (af6 _) h) (λl h=>L8 l h) (λx h=>yd (Aa x h)) d l
  (NA d l ajK (yd (Jy hi)) (λo ho=>by
   have:=h2 o ho;exact adv d o (yd (Jy hi)) ajQ (λm c hm=>ZG m c (U3 m c (RA Tryz.Ld (m:=mq) rfl m c ajK)))
    (yd (z8 _ ajK)) (yd (rY _ ajK)) (yd (vw _ ajK))) λa b=>Jp a b)
theorem yDo (n:Int) (h0:0<=n) (h1:n<=100) (a:de) (h:FC a.lines<=2^20) :
  cM Tryz.prog (gQ t1 t2 mq) 14 [.ptr (.par 0) 2 0 0,a.av] (cx d n) (λx cs=>x=(v_ d n a).2.av/\cs=cx (v_ d n a).1.1 (v_ d n a).1.2):=by
 have hB:B=1073741824:=rfl;have ht:=Ec hi;have hl:∀s∈a.lines,s.length<=2^20:=λs hs=>by have:=yP hs;omega
 exact afl d hi n h0 h1 a (by have:=yQ a.lines;omega) ajQ
  (λs hs=>Jj s al6 Ln λt h=>yd (DE t al6))
  (λs hs=>yd (Aa _ (by have:=GY s;omega))) (yd (Lq hi))
  (Jw _ (yd (DE _ ajK)) λ_=>ZO _ ajK)
  (λs hs=>UX s al6) (λs hs=>Lc s al6) (λs hs he=>yd (U5 hi s he)) (λl hl=>ZP hi l hl)
end Go.Proofs.YtfeijflhfhkbnaaGreatDoor
