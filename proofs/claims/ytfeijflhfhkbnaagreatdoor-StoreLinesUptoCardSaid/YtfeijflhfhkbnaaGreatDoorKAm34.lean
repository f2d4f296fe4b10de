import Derived.Test.YtfeijflhfhkbnaaGreatDoorKAm25
set_option linter.all false
/- THE ABSTRACT MACHINE, part 34: a list of structs behind a pointer. -/
namespace Go.Am
open Go Go.RowKit
def afA (sz b d:Nat) (l:Lb) (xs:List IV) (x:IV) {n:Nat} {H:Hp} (hf:l.fresh=false) (hl:H l= .live ⟨sz,aB xs⟩) (hn:xs.length=n) (he:x.cells.length=sz) (FO:∀z∈x.cells,∀cs,z≠ .agg cs) (hb:(n+1)*b<=140737488355328) (h0:0<b)
  (hd:l≠ .gen d) (hu:H (.gen d)= .unused) :
  jN sz b d (.sl l sz 0 n) (.list [x]) H=some (.sl (.gen d) sz 0 (n+1),bD (bD H l .dead) (.gen d) (.live ⟨sz,aB (xs++[x])⟩)):=by
 have e:l.app d= .gen d:=by unfold Lb.app;rw[hf];rfl
 have:=ux (l:=l) (d:=d) hl (by rw[lQ];exact hn) he FO hb h0 (by rw[e];exact hd) (by rw[e];exact hu);rw[e] at this;rw[this,lR]
def ie (u:Lb->Bool) (rs:List (Lb×Row)):Hp:=λq=>match kl rs q with
 | .unused=>if u q then .dead else .unused
 |s=>s
def cL {u:Lb->Bool} {rs:List (Lb×Row)} {l:Lb} {r:Row}:ie u rs l= .live r↔kl rs l= .live r:=by
 unfold ie;cases h:kl rs l with
 |unused=>by_cases hu:u l=true<;>simp[hu]
 |dead=>simp
 |live r'=>simp
def jb {u:Lb->Bool} {rs:List (Lb×Row)} {l:Lb} (h:l∈rs.map Prod.fst\/u l=true):ie u rs l≠ .unused:=by
 unfold ie;rcases h with h|h
 ·have:=amE h;cases h2:kl rs l with
  |unused=>exact absurd h2 this
  |dead=>simp
  |live r=>simp
 cases h2:kl rs l with
 |unused=>simp[h]
 |dead=>simp
 |live r=>simp
def fE {u:Lb->Bool} {rs:List (Lb×Row)} {l:Lb} (h:l∉rs.map Prod.fst):ie u rs l=if u l then .dead else .unused:=by
 have:kl rs l= .unused:=by
  induction rs with
  |nil=>rfl
  |cons p t ih=>
  obtain⟨l0,r0⟩:=p;simp only[Rj,PY,Xd] at h;simp only[kl,bD,Ev h.1];exact ih h.2
 unfold ie;rw[this]
structure WU (ls:List Lb) (u:Lb->Bool) (ps:List (Nat×AV)) (rs:List (Lb×Row)) (env:Env) (H:Hp) (m:List (Lb×Lb)):Prop where
 nf:∀l:Lb,l.fresh=false->H l≠ .unused->l∈ls\/u l=true
 e:k_ (dn m) env ps
 r:tc (dn m) H rs
 inj:(ls.map (dn m)).Nodup
 fr:∀l∈ls,(l.fresh=true->(dn m l).fresh=true)/\(l.fresh=false->dn m l=l)
def WU.wk {ls:List Lb} {u:Lb->Bool} {ps:List (Nat×AV)} {rs:List (Lb×Row)} {env:Env} {H:Hp} {m:List (Lb×Lb)} (h:WU ls u ps rs env H m) (lr:rs.map Prod.fst=ls) (hp:∀l∈ah (ps.map Prod.snd),l∈ls)
  (hr:∀q∈rs,∀cs∈q.2.els,∀l∈ah cs,l∈ls):Wk (dn m) env H (o9 ps) (ie u rs):=by
 have sw:∀l,live (ie u rs) l->l∈ls:=λl ⟨r,h⟩=>by rw[<-lr];exact pb.2 ⟨_,fy (cL.1 h),rfl⟩
 refine⟨h.e.we,λl r hl=>nr h.r (fy (cL.1 hl)),λl l' h1 h2 e=>gi h.inj l (sw l h1) l' (sw l' h2) e,mu λl hl=>jb (.inl (by rw[lr];exact hp l hl)),λl r hl cs bV q hq=> ?_,
  λl hf=>⟨λhu=> ?_,λhl=>(h.fr l (sw l hl)).2 (Lb.Og hf)⟩,λl hl hf=>(h.fr l (sw l hl)).1 hf⟩
 ·exact jb (.inl (by rw[lr];exact hr _ (fy (cL.1 hl)) cs bV q hq))
 exact jb (by rw[lr];exact h.nf l (Lb.Og hf) hu)
def pe {σ:Type} {S:St} {Q:gI} {c:AC} {k:List It} {env:Env} {H:Hp} (ls:σ->List Lb) (u:σ->Lb->Bool) (ps:σ->List (Nat×AV)) (rs:σ->List (Lb×Row)) (μ:σ->Nat) (s0:σ)
  (lr:∀s,(rs s).map Prod.fst=ls s) (hp:∀s,∀l∈ah ((ps s).map Prod.snd),l∈ls s) (hr:∀s,∀q∈rs s,∀cs∈q.2.els,∀l∈ah cs,l∈ls s) (h0:∃m,WU (ls s0) (u s0) (ps s0) (rs s0) env H m)
  (round:∀s,go S (kM S Q k (λenv H s=>∃m,WU (ls s) (u s) (ps s) (rs s) env H m) μ (μ s)) [.code c] (o9 (ps s)) (ie (u s) (rs s))):lI S Q c k env H:=
 j7 (λs=>o9 (ps s)) (λs=>ie (u s) (rs s)) _ (λ_ _ s ⟨m,h⟩=>⟨_,h.wk (lr s) (hp s) (hr s)⟩) μ s0 h0 round
def ad7 (sz:Nat) (l:Lb) (o:Option Lb) (xs:List IV) (H:Hp):Prop:=match o with
 |none=>H l= .live ⟨1,[[.nil0]]⟩/\xs=[]
 |some L=>L≠l/\H l= .live ⟨1,[[.sl L sz 0 xs.length]]⟩/\H L= .live ⟨sz,aB xs⟩
def Xq (sz:Nat) (xs:List IV):Bool->Hp
 |false=>bD Hp.none (.par 0) (.live ⟨1,[[.nil0]]⟩)
 |true=>bD (bD Hp.none (.par 1) (.live ⟨sz,aB xs⟩)) (.par 0) (.live ⟨1,[[.sl (.par 1) sz 0 xs.length]]⟩)
def adm (P:Program) (G:Nat->Option (List IV)) (sz f:Nat) (args:List AV) (xs:List IV) (res:AV) (ys:List IV):Prop:=
 (∀l∈ah args,l= .par 0)/\res.an=[]/\∀b:Bool,(b=false->xs=[])->ey P G f args (Xq sz xs b) λx H'=>x=res/\∃L,ad7 sz (.par 0) (some L) ys H'
def dy (ρ:Lb->Lb) (sz:Nat) (xs:List IV):dO ρ ⟨sz,aB xs⟩=⟨sz,aB xs⟩:=rk ρ sz xs
def aa2 {p:Prop} (h:p:=by simp[dn,dy,ae,ix,Tree.o_,Tree.cs,Tree.text,Tree.s,Tree.attrs,Tree.kids,cD,dq]):p:=h
def ey.ahr {P:Program} {G:Nat->Option (List IV)} {f:Nat} {args:List AV} {H:Hp} {Q:AV->Hp->Prop} (h:ey P G f args H Q) (kp:Hp->Lb->Prop) :
  ey P G f args H λx H'=>∃H1,Q x H1/\H'=asG (kp H1) H1:=by
 intro w A β vs hr hv;refine(h w A β vs hr hv).mono ?_;rintro e w' ⟨v,x,H1,β',rfl,hq,lz,hx,hm⟩;exact⟨v,x,asG (kp H1) H1,β',rfl,⟨H1,hq,rfl⟩,lz.asG _,hx.asG _,λl hl=>by rw[Ne,N9];exact hm l hl⟩
mutual
theorem P4 {ρ ρ':Lb->Lb}:∀x:AV,(∀l∈x.an,ρ l=ρ' l)->bJ ρ x=bJ ρ' x
 | .sl l ..,h| .slk l ..,h| .ptr l ..,h=>by simp[bJ,h l aad]
 | .any,_| .un,_| .bool _,_| .int ..,_| .str _,_| .list _,_| .nil0,_| .jK,_| .iT,_| .lptr _,_| .mis _,_=>by simp[bJ]
 | .agg cs,h=>by simp only[AV.an] at h;simp[bJ,NZ cs h]
 | .gf cs,h=>by simp only[AV.an] at h;simp[bJ,NZ cs h]
 | .fn f fs cs,h=>by
  simp only[AV.an,QL] at h;simp[bJ,NZ fs (λl hl=>h l (.inl hl)),NZ cs (λl hl=>h l (.inr hl))]
 | .ifc t x,h=>by simp only[AV.an] at h;simp[bJ,P4 x h]
theorem NZ {ρ ρ':Lb->Lb}:∀xs:List AV,(∀l∈ah xs,ρ l=ρ' l)->bu ρ xs=bu ρ' xs
 |[],_=>by simp[bu]
 |x::r,h=>by
  simp only[ah,QL] at h;simp[bu,P4 x (λl hl=>h l (.inl hl)),NZ r (λl hl=>h l (.inr hl))]
end
def We {sz:Nat} {xs:List IV} {b:Bool} {q:Lb} {r:Row} (h:Xq sz xs b q= .live r) :
  (q= .par 0/\r=⟨1,[[if b then .sl (.par 1) sz 0 xs.length else .nil0]]⟩)\/(b=true/\q= .par 1/\r=⟨sz,aB xs⟩):=by
 cases b with
 |false=>
  simp only[Xq] at h;by_cases e:q= .par 0
  ·subst e;simp at h;exact .inl ⟨rfl,by rw[<-h];rfl⟩
  rw[aq _ _ e] at h;simp[Hp.none] at h
 |true=>
 simp only[Xq] at h;by_cases e:q= .par 0
 ·subst e;simp at h;exact .inl ⟨rfl,by rw[<-h];rfl⟩
 rw[aq _ _ e] at h;by_cases e1:q= .par 1
 ·subst e1;simp at h;exact .inr ⟨rfl,rfl,h.symm⟩
 rw[aq _ _ e1] at h;simp[Hp.none] at h
open Classical in
def Zf {S:St} {sz f:Nat} {args U6:List AV} {xs ys:List IV} {res:AV} {H:Hp} {k:AV→Hp→Prop} {u:Tw k} {l N:Lb} {o:Option Lb} (h:adm S.P S.G sz f U6 xs res ys)
  (ha:args=bu (ft l) U6) (hl:ad7 sz l o xs H) (hN:H N= .unused) (Jc:N.fresh=true→l.fresh=true∧∀L,o=some L→L.fresh=true)
  (hk:∀L' kK,(L'=N∨o=some L')→ad7 sz l (some L') ys kK→(∀q,q≠l→q≠N→o≠some q→kK q=H q)→(∀q,H q≠ .unused→kK q≠ .unused)→k res kK):C7 S f args H k u:=by
 obtain⟨h1,h2,h3⟩:=h;have hob:o.isSome=false→xs=[]:=by
  intro ho;cases o with
  |none=>exact hl.2
  |some L=>simp at ho
 have ahs:=(h3 o.isSome hob).ahr fun H1 q=>q= .par 0∨∃n,H1 (.par 0)= .live ⟨1,[[.sl q sz 0 n]]⟩
 let L0:Lb:=o.getD N
 let ρ:Lb→Lb:=fun q=>if q= .par 0 then l else if q= .par 1 then L0 else q
 have adn:ρ (.par 0)=l:=by simp[ρ]
 have ado:ρ (.par 1)=L0:=by simp[ρ]
 have Lv:H l≠ .unused:=by cases o with
  |none=>rw[hl.1];simp
  |some L=>rw[hl.2.1];simp
 have Mz:N≠l:=by rintro rfl;exact Lv hN
 have aht:L0≠l:=by cases o with
  |none=>exact Mz
  |some L=>exact hl.1
 refine .inr<| .inr ⟨⟨ρ,Xq sz xs o.isSome,U6,_,ahs,?_,?_,?_,?_,?_,?_,?_,?_⟩⟩
 ·rw[ha];exact NZ _ fun q hq=>by rw[h1 q hq];simp[ft,ρ]
 ·intro q r hq;rcases We hq with⟨rfl,rfl⟩|⟨hb,rfl,rfl⟩
  ·rw[adn];cases o with
   |none=>rw[hl.1];simp[dO,bu,bJ]
   |some L=>rw[hl.2.1];simp[dO,bu,bJ,ρ,L0]
  rw[ado,dy];cases o with
  |none=>simp at hb
  |some L=>exact hl.2.2
 ·intro q hq;cases hb:o.isSome with
  |false=>
   rw[hb] at hq;simp only[Xq] at hq;by_cases e:q= .par 0
   ·subst e;exact⟨_,by simp[Xq];rfl⟩
   rw[aq _ _ e] at hq;simp[Hp.none] at hq
  |true=>
  rw[hb] at hq;simp only[Xq] at hq;by_cases e:q= .par 0
  ·subst e;exact⟨_,by simp[Xq];rfl⟩
  rw[aq _ _ e] at hq;by_cases e1:q= .par 1
  ·subst e1;exact⟨_,by simp[Xq,bD];rfl⟩
  rw[aq _ _ e1] at hq;simp[Hp.none] at hq
 ·rintro q q' ⟨r,hq⟩ ⟨r',oX⟩ he;rcases We hq with⟨rfl,_⟩|⟨_,rfl,_⟩<;>rcases We oX with⟨rfl,_⟩|⟨_,rfl,_⟩
  ·rfl
  ·rw[adn,ado] at he;exact absurd he.symm aht
  ·rw[adn,ado] at he;exact absurd he aht
  rfl
 ·intro q hq;rw[h1 q hq];cases o.isSome<;>simp[Xq]
 ·rintro q ⟨r,hq⟩;rcases We hq with⟨rfl,_⟩|⟨_,rfl,_⟩<;>rfl
 ·intro q r hq cs bV z hz;rcases We hq with⟨rfl,rfl⟩|⟨hb,rfl,rfl⟩
  ·simp only[List.mem_singleton] at bV;subst bV;cases hb:o.isSome with
   |false=>rw[hb] at hz;simp[ah,AV.an] at hz
   |true=>rw[hb] at hz;simp[ah,AV.an] at hz;subst hz;simp[Xq,bD]
  rw[bU bV] at hz;simp at hz
 rintro x H' ⟨H1,⟨rfl,L,hLa⟩,rfl⟩;obtain⟨ij,hp,hLr⟩:=hLa
 let L1:Lb:=if L= .par 1∧o.isSome=true then L0 else N
 have Je:L1=N∨o=some L1:=by
  by_cases e:L= .par 1∧o.isSome=true
  ·right;simp only[L1,if_pos e,L0];cases o with
   |none=>simp at e
   |some Lo=>rfl
  left;simp only[L1,if_neg e]
 have afB:L1≠l:=by
  rcases Je with e|e
  ·rw[e];exact Mz
  intro e2;rw[e2] at e;cases o with
  |none=>simp at e
  |some Lo=>simp only[Option.some.injEq] at e;exact hl.1 e
 let ρ':Lb→Lb:=fun q=>if q= .par 0 then l else if q=L then L1 else q
 have acJ:ρ' (.par 0)=l:=by simp[ρ']
 have ZP:ρ' L=L1:=by simp[ρ',ij]
 let Hk:Hp:=match o with
  |some Lo=>bD H Lo .dead
  |none=>H
 have Hn:∀q,o≠some q→Hk q=H q:=by
  intro q hq;cases o with
  |none=>rfl
  |some Lo=>exact aq _ _ (fun e=>hq (by rw[e]))
 have ahu:∀q,o=some q→Hk q= .dead:=by
  intro q hq;subst hq;simp[Hk]
 have aK:∀q r,asG (fun q=>q= .par 0∨∃n,H1 (.par 0)= .live ⟨1,[[.sl q sz 0 n]]⟩) H1 q= .live r→(q= .par 0∧r=⟨1,[[.sl L sz 0 ys.length]]⟩)∨(q=L∧r=⟨sz,aB ys⟩):=by
  intro q r hq;obtain⟨g1,g2⟩:=dH.1 hq;rcases g2 with rfl|⟨n,g2⟩
  ·rw[hp] at g1;cases g1;exact .inl ⟨rfl,rfl⟩
  rw[hp] at g2;simp only[Slot.live.injEq,Row.mk.injEq,List.cons.injEq,and_true,true_and,AV.sl.injEq] at g2;obtain⟨rfl,_⟩:=g2;rw[hLr] at g1;cases g1;exact .inr ⟨rfl,rfl⟩
 have agI:asG (fun q=>q= .par 0∨∃n,H1 (.par 0)= .live ⟨1,[[.sl q sz 0 n]]⟩) H1 (.par 0)= .live ⟨1,[[.sl L sz 0 ys.length]]⟩:=dH.2 ⟨hp,.inl rfl⟩;have ad8:asG (fun q=>q= .par 0∨∃n,H1 (.par 0)= .live ⟨1,[[.sl q sz 0 n]]⟩) H1 L= .live ⟨sz,aB ys⟩:=dH.2 ⟨hLr,.inr ⟨_,hp⟩⟩
 let kK:Hp:=bD (bD Hk l (.live ⟨1,[[.sl L1 sz 0 ys.length]]⟩)) L1 (.live ⟨sz,aB ys⟩)
 have hH1:kK L1= .live ⟨sz,aB ys⟩:=by simp[kK]
 have agJ:kK l= .live ⟨1,[[.sl L1 sz 0 ys.length]]⟩:=by
  show bD _ L1 _ l=_;rw[aq _ _ (Ne.symm afB)];simp
 have hHo:∀q,q≠L1→q≠l→kK q=Hk q:=by
  intro q e1 e2;show bD _ L1 _ q=_;rw[aq _ _ e1,aq _ _ e2]
 have GJ:∀q,H q≠ .unused→kK q≠ .unused:=by
  intro q hq;by_cases e1:q=L1
  ·rw[e1,hH1];simp
  by_cases e2:q=l
  ·rw[e2,agJ];simp
  rw[hHo q e1 e2];by_cases e3:o=some q
  ·rw[ahu q e3];simp
  rw[Hn q e3];exact hq
 refine⟨ρ',kK,?_,?_,?_,GJ,?_,?_,?_,?_,?_⟩
 ·rintro q ⟨r,hq⟩ ⟨r',oX⟩;rcases We hq with⟨rfl,_⟩|⟨hb,rfl,_⟩
  ·rw[adn,acJ]
  rcases aK _ _ oX with⟨e,_⟩|⟨e,_⟩
  ·cases e
  rw[ado,e,ZP];simp only[L1,if_pos (⟨e.symm,hb⟩:L= .par 1∧o.isSome=true)]
 ·intro q r hq;by_cases e1:q=L1
  ·subst e1;rw[hH1] at hq;simp only[Slot.live.injEq] at hq;exact .inr ⟨L,_,ad8,ZP,by rw[dy];exact hq.symm⟩
  by_cases e2:q=l
  ·subst e2;rw[agJ] at hq;simp only[Slot.live.injEq] at hq;refine .inr ⟨.par 0,_,agI,acJ,?_⟩;rw[←hq];simp[dO,bu,bJ,ZP]
  rw[hHo q e1 e2] at hq;by_cases e3:o=some q
  ·rw[ahu q e3] at hq;cases hq
  rw[Hn q e3] at hq;refine .inl ⟨hq,?_⟩;rintro z ⟨r',hz⟩ hzq;rcases We hz with⟨rfl,_⟩|⟨hb,rfl,_⟩
  ·rw[adn] at hzq;exact e2 hzq.symm
  rw[ado] at hzq;apply e3;cases o with
  |none=>simp at hb
  |some Lo=>simp only[L0,Option.getD_some] at hzq;rw[hzq]
 ·rintro q q' ⟨r,hq⟩ ⟨r',oX⟩ he;rcases aK _ _ hq with⟨rfl,_⟩|⟨rfl,_⟩<;>rcases aK _ _ oX with⟨rfl,_⟩|⟨rfl,_⟩
  ·rfl
  ·rw[acJ,ZP] at he;exact absurd he.symm afB
  ·rw[acJ,ZP] at he;exact absurd he afB
  rfl
 ·intro q hq;rw[h2] at hq;simp at hq
 ·intro q r hq cs bV z hz;rcases aK _ _ hq with⟨rfl,rfl⟩|⟨rfl,rfl⟩
  ·simp only[List.mem_singleton] at bV;subst bV;simp only[ah,AV.an,List.append_nil,List.mem_singleton] at hz;subst hz;rw[ZP,hH1];simp
  rw[bU bV] at hz;simp at hz
 ·rintro q ⟨r,hq⟩;rcases aK _ _ hq with⟨rfl,_⟩|⟨rfl,_⟩
  ·left;cases o.isSome<;>exact⟨_,by simp[Xq];rfl⟩
  by_cases e:q= .par 1∧o.isSome=true
  ·left;rw[e.1,e.2];exact⟨_,by simp[Xq,bD];rfl⟩
  right;rw[ZP];simp only[L1,if_neg e];refine⟨hN,fun hf=> .inr ?_⟩;obtain⟨g1,g2⟩:=Jc hf;rintro z ⟨r',hz⟩;rcases We hz with⟨rfl,_⟩|⟨hb,rfl,_⟩
  ·rw[adn];exact g1
  rw[ado];cases o with
  |none=>simp at hb
  |some Lo=>exact g2 Lo rfl
 ·rintro q (hq|⟨l1,r1,cs,g1,g2,g3⟩) _
  ·rw[h2] at hq;simp at hq
  rcases aK _ _ g1 with⟨rfl,rfl⟩|⟨rfl,rfl⟩
  ·simp only[List.mem_singleton] at g2;subst g2;simp only[ah,AV.an,List.append_nil,List.mem_singleton] at g3;subst g3;exact⟨_,ad8⟩
  rw[bU g2] at g3;simp at g3
 rw[j8 _ _ h2];refine hk L1 kK Je ⟨afB,agJ,hH1⟩ ?_ GJ;intro q e1 e2 e3;have:q≠L1:=by
  rintro rfl;rcases Je with e|e
  ·exact e2 e
  exact e3 e
 rw[hHo q this e1,Hn q e3]
end Go.Am

namespace Go.Am
open Go Go.RowKit
def wk (d:Doc):Nat->Int->Int->Int->Option Int
 |0,_,_,_=>none
 |f+1,n,p,nx=>if n=nx then match d[n.toNat]? with
   |some x=>if x.parent=p then x.kids.foldlM (λq k=>wk d f k n q) (nx+1) else none
   |none=>none
  else none
def abI {p:Prop} (h:p:=by simp[wk]):p:=h
def ob {α:Type} {l:List α} {n:Nat} {x:α} {r:List α} (h:l.drop n=x::r):l[n]?=some x/\l.drop (n+1)=r:=by
 have h1:(l.drop n)[0]?=some x:=by rw[h];rfl
 refine⟨by simpa[Ba] using h1,?_⟩;have:(l.drop n).drop 1=r:=by rw[h];rfl
 rwa[W6] at this
def drop_eq {α:Type} {l:List α} {n:Nat} {x:α} (h:l[n]?=some x):l.drop n=x::l.drop (n+1):=by
 obtain⟨hn,rfl⟩:=yY.1 h;exact EK hn
def acK (d:Doc):∀(f:Nat),
  (∀(m:Nat) (n p r:Int),wk d f n p m=some r->n=m/\∃x:Tree,x.dep<=f/\(∃post,d.drop m=x.flat m p++post)/\r=((m+x.jz:Nat):Int)):=by
 intro f;induction f with
 |zero=>intro m n p r h;simp[wk] at h
 |succ f ih=>
 intro m n p r h;unfold wk at h;split at h
 ·rename_i hn;subst hn;simp only[Qj] at h;cases hx:d[m]? with
  |none=>rw[hx] at h;simp at h
  |some nd=>
  rw[hx] at h;simp only at h;split at h
  ·rename_i hp;refine⟨rfl,?_⟩;have kids:∀(ks:List Int) (q:Nat) (r:Int),ks.foldlM (λq k=>wk d f k (m:Int) q) (q:Int)=some r->∃xs:List Tree,ks=mw q xs/\fB xs<=f/\(∃post,d.drop q=akX q m xs++post)/\r=((q+dP xs:Nat):Int):=by
    intro ks;induction ks with
    |nil=>intro q r h;simp at h;subst h;exact⟨[],rfl,by simp[fB],⟨_,by simp[akX];rfl⟩,by simp[dP]⟩
    |cons k ks Li=>
    intro q r h;rw[Xj] at h;obtain⟨q',h1,h2⟩:=yV.1 h;obtain⟨rfl,x,x1,⟨post,x2⟩,rfl⟩:=ih q k m q' h1;obtain⟨xs,e1,e2,⟨ahv,e3⟩,rfl⟩:=Li _ _ h2;refine⟨x::xs,by simp only[mw,e1],by simp only[fB];omega,⟨ahv,?_⟩,by simp only[dP,ze]⟩;have:d.drop (q+x.jz)=post:=by
     rw[<-W6,x2,Gk (by rw[x.j9];exact PW _),W0 (by rw[x.j9];exact PW _)];rfl
    rw[x2,<-this,e3];simp[akX]
   obtain⟨xs,e1,e2,⟨post,e3⟩,rfl⟩:=kids nd.kids (m+1) r (by simpa using h);refine⟨.mk nd.text nd.s nd.attrs xs,by simp only[Tree.dep];omega,⟨post,?_⟩,by simp only[Tree.jz];congr 1;omega⟩;rw[drop_eq hx,e3];simp only[Tree.flat,List.cons_append,Q5,Za];exact Node.ext' rfl rfl rfl hp e1
  simp at h
 simp at h
def Gq (d:Doc):∀(f:Nat) (x:Tree) (m:Nat) (p:Int),x.dep<=f->(∃post,d.drop m=x.flat m p++post)->wk d f m p m=some ((m+x.jz:Nat):Int):=by
 intro f;induction f with
 |zero=>intro x m p h;rw[x.n7] at h;omega
 |succ f ih=>
 intro x m p hd ⟨post,hx⟩;rw[x.qm] at hx;obtain⟨h1,h2⟩:=ob hx;unfold wk;rw[P8 rfl,Qj,h1];simp only[Tree.node,Rc];have kids:∀(xs:List Tree) (q:Nat),fB xs<=f->(∃post,d.drop q=akX q m xs++post)->(mw q xs).foldlM (λq k=>wk d f k (m:Int) q) (q:Int)=some ((q+dP xs:Nat):Int):=by
  intro xs;induction xs with
  |nil=>intro q _ _;simp[mw,dP]
  |cons y ys Li=>
  intro q hq ⟨post,hp⟩;simp only[fB] at hq;simp only[akX,SS] at hp;simp only[mw,Xj];rw[ih y q m sf ⟨_,hp⟩];simp only[Yk,EF];rw[Li (q+y.jz) sf ⟨post,by rw[<-W6,hp,Gk (by rw[y.j9];exact PW _),W0 (by rw[y.j9];exact PW _)];rfl⟩];simp only[dP,ze]
 have Lj:=x.n7;have:=kids x.kids (m+1) sf ⟨post,h2⟩;rw[show((m:Int)+1)=((m+1:Nat):Int) by omega,this,x.n8];congr 2;omega
mutual
theorem Tree.ZQ:∀(x y:Tree) (off:Nat) (p:Int) (r r':List Node),x.flat off p++r=y.flat off p++r'->x=y
 | .mk t s az ks,.mk t' s' U0 Hj,off,p,r,r',h=>by
  simp only[Tree.flat,List.cons_append,Q5,Node.mk.injEq] at h;obtain⟨⟨rfl,rfl,rfl,_,hk⟩,h⟩:=h;have hl:ks.length=Hj.length:=by have:=VZ List.length hk;simpa[VS] using this
  rw[aay ks Hj (off+1) off r r' hl h]
theorem aay:∀(xs ys:List Tree) (off p:Nat) (r r':List Node),xs.length=ys.length->akX off p xs++r=akX off p ys++r'->xs=ys
 |[],[],_,_,_,_,_,_=>rfl
 |[],_::_,_,_,_,_,h,_=>by simp at h
 |_::_,[],_,_,_,_,h,_=>by simp at h
 |x::xs,y::ys,off,p,r,r',hl,h=>by
  simp only[akX,SS] at h;have e:=x.ZQ y off p _ _ h;subst e;have:=List.append_cancel_left h;rw[aay xs ys _ p r r' (by simpa using hl) this]
end
def adp {x y:Tree} (h:lW x=lW y):x=y:=x.ZQ y 0 (-1) [] [] (by simpa[lW] using h)
def pf (x:Tree):(lW x).length=x.jz:=x.j9 0 (-1)
def uF (d:Doc):Prop:=∃x:Tree,x.d_=true/\d=lW x
open Classical in
noncomputable def Vo (d:Doc):Bool:=decide (uF d)
def XW {d:Doc}:Vo d=true↔uF d:=by simp[Vo]
def Yj {x:Tree} (h:x.d_=true):Vo (lW x)=true:=XW.2 ⟨x,h,rfl⟩
def XX {d:Doc} (h:¬uF d):Vo d=false:=by simp[Vo,h]
def ia (x:Tree):x.d_=true↔x.text=false/\x.dep<=8/\x.jz<=80/\x.fu=true:=by
 simp only[Tree.d_,QH,Ve,dj];constructor
 ·rintro⟨h1,h2,h3,h4⟩;exact⟨h1,sf,sf,h4⟩
 rintro⟨h1,h2,h3,h4⟩;exact⟨h1,sf,sf,h4⟩
def agK {d:Doc} (h:wk d 8 0 (-1) 0=some (d.length:Int)):∃x:Tree,x.dep<=8/\d=lW x:=by
 obtain⟨_,x,h1,⟨post,h2⟩,h3⟩:=acK d 8 0 0 (-1) _ h;refine⟨x,h1,?_⟩;simp only[tn,bM] at h2 h3;have hl:post=[]:=by
  have:=VZ List.length h2;rw[ko,x.j9] at this;have:x.jz=d.length:=sf
  exact Rg.1 sf
 rw[h2,hl,SU];rfl
def A3 {x:Tree} (h:x.dep<=8):wk (lW x) 8 0 (-1) 0=some ((lW x).length:Int):=by
 have:=Gq (lW x) 8 x 0 (-1) h ⟨[],aa'⟩;rw[pf];simpa using this
end Go.Am

namespace Go.Am
open Go Go.RowKit
def Tree.Gr (x:Tree) (s:Bs):Tree:= .mk x.text s x.attrs x.kids
def Cd (p:Bool):List Tree->Bool
 |[]=>p
 |x::r=>Cd x.text r
def grow (s:Bs):List Tree->List Tree
 |[]=>[]
 |[x]=>[x.Gr (x.s++s)]
 |x::y::r=>x::grow s (y::r)
def push (out:List Tree) (x:Tree):List Tree:=
 if x.text&&x.s==[] then out else if x.text&&Cd false out then grow x.s out else out++[x]
mutual
def Tree.jn:Tree->Tree
 | .mk t s az ks=> .mk t s az (Xc [] ks)
def Xc (out:List Tree):List Tree->List Tree
 |[]=>out
 |x::r=>Xc (push out x.jn) r
end
def Wf (l:List Tree):List Tree:=Xc [] l
def Tree.acL (x:Tree):x.jn= .mk x.text x.s x.attrs (Wf x.kids):=by cases x;simp[Tree.jn,Wf,Tree.text,Tree.s,Tree.attrs,Tree.kids]
def Tree.Yz (x:Tree):x.jn.text=x.text:=by rw[x.acL];rfl
def Tree.ad9 (x:Tree):x.jn.s=x.s:=by rw[x.acL];rfl
def Tree.ad_ (x:Tree):x.jn.attrs=x.attrs:=by rw[x.acL];rfl
def Tree.afC (x:Tree):x.jn.kids=Wf x.kids:=by rw[x.acL];rfl
theorem aaz:∀(xs ys out:List Tree),Xc out (xs++ys)=Xc (Xc out xs) ys
 |[],ys,out=>by simp[Xc]
 |x::r,ys,out=>by simp[Xc,aaz r ys]
theorem aaA (p:Bool):∀(xs:List Tree),xs≠[]->∃y,xs[xs.length - 1]?=some y/\Cd p xs=y.text
 |[],h=>absurd rfl h
 |[x],_=>⟨x,rfl,rfl⟩
 |x::y::r,_=>by
  obtain⟨z,h1,h2⟩:=aaA x.text (y::r) tM;exact⟨z,by simpa using h1,by simpa[Cd] using h2⟩
theorem abe (s:Bs):∀(xs:List Tree),(grow s xs).length=xs.length
 |[]=>rfl
 |[x]=>rfl
 |x::y::r=>by simp only[grow,gL,abe s (y::r)]
theorem acM (s:Bs):∀(xs:List Tree) (y:Tree),xs[xs.length - 1]?=some y->grow s xs=xs.set (xs.length - 1) (y.Gr (y.s++s))
 |[],y,h=>by simp at h
 |[x],y,h=>by simp at h;subst h;rfl
 |x::z::r,y,h=>by
  have:=acM s (z::r) y (by simpa using h);simp only[grow,this];simp
mutual
def Tree.jd:Tree->Bool
 | .mk _ _ _ ks=>Kf false ks
def Kf (p:Bool):List Tree->Bool
 |[]=>true
 |x::r=> !(x.text&&(p||x.s==[]))&&(x.jd&&Kf x.text r)
end
theorem abf (s:Bs):∀(xs:List Tree),dE (grow s xs)<=dE xs+s.length
 |[]=>by simp[grow,dE]
 |[x]=>by cases x;simp[grow,dE,Tree.Gr,Tree.wt,Tree.text,Tree.s,Tree.attrs,Tree.kids];omega
 |x::y::r=>by have:=abf s (y::r);simp only[grow,dE] at this ⊢;omega
def aea (out:List Tree) (x:Tree):dE (push out x)<=dE out+x.wt:=by
 unfold push;split
 ·omega
 split
 ·have:=abf x.s out;have:=x.gx;omega
 rw[kn];simp[dE]
mutual
theorem Tree.ahw:∀x:Tree,x.jn.wt<=x.wt
 | .mk t s az ks=>by have:=YA [] ks;simp only[Tree.jn,Tree.wt,dE] at this ⊢;omega
theorem YA:∀(out l:List Tree),dE (Xc out l)<=dE out+dE l
 |out,[]=>by simp[Xc,dE]
 |out,x::r=>by
  have:=YA (push out x.jn) r;have:=aea out x.jn;have:=x.ahw;simp only[Xc,dE];omega
end

def Xi (nq:Nat):AC:=
(aM [zi 2] (aM [zi 3] (.gh (.own 3 4) (.seq (aM [MR 7 0,oy 8 7,gH 9 0] (.block 0 (.loop (aM [et 10 .lss 9 8] (.seq (.cond (.t 10) .skip (.exit 0)) (.seq (.block 1 (aM [jL 11 7 9 4,gz 12 4 11,aQ 5 (.new [(.bool false),(.str []),.nil0,.nil0]),gg (.store 4 (.t 5) (.t 12))] (aM [ep 13 5 3,fm 14 13,aQ 15 (.call nq [(.t 14)]),ep 16 5 3,gg (.store 1 (.t 16) (.t 15))] (aM [MR 17 3,oy 18 17,MR 6 18] (.block 2 (aM [ep 24 5 0,fm 25 24,MR 26 25,Wb 27 26 5 1,jm 28 26 27,dW 29 26 (.bin .eql (.t 28) (.c (.str []))),jT 30 26 29,MR 23 30] (.cond (.t 23) .skip (aM [ep 32 5 0,fm 33 32,MR 34 33,cU 35 34 6,dW 36 34 (.bin .gtr (.t 35) (jS 0)),jT 37 34 36,MR 38 37,cU 39 38 3,cU 40 38 6,dW 41 38 (.bin .sub (.t 40) (jS 1)),dW 42 38 (.Vc (.t 39) (.t 41) 4),Wb 43 38 42 0,jm 44 38 43,jT 45 38 44,MR 31 45] (.cond (.t 31) (.VL [MR 46 3,MR 47 6,eY 48 .sub 47 1,jL 49 46 48 4,ep 50 49 1,fm 51 50,ep 52 5 1,fm 53 52,et 54 .add 51 53,jL 55 46 48 4,ep 56 55 1,gg (.store 1 (.t 56) (.t 54))] [[],[],[1],[0,2],[3],[4],[],[6],[5,7],[0,2,0,1,2,3,4,5,6,7,8],[9,0,1,2,3,4,5,6,7,8],[10,8,0,1,2,3,4,5,6,7,8]] [.no,.no,.no,.no,.no,(.rw [.loc 3] []),.no,.rw [.loc 5] [],.no,.no,.no,(.rw [] [.loc 3])]) (.cq [MR 19 3,gz 20 4 5,aQ 21 (.lits 1 4 [(.bool false),(.str []),.nil0,.nil0] [(0,(.t 20))]),aQ 22 (.app (.t 19) (.t 21) 4 72),MR 3 22])))))))))) (.cq [eY 57 .add 9 1,MR 9 57]))))))) (aM [MR 58 3,MR 2 58] (.gh (.zS (.loc 3) 2) .ret))))))
def Tree.ahx (x:Tree):x.cs.map IV.dQ=[.bool x.text,.str x.s,.list (cD x.attrs),.list (dq x.kids)]:=rfl
def afD {P:Program} {G:Nat->Option (List IV)} {nq:Nat} (hF:aw P G nq=some (59,[(none,2)],(Xi nq).bare)) (l:List Tree) (hx:dE l<=B)
  (hJ:∀x∈l,au P G nq [.list (dq x.kids)] (.list (dq (Wf x.kids)))):au P G nq [.list (dq l)] (.list (dq (Wf l))):=by
 refine aR hF tM aae aad ?_;have hl:=eZ l;unfold Xi;simp only[↓aX,mX,seval,bF];refine xL (σ:={i:Nat // i<=l.length}) 3 4 (λq=>[(7,.list (dq l)),(8,.int .i64 l.length),(9,.int .i64 q.1)]) (λq=>dq (Xc [] (l.take q.1))) (λq=>l.length - q.1) ⟨0,tM⟩ (λ_=>rfl) ?_ ?_
 ·simp only[Gi,↓aX,mX,reduceCtorEq,Int.reduceLT,Nat.reduceEqDiff,Int.reduceLE,Nat.reduceLT,Nat.reduceLeDiff,Nat.reduceAdd,Nat.reduceMul,Int.reduceToNat];exact⟨rfl,3,[],rfl,rfl,rfl⟩
 rintro⟨i,hi⟩;have zO:=YA [] (l.take i);have pU:=lV l i;have wB:=eZ (Xc [] (l.take i));simp only[dE] at zO;simp only[↓aX,mX,seval,bF];refine AU (λh=> ?_) (λh=> ?_)
 ·have bI:i<l.length:=by simpa using h
  obtain⟨x,Ja⟩:∃x,l[i]?=some x:=⟨_,rX bI⟩;have hw:IntKind.i64.wrap ((i:Int)+1)=((i+1:Nat):Int):=wrap64 sf (by unfold B at hx;omega);have gr:Xc [] (l.take (i+1))=push (Xc [] (l.take i)) x.jn:=by rw[Ro,Ja,aaz];rfl
  simp only[↓aX,mX,seval,h,hw,iy,Ja,lT,Tree.cJ,Tree.cs];generalize ai0:Xc [] (l.take i)=out at *;refine ay (hJ x (PX Ja)) ?_;have hlen:(dq out).length=out.length:=bF _;have agL:dq (out++[x.jn])=dq out++[.agg [.bool x.text,.str x.s,.list (cD x.attrs),.list (dq (Wf x.kids))]]:=by
   rw[qh];simp[dq,Tree.o_,Tree.cs,x.Yz,x.ad9,x.ad_,x.afC]
  have next:∀(afE:List Tree) (env:Env) (H:Hp) (n:Nat),push out x.jn=afE->NF H->env 7= .list (dq l)->env 8= .int .i64 l.length->env 9= .int .i64 ((i+1:Nat):Int)->env 3= .sl (.loc n) 4 0 afE.length->H (.loc n)= .live ⟨4,aB (dq afE)⟩ ->
    ∃s:{i:Nat // i<=l.length},l.length - s.1<l.length - i/\WR 3 4 (λq:{i:Nat // i<=l.length}=>[(7,.list (dq l)),(8,.int .i64 l.length),(9,.int .i64 q.1)]) (λq=>dq (Xc [] (l.take q.1))) env H s:=by
   intro afE env H n h1 h2 h3 h4 h5 h6 h7;refine⟨⟨i+1,bI⟩,aac,?_⟩;rw[Gi];simp only[xM,AT,Za,gr,h1,bF];exact⟨h2,⟨h3,h4,h5⟩,n,_,h6,h7,rfl⟩
  simp only[↓aX,mX,seval,bF];cases ht:x.text with
  |false=>
   have hp:push out x.jn=out++[x.jn]:=(by unfold push;rw[x.Yz,ht];simp);simp only[↓aX,mX,seval,bF];rw[qg 4 72 22 3 (dq out) (.agg [.bool false,.str x.s,.list (cD x.attrs),.list (dq (Wf x.kids))]) aai hlen rfl aaw (by unfold B at hx;omega) M3 M3 aat];simp only[↓aX,mX,seval,hw];refine next _ _ _ 22 hp (by simp only[↓aX,mX,seval]) rfl rfl rfl (by simp only[↓aX,mX,seval];simp) ?_
   rw[agL,ht];simp only[↓aX,mX,seval]
  |true=>
  simp only[↓aX,mX,seval,bF];cases hs:(x.s==[]) with
  |true=>
   have hp:push out x.jn=out:=(by unfold push;rw[x.Yz,ht,x.ad9,hs];rfl);simp only[↓aX,mX,seval,hw];exact next _ _ _ 3 hp (by simp only[↓aX,mX,seval]) rfl rfl rfl (by simp only[↓aX,mX,seval,bF]) rfl
  |false=>
  simp only[↓aX,mX,seval];by_cases h0:out=[]
  ·have hp:push out x.jn=out++[x.jn]:=(by unfold push;rw[x.Yz,ht,x.ad9,hs,h0];rfl);rw[show decide ((out.length:Int)>0)=false by rw[h0];rfl];simp only[↓aX,mX,seval,bF];rw[qg 4 72 22 3 (dq out) (.agg [.bool true,.str x.s,.list (cD x.attrs),.list (dq (Wf x.kids))]) aai hlen rfl aaw (by unfold B at hx;omega) M3 M3 aat];simp only[↓aX,mX,seval,hw];refine next _ _ _ 22 hp (by simp only[↓aX,mX,seval]) rfl rfl rfl (by simp only[↓aX,mX,seval];simp) ?_
   rw[agL,ht];simp only[↓aX,mX,seval]
  have xg:0<out.length:=V0.2 h0;obtain⟨y,hy,TI⟩:=aaA false out h0;have Es:IntKind.i64.wrap ((out.length:Int) - 1)=((out.length - 1:Nat):Int):=by rw[wrap64 sf (by unfold B at hx;omega)];omega
  have jY:(aB (dq out))[out.length - 1]?=some [.bool y.text,.str y.s,.list (cD y.attrs),.list (dq y.kids)]:=by rw[xT,iy,hy];simp[Tree.cJ,Tree.cs,IV.dQ]
  have iG:out.length - 1<out.length:=sf
  rw[show decide ((out.length:Int)>0)=true by simp;exact xg];simp only[↓aX,mX,seval,Es,iG,jY,bF];cases hyt:y.text with
  |false=>
   have hp:push out x.jn=out++[x.jn]:=(by unfold push;rw[x.Yz,ht,x.ad9,hs,TI,hyt];rfl);simp only[↓aX,mX,seval,bF];rw[qg 4 72 22 3 (dq out) (.agg [.bool true,.str x.s,.list (cD x.attrs),.list (dq (Wf x.kids))]) aai hlen rfl aaw (by unfold B at hx;omega) M3 M3 aat];simp only[↓aX,mX,seval,hw];refine next _ _ _ 22 hp (by simp only[↓aX,mX,seval]) rfl rfl rfl (by simp only[↓aX,mX,seval];simp) ?_
   rw[agL,ht];simp only[↓aX,mX,seval]
  |true=>
  have hp:push out x.jn=grow x.s out:=by unfold push;rw[x.Yz,ht,x.ad9,hs,TI,hyt];rfl
  have hg:=acM x.s out y hy;simp only[↓aX,mX,seval,Es,iG,jY,bF,hyt];refine⟨rfl,?_⟩;have Tm:y.s.length+x.s.length<=9223372036854775807:=by
   have h1:=jx _ _ _ hy;have h2:=y.gx;have h3:=jx _ _ _ Ja;have h4:=x.gx;unfold B at hx;omega
  simp only[↓aX,mX,seval,Tm,Es,iG,jY,bF,hyt,lQ,hw];refine next (grow x.s out) _ _ 3 hp (by simp only[↓aX,mX,seval]) rfl rfl rfl (by simp only[↓aX,mX,seval,bF,abe]) ?_
  have hiv:(y.Gr (y.s++x.s)).iv.cells.map IV.dQ=[.bool true,.str (y.s++x.s),.list (cD y.attrs),.list (dq y.kids)]:=by
   rw[Tree.cJ,Tree.ahx];simp[Tree.Gr,Tree.text,Tree.s,Tree.attrs,Tree.kids];rw[<-hyt];rfl
  simp only[↓aX,mX,seval];have vf:dq (out.set (out.length - 1) (y.Gr (y.s++x.s)))=(dq out).set (out.length - 1) (y.Gr (y.s++x.s)).iv:=by rw[ix,ix,Zb]
  rw[hg,vf,<-xU,hiv]
 simp only[↓aX,mX,seval,h];refine⟨4,dq (Xc [] (l.take i)),0,_,rfl,rfl,by rw[bF];omega,pa _,?_⟩;have XV:i=l.length:=by simp at h;omega
 subst XV;simp only[Wf,Rk,tn,bF];congr 1;exact P5 (by rw[bF];exact PW _)

def Vl {α:Type} {l:List α} {i:Nat} {x:α} (h:l[i]?=some x):l.take (i+1)=l.take i++[x]:=by rw[Ro,h];rfl

def A4 {M:List Tree->Prop} (step:∀l,(∀x∈l,M x.kids)->M l):∀l,M l:=by
 have key:∀(n:Nat) (l:List Tree),dE l<=n->M l:=by
  intro n;induction n with
  |zero=>
   intro l hn;refine step l λx hx=> ?_;obtain⟨i,hi⟩:=Sw hx;have:=jx l i x hi;have:=x.gx;omega
  |succ n ih=>
  intro l hn;refine step l λx hx=>ih _ ?_;obtain⟨i,hi⟩:=Sw hx;have:=jx l i x hi;have:=x.gx;omega
 exactλl=>key _ l (PW _)
def j_ {l:List Tree} {x:Tree} (h:x∈l):x.wt<=dE l:=by
 obtain⟨i,hi⟩:=Sw h;exact jx l i x hi
def jA (x:Tree):dE x.kids<=x.wt:=by have:=x.gx;omega
def Gs (x:Tree):x.s.length<=x.wt:=by have:=x.gx;omega
def lY (x:Tree):dX x.attrs<=x.wt:=by have:=x.gx;omega
theorem lZ:∀{l:List Attr} {a:Attr},a∈l->a.wt<=dX l
 |[],a,h=>by simp at h
 |b::r,a,h=>by
  simp only[PY] at h;rcases h with rfl|h
  ·simp[dX]
  have:=lZ h;simp only[dX];omega
section
variable {P:Program} {G:Nat->Option (List IV)}
def afF {nq:Nat} (hF:aw P G nq=some (59,[(none,2)],(Xi nq).bare)) (l:List Tree):dE l<=B->au P G nq [.list (dq l)] (.list (dq (Wf l))):=
 A4 (M:=λl=>dE l<=B->au P G nq [.list (dq l)] (.list (dq (Wf l)))) (λl h hB=>afD hF l hB λx hx=>h x hx (by have:=j_ hx;have:=jA x;omega)) l
def Gt {g:Nat} (hF:aw P G g=some (32,[(none,2),(none,3)],(uz g).bare)):∀x:Tree,x.wt<=B->au P G g [x.av] (.gf [.int .i64 x.dep,.int .i64 x.jz]):=by
 have key:=A4 (M:=λl=>∀x∈l,x.wt<=B->au P G g [x.av] (.gf [.int .i64 x.dep,.int .i64 x.jz])) (λl h x hx hB=>Gm hF x hB λk hk=>h x hx k hk (by have:=j_ hk;have:=jA x;omega));exactλx=>key [x] x tM
def xY {fP fN zm fF wA:Nat} (hP:aw P G fP=some (29,[(none,2)],nZ.bare)) (hN:aw P G fN=some (28,[(none,2)],atk.bare)) (hA:aw P G zm=some (41,[(none,2)],(hZ fN fP).bare))
  (hF:aw P G fF=some (38,[(none,2)],(rr fP fN zm wA).bare)) (Gn:aw P G wA=some (32,[(none,2)],(n_ fF).bare)) (l:List Tree):dE l<=B->au P G wA [.list (dq l)] (.bool (bQ none l)):=by
 refine A4 (M:=λl=>dE l<=B->au P G wA [.list (dq l)] (.bool (bQ none l))) (λl h hB=>D2 Gn l (by have:=eZ l;omega) λx hx=> ?_) l;have h1:=j_ hx;have h2:=jA x;have h3:=Gs x;have h4:=lY x;have h5:=iz x.attrs;refine Cc hF x (qj hP _ sf) (qk hN _ sf) (n6 hA _ sf (λa ha=>qk hN _ ?_) (λa ha=>qj hP _ ?_)) (h x hx sf)
 ·have:=lZ ha;unfold Attr.wt at this;omega
 have:=lZ ha;unfold Attr.wt at this;omega
def Gu {fP fN zm fF wA:Nat} (hP:aw P G fP=some (29,[(none,2)],nZ.bare)) (hN:aw P G fN=some (28,[(none,2)],atk.bare)) (hA:aw P G zm=some (41,[(none,2)],(hZ fN fP).bare))
  (hF:aw P G fF=some (38,[(none,2)],(rr fP fN zm wA).bare)) (Gn:aw P G wA=some (32,[(none,2)],(n_ fF).bare)) (x:Tree) (hB:x.wt<=B):au P G fF [x.av] (.bool x.fu):=by
 have h2:=jA x;have h3:=Gs x;have h4:=lY x;have h5:=iz x.attrs;refine Cc hF x (qj hP _ sf) (qk hN _ sf) (n6 hA _ sf (λa ha=>qk hN _ ?_) (λa ha=>qj hP _ ?_)) (xY hP hN hA hF Gn _ sf)
 ·have:=lZ ha;unfold Attr.wt at this;omega
 have:=lZ ha;unfold Attr.wt at this;omega
end

def YB (iJ Vt:Nat):AC:=
(aM [zzX 4 1,gH 6 0] (aM [MR 11 0,aQ 12 (.dp (.t 11)),ep 13 12 0,fm 14 13,oy 15 14,MR 7 15] (.seq (.VL [MR 16 0,MR 17 0,aQ 18 (.dp (.t 17)),ep 19 18 0,fm 20 19,ep 21 4 0,fm 22 21,ep 23 4 1,fm 24 23,ep 25 4 2,fm 26 25,aQ 27 (.call iJ [(.t 26)]),MR 28 2,aQ 29 (.sg [(.bool false),(.str []),.nil0,(.int .i64 0),.nil0] [(0,(1,(.t 22))),(1,(1,(.t 24))),(2,(1,(.t 27))),(3,(1,(.t 28)))]),aQ 30 (.lits 1 5 [(.bool false),(.str []),.nil0,(.int .i64 0),.nil0] [(0,(.t 29))]),aQ 31 (.app (.t 20) (.t 30) 5 80),aQ 32 (.dp (.t 16)),ep 33 32 0,gg (.store 1 (.t 33) (.t 31))] [[],[],[1],[2],[3],[],[5],[],[7],[],[9],[10],[],[6,8,11,12],[13],[4,14,11],[0,0,1,2,3,4,5,6,7,8,9,10,11,12,13,14,15],[16,0,1,2,3,4,5,6,7,8,9,10,11,12,13,14,15],[17,15,15,0,1,2,3,4,5,6,7,8,9,10,11,12,13,14,15]] [.no,.no,.no,.no,(.rw [.par 0] []),.no,.rw [.loc 4] [],.no,.rw [.loc 4] [],.no,.rw [.loc 4] [],.no,.no,.no,.no,(.rw [] [.par 1,.gen 31,.loc 31]),.no,.no,(.rw [] [.par 0])]) (aM [zi 8] (.gh (.own 8 1) (.seq (aM [ep 34 4 3,fm 35 34,oy 36 35,gH 37 0] (.block 0 (.loop (aM [et 38 .lss 37 36] (.seq (.cond (.t 38) .skip (.exit 0)) (.seq (.block 1 (aM [jL 39 35 37 4,gz 40 4 39,aQ 10 (.new [(.bool false),(.str []),.nil0,.nil0]),gg (.store 4 (.t 10) (.t 40))] (.cq [MR 41 8,MR 42 0,gz 43 4 10,MR 44 7,aQ 45 (.call Vt [(.t 42),(.t 43),(.t 44)]),aQ 46 (.lits 1 1 [(.int .i64 0)] [(0,(.t 45))]),aQ 47 (.app (.t 41) (.t 46) 1 8),MR 8 47]))) (.cq [eY 48 .add 37 1,MR 37 48]))))))) (.gh (.zS (.loc 8) 8) (aM [MR 49 0,aQ 50 (.dp (.t 49)),ep 51 50 0,fm 52 51,MR 53 7,MR 54 8,jL 55 52 53 5,ep 56 55 4,gg (.store 1 (.t 56) (.t 54))] (aM [MR 57 7,MR 6 57] .ret)))))))))
def Tree.acN (x:Tree) (p:Int):Node:=⟨x.text,x.s,x.attrs,p,[]⟩
def Wq (d:Doc) (x:Tree) (p:Int) (i:Nat):Doc:=d++[x.acN p]++akX (d.length+1) d.length (x.kids.take i)
def XE (d:Doc) (x:Tree) (p:Int) (i:Nat):(Wq d x p i).length=d.length+1+dP (x.kids.take i):=by simp[Wq,my];omega
def aaB {d:Doc} {x:Tree} {p:Int} {i:Nat} {k:Tree} (h:x.kids[i]?=some k):Wq d x p (i+1)=Wq d x p i++k.flat (Wq d x p i).length d.length:=by
 rw[XE];unfold Wq;rw[Ro,h,pd];simp[akX]
structure Lk (x:Tree) where
 i:Nat
 L:Lb
 u:Lb->Bool
 hi:i<=x.kids.length
 l0:L≠ .par 0
 l8:L≠ .loc 8
 l10:L≠ .loc 10
 Mo:L≠ .loc 47
 lg:∀j,i<=j->L≠ .gen (1000+j)
 Mp:u (.loc 10)=false
 Mq:u (.loc 47)=false
 ug:∀j,i<=j->u (.gen (1000+j))=false
def Xr {x:Tree} (q:Lk x):List Lb:=[.par 0,q.L,.loc 8]
def XQ (d:Doc) {x:Tree} (q:Lk x):List (Nat×AV):=
 [(0,.ptr (.par 0) 1 0 0),(7,.int .i64 d.length),(8,.sl (.loc 8) 1 0 (mw (d.length+1) (x.kids.take q.i)).length),(35,.list (dq x.kids)),(36,.int .i64 x.kids.length),(37,.int .i64 q.i)]
def VE (d:Doc) (p:Int) {x:Tree} (q:Lk x):List (Lb×Row):=
 [(.par 0,⟨1,[[.sl q.L 5 0 (Wq d x p q.i).length]]⟩),(q.L,⟨5,aB ((Wq d x p q.i).map Node.iv)⟩),(.loc 8,⟨1,aB ((mw (d.length+1) (x.kids.take q.i)).map xX)⟩)]
def aaC {x:Tree} (d:Doc) (p:Int) (q:Lk x):∀r∈VE d p q,∀cs∈r.2.els,∀l∈ah cs,l∈Xr q:=by
 intro r hr cs bV l hl;simp only[VE,PY,QN,QV] at hr;rcases hr with rfl|rfl|rfl
 ·simp only[bY] at bV;subst bV;simp only[ah,AV.an,SU,bY] at hl;subst hl;simp[Xr]
 ·rw[bU bV] at hl;simp at hl
 rw[bU bV] at hl;simp at hl
def aip {P:Program} {G:Nat->Option (List IV)} {Vt iJ:Nat} (hF:aw P G Vt=some (58,[(none,6)],(YB iJ Vt).bare)) (x:Tree) (d:Doc) (p:Int) (hx:d.length+x.wt<=B)
  (hC:au P G iJ [.list (cD x.attrs)] (.list (cD x.attrs)))
  (hK:∀k∈x.kids,∀(d':Doc),d'.length+k.wt<=d.length+x.wt->adm P G 5 Vt [.ptr (.par 0) 1 0 0,k.av,.int .i64 d.length] (d'.map Node.iv) (.int .i64 d'.length) ((d'++k.flat d'.length d.length).map Node.iv)) :
  adm P G 5 Vt [.ptr (.par 0) 1 0 0,x.av,.int .i64 p] (d.map Node.iv) (.int .i64 d.length) ((d++x.flat d.length p).map Node.iv):=by
 refine⟨aaJ,rfl,λb hb=> ?_⟩;refine WY hF tM ?_ ?_ ?_
 ·rintro l ⟨r,h⟩;rcases We h with⟨rfl,_⟩|⟨_,rfl,_⟩<;>rfl
 ·intro l hl;simp[ah,AV.an,Tree.av] at hl;subst hl;cases b<;>simp[Xq]
 have hlB:d.length<=B:=sf
 have hwx:=x.gx;have Hm:=eZ x.kids;unfold YB;have Zs:(x.acN p).iv= .agg [.bool x.text,.str x.s,.list (cD x.attrs),.int .i64 p,.list []]:=rfl;cases b with
 |true=>
  simp only[↓aX,mX,seval,Xq,Tree.av,G_];refine⟨rfl,jw hC ?_⟩;simp only[↓aX,mX,seval];rw[afA 5 80 31 (.par 1) (d.map Node.iv) (.agg [.bool x.text,.str x.s,.list (cD x.attrs),.int .i64 p,.list []]) rfl aai tM rfl aaw (by unfold B at hlB;omega) M3 tM aat];simp only[↓aX,mX,seval,bF];refine⟨by rintro l (rfl|rfl)<;>simp[Lb.iQ],?_⟩;refine pe (σ:=Lk x) Xr (λq=>q.u) (XQ d) (VE d p) (λq=>x.kids.length - q.i)
   {i:=0,L:= .gen 31,u:=λq=>decide (q= .par 1),hi:=zd _,l0:=by simp,l8:=by simp,l10:=by simp,Mo:=by simp,lg:=λj _=>by simp;omega,Mp:=by simp,Mq:=by simp,ug:=λj _=>by simp}
   (λ_=>rfl) (λq=>by simp[ah,AV.an,XQ,Xr]) (aaC d p) ⟨[],?_⟩ ?_
  ·refine⟨?_,?_,?_,by simp[Xr,dn],λl _=>⟨id,λ_=>rfl⟩⟩
   ·intro l hf hu;by_cases e0:l= .par 0
    ·subst e0;simp[Xr]
    by_cases e1:l= .gen 31
    ·subst e1;simp[Xr]
    by_cases e2:l= .par 1
    ·subst e2;simp
    exfalso;apply hu;cases l<;>simp_all[Lb.fresh,ae,Hp.none]
   ·simp[XQ,k_,dn,bJ,mw,put,jP]
   simp[VE,tc,dn,ae,dO,bu,bJ,Wq,akX,mw,aB,Node.iv,Node.cs,Tree.acN,IV.cells,IV.dQ,nT]
  intro q;have a0:ie q.u (VE d p q) (.par 0)= .live ⟨1,[[.sl q.L 5 0 (Wq d x p q.i).length]]⟩:=by simp[ie,VE,kl,bD]
  have aL:ie q.u (VE d p q) q.L= .live ⟨5,aB ((Wq d x p q.i).map Node.iv)⟩:=by simp[ie,VE,kl,bD,q.l0]
  have a8:ie q.u (VE d p q) (.loc 8)= .live ⟨1,aB ((mw (d.length+1) (x.kids.take q.i)).map xX)⟩:=by simp[ie,VE,kl,bD,Ss q.l8]
  have a10:ie q.u (VE d p q) (.loc 10)= .unused:=by simp[ie,VE,kl,bD,Ss q.l10,q.Mp,Hp.none]
  have a47:ie q.u (VE d p q) (.loc 47)= .unused:=by simp[ie,VE,kl,bD,Ss q.Mo,q.Mq,Hp.none]
  have ag:ie q.u (VE d p q) (.gen (1000+q.i))= .unused:=by simp[ie,VE,kl,bD,Ss (q.lg q.i (PW _)),q.ug q.i (PW _),Hp.none]
  have anf:∀l:Lb,l.fresh=false->ie q.u (VE d p q) l≠ .unused->l= .par 0\/l=q.L\/q.u l=true:=by
   intro l hf hu;by_cases e0:l= .par 0
   ·exact .inl e0
   by_cases e1:l=q.L
   ·exact .inr (.inl e1)
   by_cases e2:q.u l=true
   ·exact .inr (.inr e2)
   exfalso;apply hu;have e3:l≠ .loc 8:=(by rintro rfl;simp[Lb.fresh] at hf);simp[ie,VE,kl,bD,e0,e1,e2,e3,Hp.none]
  have lr:ah ((XQ d q).map Prod.snd)=[.par 0,.loc 8]:=by simp[ah,AV.an,XQ]
  generalize ie q.u (VE d p q)=H0 at *;have ab_:=q.l10;have MN:=q.l8;have aca:=q.Mo;have hi:=q.hi;have JV:(mw (d.length+1) (x.kids.take q.i)).length=q.i:=by rw[VS,tp];omega
  have Lp:=ql (x.kids.take q.i);have MA:=lV x.kids q.i;simp only[↓aX,mX,seval,XQ];refine AU (λh=> ?_) (λh=> ?_)
  ·have bI:q.i<x.kids.length:=(by simpa using h);obtain⟨k,HA⟩:∃k,x.kids[q.i]?=some k:=⟨_,rX bI⟩;have hw:IntKind.i64.wrap ((q.i:Int)+1)=((q.i+1:Nat):Int):=wrap64 sf (by unfold B at hx;omega);have E0:x.kids.take (q.i+1)=x.kids.take q.i++[k]:=Vl HA;have ME:dE (x.kids.take q.i)+k.wt<=dE x.kids:=by
    have:=lV x.kids (q.i+1);rw[E0,kn] at this;simp only[dE] at this;omega
   simp only[↓aX,mX,seval,iy,HA,lT,Tree.cJ,Tree.cs,a10];refine Zf (l:= .par 0) (N:= .gen (1000+q.i)) (o:=some q.L) (hK k (PX HA) (Wq d x p q.i) (by rw[XE];omega)) rfl ⟨q.l0,by simp only[↓aX,mX,seval,a0,G_],by simp only[↓aX,mX,seval,aL,Ev ab_]⟩ (by simp only[↓aX,mX,seval,ag]) (by intro h;simp[Lb.fresh] at h) ?_;rintro L' kK hL' ⟨b1,b2,b3⟩ j0 GJ;have c8:kK (.loc 8)= .live ⟨1,aB ((mw (d.length+1) (x.kids.take q.i)).map xX)⟩:=by
    rw[j0 _ tM tM (by simpa using MN)];simp only[↓aX,mX,seval,a8]
   have LK:kK (.loc 47)= .unused:=by
    rw[j0 _ tM tM (by simpa using aca)];simp only[↓aX,mX,seval,a47]
   simp only[↓aX,mX,seval];rw[qg 1 8 47 8 ((mw (d.length+1) (x.kids.take q.i)).map xX) (.int .i64 (Wq d x p q.i).length) c8 (by rw[G_]) rfl aaw (by rw[JV];unfold B at hx;omega) M3 M3 LK];simp only[↓aX,mX,seval,hw];have hL8:L'≠ .loc 8:=by rcases hL' with rfl|e;simp;simp only[di] at e;rw[<-e];exact MN
   have agM:L'≠ .loc 10:=by rcases hL' with rfl|e;simp;simp only[di] at e;rw[<-e];exact ab_
   have acb:L'≠ .loc 47:=by rcases hL' with rfl|e;simp;simp only[di] at e;rw[<-e];exact aca
   refine⟨{i:=q.i+1,L:=L',u:=λl=>q.u l||(decide (l=q.L)||decide (l= .gen (1000+q.i))),hi:=bI,l0:=b1,l8:=hL8,l10:=agM,Mo:=acb,lg:= ?_,Mp:= ?_,Mq:= ?_,ug:= ?_},aac,[(.loc 8,.loc 47)],?_⟩
   ·intro j hj;rcases hL' with rfl|e
    ·simp;omega
    simp only[di] at e;rw[<-e];exact q.lg j sf
   ·simp[q.Mp,Ss ab_]
   ·simp[q.Mq,Ss aca]
   ·intro j hj;have:=Ss (q.lg j sf);simp[q.ug j sf,this];omega
   have hP:=aaB (d:=d) (p:=p) HA;have acd:mw (d.length+1) (x.kids.take (q.i+1))=mw (d.length+1) (x.kids.take q.i)++[((Wq d x p q.i).length:Int)]:=by
    rw[E0,WZ,XE];simp[mw]
   refine⟨?_,?_,?_,?_,?_⟩
   ·intro l hf hu;by_cases e0:l= .par 0
    ·subst e0;simp[Xr]
    by_cases e1:l=q.L
    ·right;simp[e1]
    by_cases e2:l= .gen (1000+q.i)
    ·right;simp[e2]
    have e3:l≠ .loc 47:=(by rintro rfl;simp[Lb.fresh] at hf);have e4:l≠ .loc 8:=(by rintro rfl;simp[Lb.fresh] at hf);have e5:l≠ .loc 10:=(by rintro rfl;simp[Lb.fresh] at hf);rw[aq _ _ e3,aq _ _ e4,j0 l e0 e2 (by simpa using Ss e1),aq _ _ e5,aq _ _ e5] at hu;rcases anf l hf hu with h|h|h
    ·exact absurd h e0
    ·exact absurd h e1
    right;simp[h]
   ·simp[XQ,k_,dn,bJ,put,JV,E0,WZ,mw]
   ·have r0:dn [(.loc 8,.loc 47)] (.par 0)= .par 0:=rfl;have rL:dn [(.loc 8,.loc 47)] L'=L':=(by simp[dn,hL8]);have r8:dn [(.loc 8,.loc 47)] (.loc 8)= .loc 47:=rfl;refine⟨?_,?_,?_,trivial⟩
    ·show bD (bD kK (.loc 8) .dead) (.loc 47) _ (.par 0)= .live (dO (dn [(.loc 8,.loc 47)]) ⟨1,[[.sl L' 5 0 (Wq d x p (q.i+1)).length]]⟩);rw[aq _ _ tM,aq _ _ tM,b2,hP];simp[dO,bu,bJ,rL]
    ·show bD (bD kK (.loc 8) .dead) (.loc 47) _ (dn [(.loc 8,.loc 47)] L')= .live (dO (dn [(.loc 8,.loc 47)]) ⟨5,aB ((Wq d x p (q.i+1)).map Node.iv)⟩);rw[rL,aq _ _ acb,aq _ _ hL8,b3,dy,hP]
    show bD (bD kK (.loc 8) .dead) (.loc 47) _ (.loc 47)= .live (dO (dn [(.loc 8,.loc 47)]) ⟨1,aB ((mw (d.length+1) (x.kids.take (q.i+1))).map xX)⟩);rw[dy,acd,BG];simp only[↓aX,mX,seval];rfl
   ·simp[Xr,dn,hL8,Ss b1,acb]
   intro l hl;simp only[Xr,PY,QN,QV] at hl;rcases hl with rfl|rfl|rfl
   ·exact⟨id,λ_=>rfl⟩
   ·have rL:dn [(.loc 8,.loc 47)] l=l:=(by simp[dn,hL8]);rw[rL];exact⟨id,λ_=>rfl⟩
   exact⟨λ_=>rfl,λh=>by simp[Lb.fresh] at h⟩
  have XV:q.i=x.kids.length:=by simp at h;omega
  have CM:x.kids.take q.i=x.kids:=by rw[XV,Rk]
  rw[CM] at a8;have ve:=XE d x p q.i;have bI:d.length<(Wq d x p q.i).length:=sf
  have jY:(aB ((Wq d x p q.i).map Node.iv))[d.length]?=some [.bool x.text,.str x.s,.list (cD x.attrs),.int .i64 p,.list []]:=by
   rw[xT,cn,Wq,SS,b_ (PW _),Gl];rfl
  simp only[↓aX,mX,seval,h,CM];refine⟨1,(mw (d.length+1) x.kids).map xX,0,_,rfl,a8,tM,XD _,?_⟩;simp only[↓aX,mX,seval,a0,aL,bI,MN,jY,lQ,G_];have GN:(aB ((Wq d x p q.i).map Node.iv)).set d.length ((x.node d.length p).iv.cells.map IV.dQ)=aB ((d++x.flat d.length p).map Node.iv):=by
   rw[x.qm,xU,Wq,CM];congr 1;simp[List.set_append]
  have Yd:(d++x.flat d.length p).length=(Wq d x p q.i).length:=by
   rw[ko,x.j9,ve,CM,x.n8];omega
  refine⟨q.L,q.l0,?_,?_⟩
  ·rw[aq _ _ (Ss q.l0),aq _ _ tM,a0,G_,Yd]
  rw[<-GN];have:(List.take (mw (d.length+1) x.kids).length ((mw (d.length+1) x.kids).map xX))=(mw (d.length+1) x.kids).map xX:=P5 tM;rw[this];simp only[↓aX,mX,seval];rfl
 |false=>
 have hd:d=[]:=by simpa using hb rfl
 have Lq:d.length=0:=by rw[hd];rfl
 simp only[↓aX,mX,seval,Xq,Tree.av];refine⟨rfl,jw hC ?_⟩;simp only[↓aX,mX,seval];rw[Xp 5 80 31 [.agg [.bool x.text,.str x.s,.list (cD x.attrs),.int .i64 p,.list []]] (by simp[jV,IV.cells]) (by simp[Flat,IV.cells]) tM M3 aat];simp only[↓aX,mX,seval,bF];refine⟨tM,?_⟩;refine pe (σ:=Lk x) Xr (λq=>q.u) (XQ d) (VE d p) (λq=>x.kids.length - q.i)
  {i:=0,L:= .loc 31,u:=λq=>false,hi:=zd _,l0:=by simp,l8:=by simp,l10:=by simp,Mo:=by simp,lg:=λj _=>by simp,Mp:=rfl,Mq:=rfl,ug:=λj _=>rfl}
  (λ_=>rfl) (λq=>by simp[ah,AV.an,XQ,Xr]) (aaC d p) ⟨[],?_⟩ ?_
 ·refine⟨?_,?_,?_,by simp[Xr,dn],λl _=>⟨id,λ_=>rfl⟩⟩
  ·intro l hf hu;by_cases e0:l= .par 0
   ·subst e0;simp[Xr]
   exfalso;apply hu;cases l<;>simp_all[Lb.fresh,ae,Hp.none]
  ·simp[XQ,k_,dn,bJ,mw,put,jP,hd]
  simp[VE,tc,dn,ae,dO,bu,bJ,Wq,akX,mw,aB,Node.iv,Node.cs,Tree.acN,IV.cells,IV.dQ,nT,hd]
 intro q;have a0:ie q.u (VE d p q) (.par 0)= .live ⟨1,[[.sl q.L 5 0 (Wq d x p q.i).length]]⟩:=by simp[ie,VE,kl,bD]
 have aL:ie q.u (VE d p q) q.L= .live ⟨5,aB ((Wq d x p q.i).map Node.iv)⟩:=by simp[ie,VE,kl,bD,q.l0]
 have a8:ie q.u (VE d p q) (.loc 8)= .live ⟨1,aB ((mw (d.length+1) (x.kids.take q.i)).map xX)⟩:=by simp[ie,VE,kl,bD,Ss q.l8]
 have a10:ie q.u (VE d p q) (.loc 10)= .unused:=by simp[ie,VE,kl,bD,Ss q.l10,q.Mp,Hp.none]
 have a47:ie q.u (VE d p q) (.loc 47)= .unused:=by simp[ie,VE,kl,bD,Ss q.Mo,q.Mq,Hp.none]
 have ag:ie q.u (VE d p q) (.gen (1000+q.i))= .unused:=by simp[ie,VE,kl,bD,Ss (q.lg q.i (PW _)),q.ug q.i (PW _),Hp.none]
 have anf:∀l:Lb,l.fresh=false->ie q.u (VE d p q) l≠ .unused->l= .par 0\/l=q.L\/q.u l=true:=by
  intro l hf hu;by_cases e0:l= .par 0
  ·exact .inl e0
  by_cases e1:l=q.L
  ·exact .inr (.inl e1)
  by_cases e2:q.u l=true
  ·exact .inr (.inr e2)
  exfalso;apply hu;have e3:l≠ .loc 8:=by rintro rfl;simp[Lb.fresh] at hf
  simp[ie,VE,kl,bD,e0,e1,e2,e3,Hp.none]
 have lr:ah ((XQ d q).map Prod.snd)=[.par 0,.loc 8]:=by simp[ah,AV.an,XQ]
 generalize ie q.u (VE d p q)=H0 at *;have ab_:=q.l10;have MN:=q.l8;have aca:=q.Mo;have hi:=q.hi;have JV:(mw (d.length+1) (x.kids.take q.i)).length=q.i:=by rw[VS,tp];omega
 have Lp:=ql (x.kids.take q.i);have MA:=lV x.kids q.i;simp only[↓aX,mX,seval,XQ];refine AU (λh=> ?_) (λh=> ?_)
 ·have bI:q.i<x.kids.length:=by simpa using h
  obtain⟨k,HA⟩:∃k,x.kids[q.i]?=some k:=⟨_,rX bI⟩;have hw:IntKind.i64.wrap ((q.i:Int)+1)=((q.i+1:Nat):Int):=wrap64 sf (by unfold B at hx;omega);have E0:x.kids.take (q.i+1)=x.kids.take q.i++[k]:=Vl HA;have ME:dE (x.kids.take q.i)+k.wt<=dE x.kids:=by
   have:=lV x.kids (q.i+1);rw[E0,kn] at this;simp only[dE] at this;omega
  simp only[↓aX,mX,seval,iy,HA,lT,Tree.cJ,Tree.cs,a10];refine Zf (l:= .par 0) (N:= .gen (1000+q.i)) (o:=some q.L) (hK k (PX HA) (Wq d x p q.i) (by rw[XE];omega)) rfl ⟨q.l0,by simp only[↓aX,mX,seval,a0,G_],by simp only[↓aX,mX,seval,aL,Ev ab_]⟩ (by simp only[↓aX,mX,seval,ag]) (by intro h;simp[Lb.fresh] at h) ?_;rintro L' kK hL' ⟨b1,b2,b3⟩ j0 GJ;have c8:kK (.loc 8)= .live ⟨1,aB ((mw (d.length+1) (x.kids.take q.i)).map xX)⟩:=by
   rw[j0 _ tM tM (by simpa using MN)];simp only[↓aX,mX,seval,a8]
  have LK:kK (.loc 47)= .unused:=by
   rw[j0 _ tM tM (by simpa using aca)];simp only[↓aX,mX,seval,a47]
  simp only[↓aX,mX,seval];rw[qg 1 8 47 8 ((mw (d.length+1) (x.kids.take q.i)).map xX) (.int .i64 (Wq d x p q.i).length) c8 (by rw[G_]) rfl aaw (by rw[JV];unfold B at hx;omega) M3 M3 LK];simp only[↓aX,mX,seval,hw];have hL8:L'≠ .loc 8:=by rcases hL' with rfl|e;simp;simp only[di] at e;rw[<-e];exact MN
  have agM:L'≠ .loc 10:=by rcases hL' with rfl|e;simp;simp only[di] at e;rw[<-e];exact ab_
  have acb:L'≠ .loc 47:=by rcases hL' with rfl|e;simp;simp only[di] at e;rw[<-e];exact aca
  refine⟨{i:=q.i+1,L:=L',u:=λl=>q.u l||(decide (l=q.L)||decide (l= .gen (1000+q.i))),hi:=bI,l0:=b1,l8:=hL8,l10:=agM,Mo:=acb,lg:= ?_,Mp:= ?_,Mq:= ?_,ug:= ?_},aac,[(.loc 8,.loc 47)],?_⟩
  ·intro j hj;rcases hL' with rfl|e
   ·simp;omega
   simp only[di] at e;rw[<-e];exact q.lg j sf
  ·simp[q.Mp,Ss ab_]
  ·simp[q.Mq,Ss aca]
  ·intro j hj;have:=Ss (q.lg j sf);simp[q.ug j sf,this];omega
  have hP:=aaB (d:=d) (p:=p) HA;have acd:mw (d.length+1) (x.kids.take (q.i+1))=mw (d.length+1) (x.kids.take q.i)++[((Wq d x p q.i).length:Int)]:=by
   rw[E0,WZ,XE];simp[mw]
  refine⟨?_,?_,?_,?_,?_⟩
  ·intro l hf hu;by_cases e0:l= .par 0
   ·subst e0;simp[Xr]
   by_cases e1:l=q.L
   ·right;simp[e1]
   by_cases e2:l= .gen (1000+q.i)
   ·right;simp[e2]
   have e3:l≠ .loc 47:=(by rintro rfl;simp[Lb.fresh] at hf);have e4:l≠ .loc 8:=(by rintro rfl;simp[Lb.fresh] at hf);have e5:l≠ .loc 10:=(by rintro rfl;simp[Lb.fresh] at hf);rw[aq _ _ e3,aq _ _ e4,j0 l e0 e2 (by simpa using Ss e1),aq _ _ e5,aq _ _ e5] at hu;rcases anf l hf hu with h|h|h
   ·exact absurd h e0
   ·exact absurd h e1
   right;simp[h]
  ·simp[XQ,k_,dn,bJ,put,JV,E0,WZ,mw]
  ·have r0:dn [(.loc 8,.loc 47)] (.par 0)= .par 0:=rfl;have rL:dn [(.loc 8,.loc 47)] L'=L':=(by simp[dn,hL8]);have r8:dn [(.loc 8,.loc 47)] (.loc 8)= .loc 47:=rfl;refine⟨?_,?_,?_,trivial⟩
   ·show bD (bD kK (.loc 8) .dead) (.loc 47) _ (.par 0)= .live (dO (dn [(.loc 8,.loc 47)]) ⟨1,[[.sl L' 5 0 (Wq d x p (q.i+1)).length]]⟩);rw[aq _ _ tM,aq _ _ tM,b2,hP];simp[dO,bu,bJ,rL]
   ·show bD (bD kK (.loc 8) .dead) (.loc 47) _ (dn [(.loc 8,.loc 47)] L')= .live (dO (dn [(.loc 8,.loc 47)]) ⟨5,aB ((Wq d x p (q.i+1)).map Node.iv)⟩);rw[rL,aq _ _ acb,aq _ _ hL8,b3,dy,hP]
   show bD (bD kK (.loc 8) .dead) (.loc 47) _ (.loc 47)= .live (dO (dn [(.loc 8,.loc 47)]) ⟨1,aB ((mw (d.length+1) (x.kids.take (q.i+1))).map xX)⟩);rw[dy,acd,BG];simp only[↓aX,mX,seval];rfl
  ·simp[Xr,dn,hL8,Ss b1,acb]
  intro l hl;simp only[Xr,PY,QN,QV] at hl;rcases hl with rfl|rfl|rfl
  ·exact⟨id,λ_=>rfl⟩
  ·have rL:dn [(.loc 8,.loc 47)] l=l:=(by simp[dn,hL8]);rw[rL];exact⟨id,λ_=>rfl⟩
  exact⟨λ_=>rfl,λh=>by simp[Lb.fresh] at h⟩
 have XV:q.i=x.kids.length:=by simp at h;omega
 have CM:x.kids.take q.i=x.kids:=by rw[XV,Rk]
 rw[CM] at a8;have ve:=XE d x p q.i;have bI:d.length<(Wq d x p q.i).length:=sf
 have jY:(aB ((Wq d x p q.i).map Node.iv))[d.length]?=some [.bool x.text,.str x.s,.list (cD x.attrs),.int .i64 p,.list []]:=by
  rw[xT,cn,Wq,SS,b_ (PW _),Gl];rfl
 simp only[↓aX,mX,seval,h,CM];refine⟨1,(mw (d.length+1) x.kids).map xX,0,_,rfl,a8,tM,XD _,?_⟩;simp only[↓aX,mX,seval,a0,aL,bI,MN,jY,lQ,G_];have GN:(aB ((Wq d x p q.i).map Node.iv)).set d.length ((x.node d.length p).iv.cells.map IV.dQ)=aB ((d++x.flat d.length p).map Node.iv):=by
  rw[x.qm,xU,Wq,CM];congr 1;simp[List.set_append]
 have Yd:(d++x.flat d.length p).length=(Wq d x p q.i).length:=by
  rw[ko,x.j9,ve,CM,x.n8];omega
 refine⟨q.L,q.l0,?_,?_⟩
 ·rw[aq _ _ (Ss q.l0),aq _ _ tM,a0,G_,Yd]
 rw[<-GN];have:(List.take (mw (d.length+1) x.kids).length ((mw (d.length+1) x.kids).map xX))=(mw (d.length+1) x.kids).map xX:=P5 tM;rw[this];simp only[↓aX,mX,seval];rfl

theorem Px {p:Lb}:∀{ds:List AV},p∈ah ds->∃y∈ds,p∈y.an
 |[],h=>by simp[ah] at h
 |y::r,h=>by
  simp only[ah,QL] at h;rcases h with h|h
  ·exact⟨y,tM,h⟩
  obtain⟨z,hz,hp⟩:=Px h;exact⟨z,by simp[hz],hp⟩
def Qm {S:St} {env:Env} {H:Hp} {q:Lb} {cs:List AV} {j d sz:Nat} (g1:H q= .live ⟨cs.length,[cs]⟩) (g2:cs[j]?=some .nil0) (g3:H (.loc d)= .unused) (g4:0<sz) :
  nQ S env H env (bD (bD H (.loc d) (.live ⟨sz,[]⟩)) q (.live ⟨cs.length,[cs.set j (.sl (.loc d) sz 0 0)]⟩)):=by
 intro K β a w IJ hS hr;have hk:=hr.OI (.loc d) g3 (r:=⟨sz,[]⟩) (Below.refl _ _) none tM tM ⟨g4,tM,tM⟩;have TF:q≠ .loc d:=by rintro rfl;rw[g1] at g3;cases g3
 have hq:bD H (.loc d) (.live ⟨sz,[]⟩) q= .live ⟨cs.length,[cs]⟩:=by rw[aq _ _ TF];exact g1
 have gm:0<cs.length:=(hr.rows q _ g1).1;have TG:bD β (.loc d) none q=β q:=aq _ _ TF;cases hb:β q with
 |none=>
  have:=(hr.rows q _ g1).2.2;simp[hb] at this
 |some g=>
 obtain⟨cur,e0,cap,k1,k2,k3,k4,k5⟩:=(hk.rows q _ hq).block (TG.trans hb);have zk:j<cs.length:=(yY.1 g2).1;have vf:=hk.setRow q (r':=⟨cs.length,[cs.set j (.sl (.loc d) sz 0 0)]⟩) (cur':=cur) (cap:=cap) hq (TG.trans hb) k1 rfl rfl k2 k3 (by simpa using k4) tM
  (by
   intro ds ua p hp;simp at ua;subst ua;obtain⟨y,hy,J'⟩:=Px hp;rcases Vg hy with hy|rfl
   ·obtain⟨m,hm⟩:=Sw hy;exact hk.cH q _ hq cs tM p (cW _ _ _ hm p J')
   simp only[AV.an,bY] at J';subst J';simp)
  (by
   intro i' j' ds x0 ed iX;cases i' with
   |succ i'=>simp at ed
   |zero=>
   simp at ed;subst ed;by_cases e:j'=j
   ·subst e;rw[Wj zk] at iX;cases iX;obtain⟨v,q1,q2⟩:=k5 0 j' cs _ tM g2;simp only[RV] at q2;obtain⟨ad,rfl⟩:=q2;refine⟨_,q1,?_⟩;simp only[RV];exact⟨ad,0,rfl,PW _,by simp[maxLen],tM,λ_=> .inl rfl⟩
   rw[Bd (Ss e)] at iX;exact k5 0 j' cs x0 tM iX)
 have j0:w.setRow g cur=w:=setRow_self w g cur e0 (0,0) k1;rw[j0] at vf;exact⟨_,vf⟩
section
variable {env:Env} {H:Hp}
def kq (m:Option Nat) (t u:Nat) (R:AV->Hp->Prop):fX [(some m,t),(none,u)] R .ret env H=cw (Wl m (env t) H) (λx=>R (.gf [x,env u]) H) .mk:=by
 simp only[fX,ef,oO,cw];cases Wl m (env t) H<;>simp[gD]
end

inductive Sub:Nat->Int->Tree->Nat->Int->Tree->Prop
 |self (off:Nat) (p:Int) (t:Tree):Sub off p t off p t
 |Ce {off:Nat} {p:Int} {t:Tree} {n:Nat} {q:Int} {y:Tree} (a b:List Tree) (k:Tree):t.kids=a++k::b->Sub (off+1+dP a) off k n q y->Sub off p t n q y
def oc (d:Doc) (n:Nat) (q:Int) (y:Tree):Prop:=∃post,d.drop n=y.flat n q++post
def Sub.rng {off:Nat} {p:Int} {t:Tree} {n:Nat} {q:Int} {y:Tree} (h:Sub off p t n q y):off<=n/\n+y.jz<=off+t.jz:=by
 induction h with
 |self=>exact⟨PW _,PW _⟩
 |@Ce off p t n q y a b k hk _ ih=>
 have h1:=t.n8;rw[hk,lU] at h1;simp only[dP] at h1;omega
def xZ {α:Type} {a b c:List α} {n:Nat} (h:a.length=n):(a++b).drop n=b:=by subst h;simp
def Sub.Gv {off:Nat} {p:Int} {t:Tree} {n:Nat} {q:Int} {y:Tree} (h:Sub off p t n q y):∀d:Doc,oc d off p t->oc d n q y:=by
 induction h with
 |self=>exactλ_ h=>h
 |@Ce off p t n q y a b k hk _ ih=>
 rintro d ⟨post,h⟩;refine ih d ⟨akX (off+1+dP a+k.jz) off b++post,?_⟩;rw[t.qm,hk] at h;have h2:=(ob h).2;rw[pd] at h2;have h3:d.drop (off+1)=akX (off+1) off a++(akX (off+1+dP a) off (k::b)++post):=by rw[h2];exact SS _ _ _
 rw[<-W6,h3,xZ (c:=[]) (my _ _ _)];simp[akX]
def Sub.parent {off:Nat} {p:Int} {t:Tree} {n:Nat} {q:Int} {y:Tree} (h:Sub off p t n q y) :
  (n=off/\q=p/\y=t)\/∃(m:Nat) (z:Tree) (r:Int),q=(m:Int)/\Sub off p t m r z/\m<n/\n+y.jz<=m+z.jz/\y∈z.kids/\off<=m:=by
 induction h with
 |self=>exact .inl ⟨rfl,rfl,rfl⟩
 |@Ce off p t n q y a b k hk hs ih=>
 right;rcases ih with⟨rfl,rfl,rfl⟩|⟨m,z,r,e1,e2,e3,e4,e5,e6⟩
 ·have h1:=t.n8;rw[hk,lU] at h1;simp only[dP] at h1;exact⟨off,t,p,rfl,.self _ _ _,sf,sf,by rw[hk];simp,PW _⟩
 exact⟨m,z,r,e1,.Ce a b k hk e2,e3,e4,e5,sf⟩
def Sub.trans {off:Nat} {p:Int} {t:Tree} {n:Nat} {q:Int} {y:Tree} (h:Sub off p t n q y) {m:Nat} {r:Int} {z:Tree} (h2:Sub n q y m r z):Sub off p t m r z:=by
 induction h with
 |self=>exact h2
 |Ce a b k hk _ ih=>exact .Ce a b k hk (ih h2)
def afG:∀(sz:Nat) (t:Tree) (off:Nat) (p:Int) (n:Nat),t.jz<=sz->off<=n->n<off+t.jz->∃q y,Sub off p t n q y:=by
 intro sz;induction sz with
 |zero=>intro t off p n h;have:=t.uE;omega
 |succ sz ih=>
 intro t off p n h h1 h2;by_cases e:n=off
 ·subst e;exact⟨_,_,.self _ _ _⟩
 have key:∀(ks a:List Tree),t.kids=a++ks->off+1+dP a<=n->n<off+1+dP a+dP ks->∃q y,Sub off p t n q y:=by
  intro ks;induction ks with
  |nil=>intro a _ h3 h4;simp[dP] at h4;omega
  |cons k ks Li=>
  intro a hk h3 h4;by_cases bI:n<off+1+dP a+k.jz
  ·have hc:=t.n8;rw[hk,lU] at hc;simp only[dP] at hc;obtain⟨q,y,hs⟩:=ih k (off+1+dP a) off n sf h3 bI;exact⟨q,y,.Ce a ks k hk hs⟩
  simp only[dP] at h4;refine Li (a++[k]) (by rw[hk];simp) ?_ ?_
  ·rw[lU];simp only[dP];omega
  rw[lU];simp only[dP];omega
 refine key t.kids [] rfl ?_ ?_
 ·simp[dP];omega
 have:=t.n8;simp[dP];omega
def oc.node {d:Doc} {n:Nat} {q:Int} {y:Tree} (h:oc d n q y):d[n]?=some (y.node n q):=by
 obtain⟨post,h⟩:=h;rw[y.qm] at h;exact(ob h).1
def oc.len {d:Doc} {n:Nat} {q:Int} {y:Tree} (h:oc d n q y):n+y.jz<=d.length:=by
 obtain⟨post,h⟩:=h;have:=VZ List.length h;rw[BH,ko,y.j9] at this;have:=y.uE;omega
def oc.Ce {d:Doc} {n:Nat} {q:Int} {y:Tree} (h:oc d n q y) (a b:List Tree) (k:Tree) (hk:y.kids=a++k::b):oc d (n+1+dP a) n k:=
 (Sub.Ce (off:=n) (p:=q) a b k hk (.self _ _ _)).Gv d h
def ZR {t:Tree} {n:Nat} (h:n<(lW t).length):∃q y,oc (lW t) n q y/\Sub 0 (-1) t n q y:=by
 rw[pf] at h;obtain⟨q,y,hs⟩:=afG t.jz t 0 (-1) n (PW _) (zd _) sf;exact⟨q,y,hs.Gv _ ⟨[],aa'⟩,hs⟩
theorem pg:∀{p:Option Bool} {l:List Tree},bQ p l=true->∀x∈l,x.fu=true
 |_,[],_,x,hx=>by simp at hx
 |p,y::r,h,x,hx=>by
  simp only[bQ,QH] at h;simp only[PY] at hx;rcases hx with rfl|hx
  ·exact h.1
  exact pg h.2.2 x hx
def Tree.vH {x:Tree} (h:x.fu=true):bQ none x.kids=true:=by
 cases ht:x.text with
 |true=>
  rw[x.oa ht] at h;simp only[QH,S',Rg] at h;rw[h.2.2.2];rfl
 |false=>
 rw[x.Pa ht] at h;simp only[QH] at h;exact h.2.2
def Sub.fu {off:Nat} {p:Int} {t:Tree} {n:Nat} {q:Int} {y:Tree} (h:Sub off p t n q y):t.fu=true->y.fu=true:=by
 induction h with
 |self=>exact id
 |Ce a b k hk _ ih=>exactλh=>ih (pg (Tree.vH h) k (by rw[hk];simp))
def Tree.Zg {x:Tree} (h:x.fu=true) (ht:x.text=true):x.kids=[]/\x.attrs=[]/\x.s≠[]:=by
 rw[x.oa ht] at h;simp only[QH,S',Rg,sd] at h;exact⟨h.2.2.2,h.2.2.1,h.2.1⟩

def fj (xs:List Tree):List Tree:=xs.flatMap Tree.kids
def la (x:Tree) (r:List Tree):fj (x::r)=x.kids++fj r:=by simp[fj]
theorem aaD:∀(xs:List Tree),xs≠[]->fB xs=fB (fj xs)+1
 |[],h=>absurd rfl h
 |[x],_=>by simp[fj,fB,x.n7]
 |x::y::r,_=>by
  have:=aaD (y::r) tM;rw[la,n9];simp only[fB,x.n7] at this ⊢;omega
theorem kt:∀(xs:List Tree),dP xs=xs.length+dP (fj xs)
 |[]=>by simp[fj,dP]
 |x::r=>by rw[la,lU];simp only[dP,x.n8,kt r,gL];omega
theorem ajF:∀(xs:List Tree),dE (fj xs)+xs.length<=dE xs
 |[]=>by simp[fj,dE]
 |x::r=>by
  have:=ajF r;have:=x.gx;rw[la,kn];simp only[dE,gL];omega
def x4:Nat->List (Tree×Int)->List (Nat×Int)
 |_,[]=>[]
 |n,(t,p)::r=>(n,p)::x4 (n+t.jz) r
def D3 (j:Int) (ps:List (Nat×Int)):List Int:=(ps.filter λx=>x.2==j).map λx=>(x.1:Int)
def x5:Nat->List (Tree×Int)->List Node
 |_,[]=>[]
 |n,(t,p)::r=>t.flat n p++x5 (n+t.jz) r
def fill (ps:List (Nat×Int)):Nat->List Node->List Node
 |_,[]=>[]
 |j,x::r=>{x with kids:=x.kids++D3 j ps}::fill ps (j+1) r
def whole (d:List Node) (l:List (Tree×Int)):List Node:=fill (x4 d.length l) 0 d++x5 d.length l

def x6 (m:Int):Nat->List Node->List Nat
 |_,[]=>[]
 |j,x::r=>(if x.parent=m then [j] else [])++x6 m (j+1) r
theorem Xe (m:Int):∀(j:Nat) (a b:List Node),x6 m j (a++b)=x6 m j a++x6 m (j+a.length) b
 |j,[],b=>by simp[x6]
 |j,x::a,b=>by simp only[List.cons_append,x6,Xe m (j+1) a b,gL,SS,Y_ 1,ze]
theorem YU (m:Int):∀(j:Nat) (a:List Node) (k:Nat),k∈x6 m j a↔j<=k/\∃x,a[k - j]?=some x/\x.parent=m
 |j,[],k=>by simp[x6]
 |j,x::a,k=>by
  simp only[x6,QL,YU m (j+1) a k];constructor
  ·rintro(h|⟨h1,y,h2,h3⟩)
   ·split at h
    ·rename_i hp;simp only[bY] at h;subst h;exact⟨PW _,x,tM,hp⟩
    simp at h
   exact⟨sf,y,by rw[show k - j=(k - (j+1))+1 by omega];simpa using h2,h3⟩
  rintro⟨h1,y,h2,h3⟩;by_cases e:k=j
  ·subst e;simp only[Gl,RA,di] at h2;subst h2;left;rw[P8 h3];simp
  right;rw[show k - j=(k - (j+1))+1 by omega,GA] at h2;exact⟨sf,y,h2,h3⟩
mutual
theorem Tree.acO (off:Nat) (p m:Int):∀x:Tree,(m<off\/(off+x.jz:Nat)<=m)->x6 m off (x.flat off p)=if p=m then [off] else []
 | .mk t s az ks,h=>by
  simp only[Tree.flat,x6];simp only[Tree.jz] at h;rw[Y0 (off+1) off m ks sf sf];simp
theorem Y0 (off p:Nat) (m:Int):∀xs:List Tree,(m<off\/(off+dP xs:Nat)<=m)->(p:Int)≠m->x6 m off (akX off p xs)=[]
 |[],_,_=>rfl
 |k::r,h,hp=>by
  simp only[dP] at h;simp only[akX,Xe,k.j9];rw[k.acO off p m sf,Y0 (off+k.jz) p m r sf hp,Ev hp];rfl
end
def S6 (off:Nat):List Tree->List Nat
 |[]=>[]
 |k::r=>off::S6 (off+k.jz) r
theorem aaE:∀(off:Nat) (xs:List Tree),(S6 off xs).map (λk:Nat=>(k:Int))=mw off xs
 |_,[]=>rfl
 |off,k::r=>by simp[S6,mw,aaE _ r]
theorem aaF (off p:Nat):∀xs:List Tree,p<off->x6 p off (akX off p xs)=S6 off xs
 |[],_=>rfl
 |k::r,h=>by
  simp only[akX,Xe,k.j9,S6];rw[k.acO off p p sf,aaF (off+k.jz) p r sf];simp
def Sub.aiq {off:Nat} {p:Int} {t:Tree} {n:Nat} {q:Int} {y:Tree} (h:Sub off p t n q y):p<off->x6 n off (t.flat off p)=S6 (n+1) y.kids:=by
 induction h with
 |self off p t=>
  intro hp;rw[t.qm];simp only[x6];rw[Ev (show ¬(t.node off p).parent=(off:Int) by show ¬p=(off:Int);omega),aaF (off+1) off t.kids sf];rfl
 |@Ce off p t n q y a b k hk hs ih=>
 intro hp;have hr:=hs.rng;have h1:=t.n8;rw[hk,lU] at h1;simp only[dP] at h1;have hy:=y.uE;rw[t.qm,hk,pd];simp only[x6,Xe,my,akX,k.j9];rw[Ev (show ¬(t.node off p).parent=(n:Int) by show ¬p=(n:Int);omega),Y0 (off+1) off n a sf sf,ih sf,Y0 (off+1+dP a+k.jz) off n b sf sf];simp
def aeb {t:Tree} {n:Nat} {q:Int} {y:Tree} (h:Sub 0 (-1) t n q y):x6 n 0 (lW t)=S6 (n+1) y.kids:=h.aiq sf
def uG (d:Doc):Nat->Nat->Tree
 |0,_=> .mk false [] [] []
 |f+1,n=>match d[n]? with
  |some x=> .mk x.text x.s x.attrs ((x6 n (n+1) (d.drop (n+1))).map (uG d f))
  |none=> .mk false [] [] []
def abi {d:Doc} {m:Int} {n:Nat} (h:∀k∈x6 m 0 d,n<=k) (hn:n<=d.length):x6 m n (d.drop n)=x6 m 0 d:=by
 have e:d=d.take n++d.drop n:=(tO n d).symm;have h2:x6 m 0 d=x6 m 0 (d.take n)++x6 m n (d.drop n):=by
  conv=>lhs;rw[e]
  rw[Xe,tp,ov hn,bM]
 have h3:x6 m 0 (d.take n)=[]:=by
  apply M6.2;intro k hk;have:=h k (by rw[h2];simp[hk]);obtain⟨_,x,hx,_⟩:=(YU m 0 _ k).1 hk;have:=(yY.1 hx).1;simp at this;omega
 rw[h2,h3];rfl
theorem Y1:∀(off:Nat) (xs:List Tree),∀k∈S6 off xs,off<=k
 |_,[],k,h=>by simp[S6] at h
 |off,x::r,k,h=>by
  simp only[S6,PY] at h;rcases h with rfl|h
  ·exact PW _
  have:=Y1 _ r k h;omega
def Zw {t:Tree}:∀(f:Nat) (n:Nat) (q:Int) (y:Tree),Sub 0 (-1) t n q y->y.dep<=f->uG (lW t) f n=y:=by
 intro f;induction f with
 |zero=>intro n q y _ h;rw[y.n7] at h;omega
 |succ f ih=>
 intro n q y hs hd;have hl:=hs.Gv (lW t) ⟨[],aa'⟩;have Zs:=hl.node;have hlen:=hl.len;have hp:=aeb hs;have hy:=y.uE;unfold uG;rw[Zs];simp only[Tree.node];rw[abi (by rw[hp];exact Y1 _ _) sf,hp];have kids:∀(b a:List Tree),y.kids=a++b->(S6 (n+1+dP a) b).map (uG (lW t) f)=b:=by
  intro b;induction b with
  |nil=>intro a _;rfl
  |cons k b ihb=>
  intro a hk;simp only[S6,Rj];have hdk:k.dep<=f:=by
   have h1:=y.n7;rw[hk,n9] at h1;simp only[fB] at h1;omega
  rw[ih _ n k (hs.trans (.Ce a b k hk (.self _ _ _))) hdk];have:=ihb (a++[k]) (by rw[hk];simp);rw[lU] at this;simp only[dP,kf] at this;rw[show n+1+dP a+k.jz=n+1+(dP a+k.jz) by omega,this]
 have:=kids y.kids [] rfl;simp only[dP,kf] at this;rw[this];cases y;rfl

noncomputable def aec (d:Doc) (n:Int):Tree×Int:=if Vo d=true then(if 0<=n/\n<d.length then(uG d d.length n.toNat,0) else(.mk false [] [] [],3)) else(.mk false [] [] [],1)
def Wo (x:Tree):Doc×Int:=if x.d_=true then(lW x,0) else([],1)
section
variable {t:Tree}
def aed (ht:t.d_=true) {n:Nat} {q:Int} {y:Tree} (hs:Sub 0 (-1) t n q y):aec (lW t) n=(y,0):=by
 have h:=hs.Gv (lW t) ⟨[],aa'⟩;have hl:=h.len;have hc:=y.uE;unfold aec;rw[P8 (Yj ht),P8 ⟨sf,sf⟩,Qj];have hd:y.dep<=(lW t).length:=by
  have h1:=(ia t).1 ht;have h2:∀x:Tree,x.dep<=x.jz:=by
   have key:∀n:Nat,(∀x:Tree,x.jz<=n->x.dep<=x.jz)/\∀xs:List Tree,dP xs<=n->fB xs<=dP xs:=by
    intro n;induction n with
    |zero=>exact⟨λx h=>by have:=x.uE;omega,λxs h=>by cases xs with|nil=>simp[fB]|cons a r=>have:=a.uE;simp[dP] at h;omega⟩
    |succ n ih=>
    have one:∀x:Tree,x.jz<=n+1->x.dep<=x.jz:=λx h=>by
     have:=ih.2 x.kids (by have:=x.n8;omega);rw[x.n7,x.n8];omega
    refine⟨one,λxs=> ?_⟩;induction xs with
    |nil=>intro _;simp[fB]
    |cons a r Ll=>
    intro h;simp only[dP] at h;have:=a.uE;have:=one a sf;have:=Ll sf;simp only[fB,dP];omega
   exactλx=>(key x.jz).1 x (PW _)
  have:=h2 y;omega
 rw[Zw _ n q y hs hd]
end

def Doc.av (d:Doc):AV:= .agg [.list (d.map Node.iv)]
def aa0 {p:Prop} (h:p:=by simp[ah,AV.an,Doc.av]):p:=h
section
variable {P:Program} {G:Nat->Option (List IV)}
def air {Vt iJ:Nat} (hF:aw P G Vt=some (58,[(none,6)],(YB iJ Vt).bare)) (hC:∀xs:List Attr,xs.length<=B->au P G iJ [.list (cD xs)] (.list (cD xs))) (x:Tree) (d:Doc) (p:Int) (hx:d.length+x.wt<=B) :
  adm P G 5 Vt [.ptr (.par 0) 1 0 0,x.av,.int .i64 p] (d.map Node.iv) (.int .i64 d.length) ((d++x.flat d.length p).map Node.iv):=by
 have key:=A4 (M:=λl=>∀x∈l,∀(d:Doc) (p:Int),d.length+x.wt<=B->adm P G 5 Vt [.ptr (.par 0) 1 0 0,x.av,.int .i64 p] (d.map Node.iv) (.int .i64 d.length) ((d++x.flat d.length p).map Node.iv))
  (λl h x hx d p hB=>aip hF x d p hB (hC _ (by have:=lY x;have:=iz x.attrs;omega)) λk hk d' B5=>h x hx k hk d' d.length sf)
 exact key [x] x tM d p hx
end
def YV (dD Vt:Nat):AC:=
(aM [zzX 1 0,aQ 2 (.new [.nil0]),gH 3 0] (.seq (aM [gz 5 4 1,aQ 6 (.call dD [(.t 5)]),sB 7 6] (.cond (.t 7) (aM [aQ 8 (.sg [.nil0] []),gg (.store 1 (.t 2) (.t 8)),gH 3 1] .ret) .skip)) (aM [aQ 4 (.new [.nil0])] (aM [gz 9 4 1,aQ 10 (.call Vt [(.t 4),(.t 9),(.c (.int .i64 (-1)))])] (aM [gz 11 1 4,gg (.store 1 (.t 2) (.t 11)),gH 3 0] (.gh (.xd (.loc 100) (.loc 2) 0) .ret))))))
def ahz {P:Program} {G:Nat->Option (List IV)} {Vj dD Vt:Nat} (hF:aw P G Vj=some (12,[((some (some 1)),2),(none,3)],(YV dD Vt).bare)) (x:Tree) (hx:x.wt<=B)
  (hG:au P G dD [x.av] (.bool x.d_)) (hP:adm P G 5 Vt [.ptr (.par 0) 1 0 0,x.av,.int .i64 (-1)] [] (.int .i64 0) ((lW x).map Node.iv)) :
  au P G Vj [x.av] (.gf [Doc.av (Wo x).1,.int .i64 (Wo x).2]):=by
 refine Ws hF tM aaJ (by simp[AV.an,ah,Doc.av]) ?_;unfold YV;simp only[↓aX,mX,seval,Tree.av];refine ay hG ?_;cases hg:x.d_ with
 |false=>
  simp only[↓aX,mX,seval,kq];simp[norm,fi,Wo,hg,Doc.av]
 |true=>
 simp only[↓aX,mX,seval];refine Zf (l:= .loc 4) (N:= .loc 100) (o:=none) hP rfl ⟨by simp only[↓aX,mX,seval],rfl⟩ (by simp only[↓aX,mX,seval]) (λ_=>⟨rfl,tM⟩) ?_;rintro L' kK hL' ⟨b1,b2,b3⟩ j0 GJ;have hL:L'= .loc 100:=by simpa using hL'
 subst hL;have c2:kK (.loc 2)= .live ⟨1,[[.nil0]]⟩:=by rw[j0 _ tM tM tM];simp only[↓aX,mX,seval]
 simp only[↓aX,mX,seval,b2,c2,kq];refine⟨5,(lW x).map Node.iv,0,(lW x).length,[.sl (.loc 100) 5 0 (lW x).length],rfl,rfl,b3,tM,tM,acH _,?_⟩;simp only[↓aX,mX,seval,kq,norm,fi,Wo,hg,Doc.av,G_];simp;exact P5 tM
def X7 (V3:Nat):AC:=
(aM [zzX 5 0,jM 10 false] (.seq (aM [MR 13 1,MR 14 4,aQ 15 (.dp (.t 14)),fm 16 15,et 17 .neq 13 16,MR 18 17,gV 19 18 1,oH 20 18 5 0,oG 21 18 20,iR 22 18 (.len (.t 21)),iR 23 18 (.bin .geq (.t 19) (.t 22)),sj 24 18 23,MR 25 24,oH 26 25 5 0,oG 27 25 26,gV 28 25 1,iR 29 25 (.Vc (.t 27) (.t 28) 5),oH 30 25 29 3,oG 31 25 30,gV 32 25 2,iR 33 25 (.bin .neq (.t 31) (.t 32)),sj 34 25 33,MR 35 34,gV 36 35 3,iR 37 35 (.bin .gtr (.t 36) (jS 8)),sj 38 35 37] (.cond (.t 38) (aM [jM 10 false] .ret) .skip)) (aM [MR 39 4,aQ 40 (.dp (.t 39)),fm 41 40,eY 42 .add 41 1,aQ 43 (.dp (.t 39)),gg (.store 1 (.t 43) (.t 42))] (.seq (aM [ep 44 5 0,fm 45 44,MR 46 1,jL 47 45 46 5,ep 48 47 4,fm 49 48,oy 50 49,gH 51 0] (.block 0 (.loop (aM [et 52 .lss 51 50] (.seq (.cond (.t 52) .skip (.exit 0)) (.seq (.block 1 (aM [jL 53 49 51 1,fm 54 53,MR 12 54] (aM [gz 55 1 5,MR 56 12,MR 57 1,MR 58 3,eY 59 .add 58 1,MR 60 4,aQ 61 (.call V3 [(.t 55),(.t 56),(.t 57),(.t 59),(.t 60)]),sB 62 61] (.cond (.t 62) (aM [jM 10 false] .ret) .skip)))) (.cq [eY 63 .add 51 1,MR 51 63]))))))) (aM [jM 10 true] .ret)))))
def afH {d:Doc} {f:Nat} {n p nx:Int} {x:Node} (hn:n=nx) (hx:d[n.toNat]?=some x) (hp:x.parent=p):wk d (f+1) n p nx=x.kids.foldlM (λq k=>wk d f k n q) (nx+1):=by
 rw[wk,P8 hn,hx];simp[hp]
def aee {d:Doc}:∀{f:Nat} {n p nx v:Int},0<=nx->wk d f n p nx=some v->nx<v/\v<=d.length:=by
 intro f n p nx v h0 h;have hn:n=nx:=by
  cases f with
  |zero=>simp[wk] at h
  |succ f=>rw[wk] at h;split at h;assumption;simp at h
 obtain⟨m,rfl⟩:∃m:Nat,nx=m:=⟨nx.toNat,sf⟩;obtain⟨_,x,_,⟨post,h2⟩,rfl⟩:=acK d f m n p v h;have hc:=x.uE;have:=VZ List.length h2;rw[BH,ko,x.j9] at this;omega
def Doc.XF {d:Doc} {n:Nat} {x:Node} (h:d[n]?=some x):(d.map Node.iv)[n]?=some x.iv:=by rw[cn,h];rfl
def aaX (l:List Int) (i:Nat):(l.map xX)[i]?=(l[i]?).map xX:=cn ..
def agn {d:Doc} {f:Nat} {n p nx:Int} (h:n≠nx):wk d f n p nx=none:=by
 cases f with
 |zero=>rfl
 |succ f=>rw[wk,Ev h]
def agN {d:Doc} {f:Nat} {n p nx:Int} (h:d[n.toNat]?=none):wk d f n p nx=none:=by
 cases f with
 |zero=>rfl
 |succ f=>rw[wk,h];simp
def agO {d:Doc} {f:Nat} {n p nx:Int} {x:Node} (h:d[n.toNat]?=some x) (hp:x.parent≠p):wk d f n p nx=none:=by
 cases f with
 |zero=>rfl
 |succ f=>rw[wk,h];simp[hp]
def ahA {P:Program} {G:Nat->Option (List IV)} {V3:Nat} (hF:aw P G V3=some (64,[(none,10)],(X7 V3).bare)) (d:Doc) (hd:d.length<=B) (hk:∀x∈d,x.kids.length<=B):∀(f:Nat) (n p nx:Int),f<=8->0<=nx->nx<=B ->
  cR P G V3 [Doc.av d,.int .i64 n,.int .i64 p,.int .i64 (9 - (f:Int)),.ptr (.par 0) 1 0 0] [.int .i64 nx] λx cs=>∃v,x= .bool (wk d f n p nx).isSome/\cs=[.int .i64 v]/\∀r,wk d f n p nx=some r->v=r:=by
 intro f;induction f with
 |zero=>
  intro n p nx hf h0 hB;refine dw hF tM aa0 aae ?_;unfold X7;have hd9:decide ((9:Int) - ((0:Nat):Int)>8)=true:=M3
  simp only[↓aX,mX,reduceCtorEq,Int.reduceLT,Nat.reduceEqDiff,Int.reduceLE,Nat.reduceLT,Nat.reduceLeDiff,Nat.reduceAdd,Nat.reduceMul,Int.reduceToNat,Doc.av,Oj];cases h1:(n !=nx) with
  |true=>
   simp only[↓aX,mX,seval];exact⟨_,⟨nx,rfl,rfl,abI⟩,rfl,rfl,rfl,rfl⟩
  |false=>
  have:n=nx:=by simpa using h1
  subst this;obtain⟨m,rfl⟩:∃m:Nat,n=m:=⟨n.toNat,sf⟩;cases hx:d[m]? with
  |none=>
   have qS:decide ((m:Int)>=(d.length:Int))=true:=by
    have:=ow.1 hx;simp;omega
   simp only[↓aX,mX,seval,G_,qS];exact⟨_,⟨m,rfl,rfl,abI⟩,rfl,rfl,rfl,rfl⟩
  |some x=>
  have bI:=(yY.1 hx).1;have qS:decide ((m:Int)>=(d.length:Int))=false:=aak
  simp only[↓aX,mX,reduceCtorEq,Int.reduceLT,Nat.reduceEqDiff,Int.reduceLE,Nat.reduceLT,Nat.reduceLeDiff,Nat.reduceAdd,Nat.reduceMul,Int.reduceToNat,G_,qS,Doc.XF hx,Xx,Node.cJ,Node.cs];cases h2:(x.parent !=p) with
  |true=>
   simp only[↓aX,mX,seval];exact⟨_,⟨m,rfl,rfl,abI⟩,rfl,rfl,rfl,rfl⟩
  |false=>
  simp only[↓aX,mX,reduceCtorEq,Int.reduceLT,Nat.reduceEqDiff,Int.reduceLE,Nat.reduceLT,Nat.reduceLeDiff,Nat.reduceAdd,Nat.reduceMul,Int.reduceToNat,hd9];exact⟨_,⟨m,rfl,rfl,abI⟩,rfl,rfl,rfl,rfl⟩
 |succ f ih=>
 intro n p nx hf h0 hB;refine dw hF tM aa0 aae ?_;unfold X7;have hd9:decide ((9:Int) - ((f+1:Nat):Int)>8)=false:=aak
 have hw9:IntKind.i64.wrap ((9:Int) - ((f+1:Nat):Int)+1)=9 - (f:Int):=by rw[wrap64 sf sf];omega
 simp only[↓aX,mX,seval,Doc.av,Oj];cases h1:(n !=nx) with
 |true=>
  have wL:n≠nx:=by simpa using h1
  simp only[↓aX,mX,seval];exact⟨_,⟨nx,by rw[agn wL];rfl,rfl,by rw[agn wL];simp⟩,rfl,rfl,rfl,rfl⟩
 |false=>
 have:n=nx:=by simpa using h1
 subst this;obtain⟨m,rfl⟩:∃m:Nat,n=m:=⟨n.toNat,sf⟩;cases hx:d[m]? with
 |none=>
  have qS:decide ((m:Int)>=(d.length:Int))=true:=by
   have:=ow.1 hx;simp;omega
  have ME:wk d (f+1) (m:Int) p (m:Int)=none:=agN (by simpa using hx);simp only[↓aX,mX,seval,G_,qS];exact⟨_,⟨m,by rw[ME];rfl,rfl,by rw[ME];simp⟩,rfl,rfl,rfl,rfl⟩
 |some x=>
 have bI:=(yY.1 hx).1;have qS:decide ((m:Int)>=(d.length:Int))=false:=aak
 have UX:=hk x (PX hx);have JA:IntKind.i64.wrap ((m:Int)+1)=(m:Int)+1:=wrap64 sf (by unfold B at hd;omega);simp only[↓aX,mX,seval,G_,qS,Doc.XF hx,Xx,Node.cJ,Node.cs];cases h2:(x.parent !=p) with
 |true=>
  have ME:wk d (f+1) (m:Int) p (m:Int)=none:=agO (by simpa using hx) (by simpa using h2);simp only[↓aX,mX,seval];exact⟨_,⟨m,by rw[ME];rfl,rfl,by rw[ME];simp⟩,rfl,rfl,rfl,rfl⟩
 |false=>
 have hp:x.parent=p:=by simpa using h2
 have g_:=afH (d:=d) (f:=f) (n:=m) (nx:=m) rfl (by simpa using hx) hp;simp only[↓aX,mX,seval,hd9,JA,G_,Doc.XF hx,Xx,Node.cJ,Node.cs];refine ca (σ:={q:Nat×Int // q.1<=x.kids.length/\0<=q.2/\q.2<=d.length/\wk d (f+1) (m:Int) p (m:Int)=(x.kids.drop q.1).foldlM (λq k=>wk d f k (m:Int) q) q.2}) [.par 0,.loc 5]
  (λq=>[(1,.int .i64 m),(3,.int .i64 (9 - ((f+1:Nat):Int))),(4,.ptr (.par 0) 1 0 0),(5,.ptr (.loc 5) 1 0 0),(49,.list (x.kids.map xX)),(50,.int .i64 x.kids.length),(51,.int .i64 q.1.1)])
  (λq=>[(.par 0,⟨1,[[.int .i64 q.1.2]]⟩),(.loc 5,⟨1,[[.list (d.map Node.iv)]]⟩)]) (λq=>x.kids.length - q.1.1) ⟨(0,(m:Int)+1),tM,aac,aac,by rw[g_];rfl⟩
  (λ_=>rfl) M3 aae aae ?_ ?_
 ·refine eL ?_ aah aah;intro l hl hu;by_cases e:l= .par 0
  ·subst e;simp
  exfalso;apply hu;cases l<;>simp_all[Lb.fresh,ae,Hp.none]
 rintro⟨⟨i,q⟩,hi,KH,TF,hs⟩;simp only at hi KH TF hs;simp only[↓aX,mX,seval,cF,bW];by_cases bI:i<x.kids.length
 ·obtain⟨k,HA⟩:∃k,x.kids[i]?=some k:=⟨_,rX bI⟩;have hw:IntKind.i64.wrap ((i:Int)+1)=((i+1:Nat):Int):=wrap64 sf (by unfold B at UX;omega);rw[show decide ((i:Int)<(x.kids.length:Int))=true by simpa using bI];simp only[↓aX,mX,seval,aaX,HA,YN,G_,bT,xX,IV.cells,hw9];refine bj (l:= .par 0) (ih k m q sf KH (by unfold B at hd ⊢;omega)) rfl (by simp only[↓aX,mX,seval];try rfl) ?_
  rintro x1 dF ⟨v,rfl,rfl,hv⟩ _ _ _;have hdr:x.kids.drop i=k::x.kids.drop (i+1):=drop_eq HA;rw[hdr,Xj] at hs;cases hr:wk d f k m q with
  |none=>
   rw[hr] at hs;simp only[Yk,X6] at hs;simp only[↓aX,mX,seval,V8,QI];exact⟨_,⟨v,by rw[hs];rfl,rfl,by rw[hs];simp⟩,rfl,rfl,rfl,rfl⟩
  |some r=>
  have hvr:=hv r hr;subst hvr;rw[hr] at hs;simp only[Yk,EF] at hs;have hb:=aee KH hr;simp only[↓aX,mX,seval,YD,QK,hw];refine⟨⟨(i+1,v),bI,aac,aac,hs⟩,aac,eL ?_ aah aah⟩;intro l hl hu;by_cases e:l= .par 0
  ·subst e;simp
  exfalso;apply hu;cases l<;>simp_all[Lb.fresh,ae,Hp.none]
 have XV:i=x.kids.length:=sf
 subst XV;rw[Zd] at hs;simp only[List.foldlM_nil] at hs;rw[show decide ((x.kids.length:Int)<(x.kids.length:Int))=false by simp];simp only[↓aX,mX,seval];exact⟨_,⟨q,by rw[hs];rfl,rfl,by rw[hs];rintro r h;cases h;rfl⟩,rfl,rfl,rfl,rfl⟩

def Cf (rs:List (Lb×Row)):ie (λ_=>false) rs=kl rs:=by
 funext q;unfold ie;cases kl rs q<;>rfl
theorem ZX:∀(off:Nat) (xs:List Tree) (i:Nat),i<xs.length->(mw off xs)[i]?=some ((off+dP (xs.take i):Nat):Int)
 |_,[],i,h=>by simp at h
 |off,x::r,0,_=>by simp[mw,dP]
 |off,x::r,i+1,h=>by
  simp only[mw,GA,Cj,dP];rw[ZX (off+x.jz) r i (by simpa using h),ze]
def x7 (iJ x8:Nat):AC:=
(aM [zzX 2 0,aQ 4 (.new [(.bool false),(.str []),.nil0,.nil0])] (aM [ep 9 2 0,fm 10 9,MR 11 1,jL 12 10 11 5,gz 13 5 12,aQ 5 (.new [(.bool false),(.str []),.nil0,(.int .i64 0),.nil0]),gg (.store 5 (.t 5) (.t 13))] (.seq (.VL [ep 14 5 0,fm 15 14,ep 16 5 1,fm 17 16,ep 18 5 2,fm 19 18,aQ 20 (.call iJ [(.t 19)]),aQ 21 (.sg [(.bool false),(.str []),.nil0,.nil0] [(0,(1,(.t 15))),(1,(1,(.t 17))),(2,(1,(.t 20)))]),aQ 6 (.new [(.bool false),(.str []),.nil0,.nil0]),gg (.store 4 (.t 6) (.t 21))] [[],[0],[],[2],[],[4],[5],[1,3,6],[],[8,7,6,0,1,2,3,4,5,6,7,8]] [.no,.rw [.loc 5] [],.no,.rw [.loc 5] [],.no,.rw [.loc 5] [],.no,.no,.rw [] [.loc 6],.rw [] [.loc 6]]) (.seq (.gh .vk (aM [ep 22 5 4,fm 23 22,oy 24 23,gH 25 0] (.block 0 (.loop (aM [et 26 .lss 25 24] (.seq (.cond (.t 26) .skip (.exit 0)) (.seq (.block 1 (aM [jL 27 23 25 1,fm 28 27,MR 8 28] (.VL [ep 29 6 3,fm 30 29,gz 31 1 2,MR 32 8,aQ 33 (.call x8 [(.t 31),(.t 32)]),aQ 34 (.lits 1 4 [(.bool false),(.str []),.nil0,.nil0] [(0,(.t 33))]),aQ 35 (.app (.t 30) (.t 34) 4 72),ep 36 6 3,gg (.store 1 (.t 36) (.t 35))] [[],[0],[],[],[2,3],[4],[1,5,4],[0,1,2,3,4,5,6],[7,6,6,0,1,2,3,4,5,6]] [.no,.rw [.loc 6] [],.rw [.loc 2] [],.no,.no,.no,(.rw [] [.loc 50,.loc 35]),.no,.rw [] [.loc 6]]))) (.cq [eY 37 .add 25 1,MR 25 37])))))))) (.gh (.xd (.loc 50) (.loc 6) 3) (aM [gz 38 4 6,gg (.store 4 (.t 4) (.t 38))] .ret))))))
def pAt {P:Program} {G:Nat->Option (List IV)} {x8 iJ:Nat} (hF:aw P G x8=some (39,[((some (some 4)),4)],(x7 iJ x8).bare)) (d:Doc) (hd:d.length<=B) (n:Nat) (q:Int) (x:Tree) (hL:oc d n q x) (hx:x.wt<=B)
  (hC:au P G iJ [.list (cD x.attrs)] (.list (cD x.attrs)))
  (hK:∀k∈x.kids,∀(m:Nat) (p:Int),oc d m p k->au P G x8 [Doc.av d,.int .i64 m] k.av):au P G x8 [Doc.av d,.int .i64 n] x.av:=by
 refine Ws hF tM aa0 (by simp[AV.an,Tree.av,ah]) ?_;have Zs:=hL.node;have hlen:=hL.len;have bI:=(yY.1 Zs).1;have hwx:=x.gx;have Hm:=eZ x.kids;have JV:(mw (n+1) x.kids).length=x.kids.length:=VS _ _;unfold x7;simp only[↓aX,mX,seval,Doc.av,G_,Doc.XF Zs,Xx,Node.cJ,Node.cs,Tree.node];refine⟨rfl,jw hC ?_⟩;simp only[↓aX,mX,seval,G_];rw[Ox];refine⟨_,_,Qm (q:= .loc 6) (cs:=[.bool x.text,.str x.s,.list (cD x.attrs),.nil0]) (j:=3) (d:=50) (sz:=4) rfl rfl aat M3,?_⟩;simp only[↓aX,mX,seval];refine pe (σ:={i:Nat // i<=x.kids.length}) (λ_=>[.loc 2,.loc 4,.loc 6,.loc 50]) (λ_ _=>false)
  (λq=>[(2,.ptr (.loc 2) 1 0 0),(4,.ptr (.loc 4) 4 0 0),(6,.ptr (.loc 6) 4 0 0),(23,.list ((mw (n+1) x.kids).map xX)),(24,.int .i64 x.kids.length),(25,.int .i64 q.1)])
  (λq=>[(.loc 2,⟨1,[[.list (d.map Node.iv)]]⟩),(.loc 4,⟨4,[[.bool false,.str [],.nil0,.nil0]]⟩),(.loc 6,⟨4,[[.bool x.text,.str x.s,.list (cD x.attrs),.sl (.loc 50) 4 0 q.1]]⟩),(.loc 50,⟨4,aB (dq (x.kids.take q.1))⟩)])
  (λq=>x.kids.length - q.1) ⟨0,zd _⟩ (λ_=>rfl) (λq=>by simp[ah,AV.an]) ?_ ⟨[],?_⟩ ?_
 ·rintro q r hr cs bV l hl;simp only[PY,QN,QV] at hr;rcases hr with rfl|rfl|rfl|rfl
  ·simp only[bY] at bV;subst bV;simp[ah,AV.an] at hl
  ·simp only[bY] at bV;subst bV;simp[ah,AV.an] at hl
  ·simp only[bY] at bV;subst bV;simp[ah,AV.an] at hl;subst hl;simp
  rw[bU bV] at hl;simp at hl
 ·refine⟨?_,?_,?_,aar,λl _=>⟨id,λ_=>rfl⟩⟩
  ·intro l hf hu;exfalso;apply hu;cases l<;>simp_all[Lb.fresh,ae,Hp.none]
  ·simp[k_,dn,bJ,put,JV]
  simp[tc,dn,ae,dO,bu,bJ,aB,dq]
 rintro⟨i,hi⟩;rw[Cf];simp only[↓aX,mX,seval,cF,bW];by_cases bI:i<x.kids.length
 ·rw[show decide ((i:Int)<(x.kids.length:Int))=true by simpa using bI];obtain⟨k,HA⟩:∃k,x.kids[i]?=some k:=⟨_,rX bI⟩;have hw:IntKind.i64.wrap ((i:Int)+1)=((i+1:Nat):Int):=wrap64 sf (by unfold B at hx;omega);have hg:=ZX (n+1) x.kids i bI;simp only[↓aX,mX,seval,aaX,hg,YN,G_,bT,xX,IV.cells];have hkm:=PX HA;have hkL:oc d (n+1+dP (x.kids.take i)) n k:=hL.Ce (x.kids.take i) (x.kids.drop (i+1)) k (by rw[<-drop_eq HA,tO]);have MG:(dq (x.kids.take i)).length=i:=by rw[bF,tp];omega
  have zB:dq (x.kids.take (i+1))=dq (x.kids.take i)++[.agg [.bool k.text,.str k.s,.list (cD k.attrs),.list (dq k.kids)]]:=by rw[Vl HA,qh];simp[dq,Tree.o_,Tree.cs]
  refine⟨rfl,jw (hK k hkm _ _ hkL) ?_⟩;simp only[↓aX,mX,seval,Tree.av];rw[qg 4 72 35 50 (dq (x.kids.take i)) (.agg [.bool k.text,.str k.s,.list (cD k.attrs),.list (dq k.kids)]) aai MG rfl aaw (by unfold B at hx;omega) M3 M3 aat];simp only[↓aX,mX,seval,hw];refine⟨by rintro l (rfl|rfl)<;>simp[Lb.iQ],?_⟩;refine⟨⟨i+1,bI⟩,aac,[(.loc 50,.loc 35)],?_⟩;refine⟨?_,?_,?_,aar,?_⟩
  ·intro l hf hu;exfalso;apply hu;cases l<;>simp_all[Lb.fresh,ae,Hp.none]
  ·simp[k_,dn,bJ,put]
  ·have hr:∀xs:List IV,dO (dn [(.loc 50,.loc 35)]) ⟨4,aB xs⟩=⟨4,aB xs⟩:=λxs=>dy _ _ _;simp[tc,dn,ae,dO,bu,bJ,zB];simp[aB,nT]
  intro l hl;simp only[PY,QN,QV] at hl;rcases hl with rfl|rfl|rfl|rfl
  ·exact⟨λ_=>rfl,λ_=>rfl⟩
  ·exact⟨λ_=>rfl,λ_=>rfl⟩
  ·exact⟨λ_=>rfl,λ_=>rfl⟩
  exact⟨λ_=>rfl,λh=>by simp[Lb.fresh] at h⟩
 have XV:i=x.kids.length:=sf
 subst XV;rw[show decide ((x.kids.length:Int)<(x.kids.length:Int))=false by simp];simp only[↓aX,mX,seval,Rk];refine⟨4,dq x.kids,0,x.kids.length,[.bool x.text,.str x.s,.list (cD x.attrs),.sl (.loc 50) 4 0 x.kids.length],rfl,rfl,rfl,tM,by rw[bF];omega,pa _,?_⟩;simp only[↓aX,mX,seval,tn,P5 (show(dq x.kids).length<=x.kids.length by rw[bF];exact PW _)];rfl

def Node.wt (x:Node):Nat:=1+x.s.length+dX x.attrs+x.kids.length
def zn:Doc->Nat
 |[]=>0
 |x::r=>x.wt+zn r
theorem nv:∀a b:Doc,zn (a++b)=zn a+zn b
 |[],b=>by simp[zn]
 |x::r,b=>by simp[zn,nv r b,ze]
theorem XR:∀d:Doc,d.length<=zn d
 |[]=>by simp
 |x::r=>by have:=XR r;simp only[zn,Node.wt,gL];omega
theorem Y2:∀{d:Doc} {x:Node},x∈d->x.wt<=zn d
 |[],x,h=>by simp at h
 |y::r,x,h=>by
  simp only[PY] at h;rcases h with rfl|h
  ·simp[zn]
  have:=Y2 h;simp only[zn];omega
mutual
theorem Tree.uH (off:Nat) (p:Int):∀x:Tree,x.wt<=zn (x.flat off p)
 | .mk t s az ks=>by
  have:=ru (off+1) off ks;simp only[Tree.flat,zn,Node.wt,Tree.wt];omega
theorem ru (off p:Nat):∀xs:List Tree,dE xs<=zn (akX off p xs)
 |[]=>by simp[dE]
 |k::r=>by
  have:=k.uH off p;have:=ru (off+k.jz) p r;simp only[akX,nv,dE];omega
end
def oc.wt {d:Doc} {n:Nat} {q:Int} {y:Tree} (h:oc d n q y):y.wt<=zn d:=by
 obtain⟨post,h⟩:=h;have h1:=y.uH n q;have h2:=nv (d.take n) (d.drop n);rw[tO,h,nv] at h2;omega
section
variable {P:Program} {G:Nat->Option (List IV)}
def wAt {x8 iJ:Nat} (hF:aw P G x8=some (39,[((some (some 4)),4)],(x7 iJ x8).bare)) (hC:∀xs:List Attr,xs.length<=B->au P G iJ [.list (cD xs)] (.list (cD xs))) (d:Doc) (hd:zn d<=B) (n:Nat) (q:Int) (x:Tree) (hL:oc d n q x) :
  au P G x8 [Doc.av d,.int .i64 n] x.av:=by
 have key:=A4 (M:=λl=>∀x∈l,∀(n:Nat) (q:Int),oc d n q x->au P G x8 [Doc.av d,.int .i64 n] x.av)
  (λl h x hx n q hL=>pAt hF d (by have:=XR d;omega) n q x hL (by have:=hL.wt;omega) (hC _ (by have:=hL.wt;have:=lY x;have:=iz x.attrs;omega)) λk hk m p hL'=>h x hx k hk m p hL')
 exact key [x] x tM n q hL
end
def abj (x:Tree):Vo (lW x)=x.d_:=by
 cases h:x.d_ with
 |true=>exact Yj h
 |false=>exact XX λ⟨y,h1,h2⟩=>by rw[adp h2,h1] at h;cases h
def uF.len {d:Doc} (h:uF d):1<=d.length/\d.length<=80:=by
 obtain⟨x,hx,rfl⟩:=h;have:=(ia x).1 hx;have:=x.uE;rw[pf];omega
def uF.wk {d:Doc} (h:uF d):wk d 8 0 (-1) 0=some (d.length:Int):=by
 obtain⟨x,hx,rfl⟩:=h;exact A3 ((ia x).1 hx).2.1
def YW (V3 x8 dD:Nat):AC:=
(aM [zzX 1 0,jM 2 false] (.seq (aM [ep 4 1 0,fm 5 4,oy 6 5,eY 7 .lss 6 1,MR 8 7,oH 9 8 1 0,oG 10 8 9,iR 11 8 (.len (.t 10)),iR 12 8 (.bin .gtr (.t 11) (jS 80)),sj 13 8 12] (.cond (.t 13) (aM [jM 2 false] .ret) .skip)) (aM [aQ 3 (.new [(.int .i64 0)]),gg (.store 1 (.t 3) (jS 0))] (.seq (aM [gz 14 1 1,aQ 15 (.call V3 [(.t 14),(jS 0),(.c (.int .i64 (-1))),(jS 1),(.t 3)]),sB 16 15,MR 17 16,oG 18 17 3,oH 19 17 1 0,oG 20 17 19,iR 21 17 (.len (.t 20)),iR 22 17 (.bin .neq (.t 18) (.t 21)),sj 23 17 22] (.cond (.t 23) (aM [jM 2 false] .ret) .skip)) (aM [gz 24 1 1,aQ 25 (.call x8 [(.t 24),(jS 0)]),aQ 26 (.call dD [(.t 25)]),MR 2 26] .ret)))))
def aef {P:Program} {G:Nat->Option (List IV)} {Vd V3 x8 dD:Nat} (hF:aw P G Vd=some (27,[(none,2)],(YW V3 x8 dD).bare)) (d:Doc) (hd:zn d<=B)
  (hW:cR P G V3 [Doc.av d,.int .i64 0,.int .i64 (-1),.int .i64 (9 - ((8:Nat):Int)),.ptr (.par 0) 1 0 0] [.int .i64 0] λx cs=>∃v,x= .bool (wk d 8 0 (-1) 0).isSome/\cs=[.int .i64 v]/\∀r,wk d 8 0 (-1) 0=some r->v=r)
  (hA:∀x,d=lW x->au P G x8 [Doc.av d,.int .i64 0] x.av) (hG:∀x,d=lW x->au P G dD [x.av] (.bool x.d_)):au P G Vd [Doc.av d] (.bool (Vo d)):=by
 refine aR hF tM aa0 aad ?_;have hlen:=XR d;unfold YW;simp only[↓aX,mX,seval,Doc.av,G_];cases h1:decide ((d.length:Int)<1) with
 |true=>
  have:Vo d=false:=XX λh=>by have:=h.len;simp at h1;omega
  simp only[↓aX,mX,seval,this]
 |false=>
 cases h2:decide ((d.length:Int)>80) with
 |true=>
  have:Vo d=false:=XX λh=>by have:=h.len;simp at h2;omega
  simp only[↓aX,mX,seval,G_,h2,this]
 |false=>
 simp only[↓aX,mX,seval,G_,h2];refine bj (l:= .loc 3) hW rfl (by simp only[↓aX,mX,seval];try rfl) ?_
 rintro x1 dF ⟨v,rfl,rfl,hv⟩ _ _ _;cases hr:wk d 8 0 (-1) 0 with
 |none=>
  have:Vo d=false:=XX λh=>by have:=h.wk;rw[hr] at this;cases this
  simp only[↓aX,mX,seval,V8,QI,this]
 |some r=>
 have:=hv r hr;subst this;simp only[↓aX,mX,seval,YD,QK,G_];cases h3:(v !=(d.length:Int)) with
 |true=>
  have:Vo d=false:=XX λh=>by have:=h.wk;rw[hr] at this;cases this;simp at h3
  simp only[↓aX,mX,seval,this]
 |false=>
 have Hl:v=d.length:=by simpa using h3
 rw[Hl] at hr;obtain⟨x,D1,T8⟩:=agK hr;simp only[↓aX,mX,seval];refine ay (hA x T8) ?_;simp only[↓aX,mX,seval];refine ay (hG x T8) ?_;simp only[↓aX,mX,seval];rw[T8,abj]
def amz (Vd x8:Nat):AC:=
(aM [zzX 2 0,aQ 4 (.new [(.bool false),(.str []),.nil0,.nil0]),gH 5 0] (.seq (aM [gz 6 1 2,aQ 7 (.call Vd [(.t 6)]),sB 8 7] (.cond (.t 8) (aM [aQ 9 (.sg [(.bool false),(.str []),.nil0,.nil0] []),gg (.store 4 (.t 4) (.t 9)),gH 5 1] .ret) .skip)) (.seq (aM [MR 10 1,eY 11 .lss 10 0,MR 12 11,gV 13 12 1,oH 14 12 2 0,oG 15 12 14,iR 16 12 (.len (.t 15)),iR 17 12 (.bin .geq (.t 13) (.t 16)),sj 18 12 17] (.cond (.t 18) (aM [aQ 19 (.sg [(.bool false),(.str []),.nil0,.nil0] []),gg (.store 4 (.t 4) (.t 19)),gH 5 3] .ret) .skip)) (aM [gz 20 1 2,MR 21 1,aQ 22 (.call x8 [(.t 20),(.t 21)]),gg (.store 4 (.t 4) (.t 22)),gH 5 0] .ret))))
def ape {P:Program} {G:Nat->Option (List IV)} {alc Vd x8:Nat} (hF:aw P G alc=some (23,[((some (some 4)),4),(none,5)],(amz Vd x8).bare)) (d:Doc) (hd:zn d<=B) (n:Int)
  (hG:au P G Vd [Doc.av d] (.bool (Vo d))) (hA:∀(m:Nat) (q:Int) (x:Tree),oc d m q x->au P G x8 [Doc.av d,.int .i64 m] x.av) :
  au P G alc [Doc.av d,.int .i64 n] (.gf [(aec d n).1.av,.int .i64 (aec d n).2]):=by
 refine Ws hF tM aa0 (by simp[AV.an,ah,Tree.av]) ?_;unfold amz;simp only[↓aX,mX,seval,Doc.av,G_];refine ay hG ?_;cases hg:Vo d with
 |false=>
  simp only[↓aX,mX,seval,kq];simp[norm,fi,aec,hg,Tree.av,Tree.text,Tree.s,Tree.attrs,Tree.kids];exact⟨rfl,rfl⟩
 |true=>
 obtain⟨t,ht,rfl⟩:=XW.1 hg;simp only[↓aX,mX,seval,G_];cases h1:decide (n<0) with
 |true=>
  have:aec (lW t) n=(.mk false [] [] [],3):=by unfold aec;rw[P8 hg,Ev (by simp at h1;omega)]
  simp only[↓aX,mX,seval,kq];rw[this];rfl
 |false=>
 obtain⟨m,rfl⟩:∃m:Nat,n=m:=⟨n.toNat,by simp at h1;omega⟩;simp only[↓aX,mX,seval,G_];cases h2:decide ((m:Int)>=((lW t).length:Int)) with
 |true=>
  have:aec (lW t) m=(.mk false [] [] [],3):=by unfold aec;rw[P8 hg,Ev (by simp at h2;omega)]
  simp only[↓aX,mX,seval,kq];rw[this];rfl
 |false=>
 obtain⟨q,y,l,s⟩:=ZR (t:=t) (n:=m) (by simp at h2;omega);simp only[↓aX,mX,seval];refine ay (hA m q y l) ?_;simp only[↓aX,mX,seval,kq,Tree.av];rw[aed ht s];rfl

def Ot (Oy Ok:Nat):AC:=
(aM [jM 2 false] (aM [gH 3 0] (.seq (aM [MR 8 0,oy 9 8,gH 10 0] (.block 0 (.loop (aM [et 11 .lss 10 9] (.seq (.cond (.t 11) .skip (.exit 0)) (.seq (.block 1 (aM [jL 12 8 10 4,gz 13 4 12,aQ 5 (.new [(.bool false),(.str []),.nil0,.nil0]),gg (.store 4 (.t 5) (.t 13))] (aM [gz 15 4 5,aQ 16 (.call Oy [(.t 15)]),MR 14 16,ox 17 14 0,ox 18 14 1,MR 6 17,MR 7 18] (.seq (aM [MR 19 6,eY 20 .gtr 19 8] (.cond (.t 20) (aM [jM 2 false] .ret) .skip)) (.cq [MR 21 3,MR 22 7,et 23 .add 21 22,MR 3 23]))))) (.cq [eY 24 .add 10 1,MR 10 24]))))))) (aM [MR 25 3,eY 26 .leq 25 80,MR 27 26,cU 28 27 0,dW 29 27 (.call Ok [(.t 28)]),jT 30 27 29,MR 2 30] .ret))))
def content (l:List Tree):Bool:=l.all (λx=>decide (x.dep<=8))&&(decide (dP l<=80)&&bQ none l)
def R1 {P:Program} {G:Nat->Option (List IV)} {No Oy Ok:Nat} (hF:aw P G No=some (31,[(none,2)],(Ot Oy Ok).bare)) (l:List Tree) (hx:dE l<=B)
  (hS:∀x∈l,au P G Oy [x.av] (.gf [.int .i64 x.dep,.int .i64 x.jz])) (Gn:au P G Ok [.list (dq l)] (.bool (bQ none l))):au P G No [.list (dq l)] (.bool (content l)):=by
 refine aR hF tM aae aad ?_;have hl:=eZ l;unfold Ot;simp only[↓aX,mX,seval,bF];refine VR (σ:={i:Nat // i<=l.length/\(l.take i).all (λx=>decide (x.dep<=8))=true}) (λq=>[(0,.list (dq l)),(3,.int .i64 (dP (l.take q.1))),(8,.list (dq l)),(9,.int .i64 l.length),(10,.int .i64 q.1)]) (λq=>l.length - q.1) ⟨0,tM⟩ (λ_=>rfl) ?_ ?_
 ·exact⟨by simp only[↓aX,mX,seval],aah⟩
 rintro⟨i,hi,hs⟩;simp only[↓aX,mX,seval,bF];refine AU (λh=> ?_) (λh=> ?_)
 ·have bI:i<l.length:=by simpa using h
  obtain⟨x,Ja⟩:∃x,l[i]?=some x:=⟨_,rX bI⟩;have hw:IntKind.i64.wrap ((i:Int)+1)=((i+1:Nat):Int):=wrap64 sf (by unfold B at hx;omega);have h2:=lV l i;have h3:=ql (l.take i);have h5:=jx _ _ _ Ja;have h6:=x.td;have h1:l.take (i+1)=l.take i++[x]:=by rw[Ro,Ja];rfl
  have hc:IntKind.i64.wrap ((dP (l.take i):Int)+(x.jz:Int))=((dP (l.take (i+1)):Nat):Int):=by
   rw[wrap64 sf (by unfold B at hx;omega),h1,lU];simp[dP]
  simp only[↓aX,mX,seval,iy,Ja,lT,Tree.cJ,Tree.cs];refine ay (hS x (PX Ja)) ?_;simp only[↓aX,mX,seval];refine AU (λh9=> ?_) (λh9=> ?_)
  ·simp only[↓aX,mX,seval];have:l.all (λx=>decide (x.dep<=8))=false:=by
    rw[qA];intro dN;have:=Rh.1 dN x (PX Ja);simp at this h9;omega
   rw[content,this];rfl
  simp only[↓aX,mX,seval,hw,hc];refine⟨⟨i+1,bI,?_⟩,aac,by simp only[↓aX,mX,seval],aah⟩;rw[h1,List.all_append,hs];simp at h9 ⊢;omega
 have XV:i=l.length:=by simp at h;omega
 subst XV;rw[Rk] at hs;simp only[↓aX,mX,seval,Rk];cases h9:decide ((dP l:Int)<=80) with
 |true=>
  simp only[↓aX,mX,seval];refine ay Gn ?_;simp only[↓aX,mX,seval];have:decide (dP l<=80)=true:=by simp at h9 ⊢;omega
  rw[content,hs,this];rfl
 |false=>
 simp only[↓aX,mX,seval];have:decide (dP l<=80)=false:=by simp at h9 ⊢;omega
 rw[content,hs,this];rfl

def acf (x:Tree):oc (lW x) 0 (-1) x:=⟨[],aa'⟩

section
variable {P:Program}
def Sh.Cg {t:TypeId} {y:IV} (h:Sh P t y) (hu:P.underlying t=some .bool):∃x,y= .bool x:=by
 cases h<;>simp_all
def Sh.Ch {t:TypeId} {y:IV} {k:IntKind} (h:Sh P t y) (hu:P.underlying t=some (.int k)):∃n,y= .int k n/\(Lit.int k n).wf=true:=by
 cases h<;>simp_all
def Sh.uJ {t:TypeId} {y:IV} (h:Sh P t y) (hu:P.underlying t=some .string):∃x,y= .str x:=by
 cases h<;>simp_all
def Sh.ZY {t e:TypeId} {y:IV} (h:Sh P t y) (hu:P.underlying t=some (.slice e)):∃ys,y= .list ys/\∀y∈ys,Sh P e y:=by
 cases h<;>simp_all
def Sh.x9 {t:TypeId} {fs:Array Field} {y:IV} (h:Sh P t y) (hu:P.underlying t=some (.struct fs)) :
  ∃ys,y= .agg ys/\ys.length=fs.size/\∀(j:Nat) (f:Field) (y:IV),fs[j]?=some f->ys[j]?=some y->Sh P f.type y:=by
 cases h with
 |g DG h1 h2=>
  rw[DG] at hu;cases hu;exact⟨_,rfl,h1,h2⟩
 |_=>simp_all
structure Ci (P:Program) where
 tB:TypeId
 tS:TypeId
 tA:TypeId
 EZ:TypeId
 tT:TypeId
 HB:TypeId
 fA:Array Field
 fT:Array Field
 uB:P.underlying tB=some .bool
 uS:P.underlying tS=some .string
 I3:P.underlying EZ=some (.slice tA)
 Kg:P.underlying HB=some (.slice tT)
 uA:P.underlying tA=some (.struct fA)
 uT:P.underlying tT=some (.struct fT)
 sA:fA.toList.map (·.type)=[tS,tS]
 sT:fT.toList.map (·.type)=[tB,tS,EZ,HB]
def eC {fs:Array Field} {ts:List TypeId} (h:fs.toList.map (·.type)=ts) (j:Nat) (t:TypeId) (ht:ts[j]?=some t):∃f,fs[j]?=some f/\f.type=t:=by
 subst h;rw[cn] at ht;obtain⟨f,h1,rfl⟩:=jF.1 ht;exact⟨f,by simpa using h1,rfl⟩
def Sh.attr (T:Ci P) {y:IV} (h:Sh P T.tA y):∃a:Attr,y=a.iv/\a.wt<=y.wt:=by
 obtain⟨ys,rfl,hl,hy⟩:=h.x9 T.uA;have hs:T.fA.size=2:=by have:=VZ List.length T.sA;simpa using this
 match ys,hl.trans hs,hy with
 |[y0,y1],_,hy=>
  obtain⟨f0,e0,t0⟩:=eC T.sA 0 T.tS rfl;obtain⟨f1,e1,t1⟩:=eC T.sA 1 T.tS rfl;have h0:=hy 0 f0 y0 e0 rfl;have h1:=hy 1 f1 y1 e1 rfl;rw[t0] at h0;rw[t1] at h1;obtain⟨x0,rfl⟩:=h0.uJ T.uS;obtain⟨x1,rfl⟩:=h1.uJ T.uS;exact⟨⟨x0,x1⟩,rfl,by simp[Attr.wt,IV.wt,wtI];omega⟩
theorem Sh.attrs (T:Ci P):∀(ys:List IV),(∀y∈ys,Sh P T.tA y)->∃az,ys=cD az/\dX az<=wtI ys
 |[],_=>⟨[],rfl,by simp[dX,wtI]⟩
 |y::r,h=>by
  obtain⟨a,rfl,h1⟩:=(h y tM).attr T;obtain⟨az,rfl,h2⟩:=Sh.attrs T r (λz hz=>h z (by simp[hz]));exact⟨a::az,rfl,by simp only[dX,wtI];omega⟩

structure Kh (P:Program) (T:Ci P) where
 tI:TypeId
 I4:TypeId
 tN:TypeId
 Ki:TypeId
 tD:TypeId
 fN:Array Field
 fD:Array Field
 uI:P.underlying tI=some (.int .i64)
 Lm:P.underlying I4=some (.slice tI)
 uN:P.underlying tN=some (.struct fN)
 Mr:P.underlying Ki=some (.slice tN)
 uD:P.underlying tD=some (.struct fD)
 sN:fN.toList.map (·.type)=[T.tB,T.tS,T.EZ,tI,I4]
 sD:fD.toList.map (·.type)=[Ki]
theorem Sh.ints {T:Ci P} (D:Kh P T):∀(ys:List IV),(∀y∈ys,Sh P D.tI y)->∃xs:List Int,ys=xs.map xX/\xs.length<=wtI ys
 |[],_=>⟨[],rfl,by simp[wtI]⟩
 |y::r,h=>by
  obtain⟨n,rfl,_⟩:=(h y tM).Ch D.uI;obtain⟨xs,rfl,h2⟩:=Sh.ints D r (λz hz=>h z (by simp[hz]));exact⟨n::xs,rfl,by simp only[gL,wtI,IV.wt];omega⟩
def Sh.node {T:Ci P} (D:Kh P T) {y:IV} (h:Sh P D.tN y):∃x:Node,y=x.iv/\x.wt<=y.wt:=by
 obtain⟨ys,rfl,hl,sn⟩:=h.x9 D.uN;have hs:D.fN.size=5:=by have:=VZ List.length D.sN;simpa using this
 match ys,hl.trans hs,sn with
 |[y0,y1,y2,y3,y4],_,sn=>
  obtain⟨f0,e0,t0⟩:=eC D.sN 0 T.tB rfl;obtain⟨f1,e1,t1⟩:=eC D.sN 1 T.tS rfl;obtain⟨f2,e2,t2⟩:=eC D.sN 2 T.EZ rfl;obtain⟨f3,e3,t3⟩:=eC D.sN 3 D.tI rfl;obtain⟨f4,e4,t4⟩:=eC D.sN 4 D.I4 rfl;have h0:=sn 0 f0 y0 e0 rfl;have h1:=sn 1 f1 y1 e1 rfl;have h2:=sn 2 f2 y2 e2 rfl;have h3:=sn 3 f3 y3 e3 rfl;have h4:=sn 4 f4 y4 e4 rfl;rw[t0] at h0;rw[t1] at h1;rw[t2] at h2;rw[t3] at h3;rw[t4] at h4;obtain⟨b,rfl⟩:=h0.Cg T.uB;obtain⟨s,rfl⟩:=h1.uJ T.uS;obtain⟨z2,rfl,g2⟩:=h2.ZY T.I3;obtain⟨p,rfl,_⟩:=h3.Ch D.uI;obtain⟨z4,rfl,g4⟩:=h4.ZY D.Lm;obtain⟨az,rfl,w2⟩:=Sh.attrs T z2 g2;obtain⟨ks,rfl,w4⟩:=Sh.ints D z4 g4;exact⟨⟨b,s,az,p,ks⟩,rfl,by simp only[Node.wt,IV.wt,wtI];omega⟩
theorem Sh.nodes {T:Ci P} (D:Kh P T):∀(ys:List IV),(∀y∈ys,Sh P D.tN y)->∃d:Doc,ys=d.map Node.iv/\zn d<=wtI ys
 |[],_=>⟨[],rfl,by simp[wtI,zn]⟩
 |y::r,h=>by
  obtain⟨x,rfl,h1⟩:=(h y tM).node D;obtain⟨d,rfl,h2⟩:=Sh.nodes D r (λz hz=>h z (by simp[hz]));exact⟨x::d,rfl,by simp only[zn,wtI];omega⟩
end

structure Step where
 name:Bs
 n:Int
def Step.cs (x:Step):List IV:=[.str x.name,.int .i64 x.n]
def Step.iv (x:Step):IV:= .agg x.cs
def Step.av (x:Step):AV:= .agg [.str x.name,.int .i64 x.n]
def al1 (s:Step):Bool:=(s.name==[]||(s.name==[42]||named s.name))&&(decide (0<=s.n)&&decide (s.n<=99))
def ak6 (l:List Step):Bool:=l.all al1&&(decide (1<=l.length)&&decide (l.length<=5))
def Ha (text:Bool) (s:Bs) (name:Bs):Bool:=if name==[]||text then name==[]&&text else name==[42]||name==s
def kz (d:Doc) (s:Step):Nat->List Int->List Int
 |_,[]=>[]
 |k,n::r=>match d[n.toNat]? with
  |some x=>if Ha x.text x.s s.name then(if s.n=0\/s.n=((k+1:Nat):Int) then n::kz d s (k+1) r else kz d s (k+1) r) else kz d s k r
  |none=>kz d s k r
def al6 (d:Doc) (n:Int):List Int:=match d[n.toNat]? with
 |some x=>x.kids
 |none=>[]
def ama (d:Doc):List Int->List Step->List Int
 |now,[]=>now
 |now,s::l=>ama d (now.flatMap λn=>kz d s 0 (al6 d n)) l
def akU (d:Doc):List Step->List Int
 |[]=>[]
 |s::l=>ama d (kz d s 0 [0]) l
theorem anX (d:Doc):∀(l:List Step) (a b:List Int),ama d (a++b) l=ama d a l++ama d b l
 |[],a,b=>rfl
 |s::l,a,b=>by simp only[ama,tG,anX d l]
theorem am4 (d:Doc):∀(l:List Step),ama d [] l=[]
 |[]=>rfl
 |s::l=>by simp only[ama,Xk,am4 d l]
theorem anu (d:Doc):∀(l:List Step) (a:List Int),ama d a l=a.flatMap λn=>ama d [n] l
 |l,[]=>by simp[am4]
 |l,n::r=>by rw[show n::r=[n]++r from rfl,anX,anu d l r];simp
theorem anv (d:Doc) (s:Step):∀(l:List Step) (a:List Int),ama d a (l++[s])=(ama d a l).flatMap λn=>kz d s 0 (al6 d n)
 |[],a=>rfl
 |t::l,a=>by simp only[List.cons_append,ama,anv d s l]
def alN (d:Doc) (name:Bs) (k:Nat):Bool:=match d[k]? with
 |some x=>Ha x.text x.s name
 |none=>false
def am5 (d:Doc) (p:Int) (k:Nat):Bool:=match d[k]? with
 |some x=>x.parent==p
 |none=>false
def amA (d:Doc) (p:Int) (name:Bs) (n:Nat):Nat:=((List.range (n+1)).filter λk=>am5 d p k&&alN d name k).length
def ak9 (d:Doc):List Step->Nat->Bool
 |[],_=>false
 |s::l,n=>match d[n]? with
  |some x=>alN d s.name n&&((if x.parent<0 then l.isEmpty else(!l.isEmpty&&ak9 d l x.parent.toNat))&&(s.n==0||s.n==((amA d x.parent s.name n:Nat):Int)))
  |none=>false

section
variable {P:Program}
structure TyP (P:Program) (T:Ci P) where
 tI:TypeId
 tP:TypeId
 tPs:TypeId
 fP:Array Field
 uI:P.underlying tI=some (.int .i64)
 uP:P.underlying tP=some (.struct fP)
 uPs:P.underlying tPs=some (.slice tP)
 sP:fP.toList.map (·.type)=[T.tS,tI]
def Sh.step {T:Ci P} (D:TyP P T) {y:IV} (h:Sh P D.tP y):∃x:Step,y=x.iv/\1+x.name.length<=y.wt:=by
 obtain⟨ys,rfl,hl,sn⟩:=h.x9 D.uP;have hs:D.fP.size=2:=by have:=VZ List.length D.sP;simpa using this
 match ys,hl.trans hs,sn with
 |[y0,y1],_,sn=>
  obtain⟨f0,e0,t0⟩:=eC D.sP 0 T.tS rfl;obtain⟨f1,e1,t1⟩:=eC D.sP 1 D.tI rfl;have h0:=sn 0 f0 y0 e0 rfl;have h1:=sn 1 f1 y1 e1 rfl;rw[t0] at h0;rw[t1] at h1;obtain⟨s,rfl⟩:=h0.uJ T.uS;obtain⟨p,rfl,_⟩:=h1.Ch D.uI;exact⟨⟨s,p⟩,rfl,by simp only[IV.wt,wtI];omega⟩
end
end Go.Am
