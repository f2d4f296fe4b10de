import Derived.Test.YtfeijflhfhkbnaaGreatDoorKAm34
import Derived.Test.YtfeijflhfhkbnaaGreatDoorKAm40
import Derived.Test.YtfeijflhfhkbnaaGreatDoorKT21
import Derived.Test.YtfeijflhfhkbnaaGreatDoorKP2
import Derived.Test.YtfeijflhfhkbnaaGreatDoorKAm47
set_option linter.all false
/- Trees printed: escape, put, Print. -/
namespace Go.Am
open Go Go.RowKit
def a7 (s:Bs):List IV:=s.map λc=>IV.int .u8 c.toNat
def a_ (s:Bs):(a7 s).length=s.length:=by simp[a7]
def aaT {p:Prop} (h:p:=by simp[a_];omega):p:=h
def abC {p:Prop} (h:p:=by simp[a_,ze]):p:=h
def rK (s t:Bs):a7 (s++t)=a7 s++a7 t:=by simp[a7]
def jh (s:Bs):Flat (a7 s):=by
 intro x hx z hz cs;obtain⟨c,_,rfl⟩:=pb.1 hx;simp only[IV.cells,bY] at hz;subst hz;simp
def Bh (s:Bs):aB (a7 s)=s.map λc=>[AV.int .u8 c.toNat]:=by
 simp[aB,a7,IV.cells,IV.dQ]
def gj {H:Hp} {l:Lb} {d n:Nat} {xs:List IV} {t:Bs} (hl:H l= .live ⟨1,aB xs⟩) (hn:n=xs.length) (hb:n+t.length<=140737488355328) (hd:l≠l.app d) (hu:H (l.app d)= .unused) :
  jN 1 1 d (.sl l 1 0 n) (.str t) H=some (.sl (l.app d) 1 0 (n+t.length),bD (bD H l .dead) (l.app d) (.live ⟨1,aB (xs++a7 t)⟩)):=by
 unfold jN;have h1:(aB xs).length=n:=by rw[lQ,hn]
 have e:aB (xs++a7 t)=aB xs++t.map λc=>[AV.int .u8 c.toNat]:=by rw[lR,Bh]
 have ho:∀cs∈t.map (λc=>[AV.int .u8 (c.toNat:Int)]),AV.oJ cs:=by
  intro cs bV;obtain⟨c,_,rfl⟩:=pb.1 bV;intro x hx;simp only[bY] at hx;subst hx;rfl
 simp only[al_,Rc,EF];rw[Ev (by simpa using ho)];simp only[hl,Su,G_,h1,PW,Zk,hb,Nat.lt_irrefl,show 0<1 by decide,ne_eq,hd,XM,hu,Rc,e];rw[P5 (Y' h1)]
def fH {H:Hp} {l:Lb} {d n:Nat} {xs:List IV} {c:UInt8} (hl:H l= .live ⟨1,aB xs⟩) (hn:n=xs.length) (hb:n+1<=140737488355328) (hd:l≠l.app d) (hu:H (l.app d)= .unused) :
  jN 1 1 d (.sl l 1 0 n) (.list [.int .u8 (c.toNat:Int)]) H=some (.sl (l.app d) 1 0 (n+1),bD (bD H l .dead) (l.app d) (.live ⟨1,aB (xs++a7 [c])⟩)):=by
 rw[ux hl (by rw[lQ,hn]) rfl (by intro z hz cs;simp only[IV.cells,bY] at hz;subst hz;simp) sf M3 hd hu,lR];rfl
def gT {H:Hp} {l:Lb} {d n:Nat} {xs:List IV} (c:UInt8) {z:Int} (hz:(c.toNat:Int)=z) (hl:H l= .live ⟨1,aB xs⟩) (hn:n=xs.length) (hb:n+1<=140737488355328) (hd:l≠l.app d) (hu:H (l.app d)= .unused) :
  jN 1 1 d (.sl l 1 0 n) (.list [.int .u8 z]) H=some (.sl (l.app d) 1 0 (n+1),bD (bD H l .dead) (l.app d) (.live ⟨1,aB (xs++a7 [c])⟩)):=by
 subst hz;exact fH hl hn hb hd hu
def an' {s:Bs} {i:Nat} (h:i<s.length):∃c,s[i]?=some c:=⟨_,rX h⟩
def rM {v:Bool} {s:Bs} {i:Nat} {c:UInt8} (h:s[i]?=some c):fG v (s.take (i+1))=fG v (s.take i)++jQ v c:=by
 unfold fG;rw[Ro,h,tG];simp
def yv (v:Bool) (c:UInt8):(jQ v c).length<=6:=by
 unfold jQ;split<;>(try split)<;>(try split)<;>(try split)<;>simp[qH,rC,kD,jc]
theorem iB (v:Bool):∀s:Bs,(fG v s).length<=6*s.length
 |[]=>by simp[fG]
 |c::s=>by
  have:=iB v s;have:=yv v c;simp only[fG,VQ,ko,gL] at *;omega
section
variable {P:Program} {G:Nat->Option (List IV)}
def iN:AC:=
(aM [zi 6] (.seq (aM [MR 9 1,oF 10 9,gH 11 0] (.block 0 (.loop (aM [et 12 .lss 11 10] (.seq (.cond (.t 12) .skip (.exit 0)) (.seq (.block 1 (aM [MR 13 11,MR 7 13] (aM [MR 14 1,MR 15 7,aQ 16 (.lj (.t 14) (.t 15)),MR 8 16] (.block 2 (aM [MR 22 8,aQ 23 (.bin .eql (.t 22) (.c (.int .u8 60))),MR 21 23] (.cond (.t 21) (.cq [MR 24 0,aQ 25 (.app (.t 24) (.c (.str [38,108,116,59])) 1 1),MR 0 25]) (aM [MR 27 8,aQ 28 (.bin .eql (.t 27) (.c (.int .u8 62))),MR 26 28] (.cond (.t 26) (.cq [MR 29 0,aQ 30 (.app (.t 29) (.c (.str [38,103,116,59])) 1 1),MR 0 30]) (aM [MR 32 8,aQ 33 (.bin .eql (.t 32) (.c (.int .u8 38))),MR 31 33] (.cond (.t 31) (.cq [MR 34 0,aQ 35 (.app (.t 34) (.c (.str [38,97,109,112,59])) 1 1),MR 0 35]) (aM [MR 37 8,aQ 38 (.bin .eql (.t 37) (.c (.int .u8 34))),MR 39 38,cU 40 39 2,jT 41 39 40,MR 36 41] (.cond (.t 36) (.cq [MR 42 0,aQ 43 (.app (.t 42) (.c (.str [38,113,117,111,116,59])) 1 1),MR 0 43]) (.cq [MR 17 0,MR 18 8,aQ 19 (.lits 1 1 [(.int .u8 0)] [(0,(.t 18))]),aQ 20 (.app (.t 17) (.t 19) 1 1),MR 0 20]))))))))))))) (.cq [eY 44 .add 11 1,MR 11 44]))))))) (aM [MR 45 0,MR 6 45] .ret)))
def Bi {c_:Nat} (hF:aw P G c_=some (46,[(none,6)],iN.bare)) (xs:List IV) (s:Bs) (v:Bool) (hb:xs.length+6*s.length<=2^40) :
  tq P G 1 c_ [.sl (.par 0) 1 0 xs.length,.str s,.bool v] xs (xs++a7 (fG v s)):=by
 refine pA hF tM aae ?_;have Ko:(2:Nat)^40=1099511627776:=M3
 unfold iN;simp only[↓aX,mX,seval,df];refine gb (σ:={i:Nat // i<=s.length}) (λ_=>[.gen 0]) (λ_ l=>l== .par 0)
  (λq=>[(0,.sl (.gen 0) 1 0 (xs.length+(fG v (s.take q.1)).length)),(1,.str s),(2,.bool v),(10,.int .i64 s.length),(11,.int .i64 q.1)])
  (λq=>[(.gen 0,⟨1,aB (xs++a7 (fG v (s.take q.1)))⟩)]) (λq=>s.length - q.1) ⟨0,zd _⟩ (λ_=>rfl) (λq=>by simp[ah,AV.an]) ?_ ⟨[(.gen 0,.par 0)],?_⟩ ?_
 ·intro q w hw cs bV z hz;simp only[bY] at hw;subst hw;rw[bU bV] at hz;simp at hz
 ·refine⟨?_,?_,?_,aar,?_⟩
  ·intro l hf hu;right;by_cases e:l= .par 0
   ·subst e;rfl
   exfalso;apply hu;simp[ae,e,Hp.none]
  ·simp[k_,dn,bJ,put,fG,jP]
  ·simp[tc,dn,ae,dy,fG,a7]
  simp[Lb.fresh,Lb.entry]
 rintro⟨i,hi⟩;have su:=iB v (s.take i);rw[tp,ov hi] at su;simp only[↓aX,mX,seval,G_];by_cases bI:i<s.length
 ·rw[show decide (((i:Nat):Int)<((s.length:Nat):Int))=true by simpa using bI];obtain⟨c,hc⟩:=an' bI;have hw:IntKind.i64.wrap ((i:Int)+1)=((i+1:Nat):Int):=wrap64 sf sf;have hU:∀d,ie (λl=>l==Lb.par 0) [(Lb.gen 0,⟨1,aB (xs++a7 (fG v (s.take i)))⟩)] (.gen (d+1))= .unused:=λd=>by
   rw[fE tM];rfl
  have hL:ie (λl=>l==Lb.par 0) [(Lb.gen 0,⟨1,aB (xs++a7 (fG v (s.take i)))⟩)] (.gen 0)= .live ⟨1,aB (xs++a7 (fG v (s.take i)))⟩:=cL.2 aaZ;have hlen:xs.length+(fG v (s.take i)).length=(xs++a7 (fG v (s.take i))).length:=by rw[ko,a_]
  simp only[↓aX,mX,seval,hc,QJ,Qj];have fin:∀(w:Bs) (d:Nat) (env:Env),jQ v c=w->env 0= .sl (.gen d) 1 0 (xs.length+(fG v (s.take i)).length+w.length)->env 1= .str s->env 2= .bool v->env 10= .int .i64 s.length->env 11= .int .i64 ((i+1:Nat):Int) ->
    ∃q:{i:Nat // i<=s.length},s.length - q.1<s.length - i/\∃m,WE [.gen 0] (λl=>l== .par 0) [(0,.sl (.gen 0) 1 0 (xs.length+(fG v (s.take q.1)).length)),(1,.str s),(2,.bool v),(10,.int .i64 s.length),(11,.int .i64 q.1)]
     [(.gen 0,⟨1,aB (xs++a7 (fG v (s.take q.1)))⟩)] env (bD (bD (ie (λl=>l==Lb.par 0) [(Lb.gen 0,⟨1,aB (xs++a7 (fG v (s.take i)))⟩)]) (.gen 0) .dead) (.gen d) (.live ⟨1,aB (xs++a7 (fG v (s.take i))++a7 w)⟩)) m:=by
   rintro w d env rfl h0 h1 h2 h3 h4;refine⟨⟨i+1,bI⟩,aac,[(.gen 0,.gen d)],?_,?_,?_,aar,?_⟩
   ·intro l hf hu;right;by_cases e:l= .par 0
    ·subst e;rfl
    exfalso;apply hu;cases l<;>simp[Lb.entry] at hf;rename_i n;rw[aq _ _ tM,aq _ _ tM,fE tM];simp only[S',e,nX]
   ·simp only[k_,h0,h1,h2,h3,h4,bJ,dn,rM hc,ko,Rc];simp only[ze,A5]
   ·simp[tc,dn,ae,dy,rM hc,rK]
   simp[Lb.fresh,Lb.entry]
  have Ly:xs.length+(fG v (s.take i)).length+6<=140737488355328:=sf
  have GL:((c.toNat:Int)==60)=(c==60):=by
   rw[SZ];simp only[S'];rw[<-WX];show _↔_=60;omega
  have E6:((c.toNat:Int)==62)=(c==62):=by
   rw[SZ];simp only[S'];rw[<-WX];show _↔_=62;omega
  have HF:((c.toNat:Int)==38)=(c==38):=by
   rw[SZ];simp only[S'];rw[<-WX];show _↔_=38;omega
  have Jh:((c.toNat:Int)==34)=(c==34):=by
   rw[SZ];simp only[S'];rw[<-WX];show _↔_=34;omega
  rw[GL];by_cases h1:c=60
  ·rw[show(c==60)=true by simp[h1]];simp only[↓aX,mX,seval];rw[gj (xs:=xs++a7 (fG v (s.take i))) hL hlen aak aav (hU 24)];simp only[↓aX,mX,seval,hw];exact fin qH 25 _ (by unfold jQ;rw[P8 h1]) rfl rfl rfl rfl rfl
  rw[show(c==60)=false by simp[h1]];simp only[↓aX,mX,seval,E6];by_cases h2:c=62
  ·rw[show(c==62)=true by simp[h2]];simp only[↓aX,mX,seval];rw[gj (xs:=xs++a7 (fG v (s.take i))) hL hlen aak aav (hU 29)];simp only[↓aX,mX,seval,hw];exact fin rC 30 _ (by unfold jQ;rw[Ev h1,P8 h2]) rfl rfl rfl rfl rfl
  rw[show(c==62)=false by simp[h2]];simp only[↓aX,mX,seval,HF];by_cases h3:c=38
  ·rw[show(c==38)=true by simp[h3]];simp only[↓aX,mX,seval];rw[gj (xs:=xs++a7 (fG v (s.take i))) hL hlen aak aav (hU 34)];simp only[↓aX,mX,seval,hw];exact fin kD 35 _ (by unfold jQ;rw[Ev h1,Ev h2,P8 h3]) rfl rfl rfl rfl rfl
  rw[show(c==38)=false by simp[h3]];simp only[↓aX,mX,seval,Jh];have last:∀(env:Env),¬(c=34/\v=true)->jQ v c=[c]:=λ_ h4=>by unfold jQ;rw[Ev h1,Ev h2,Ev h3,Ev h4]
  by_cases h4:c=34
  ·rw[show(c==34)=true by simp[h4]];simp only[↓aX,mX,seval];refine AU (λhv=> ?_) (λhv=> ?_)
   ·simp only[↓aX,mX,seval];rw[gj (xs:=xs++a7 (fG v (s.take i))) hL hlen aak aav (hU 42)];simp only[↓aX,mX,seval,hw];exact fin jc 43 _ (by unfold jQ;rw[Ev h1,Ev h2,Ev h3,P8 ⟨h4,hv⟩]) rfl rfl rfl rfl rfl
   simp only[↓aX,mX,seval];rw[fH (xs:=xs++a7 (fG v (s.take i))) hL hlen sf aav (hU 19)];simp only[↓aX,mX,seval,hw];exact fin [c] 20 _ (last Env.any (by simp[hv])) rfl rfl rfl rfl rfl
  rw[show(c==34)=false by simp[h4]];simp only[↓aX,mX,seval];rw[fH (xs:=xs++a7 (fG v (s.take i))) hL hlen sf aav (hU 19)];simp only[↓aX,mX,seval,hw];exact fin [c] 20 _ (last Env.any (by simp[h4])) rfl rfl rfl rfl rfl
 have XV:s.take i=s:=P5 sf;rw[show decide (((i:Nat):Int)<((s.length:Nat):Int))=false by simpa using bI,XV];simp only[↓aX,mX,seval,YT];refine⟨.gen 0,by rw[ko,a_],?_⟩;exact cL.2 aaZ
mutual
theorem yw:∀x:Tree,x.sh.length<=7*x.wt
 | .mk t s az ks=>by
  have h1:=iB false s;have h2:=gy az;have h3:=kx ks;cases t with
  |true=>
   rw[Tree.yh _ rfl];simp only[Tree.s,Tree.wt];omega
  |false=>
  rw[Tree.QO _ rfl];simp only[Tree.s,Tree.attrs,Tree.kids,Tree.wt,ko,gL];cases ks with
  |nil=>simp only[nj,gL,Rm];omega
  |cons k r=>simp only[nj,ko,gL,Rm];omega
theorem kx:∀xs:List Tree,(je xs).length<=7*dE xs
 |[]=>by simp[je,dE]
 |x::r=>by
  have:=yw x;have:=kx r;simp only[je,dE,ko];omega
theorem gy:∀az:List Attr,(akW az).length<=7*dX az
 |[]=>by simp[akW,dX]
 |a::r=>by
  have h1:=gy r;have h2:=iB true a.val;simp only[akW,VQ,ko,iK,dX,Attr.wt,gL,Rm] at *;omega
end
def qt {az:List Attr} {i:Nat} {a:Attr} (h:az[i]?=some a):akW (az.take (i+1))=akW (az.take i)++iK a:=by
 unfold akW;rw[Ro,h,tG];simp
theorem uU:∀xs ys:List Tree,je (xs++ys)=je xs++je ys
 |[],ys=>by simp[je]
 |x::r,ys=>by simp[je,uU r ys]
def yx {ks:List Tree} {i:Nat} {k:Tree} (h:ks[i]?=some k):je (ks.take (i+1))=je (ks.take i)++k.sh:=by
 rw[Ro,h,uU];simp[je]
def vX (az:List Attr) (i:Nat):dX (az.take i)<=dX az:=by
 induction az generalizing i with
 |nil=>simp[dX]
 |cons a r ih=>
 cases i with
 |zero=>simp[dX]
 |succ i=>have:=ih i;simp[dX];omega
def vY (ks:List Tree) (i:Nat):dE (ks.take i)<=dE ks:=by
 induction ks generalizing i with
 |nil=>simp[dE]
 |cons a r ih=>
 cases i with
 |zero=>simp[dE]
 |succ i=>have:=ih i;simp[dE];omega
def yy {az:List Attr} {i:Nat} {a:Attr} (h:az[i]?=some a):dX (az.take i)+a.wt<=dX az:=by
 induction az generalizing i with
 |nil=>simp at h
 |cons b r ih=>
 cases i with
 |zero=>simp at h;subst h;simp[dX]
 |succ i=>have:=ih (i:=i) (by simpa using h);simp[dX];omega
def yz {ks:List Tree} {i:Nat} {k:Tree} (h:ks[i]?=some k):dE (ks.take i)+k.wt<=dE ks:=by
 induction ks generalizing i with
 |nil=>simp at h
 |cons b r ih=>
 cases i with
 |zero=>simp at h;subst h;simp[dE]
 |succ i=>have:=ih (i:=i) (by simpa using h);simp[dE];omega
def pB {x:Tree} {env:Env} {H:Hp} {d:Nat} {ys:List IV} {ps:List (Nat×AV)} (h1:H (.gen d)= .live ⟨1,aB ys⟩) (h2:H (.loc 3)= .live ⟨4,[x.cs.map IV.dQ]⟩) (B2:∀n,n≠0->H (.par n)= .unused) (he:k_ (dn [(.gen 0,.gen d)]) env ps) :
  WE [.gen 0,.loc 3] (λl=>l== .par 0) ps [(.gen 0,⟨1,aB ys⟩),(.loc 3,⟨4,[x.cs.map IV.dQ]⟩)] env H [(.gen 0,.gen d)]:=by
 refine⟨?_,he,?_,aar,?_⟩
 ·intro l hf hu;right;cases l<;>simp[Lb.entry] at hf;rename_i n;by_cases e:n=0
  ·subst e;rfl
  exact absurd (B2 n e) hu
 ·refine⟨by simp[dn,dy,h1],?_,trivial⟩;have:dO (dn [(Lb.gen 0,Lb.gen d)]) ⟨4,[x.cs.map IV.dQ]⟩=⟨4,[x.cs.map IV.dQ]⟩:=by
   simp only[dO,Rj,Ww];rw[nT]
  rw[this];simpa[dn] using h2
 intro l hl;simp only[PY,QN,QV] at hl;rcases hl with rfl|rfl
 ·simp[Lb.fresh,Lb.entry]
 simp[dn]
def ld (c_ dK:Nat):AC:=
(aM [zzX 3 1,zi 4] (.seq (aM [ep 9 3 0,fm 10 9] (.cond (.t 10) (aM [MR 11 0,ep 12 3 1,fm 13 12,aQ 14 (.call c_ [(.t 11),(.t 13),(me false)]),MR 4 14] .ret) .skip)) (.seq (.VL [MR 15 0,aQ 16 (.lits 1 1 [(.int .u8 0)] [(0,(.c (.int .u8 60)))]),aQ 17 (.app (.t 15) (.t 16) 1 1),ep 18 3 1,fm 19 18,aQ 20 (.app (.t 17) (.t 19) 1 1),MR 0 20] [[],[],[0,1],[],[3],[2,4,2],[5,5,0,1,2,3,4,5]] [.no,.no,(.rw [] [(.par 0),(.gen 17)]),.no,.rw [.loc 3] [],(.rw [] [(.gen 17),(.gen 20)]),.no]) (.seq (aM [ep 21 3 2,fm 22 21,oy 23 22,gH 24 0] (.block 0 (.loop (aM [et 25 .lss 24 23] (.seq (.cond (.t 25) .skip (.exit 0)) (.seq (.block 1 (aM [jL 26 22 24 2,gz 27 2 26,aQ 6 (.new [(.str []),(.str [])]),gg (.store 2 (.t 6) (.t 27))] (.seq (.VL [MR 28 0,aQ 29 (.lits 1 1 [(.int .u8 0)] [(0,(.c (.int .u8 32)))]),aQ 30 (.app (.t 28) (.t 29) 1 1),ep 31 6 0,fm 32 31,aQ 33 (.app (.t 30) (.t 32) 1 1),MR 0 33] [[],[],[0,1],[],[3],[2,4,2],[5,5,0,1,2,3,4,5]] [.no,.no,(.rw [] [(.gen 0),(.gen 30)]),.no,.rw [.loc 6] [],(.rw [] [(.gen 30),(.gen 33)]),.no]) (.VL [MR 34 0,aQ 35 (.app (.t 34) (.c (.str [61,34])) 1 1),ep 36 6 1,fm 37 36,aQ 38 (.call c_ [(.t 35),(.t 37),(me true)]),aQ 39 (.lits 1 1 [(.int .u8 0)] [(0,(.c (.int .u8 34)))]),aQ 40 (.app (.t 38) (.t 39) 1 1),MR 0 40] [[],[0],[],[2],[1,3,1],[],[4,5,4],[6,6,0,1,2,3,4,5,6]] [.no,(.rw [] [(.gen 33),(.gen 35)]),.no,.rw [.loc 6] [],(.p_ []),.no,(.rw [] [(.gen 35),(.gen 38),(.gen 40)]),.no])))) (.cq [eY 41 .add 24 1,MR 24 41]))))))) (.seq (aM [ep 42 3 3,fm 43 42,oy 44 43,eY 45 .eql 44 0] (.cond (.t 45) (aM [MR 46 0,aQ 47 (.app (.t 46) (.c (.str [47,62])) 1 1),MR 4 47] .ret) .skip)) (aM [MR 48 0,aQ 49 (.lits 1 1 [(.int .u8 0)] [(0,(.c (.int .u8 62)))]),aQ 50 (.app (.t 48) (.t 49) 1 1),MR 0 50] (.seq (aM [ep 51 3 3,fm 52 51,oy 53 52,gH 54 0] (.block 2 (.loop (aM [et 55 .lss 54 53] (.seq (.cond (.t 55) .skip (.exit 2)) (.seq (.block 3 (aM [jL 56 52 54 4,gz 57 4 56,aQ 8 (.new [(.bool false),(.str []),.nil0,.nil0]),gg (.store 4 (.t 8) (.t 57))] (.cq [MR 58 0,gz 59 4 8,aQ 60 (.call dK [(.t 58),(.t 59)]),MR 0 60]))) (.cq [eY 61 .add 54 1,MR 54 61]))))))) (.seq (.VL [MR 62 0,aQ 63 (.app (.t 62) (.c (.str [60,47])) 1 1),ep 64 3 1,fm 65 64,aQ 66 (.app (.t 63) (.t 65) 1 1),aQ 67 (.lits 1 1 [(.int .u8 0)] [(0,(.c (.int .u8 62)))]),aQ 68 (.app (.t 66) (.t 67) 1 1),MR 4 68] [[],[0],[],[2],[1,3,1],[],[4,5,4],[6,6,0,1,2,3,4,5,6]] [.no,(.rw [] [(.gen 0),(.gen 63)]),.no,.rw [.loc 3] [],(.rw [] [(.gen 63),(.gen 66)]),.no,(.rw [] [(.gen 66),(.gen 68)]),.no]) .ret))))))))
def Ee {dK c_:Nat} (hF:aw P G dK=some (69,[(none,4)],(ld c_ dK).bare)) (hE:∀(xs:List IV) (s:Bs) (v:Bool),xs.length+6*s.length<=2^40->tq P G 1 c_ [.sl (.par 0) 1 0 xs.length,.str s,.bool v] xs (xs++a7 (fG v s))) :
  ∀(n:Nat) (x:Tree) (xs:List IV),x.wt<=n->xs.length+7*x.wt<=2^40->tq P G 1 dK [.sl (.par 0) 1 0 xs.length,x.av] xs (xs++a7 x.sh):=by
 intro n;induction n with
 |zero=>intro x xs hn;have:=x.gx;omega
 |succ n ih=>
 intro x xs hn hb;refine pA hF tM aaJ ?_;have Ko:(2:Nat)^40=1099511627776:=M3
 have MA:=x.gx;have MB:=iz x.attrs;have Hm:=eZ x.kids;unfold ld;simp only[↓aX,mX,seval,df,Tree.av,Rj,Ww];refine AU (λht=> ?_) (λht=> ?_)
 ·simp only[↓aX,mX,seval];have h1:=iB false x.s;have hw:=x.gx;refine mI (l:= .par 0) (N:= .gen 14) (hE xs x.s false sf) aas aai aat abm ?_ ?_
  ·simp only[↓aX,mX,seval,YT,x.yh ht];exact⟨.gen 14,rfl,aai⟩
  simp only[↓aX,mX,seval,YT,x.yh ht];exact⟨.par 0,rfl,aai⟩
 simp only[↓aX,mX,seval];have HG:x.sh=60::x.s++akW x.attrs++nj x.s x.kids:=x.QO ht;refine⟨aax,?_⟩;rw[gT (z:=60) 60 rfl (xs:=xs) aai rfl sf aav abp];simp only[↓aX,mX,seval,Lb.app,Lb.fresh];rw[gj (xs:=xs++a7 [60]) aai (by simp[a_]) sf aav abp];simp only[↓aX,mX,seval,Lb.app,Lb.fresh];have Lz:∀(a b:Lb) (F:List Lb),a.iQ∈F->b.iQ∈F->∀l:Lb,l=a\/l=b->l.iQ∈F:=by rintro a b F h1 h2 l (rfl|rfl);exact h1;exact h2
 obtain⟨y1,zl⟩:∃y1:Nat->Bs,y1=λj=>60::x.s++akW (x.attrs.take j):=⟨_,rfl⟩;have H9:∀j,(y1 j).length<=1+x.s.length+7*dX x.attrs:=λj=>by
  have:=gy (x.attrs.take j);have:=vX x.attrs j;rw[zl];simp only[ko,gL];omega
 have bV:x.cs.map IV.dQ=[.bool x.text,.str x.s,.list (cD x.attrs),.list (dq x.kids)]:=rfl;refine⟨by rintro l (rfl|rfl);exact .inl rfl;exact .inr rfl,by rintro l (rfl|rfl);exact .inl rfl;exact .inr rfl,?_⟩;refine gb (σ:={j:Nat // j<=x.attrs.length}) (λ_=>[.gen 0,.loc 3]) (λ_ l=>l== .par 0)
  (λq=>[(0,.sl (.gen 0) 1 0 (xs++a7 (y1 q.1)).length),(3,.ptr (.loc 3) 4 0 0),(22,.list (cD x.attrs)),(23,.int .i64 x.attrs.length),(24,.int .i64 q.1)])
  (λq=>[(.gen 0,⟨1,aB (xs++a7 (y1 q.1))⟩),(.loc 3,⟨4,[x.cs.map IV.dQ]⟩)]) (λq=>x.attrs.length - q.1) ⟨0,zd _⟩ (λ_=>rfl) (λq=>by simp[ah,AV.an]) ?_ ⟨[(.gen 0,.gen 20)],?_⟩ ?_
 ·intro q w hw cs jB z hz;simp only[PY,QN,QV] at hw;rcases hw with rfl|rfl
  ·rw[bU jB] at hz;simp at hz
  simp only[bY] at jB;subst jB;rw[lN] at hz;simp at hz
 ·refine pB (x:=x) ?_ ?_ ?_ ?_
  ·simp[ae,zl,akW,a7]
  ·simp[ae,bV]
  ·intro n hn;simp[ae,Hp.none,hn]
  simp[k_,dn,bJ,put,zl,akW,a_,bp,ze,Y_]
 rintro⟨j,hj⟩;have MC:=H9 j;have Kp:ie (λl=>l==Lb.par 0) [(Lb.gen 0,⟨1,aB (xs++a7 (y1 j))⟩),(Lb.loc 3,⟨4,[x.cs.map IV.dQ]⟩)] (.loc 6)= .unused:=by rw[fE tM];rfl
 have uV:∀d,ie (λl=>l==Lb.par 0) [(Lb.gen 0,⟨1,aB (xs++a7 (y1 j))⟩),(Lb.loc 3,⟨4,[x.cs.map IV.dQ]⟩)] (.gen (d+1))= .unused:=λd=>by rw[fE tM];rfl
 have nk:∀d,d≠0->ie (λl=>l==Lb.par 0) [(Lb.gen 0,⟨1,aB (xs++a7 (y1 j))⟩),(Lb.loc 3,⟨4,[x.cs.map IV.dQ]⟩)] (.par d)= .unused:=λd hd=>by rw[fE tM];simp[hd]
 have ij:ie (λl=>l==Lb.par 0) [(Lb.gen 0,⟨1,aB (xs++a7 (y1 j))⟩),(Lb.loc 3,⟨4,[x.cs.map IV.dQ]⟩)] (.gen 0)= .live ⟨1,aB (xs++a7 (y1 j))⟩:=cL.2 aaZ;have qI:ie (λl=>l==Lb.par 0) [(Lb.gen 0,⟨1,aB (xs++a7 (y1 j))⟩),(Lb.loc 3,⟨4,[x.cs.map IV.dQ]⟩)] (.loc 3)= .live ⟨4,[x.cs.map IV.dQ]⟩:=cL.2 aaZ;simp only;generalize ie (λl=>l==Lb.par 0) [(Lb.gen 0,⟨1,aB (xs++a7 (y1 j))⟩),(Lb.loc 3,⟨4,[x.cs.map IV.dQ]⟩)]=H0 at *;simp only[↓aX,mX,seval,G_];by_cases bI:j<x.attrs.length
 ·rw[show decide (((j:Nat):Int)<((x.attrs.length:Nat):Int))=true by simpa using bI];obtain⟨a,ha⟩:∃a,x.attrs[j]?=some a:=⟨_,rX bI⟩;have hw:IntKind.i64.wrap ((j:Int)+1)=((j+1:Nat):Int):=wrap64 sf sf;have Ef:=yy ha;have BY:=gy (x.attrs.take j);have LA:(y1 j).length=1+x.s.length+(akW (x.attrs.take j)).length:=by rw[zl];simp;omega
  simp only[Attr.wt] at Ef;simp only[↓aX,mX,seval,lS,ha,rq,Attr.cJ,Attr.cs,bT];refine⟨Kp,aax,?_⟩;rw[gT (z:=32) 32 rfl (xs:=xs++a7 (y1 j)) (by simp[ae,ij]) rfl aaT aav (by simp[Lb.app,Lb.fresh,ae,uV])];simp only[↓aX,mX,seval,Lb.app,Lb.fresh];rw[gj (xs:=xs++a7 (y1 j)++a7 [32]) aai abC aaT aav (by simp[Lb.app,Lb.fresh,ae,uV])];simp only[↓aX,mX,seval,Lb.app,Lb.fresh];refine⟨by rintro l (rfl|rfl);exact .inl rfl;exact .inr rfl,by rintro l (rfl|rfl);exact .inl rfl;exact .inr rfl,rfl,?_⟩;rw[gj (xs:=xs++a7 (y1 j)++a7 [32]++a7 a.name) (t:=[61,34]) aai abC aaT aav (by simp[Lb.app,Lb.fresh,ae,uV])];simp only[↓aX,mX,seval,Lb.app,Lb.fresh];refine⟨by rintro l (rfl|rfl);exact .inl rfl;exact .inr rfl,?_⟩;have gr:y1 (j+1)=y1 j++([32]++a.name++[61,34]++fG true a.val++[34]):=by rw[zl];simp only[qt ha,iK];simp
  have MD:=iB true a.val;refine Bg (l:= .gen 35) (N:= .gen 38) (hE (xs++a7 (y1 j)++a7 [32]++a7 a.name++a7 [61,34]) a.val true aaT) (by simp[bu,bJ,ft,a_,ze]) aai (by simp[ae,uV]) abm tM tM ?_ ?_
  ·simp only[↓aX,mX,seval,Lb.app,Lb.fresh];rw[gT (z:=34) 34 rfl (xs:=xs++a7 (y1 j)++a7 [32]++a7 a.name++a7 [61,34]++a7 (fG true a.val)) aai rfl aaT aav (by simp[Lb.app,Lb.fresh,ae,uV])];simp only[↓aX,mX,seval,Lb.app,Lb.fresh,hw];refine⟨by rintro l (rfl|rfl);exact .inr (.inl rfl);exact .inr (.inr rfl),⟨j+1,bI⟩,aac,[(.gen 0,.gen 40)],?_⟩;refine pB (x:=x) ?_ ?_ ?_ ?_
   ·simp[ae,gr,a7]
   ·simp[ae,qI]
   ·intro n hn;simp[ae,nk n hn]
   simp[k_,dn,bJ,put,gr,a_];omega
  simp only[↓aX,mX,seval,Lb.app,Lb.fresh];rw[gT (z:=34) 34 rfl (xs:=xs++a7 (y1 j)++a7 [32]++a7 a.name++a7 [61,34]++a7 (fG true a.val)) aai rfl aaT aav (by simp[Lb.app,Lb.fresh,ae,uV])];simp only[↓aX,mX,seval,Lb.app,Lb.fresh,hw];refine⟨by rintro l (rfl|rfl);exact .inl rfl;exact .inr (.inr rfl),⟨j+1,bI⟩,aac,[(.gen 0,.gen 40)],?_⟩;refine pB (x:=x) ?_ ?_ ?_ ?_
  ·simp[ae,gr,a7]
  ·simp[ae,qI]
  ·intro n hn;simp[ae,nk n hn]
  simp[k_,dn,bJ,put,gr,a_];omega
 have XV:x.attrs.take j=x.attrs:=P5 sf;rw[show decide (((j:Nat):Int)<((x.attrs.length:Nat):Int))=false by simpa using bI];have HI:y1 j=60::x.s++akW x.attrs:=by rw[zl];simp only[XV]
 simp only[↓aX,mX,seval,qI,bV,bF];have ME:(je x.kids).length<=7*dE x.kids:=kx _;have Ji:(y1 j).length=1+x.s.length+(akW x.attrs).length:=by rw[HI];simp;omega
 have LB:=gy x.attrs;by_cases sr:x.kids=[]
 ·rw[show(((x.kids.length:Nat):Int)==0)=true by simp[sr]];simp only[↓aX,mX,seval];rw[gj (xs:=xs++a7 (y1 j)) (t:=[47,62]) ij rfl aaT aav (by simp[Lb.app,Lb.fresh,uV])];simp only[↓aX,mX,seval,Lb.app,Lb.fresh,YT];refine⟨.gen 47,?_,?_⟩
  ·simp[HG,sr,nj,HI,a_];omega
  simp[ae,HG,sr,nj,HI,a7]
 have LC:x.kids.length≠0:=λe=>sr (Rg.1 e);rw[show(((x.kids.length:Nat):Int)==0)=false by simp;exact sr];simp only[↓aX,mX,seval];rw[gT (z:=62) 62 rfl (xs:=xs++a7 (y1 j)) ij rfl aaT aav (by simp[Lb.app,Lb.fresh,uV])];simp only[↓aX,mX,seval,Lb.app,Lb.fresh,qI,bV,bF];obtain⟨y2,o8⟩:∃y2:Nat->Bs,y2=λk=>y1 j++[62]++je (x.kids.take k):=⟨_,rfl⟩;have Jj:∀k,(y2 k).length=2+x.s.length+(akW x.attrs).length+(je (x.kids.take k)).length:=λk=>by
  rw[o8];simp only[ko,gL,Rm,Ji];omega
 refine gb (σ:={k:Nat // k<=x.kids.length}) (λ_=>[.gen 0,.loc 3]) (λ_ l=>l== .par 0)
  (λq=>[(0,.sl (.gen 0) 1 0 (xs++a7 (y2 q.1)).length),(3,.ptr (.loc 3) 4 0 0),(52,.list (dq x.kids)),(53,.int .i64 x.kids.length),(54,.int .i64 q.1)])
  (λq=>[(.gen 0,⟨1,aB (xs++a7 (y2 q.1))⟩),(.loc 3,⟨4,[x.cs.map IV.dQ]⟩)]) (λq=>x.kids.length - q.1) ⟨0,zd _⟩ (λ_=>rfl) (λq=>by simp[ah,AV.an]) ?_ ⟨[(.gen 0,.gen 50)],?_⟩ ?_
 ·intro q w hw cs jB z hz;simp only[PY,QN,QV] at hw;rcases hw with rfl|rfl
  ·rw[bU jB] at hz;simp at hz
  simp only[bY] at jB;subst jB;rw[lN] at hz;simp at hz
 ·refine pB (x:=x) ?_ ?_ ?_ ?_
  ·simp[ae,o8,je,a7]
  ·simp[ae,qI]
  ·intro n hn;simp[ae,nk n hn]
  simp[k_,dn,bJ,put,o8,je,a_,bF];omega
 clear Kp uV nk ij qI;rintro⟨k,hk⟩;have FP:=Jj k;have MF:=kx (x.kids.take k);have LD:=vY x.kids k;have LF:ie (λl=>l==Lb.par 0) [(Lb.gen 0,⟨1,aB (xs++a7 (y2 k))⟩),(Lb.loc 3,⟨4,[x.cs.map IV.dQ]⟩)] (.loc 8)= .unused:=by rw[fE tM];rfl
 have uV:∀d,ie (λl=>l==Lb.par 0) [(Lb.gen 0,⟨1,aB (xs++a7 (y2 k))⟩),(Lb.loc 3,⟨4,[x.cs.map IV.dQ]⟩)] (.gen (d+1))= .unused:=λd=>by rw[fE tM];rfl
 have nk:∀d,d≠0->ie (λl=>l==Lb.par 0) [(Lb.gen 0,⟨1,aB (xs++a7 (y2 k))⟩),(Lb.loc 3,⟨4,[x.cs.map IV.dQ]⟩)] (.par d)= .unused:=λd hd=>by rw[fE tM];simp[hd]
 have ij:ie (λl=>l==Lb.par 0) [(Lb.gen 0,⟨1,aB (xs++a7 (y2 k))⟩),(Lb.loc 3,⟨4,[x.cs.map IV.dQ]⟩)] (.gen 0)= .live ⟨1,aB (xs++a7 (y2 k))⟩:=cL.2 aaZ;have qI:ie (λl=>l==Lb.par 0) [(Lb.gen 0,⟨1,aB (xs++a7 (y2 k))⟩),(Lb.loc 3,⟨4,[x.cs.map IV.dQ]⟩)] (.loc 3)= .live ⟨4,[x.cs.map IV.dQ]⟩:=cL.2 aaZ;simp only;generalize ie (λl=>l==Lb.par 0) [(Lb.gen 0,⟨1,aB (xs++a7 (y2 k))⟩),(Lb.loc 3,⟨4,[x.cs.map IV.dQ]⟩)]=H1 at *;simp only[↓aX,mX,seval,G_];by_cases iG:k<x.kids.length
 ·rw[show decide (((k:Nat):Int)<((x.kids.length:Nat):Int))=true by simpa using iG];obtain⟨t,GM⟩:∃t,x.kids[k]?=some t:=⟨_,rX iG⟩;have hw:IntKind.i64.wrap ((k:Int)+1)=((k+1:Nat):Int):=wrap64 sf sf;have LG:=yz GM;have gr:y2 (k+1)=y2 k++t.sh:=by rw[o8];simp only[yx GM];simp
  simp only[↓aX,mX,seval,iy,GM,lT,Tree.cJ,Tree.cs,bT];refine⟨LF,?_⟩;refine mI (l:= .gen 0) (N:= .gen 60) (ih t (xs++a7 (y2 k)) sf aaT) (by simp[bu,bJ,ft,Tree.av]) (by simp[ae,ij]) (by simp[ae,uV]) abm ?_ ?_
  ·simp only[↓aX,mX,seval,hw];refine⟨⟨k+1,iG⟩,aac,[(.gen 0,.gen 60)],?_⟩;refine pB (x:=x) ?_ ?_ ?_ ?_
   ·simp[ae,gr,a7]
   ·simp[ae,qI]
   ·intro n hn;simp[ae,nk n hn]
   simp[k_,dn,bJ,put,gr,a_]
  simp only[↓aX,mX,seval,hw];refine⟨⟨k+1,iG⟩,aac,[(.gen 0,.gen 0)],?_⟩;refine pB (x:=x) ?_ ?_ ?_ ?_
  ·simp[ae,gr,a7]
  ·simp[ae,qI]
  ·intro n hn;simp[ae,nk n hn]
  simp[k_,dn,bJ,put,gr,a_]
 have Kq:x.kids.take k=x.kids:=P5 sf;rw[show decide (((k:Nat):Int)<((x.kids.length:Nat):Int))=false by simpa using iG];rw[Kq] at FP;simp only[↓aX,mX,seval,qI,bV];refine⟨aax,?_⟩;rw[gj (xs:=xs++a7 (y2 k)) (t:=[60,47]) ij rfl aaT aav (by simp[Lb.app,Lb.fresh,uV])];simp only[↓aX,mX,seval,Lb.app,Lb.fresh,qI,bV];rw[gj (xs:=xs++a7 (y2 k)++a7 [60,47]) aai abC aaT aav (by simp[Lb.app,Lb.fresh,ae,uV])];simp only[↓aX,mX,seval,Lb.app,Lb.fresh];rw[gT (z:=62) 62 rfl (xs:=xs++a7 (y2 k)++a7 [60,47]++a7 x.s) aai abC aaT aav (by simp[Lb.app,Lb.fresh,ae,uV])];simp only[↓aX,mX,seval,Lb.app,Lb.fresh,YT];have GN:x.sh=y2 k++[60,47]++x.s++[62]:=by rw[HG,qp _ sr,o8];simp only[Kq,HI];simp
 refine⟨by rintro l (rfl|rfl);exact .inl rfl;exact .inr rfl,by rintro l (rfl|rfl);exact .inl rfl;exact .inr rfl,by rintro l (rfl|rfl);exact .inl rfl;exact .inr rfl,.gen 68,?_,?_⟩
 ·simp[GN,a_];omega
 simp[ae,GN,a7]

def as5 (bL aS aO bC:Nat):AC:=
(aM [aQ 4 (.iC (.c (.str [])))] (.seq (aM [MR 7 0,aQ 8 (.bin .eql (.t 7) (.c (.str []))),MR 9 8,gV 10 9 1,iR 11 9 (.bin .eql (.t 10) (.c (.str []))),sj 12 9 11] (.cond (.t 12) (aM [MR 13 0,MR 4 13] .ret) .skip)) (.seq (aM [MR 14 1,oF 15 14,eY 16 .eql 15 1,MR 17 16,cU 18 17 1,dW 19 17 (.lj (.t 18) (jS 0)),dW 20 17 (.bin .lss (.t 19) (.c (.int .u8 128))),jT 21 17 20] (.cond (.t 21) (aM [MR 22 0,MR 23 1,aQ 24 (.lj (.t 23) (jS 0)),aQ 25 (.call bL [(.t 22),(.t 24)]),MR 4 25] .ret) .skip)) (.seq (aM [MR 27 1,aQ 28 (.call aS [(.t 27)]),MR 26 28,ox 29 26 0,ox 30 26 1,aQ 5 (.new (List.replicate 256 (.bool false))),gg (.store 256 (.t 5) (.t 29)),MR 6 30] (aM [MR 31 6] (.cond (.t 31) (aM [MR 32 0,aQ 33 (.call aO [(.t 32),(.t 5)]),MR 4 33] .ret) .skip))) (aM [MR 34 0,MR 35 1,aQ 36 (.call bC [(.t 34),(.t 35)]),MR 4 36] .ret)))))
def Eh {cf aS aO bL bC:Nat} (hF:aw P G cf=some (37,[(none,4)],(as5 bL aS aO bC).bare)) (s t:Bs) (hs:s.length<=B) (ht:2<=t.length)
  (hM:au P G aS [.str t] (.gf [.agg (eh (er t)),.bool true]))
  (hL:cR P G aO [.str s,.ptr (.par 0) 256 0 0] (eh (er t)) λx cs=>x= .str (dB (er t) s)/\cs=eh (er t)) :
  au P G cf [.str s,.str t] (.str (dB (er t) s)):=by
 refine aR hF tM aae aad ?_;unfold as5;simp only[↓aX,mX,reduceCtorEq,Int.reduceLT,Nat.reduceEqDiff,Int.reduceLE,Nat.reduceLT,Nat.reduceLeDiff,Nat.reduceAdd,Nat.reduceMul,Int.reduceToNat];have e1:(t==[])=false:=by cases t<;>simp_all
 have e2:(((t.length:Nat):Int)==1)=false:=by rw[SV];omega
 cases wo:(s==[]) with
 |true=>
  have:s=[]:=by simpa using wo
  subst this;simp only[↓aX,mX,seval];rfl
 |false=>
 simp only[↓aX,mX,reduceCtorEq,Int.reduceLT,Nat.reduceEqDiff,Int.reduceLE,Nat.reduceLT,Nat.reduceLeDiff,Nat.reduceAdd,Nat.reduceMul,Int.reduceToNat,e1,e2];refine ay hM ?_;simp only[↓aX,mX,reduceCtorEq,Int.reduceLT,Nat.reduceEqDiff,Int.reduceLE,Nat.reduceLT,Nat.reduceLeDiff,Nat.reduceAdd,Nat.reduceMul,Int.reduceToNat,VC,qo,bc,mz,mA,od,SU];refine bj (l:= .loc 5) hL rfl (by simp only[↓aX,mX,seval,bc]) ?_;rintro x1 dF ⟨rfl,rfl⟩ _ _ _;simp only[↓aX,mX,reduceCtorEq,Int.reduceLT,Nat.reduceEqDiff,Int.reduceLE,Nat.reduceLT,Nat.reduceLeDiff,Nat.reduceAdd,Nat.reduceMul,Int.reduceToNat,bc,VC]
def Bl (c:UInt8):er [32,10] c.toNat=isSp c:=by
 have:∀n:Fin 256,er [32,10] (UInt8.ofNat n.val).toNat=isSp (UInt8.ofNat n.val):=aax
 have h:=this ⟨c.toNat,c.toNat_lt⟩;simpa using h
def Bm (s:Bs):dB (er [32,10]) s=s.dropWhile isSp:=by
 unfold dB;congr 1;funext c;exact Bl c
abbrev cG (s:Bs) (b:Bool):List AV:=[.str s,.bool b]
def cZ (p s:Bs):Bs:=if p.isPrefixOf s then s.drop p.length else s
def ic (p s:Bs):(cZ p s).length<=s.length:=by unfold cZ;split<;>simp
def gd (bZ:Nat):AC:=
(aM [jM 4 false] (aM [MR 8 0,aQ 9 (.dp (.t 8)),ep 10 9 0,fm 11 10,MR 12 1,aQ 13 (.call bZ [(.t 11),(.t 12)]),MR 7 13,ox 14 7 0,ox 15 7 1,MR 5 14,MR 6 15] (.seq (aM [MR 16 6] (.cond (.t 16) (.cq [MR 17 0,MR 18 5,aQ 19 (.dp (.t 17)),ep 20 19 0,gg (.store 1 (.t 20) (.t 18))]) .skip)) (aM [MR 21 6,MR 4 21] .ret))))
def Jl {aI bZ:Nat} (hF:aw P G aI=some (22,[(none,4)],(gd bZ).bare)) (hC:∀s t:Bs,au P G bZ [.str s,.str t] (.gf [.str (if t.isPrefixOf s then s.drop t.length else s),.bool (t.isPrefixOf s)])) (s p:Bs) (b:Bool) :
  cR P G aI [.ptr (.par 0) 2 0 0,.str p] (cG s b) λx cs=>x= .bool (p.isPrefixOf s)/\cs=cG (cZ p s) b:=by
 refine dw hF tM aae aae ?_;unfold gd;simp only[↓aX,mX,seval,Oj];refine ay (hC s p) ?_;cases h:p.isPrefixOf s with
 |true=>
  simp only[↓aX,mX,seval,YT];exact⟨cG (cZ p s) b,by simp[ae,cZ,h,ah,AV.an]⟩
 |false=>
 simp only[↓aX,mX,seval,YT];exact⟨cG (cZ p s) b,by simp[ae,cZ,h,ah,AV.an]⟩
def e_ (aI:Nat):AC:=
(aM [MR 4 0,MR 5 1,aQ 6 (.call aI [(.t 4),(.t 5)]),sB 7 6] (.cond (.t 7) (.cq [MR 8 0,aQ 9 (.dp (.t 8)),ep 10 9 1,gg (.store 1 (.t 10) (me true))]) .skip))
def Ei {aP aI:Nat} (hF:aw P G aP=some (11,[],(e_ aI).bare)) (s p:Bs) (b:Bool)
  (hA:cR P G aI [.ptr (.par 0) 2 0 0,.str p] (cG s b) λx cs=>x= .bool (p.isPrefixOf s)/\cs=cG (cZ p s) b) :
  cR P G aP [.ptr (.par 0) 2 0 0,.str p] (cG s b) λx cs=>cs=cG (cZ p s) (b|| !p.isPrefixOf s):=by
 refine dw hF tM aae aae ?_;unfold e_;simp only[↓aX,mX,seval,Oj];refine bj (l:= .par 0) hA aas aai ?_;rintro x1 dF ⟨rfl,rfl⟩ _ _ _;cases h:p.isPrefixOf s with
 |true=>
  simp only[↓aX,mX,seval,QK,lM,ef,gD];exact⟨_,rfl,cG (cZ p s) (b|| !p.isPrefixOf s),by simp[ae,h,ah,AV.an]⟩
 |false=>
 simp only[↓aX,mX,seval,QI,lM,ef,gD];exact⟨_,rfl,cG (cZ p s) (b|| !p.isPrefixOf s),by simp[ae,h,ah,AV.an]⟩
def eU (cf:Nat):AC:=
(aM [jM 2 false] (aM [MR 4 0,aQ 5 (.dp (.t 4)),ep 6 5 0,fm 7 6,oF 8 7,MR 3 8] (aM [MR 9 0,MR 10 0,aQ 11 (.dp (.t 10)),ep 12 11 0,fm 13 12,aQ 14 (.call cf [(.t 13),(.c (.str [32,10]))]),aQ 15 (.dp (.t 9)),ep 16 15 0,gg (.store 1 (.t 16) (.t 14))] (aM [MR 17 0,aQ 18 (.dp (.t 17)),ep 19 18 0,fm 20 19,oF 21 20,MR 22 3,et 23 .lss 21 22,MR 2 23] .ret))))
def SB {bf cf:Nat} (hF:aw P G bf=some (24,[(none,2)],(eU cf).bare)) (s:Bs) (b:Bool) (hT:au P G cf [.str s,.str [32,10]] (.str (s.dropWhile isSp))) :
  cR P G bf [.ptr (.par 0) 2 0 0] (cG s b) λx cs=>x= .bool (decide ((s.dropWhile isSp).length<s.length))/\cs=cG (s.dropWhile isSp) b:=by
 refine dw hF tM aae aae ?_;unfold eU;simp only[↓aX,mX,seval,Oj];refine ay hT ?_;simp only[↓aX,mX,seval,YT];exact⟨cG (s.dropWhile isSp) b,by simp[ae,ah,AV.an]⟩
def yC {p:UInt8->Bool}:∀{s:Bs} {i:Nat} {c:UInt8},s[i]?=some c->(∀x∈s.take i,p x=true)->(p c=true->∀x∈s.take (i+1),p x=true)/\(p c=false->s.takeWhile p=s.take i/\s.dropWhile p=s.drop i):=by
 intro s i c h hi;refine⟨λhc x hx=> ?_,λhc=> ?_⟩
 ·rw[Ro,h] at hx;simp only[Wx,QL,bY] at hx;rcases hx with hx|rfl
  ·exact hi x hx
  exact hc
 have hl:=(yY.1 h).1;have e:s=s.take i++s.drop i:=(tO i s).symm;have hd:s.drop i=c::s.drop (i+1):=by
  rw[EK hl];congr 1;exact(yY.1 h).2
 have h2:(s.take i++s.drop i).takeWhile p=s.take i/\(s.take i++s.drop i).dropWhile p=s.drop i:=
  ata (s.take i) (s.drop i) hi (λc' q hq=>by rw[hd] at hq;cases hq;exact hc)
 rw[tO] at h2;exact h2
def vZ {p:UInt8->Bool} {s:Bs} (h:∀x∈s,p x=true):s.takeWhile p=s/\s.dropWhile p=[]:=by
 have:=ata (p:=p) s [] h tM;simpa using this
def yD (c:UInt8):akP c=(decide ((c.toNat:Int)>=97)&&decide ((c.toNat:Int)<=122)):=by
 unfold akP;congr 1
 ·rw[Xn,U_];show 97<=_↔_;omega
 rw[Xn,U_];show _<=122↔_;omega
def fa:AC:=
(aM [aQ 2 (.iC (.c (.str [])))] (aM [gH 3 0] (.seq (.block 0 (.loop (.seq (aM [MR 5 3,MR 6 0,aQ 7 (.dp (.t 6)),ep 8 7 0,fm 9 8,oF 10 9,et 11 .lss 5 10,MR 12 11,cU 13 12 0,dW 14 12 (.dp (.t 13)),Wb 15 12 14 0,jm 16 12 15,cU 17 12 3,dW 18 12 (.lj (.t 16) (.t 17)),dW 19 12 (.bin .geq (.t 18) (.c (.int .u8 97))),jT 20 12 19,MR 21 20,cU 22 21 0,dW 23 21 (.dp (.t 22)),Wb 24 21 23 0,jm 25 21 24,cU 26 21 3,dW 27 21 (.lj (.t 25) (.t 26)),dW 28 21 (.bin .leq (.t 27) (.c (.int .u8 122))),jT 29 21 28] (.cond (.t 29) .skip (.exit 0))) (.block 1 (.cq [MR 30 3,eY 31 .add 30 1,MR 3 31]))))) (aM [MR 32 0,aQ 33 (.dp (.t 32)),ep 34 33 0,fm 35 34,MR 36 3,aQ 37 (.ZL (.t 35) none (some (.t 36))),MR 4 37] (aM [MR 38 0,MR 39 0,aQ 40 (.dp (.t 39)),ep 41 40 0,fm 42 41,MR 43 3,aQ 44 (.ZL (.t 42) (some (.t 43)) none),aQ 45 (.dp (.t 38)),ep 46 45 0,gg (.store 1 (.t 46) (.t 44))] (aM [MR 47 0,MR 48 0,aQ 49 (.dp (.t 48)),ep 50 49 1,fm 51 50,MR 52 51,gV 53 52 3,iR 54 52 (.bin .eql (.t 53) (jS 0)),sj 55 52 54,MR 56 55,gV 57 56 3,iR 58 56 (.bin .gtr (.t 57) (jS 8)),sj 59 56 58,aQ 60 (.dp (.t 47)),ep 61 60 1,gg (.store 1 (.t 61) (.t 59))] (aM [MR 62 4,MR 2 62] .ret)))))))
def Ej {bb:Nat} (hF:aw P G bb=some (63,[(none,2)],fa.bare)) (s:Bs) (hs:s.length<=B) (b:Bool) :
  cR P G bb [.ptr (.par 0) 2 0 0] (cG s b) λx cs=>x= .str (s.takeWhile akP)/\cs=cG (s.dropWhile akP) (b||(decide (s.takeWhile akP=[])||decide (8<(s.takeWhile akP).length))):=by
 refine dw hF tM aae aae ?_;have zo:B=1073741824:=rfl;unfold fa;simp only[↓aX,mX,seval,Oj];refine ca (σ:={i:Nat // i<=s.length/\∀c∈s.take i,akP c=true}) [.par 0] (λq=>[(0,.ptr (.par 0) 2 0 0),(3,.int .i64 q.1)]) (λ_=>[(.par 0,⟨2,[cG s b]⟩)]) (λq=>s.length - q.1) ⟨0,tM⟩ (λ_=>rfl) M3 aae aae ?_ ?_
 ·refine eL ?_ aah aah;intro l hl hu;by_cases e:l= .par 0
  ·subst e;simp
  exfalso;apply hu;simp[ae,e,Hp.none]
 rintro⟨i,hi,dN⟩;simp only[↓aX,mX,seval,cF,bW];have fin:s.takeWhile akP=s.take i->(((i:Nat):Int)==0)=decide (s.takeWhile akP=[])/\decide (((i:Nat):Int)>8)=decide (8<(s.takeWhile akP).length):=by
  intro h1;rw[h1];constructor
  ·rw[SZ,S',dj,<-Rg,tp];omega
  rw[Xn,tp];omega
 by_cases bI:i<s.length
 ·rw[show decide (((i:Nat):Int)<((s.length:Nat):Int))=true by simpa using bI];obtain⟨c,hc⟩:=an' bI;have hw:IntKind.i64.wrap ((i:Int)+1)=((i+1:Nat):Int):=wrap64 sf sf;have g_:=yC hc dN;rw[yD] at g_;simp only[↓aX,mX,seval,hc,QJ,Qj];have next:(decide ((c.toNat:Int)>=97)&&decide ((c.toNat:Int)<=122))=true->∃q:{i:Nat // i<=s.length/\∀c∈s.take i,akP c=true},q.1=i+1:=λh=>⟨⟨i+1,bI,g_.1 h⟩,rfl⟩
  have stop:(decide ((c.toNat:Int)>=97)&&decide ((c.toNat:Int)<=122))=false->s.takeWhile akP=s.take i/\s.dropWhile akP=s.drop i:=g_.2;cases h1:decide ((c.toNat:Int)>=97) with
  |false=>
   obtain⟨e1,e2⟩:=stop (by rw[h1];rfl);simp only[↓aX,mX,seval,lk,QJ,Qj,Su,hi,Rc,EF,bT,Xa,tn,zd,Rk,PW];obtain⟨f1,f2⟩:=fin e1;cases b with
   |true=>
    simp only[↓aX,mX,seval,YT];exact⟨cG (s.dropWhile akP) true,by simp[ae,ah,AV.an,e1,e2]⟩
   |false=>
   simp only[↓aX,mX,seval,f1];cases h3:decide (s.takeWhile akP=[]) with
   |true=>
    simp only[↓aX,mX,seval,YT];refine⟨cG (s.dropWhile akP) true,?_⟩;rw[<-e1,<-e2];simp[ae,ah,AV.an,h3]
   |false=>
   simp only[↓aX,mX,seval,f2,YT];refine⟨cG (s.dropWhile akP) (decide (8<(s.takeWhile akP).length)),?_⟩;rw[<-e1,<-e2];simp[ae,ah,AV.an,h3]
  |true=>
  simp only[↓aX,mX,seval,hc,QJ,Qj];cases h2:decide ((c.toNat:Int)<=122) with
  |false=>
   obtain⟨e1,e2⟩:=stop (by rw[h1,h2];rfl);simp only[↓aX,mX,seval,lk,QJ,Qj,Su,hi,Rc,EF,bT,Xa,tn,zd,Rk,PW];obtain⟨f1,f2⟩:=fin e1;cases b with
   |true=>
    simp only[↓aX,mX,seval,YT];exact⟨cG (s.dropWhile akP) true,by simp[ae,ah,AV.an,e1,e2]⟩
   |false=>
   simp only[↓aX,mX,seval,f1];cases h3:decide (s.takeWhile akP=[]) with
   |true=>
    simp only[↓aX,mX,seval,YT];refine⟨cG (s.dropWhile akP) true,?_⟩;rw[<-e1,<-e2];simp[ae,ah,AV.an,h3]
   |false=>
   simp only[↓aX,mX,seval,f2,YT];refine⟨cG (s.dropWhile akP) (decide (8<(s.takeWhile akP).length)),?_⟩;rw[<-e1,<-e2];simp[ae,ah,AV.an,h3]
  |true=>
  simp only[↓aX,mX,seval,hw];refine⟨⟨i+1,bI,g_.1 (by rw[h1,h2];rfl)⟩,aac,eL ?_ aah aah⟩;intro l hl hu;by_cases e:l= .par 0
  ·subst e;simp
  exfalso;apply hu;simp[ae,e,Hp.none]
 have XV:s.take i=s:=P5 sf;have zR:s.drop i=[]:=Wv sf;rw[show decide (((i:Nat):Int)<((s.length:Nat):Int))=false by simpa using bI];rw[XV] at dN;obtain⟨e1,e2⟩:s.takeWhile akP=s.take i/\s.dropWhile akP=s.drop i:=by rw[XV,zR];exact vZ dN
 simp only[↓aX,mX,seval,lk,QJ,Qj,Su,hi,Rc,EF,bT,Xa,tn,zd,Rk,PW];obtain⟨f1,f2⟩:=fin e1;cases b with
 |true=>
  simp only[↓aX,mX,seval,YT];exact⟨cG (s.dropWhile akP) true,by simp[ae,ah,AV.an,e1,e2]⟩
 |false=>
 simp only[↓aX,mX,seval,f1];cases h3:decide (s.takeWhile akP=[]) with
 |true=>
  simp only[↓aX,mX,seval,YT];refine⟨cG (s.dropWhile akP) true,?_⟩;rw[<-e1,<-e2];simp[ae,ah,AV.an,h3]
 |false=>
 simp only[↓aX,mX,seval,f2,YT];refine⟨cG (s.dropWhile akP) (decide (8<(s.takeWhile akP).length)),?_⟩;rw[<-e1,<-e2];simp[ae,ah,AV.an,h3]
end

section
variable {P:Program} {G:Nat->Option (List IV)}
def iO:List Bs:=[qH,rC,kD,jc]
def abw {p:Prop} (h:p:=by simp[bu,bJ,ft,iO,qH,rC,kD,jc]):p:=h
def ma (s:Bs):List Bs->Nat->Option (Nat×Bs)
 |[],_=>none
 |p::r,i=>if p.isPrefixOf s then some (i,s.drop p.length) else ma s r (i+1)
theorem mJ {s:Bs}:∀{l:List Bs} {n i:Nat},(∀p∈l.take n,p.isPrefixOf s=false)->n<=l.length->ma s l i=ma s (l.drop n) (i+n)
 |l,0,i,_,_=>by simp
 |[],n+1,i,_,h=>by simp at h
 |p::r,n+1,i,hp,h=>by
  have h1:p.isPrefixOf s=false:=hp p tM;have:=mJ (s:=s) (l:=r) (n:=n) (i:=i+1) (λq hq=>hp q (by simp[hq])) (by simpa using h);simp only[ma,h1,jy,nX,SX,this,ze,Y_ 1 n]
def cA:AC:=
(aM [gH 4 0] (.seq (aM [MR 6 0,oy 7 6,gH 8 0] (.block 0 (.loop (aM [et 9 .lss 8 7] (.seq (.cond (.t 9) .skip (.exit 0)) (.seq (.block 1 (aM [MR 10 8,MR 5 10] (aM [MR 11 1,MR 12 0,MR 13 5,jL 14 12 13 1,fm 15 14,aQ 16 (.fM (.t 11) [(.t 15)])] (.cond (.t 16) (aM [MR 17 5,MR 4 17] .ret) .skip)))) (.cq [eY 18 .add 8 1,MR 8 18]))))))) (aM [aQ 4 (.iC (.c (.int .i64 (-1))))] .ret)))
theorem Bo {aZ aI:Nat} (hF:aw P G aZ=some (19,[(none,4)],cA.bare)) (hB:fU P aI=true)
  (hA:∀(s p:Bs) (b:Bool),cR P G aI [.ptr (.par 0) 2 0 0,.str p] (cG s b) λx cs=>x= .bool (p.isPrefixOf s)/\cs=cG (cZ p s) b) (s:Bs) (b:Bool) :
  cR P G aZ [.list (iO.map IV.str),.fn aI [.ptr (.par 0) 2 0 0] []] (cG s b) λx cs=>
   match ma s iO 0 with
   |some (i,r)=>x= .int .i64 (i:Nat)/\cs=cG r b
   |none=>x= .int .i64 (-1)/\cs=cG s b:=by
 refine dw hF tM aae aae ?_;unfold cA;simp only[↓aX,mX,seval,Oj];refine ca (σ:={i:Nat // i<=4/\∀p∈iO.take i,p.isPrefixOf s=false}) [.par 0] (λq=>[(0,.list (iO.map IV.str)),(1,.fn aI [.ptr (.par 0) 2 0 0] []),(7,.int .i64 4),(8,.int .i64 q.1)]) (λ_=>[(.par 0,⟨2,[cG s b]⟩)]) (λq=>4 - q.1) ⟨0,tM⟩ (λ_=>rfl) M3 aae aae ?_ ?_
 ·refine eL ?_ aah aah;intro l hl hu;by_cases e:l= .par 0
  ·subst e;simp
  exfalso;apply hu;simp[ae,e,Hp.none]
 rintro⟨i,hi,dN⟩;simp only[↓aX,mX,seval,cF,bW];have LH:jV 1 (iO.map IV.str):=by
  intro x hx;obtain⟨c,_,rfl⟩:=pb.1 hx;rfl
 by_cases bI:i<4
 ·rw[show decide (((i:Nat):Int)<(4:Int))=true by simp;omega];obtain⟨p,hp⟩:∃p,iO[i]?=some p:=⟨_,rX bI⟩;have hw:IntKind.i64.wrap ((i:Int)+1)=((i+1:Nat):Int):=wrap64 sf sf;have LI:(iO.map IV.str)[i]?=some (.str p):=by rw[cn,hp];rfl
  have Jn:ma s iO 0=ma s (p::iO.drop (i+1)) i:=by
   rw[mJ dN (by simp[iO];omega),bM];congr 1;rw[EK (by simpa[iO] using bI)];congr 1;exact(yY.1 hp).2
  simp only[↓aX,mX,seval,QJ,Qj,LI,LH,yE,Ek,IV.cells];refine⟨hB,bj (l:= .par 0) (hA s p b) aas aai ?_⟩;rintro x1 dF ⟨rfl,rfl⟩ _ _ _;cases h:p.isPrefixOf s with
  |true=>
   simp only[↓aX,mX,seval,YT,Jn,ma,h];exact⟨cG (s.drop p.length) b,by simp[ae,ah,AV.an,cZ,h]⟩
  |false=>
  simp only[↓aX,mX,seval,hw];refine⟨⟨i+1,bI,λq hq=> ?_⟩,aac,eL ?_ aah ?_⟩
  ·rw[Ro,hp] at hq;simp only[Wx,QL,bY] at hq;rcases hq with hq|rfl
   ·exact dN q hq
   exact h
  ·intro l hl hu;by_cases e:l= .par 0
   ·subst e;simp
   exfalso;apply hu;simp[ae,e,Hp.none]
  refine⟨by simp[ae,cZ,h],trivial⟩
 have LJ:i=4:=sf
 subst LJ;have Jn:ma s iO 0=none:=by rw[mJ dN (by simp[iO])];rfl
 rw[show decide (((4:Nat):Int)<(4:Int))=false by simp];simp only[↓aX,mX,seval,YT,Jn];exact⟨cG s b,by simp[ae,ah,AV.an]⟩
theorem yF (s:Bs):match ma s iO 0 with
  |some (i,r)=>∃e:UInt8,([60,62,38,34]:Bs)[i]?=some e/\og s=some (e,r)
  |none=>og s=none:=by
 unfold og;simp only[iO,ma];split
 ·rename_i i r h;split at h
  ·rename_i h1;cases h;exact⟨60,rfl,by rw[P8 h1];rfl⟩
  rename_i h1;split at h
  ·rename_i h2;cases h;exact⟨62,rfl,by rw[Ev h1,P8 h2];rfl⟩
  rename_i h2;split at h
  ·rename_i h3;cases h;exact⟨38,rfl,by rw[Ev h1,Ev h2,P8 h3];rfl⟩
  rename_i h3;split at h
  ·rename_i h4;cases h;exact⟨34,rfl,by rw[Ev h1,Ev h2,Ev h3,P8 h4];rfl⟩
  cases h
 rename_i h;split at h
 ·cases h
 rename_i h1;split at h
 ·cases h
 rename_i h2;split at h
 ·cases h
 rename_i h3;split at h
 ·cases h
 rename_i h4;rw[Ev h1,Ev h2,Ev h3,Ev h4]
theorem jj:∀s:Bs,jW (a7 s)=some s
 |[]=>rfl
 |c::s=>by
  have ih:=jj s;unfold a7 at ih ⊢;simp only[Rj,jW,ih];simp
def rO (v:Bool) (s:Bs) (b:Bool) (x:AV) (cs:List AV):Prop:=∃t r b',x= .str t/\cs=cG r b'/\r.length+t.length<=s.length/\(b=true->b'=true) /\
 (b=false->match bm v s with
  |some y=>b'=false/\y=(t,r)
  |none=>b'=true)
def yG (v:Bool) (s:Bs) (b:Bool) (q:Bs×Bs×Bool):Prop:=q.1.length+q.2.1.length<=s.length/\(b=true->q.2.2=true)/\(b=false->if q.2.2 then bm v s=none else bm v s=(bm v q.1).map λy=>(q.2.1++y.1,y.2))
def cI (c:UInt8) (k:Nat) (hk:k<256):((c.toNat:Int)==(k:Int))=(c==UInt8.ofNat k):=by
 rw[SZ];simp only[S'];rw[<-WX];have:(UInt8.ofNat k).toNat=k:=aak
 rw[this];omega
def fk (c:UInt8):arM c=(((c.toNat:Int)==10)|| !(decide ((c.toNat:Int)<32)||decide ((c.toNat:Int)>126))):=by
 have h1:((c.toNat:Int)==10)=(c==10):=cI c 10 M3;unfold arM;rw[h1];congr 1;rw[SZ];simp only[QH,dj,Ve,EI,Tt,U_];show(32<=_/\_<=126)↔_;omega
def alI (aI aZ:Nat):AC:=
(aM [aQ 4 (.iC (.c (.str [])))] (aM [zi 5] (.gh (.own 5 1) (.seq (.block 0 (.loop (.seq (aM [MR 8 0,aQ 9 (.dp (.t 8)),ep 10 9 0,fm 11 10,aQ 12 (.bin .neq (.t 11) (.c (.str []))),MR 13 12,cU 14 13 0,dW 15 13 (.dp (.t 14)),Wb 16 13 15 1,jm 17 13 16,dW 18 13 (.not (.t 17)),jT 19 13 18] (.cond (.t 19) .skip (.exit 0))) (.block 1 (aM [MR 20 0,aQ 21 (.dp (.t 20)),ep 22 21 0,fm 23 22,aQ 24 (.lj (.t 23) (jS 0)),MR 6 24] (.block 2 (aM [MR 38 6,aQ 39 (.bin .eql (.t 38) (.c (.int .u8 60))),MR 40 39,gV 41 40 6,iR 42 40 (.bin .eql (.t 41) (.c (.int .u8 34))),gV 43 40 42,cU 44 43 1,iR 45 40 (.pick (.t 43) (.t 44) (me false)),sj 46 40 45,MR 37 46] (.cond (.t 37) (.gh (.zS (.loc 5) 5) (aM [MR 47 5,aQ 48 (.wm (.t 47)),MR 4 48] .ret)) (aM [MR 50 6,aQ 51 (.bin .eql (.t 50) (.c (.int .u8 38))),MR 49 51] (.cond (.t 49) (aM [aQ 52 (.oD (.c (.lptr [(.str [38,108,116,59]),(.str [38,103,116,59]),(.str [38,97,109,112,59]),(.str [38,113,117,111,116,59])])) 4 1),MR 53 0,aQ 54 (.zh aI [(.t 53)] []),aQ 55 (.call aZ [(.t 52),(.t 54)]),MR 7 55] (.seq (aM [MR 56 7,eY 57 .lss 56 0] (.cond (.t 57) (aM [MR 58 0,aQ 59 (.dp (.t 58)),ep 60 59 1,gg (.store 1 (.t 60) (me true))] (aM [aQ 4 (.iC (.c (.str [])))] .ret)) .skip)) (.cq [MR 61 5,MR 62 7,aQ 63 (.lj (.c (.str [60,62,38,34])) (.t 62)),aQ 64 (.lits 1 1 [(.int .u8 0)] [(0,(.t 63))]),aQ 65 (.app (.t 61) (.t 64) 1 1),MR 5 65]))) (aM [MR 67 6,aQ 68 (.bin .eql (.t 67) (.c (.int .u8 62))),MR 69 68,gV 70 69 6,iR 71 69 (.bin .neq (.t 70) (.c (.int .u8 10))),gV 72 69 71,cU 73 72 6,dW 74 72 (.bin .lss (.t 73) (.c (.int .u8 32))),cU 75 72 74,gV 76 75 6,iR 77 75 (.bin .gtr (.t 76) (.c (.int .u8 126))),dW 78 72 (.pick (.t 75) (me true) (.t 77)),iR 79 69 (.pick (.t 72) (.t 78) (me false)),sj 80 69 79,MR 66 80] (.cond (.t 66) (.cq [MR 81 0,aQ 82 (.dp (.t 81)),ep 83 82 1,gg (.store 1 (.t 83) (me true))]) (aM [MR 25 5,MR 26 6,aQ 27 (.lits 1 1 [(.int .u8 0)] [(0,(.t 26))]),aQ 28 (.app (.t 25) (.t 27) 1 1),MR 5 28] (.cq [MR 29 0,MR 30 0,aQ 31 (.dp (.t 30)),ep 32 31 0,fm 33 32,aQ 34 (.ZL (.t 33) (some (jS 1)) none),aQ 35 (.dp (.t 29)),ep 36 35 0,gg (.store 1 (.t 36) (.t 34))])))))))))))))) (.gh (.zS (.loc 5) 5) (aM [MR 84 5,aQ 85 (.wm (.t 84)),MR 4 85] .ret))))))
theorem El {bo aZ aI:Nat} (hF:aw P G bo=some (86,[(none,4)],(alI aI aZ).bare)) (hI:∀(s:Bs) (b:Bool),
  cR P G aZ [.list (iO.map IV.str),.fn aI [.ptr (.par 0) 2 0 0] []] (cG s b) λx cs=>
   match ma s iO 0 with
   |some (i,r)=>x= .int .i64 (i:Nat)/\cs=cG r b
   |none=>x= .int .i64 (-1)/\cs=cG s b) (v:Bool) (s:Bs) (hs:s.length<=B) (b:Bool) :
  cR P G bo [.ptr (.par 0) 2 0 0,.bool v] (cG s b) (rO v s b):=by
 refine dw hF tM aae aae ?_;have zo:B=1073741824:=rfl;unfold alI;simp only[↓aX,mX,seval,Oj];refine gb (σ:={q:Bs×Bs×Bool // yG v s b q}) (λ_=>[.par 0,.loc 5]) (λ_ _=>false)
  (λq=>[(0,.ptr (.par 0) 2 0 0),(1,.bool v),(5,.sl (.loc 5) 1 0 q.1.2.1.length)])
  (λq=>[(.par 0,⟨2,[cG q.1.1 q.1.2.2]⟩),(.loc 5,⟨1,aB (a7 q.1.2.1)⟩)]) (λq=>2*q.1.1.length+(if q.1.2.2 then 0 else 1)) ⟨(s,[],b),tM,λh=>h,λh=> ?_⟩ (λ_=>rfl) (λq=>by simp[ah,AV.an]) ?_ ⟨[],?_⟩ ?_
 ·simp only[h,jy,nX];cases bm v s<;>simp
 ·intro q w hw cs jB z hz;simp only[PY,QN,QV] at hw;rcases hw with rfl|rfl
  ·simp only[bY] at jB;subst jB;simp[ah,AV.an] at hz
  rw[bU jB] at hz;simp at hz
 ·refine⟨?_,?_,?_,aar,aar⟩
  ·intro l hf hu;left;cases l<;>simp[Lb.entry] at hf;rename_i n;by_cases e:n=0
   ·subst e;simp
   exfalso;apply hu;simp[ae,Hp.none,e]
  ·simp[k_,dn,bJ,put,jP]
  simp[tc,dn,ae,dO,bu,bJ,a7,aB]
 rintro⟨⟨r,t,bad⟩,hlen,qE,nL⟩;simp only at hlen qE nL;have hU:∀d,d≠5->ie (λ_=>false) [(Lb.par 0,⟨2,[cG r bad]⟩),(Lb.loc 5,⟨1,aB (a7 t)⟩)] (.loc d)= .unused:=λd hd=>by rw[fE (by simp[hd])];rfl
 have nk:∀d,d≠0->ie (λ_=>false) [(Lb.par 0,⟨2,[cG r bad]⟩),(Lb.loc 5,⟨1,aB (a7 t)⟩)] (.par d)= .unused:=λd hd=>by rw[fE (by simp[hd])];rfl
 have ij:ie (λ_=>false) [(Lb.par 0,⟨2,[cG r bad]⟩),(Lb.loc 5,⟨1,aB (a7 t)⟩)] (.par 0)= .live ⟨2,[cG r bad]⟩:=cL.2 aaZ;have oB:ie (λ_=>false) [(Lb.par 0,⟨2,[cG r bad]⟩),(Lb.loc 5,⟨1,aB (a7 t)⟩)] (.loc 5)= .live ⟨1,aB (a7 t)⟩:=cL.2 aaZ;simp only;generalize ie (λ_=>false) [(Lb.par 0,⟨2,[cG r bad]⟩),(Lb.loc 5,⟨1,aB (a7 t)⟩)]=H0 at *;have sk:((a7 t).drop 0).take t.length=a7 t:=by rw[tn,P5 (by rw[a_];exact PW _)]
 have qB:0+t.length<=(a7 t).length:=by rw[a_];omega
 have fin:∀(H1:Hp),H1 (.par 0)= .live ⟨2,[cG r bad]⟩->(bad=false->∃y,bm v r=some y/\y=([],r))->∃dF,rO v s b (.str t) dF/\(AV.str t).an=[]/\ah dF=[]/\dF.length=2/\H1 (.par 0)= .live ⟨2,[dF]⟩:=by
  intro H1 h1 h2;refine⟨cG r bad,⟨t,r,bad,rfl,rfl,hlen,qE,λhb=> ?_⟩,rfl,aae,rfl,h1⟩;have h3:=nL hb;cases bad with
  |true=>simp only[Rc] at h3;rw[h3]
  |false=>
  obtain⟨y,hy,rfl⟩:=h2 rfl;simp only[jy,nX,hy,bT,SU] at h3;rw[h3];exact⟨rfl,rfl⟩
 simp only[↓aX,mX,seval,ij]
 match r,hlen,nL,ij,fin with
 |[],hlen,nL,ij,fin=>
  simp only[↓aX,mX,seval,show(([]:Bs)==[])=true from rfl,QK];refine⟨1,a7 t,0,t.length,rfl,oB,qB,jh t,?_⟩;rw[sk];simp only[↓aX,mX,seval,sJ,jj,bT,YT];exact fin _ (by simp[ae,ij]) (λ_=>⟨_,vW v,rfl⟩)
 |c::q,hlen,nL,ij,fin=>
  simp only[↓aX,mX,seval,show((c::q:Bs)==[])=false from rfl,QI,ij];cases bad with
  |true=>
   simp only[↓aX,mX,seval,QK];refine⟨1,a7 t,0,t.length,rfl,oB,qB,jh t,?_⟩;rw[sk];simp only[↓aX,mX,seval,sJ,jj,bT,YT];exact fin _ (by simp[ae,ij]) (λh=>by cases h)
  |false=>
  have Cm:b=false:=by cases b with|true=>exact absurd (qE rfl) tM|false=>rfl
  have ke:=nL Cm;simp only[jy,nX] at ke;have GL:((c.toNat:Int)==60)=(c==60):=cI c 60 M3;have E6:((c.toNat:Int)==62)=(c==62):=cI c 62 M3;have HF:((c.toNat:Int)==38)=(c==38):=cI c 38 M3;have Jh:((c.toNat:Int)==34)=(c==34):=cI c 34 M3;simp only[↓aX,mX,seval,QI,ij,show((0:Int)).toNat=0 from rfl,RA,GL];have stop:yu v c->∃y,bm v (c::q)=some y/\y=([],c::q):=λh=>⟨_,aou h q,rfl⟩;by_cases tv:c=60
  ·rw[show(c==60)=true by simp[tv]];simp only[↓aX,mX,seval];refine⟨1,a7 t,0,t.length,rfl,oB,qB,jh t,?_⟩;rw[sk];simp only[↓aX,mX,seval,sJ,jj,bT,YT];exact fin _ (by simp[ae,ij]) (λ_=>stop (.inl tv))
  rw[show(c==60)=false by simp[tv]];simp only[↓aX,mX,seval,QI,Jh];have next:∀(e:UInt8) (r':Bs) (d:Nat) (env:Env),bm v (c::q)=(bm v r').map (λx=>(e::x.1,x.2))->r'.length<(c::q).length->env 0= .ptr (.par 0) 2 0 0->env 1= .bool v->env 5= .sl (.loc d) 1 0 (t.length+1)->∀(H1:Hp),H1 (.par 0)= .live ⟨2,[cG r' false]⟩->H1 (.loc d)= .live ⟨1,aB (a7 t++a7 [e])⟩->(∀n,n≠0->H1 (.par n)= .unused) ->
    ∃q':{q:Bs×Bs×Bool // yG v s b q},2*q'.1.1.length+(if q'.1.2.2 then 0 else 1)<2*(c::q).length+1/\∃m,WE [.par 0,.loc 5] (λ_=>false) [(0,.ptr (.par 0) 2 0 0),(1,.bool v),(5,.sl (.loc 5) 1 0 q'.1.2.1.length)]
     [(.par 0,⟨2,[cG q'.1.1 q'.1.2.2]⟩),(.loc 5,⟨1,aB (a7 q'.1.2.1)⟩)] env H1 m:=by
   intro e r' d env h1 h2 h3 h4 h5 H1 h6 h7 h8;refine⟨⟨(r',t++[e],false),?_,qE,λ_=> ?_⟩,?_,[(.loc 5,.loc d)],?_,?_,?_,aar,?_⟩
   ·simp only[ko,gL,Rm] at hlen h2 ⊢;omega
   ·simp only[jy,nX];rw[ke,h1];cases bm v r'<;>simp
   ·simp only[jy,nX];omega
   ·intro l hf hu;left;cases l<;>simp[Lb.entry] at hf;rename_i n;by_cases e0:n=0
    ·subst e0;simp
    exact absurd (h8 n e0) hu
   ·simp[k_,h3,h4,h5,bJ,dn]
   ·refine⟨by simp[dn,dO,bu,bJ,h6],by simp[dn,dy,h7,rK],trivial⟩
   intro l hl;simp only[PY,QN,QV] at hl;rcases hl with rfl|rfl
   ·simp[dn]
   simp[dn,Lb.fresh,Lb.entry]
  have v7:∀(env:Env) (H1:Hp),bm v (c::q)=none->env 0= .ptr (.par 0) 2 0 0->env 1= .bool v->env 5= .sl (.loc 5) 1 0 t.length->H1 (.par 0)= .live ⟨2,[cG (c::q) true]⟩->H1 (.loc 5)= .live ⟨1,aB (a7 t)⟩->(∀n,n≠0->H1 (.par n)= .unused) ->
    ∃q':{q:Bs×Bs×Bool // yG v s b q},2*q'.1.1.length+(if q'.1.2.2 then 0 else 1)<2*(c::q).length+1/\∃m,WE [.par 0,.loc 5] (λ_=>false) [(0,.ptr (.par 0) 2 0 0),(1,.bool v),(5,.sl (.loc 5) 1 0 q'.1.2.1.length)]
     [(.par 0,⟨2,[cG q'.1.1 q'.1.2.2]⟩),(.loc 5,⟨1,aB (a7 q'.1.2.1)⟩)] env H1 m:=by
   intro env H1 h1 h3 h4 h5 h6 h7 h8;refine⟨⟨(c::q,t,true),hlen,λ_=>rfl,λ_=> ?_⟩,?_,[],?_,?_,?_,aar,aar⟩
   ·simp only[Rc];rw[ke,h1];rfl
   ·simp only[Rc];omega
   ·intro l hf hu;left;cases l<;>simp[Lb.entry] at hf;rename_i n;by_cases e0:n=0
    ·subst e0;simp
    exact absurd (h8 n e0) hu
   ·simp[k_,h3,h4,h5,bJ,dn]
   refine⟨by simp[dn,dO,bu,bJ,h6],by simp[dn,dy,h7],trivial⟩
  by_cases GO:c=34/\v=true
  ·rw[show(c==34)=true by simp[GO.1]];simp only[↓aX,mX,seval];refine AU (λ_=> ?_) (λhv=>by rw[GO.2] at hv;cases hv);simp only[↓aX,mX,seval];refine⟨1,a7 t,0,t.length,rfl,oB,qB,jh t,?_⟩;rw[sk];simp only[↓aX,mX,seval,sJ,jj,bT,YT];exact fin _ (by simp[ae,ij]) (λ_=>stop (.inr GO))
  have np:¬yu v c:=λh=>h.elim tv GO;cases Jo:(c==34) with
  |true=>
   simp only[↓aX,mX,seval];refine AU (λhv=>absurd ⟨by simpa using Jo,hv⟩ GO) (λ_=> ?_);simp only[↓aX,mX,seval,HF];by_cases qv:c=38
   ·rw[show(c==38)=true by simp[qv]];simp only[↓aX,mX,seval];rw[P8 ⟨rfl,M3,by intro y hy;simp only[PY,QN,QV] at hy;rcases hy with rfl|rfl|rfl|rfl<;>rfl⟩];simp only[↓aX,mX,seval];refine bj (l:= .par 0) (hI (c::q) false) abw (by simp[ij]) ?_;intro x1 dF hx _ _ _;have hK:=yF (c::q);cases hk:ma (c::q) iO 0 with
    |none=>
     rw[hk] at hx hK;simp only at hx hK;obtain⟨rfl,rfl⟩:=hx;have hn:bm v (c::q)=none:=by
      rw[bm,Ev np,P8 qv];split
      ·rename_i e1 q1 h;rw[hK] at h;cases h
      rfl
     simp only[↓aX,mX,seval,show((-1:Int)<0)=True by simp,Ts,YT];refine⟨cG (c::q) true,⟨[],c::q,true,rfl,rfl,by simp at hlen ⊢;omega,λ_=>rfl,λhb=> ?_⟩,rfl,aae,rfl,aai⟩;rw[ke,hn];rfl
    |some y=>
    obtain⟨i,r'⟩:=y;rw[hk] at hx hK;simp only at hx hK;obtain⟨rfl,rfl⟩:=hx;obtain⟨e,he,tw⟩:=hK;have hn:bm v (c::q)=(bm v r').map λx=>(e::x.1,x.2):=by
     rw[bm,Ev np,P8 qv];split
     ·rename_i e1 q1 h;rw[tw] at h;cases h;rfl
     rename_i h;rw[tw] at h;cases h
    have bI:=nw tw;simp only[↓aX,mX,seval,show decide (((i:Nat):Int)<0)=false by simp,QJ,Qj,he];rw[fH (xs:=a7 t) (by simp[ae,oB]) (a_ t).symm (by simp at hlen;omega) aav (by simp[Lb.app,Lb.fresh,ae,hU 65 M3])];simp only[↓aX,mX,seval,Lb.app,Lb.fresh];refine next e r' 65 _ hn bI ?_ ?_ ?_ _ ?_ ?_ ?_
    ·rfl
    ·rfl
    ·rfl
    ·simp[ae]
    ·simp[ae]
    intro n hn;simp[ae,nk n hn,hn]
   rw[show(c==38)=false by simp[qv]];simp only[↓aX,mX,seval,E6];cases yH:(c==62) with
   |true=>
    simp only[↓aX,mX,seval,ij];have hn:bm v (c::q)=none:=(by rw[bm,Ev np,Ev qv,P8 (.inl (by simpa using yH))]);refine v7 _ _ hn ?_ ?_ ?_ ?_ ?_ ?_
    ·rfl
    ·rfl
    ·rfl
    ·simp[ae]
    ·simp[ae,oB]
    intro n hn;simp[ae,nk n hn,hn]
   |false=>
   simp only[↓aX,mX,seval,QI];rw[show((c.toNat:Int) !=10)= !((c.toNat:Int)==10) from rfl];cases wH:((c.toNat:Int)==10) with
   |true=>
    have qG:arM c=true:=(by rw[fk,wH];rfl);simp only[↓aX,mX,seval,QK];have hn:bm v (c::q)=(bm v q).map λx=>(c::x.1,x.2):=(by rw[bm,Ev np,Ev qv,Ev (by rintro(h|h);exact absurd h (by simpa using yH);rw[qG] at h;cases h)]);rw[fH (xs:=a7 t) oB (a_ t).symm (by simp at hlen;omega) aav (hU 28 M3)];simp only[↓aX,mX,seval,Lb.app,Lb.fresh,ij,lk,QJ,show(0:Int)<=1 by decide,show(1:Int).toNat=1 from rfl,Su,gL,show 1<=q.length+1 by omega,Rc,EF,bT,nc,Rk,SX,tn,PW,Cj];refine next c q 28 _ hn tM ?_ ?_ ?_ _ ?_ ?_ ?_
    ·rfl
    ·rfl
    ·rfl
    ·simp[ae]
    ·simp[ae]
    intro n hn;simp[ae,nk n hn,hn]
   |false=>
   simp only[↓aX,mX,seval,QI];cases Em:decide ((c.toNat:Int)<32) with
   |true=>
    have qG:arM c=false:=(by rw[fk,wH,Em];rfl);simp only[↓aX,mX,seval,QK,ij];have hn:bm v (c::q)=none:=(by rw[bm,Ev np,Ev qv,P8 (.inr qG)]);refine v7 _ _ hn ?_ ?_ ?_ ?_ ?_ ?_
    ·rfl
    ·rfl
    ·rfl
    ·simp[ae]
    ·simp[ae,oB]
    intro n hn;simp[ae,nk n hn,hn]
   |false=>
   simp only[↓aX,mX,seval,QI];cases yI:decide ((c.toNat:Int)>126) with
   |true=>
    have qG:arM c=false:=(by rw[fk,wH,Em,yI];rfl);simp only[↓aX,mX,seval,ij];have hn:bm v (c::q)=none:=(by rw[bm,Ev np,Ev qv,P8 (.inr qG)]);refine v7 _ _ hn ?_ ?_ ?_ ?_ ?_ ?_
    ·rfl
    ·rfl
    ·rfl
    ·simp[ae]
    ·simp[ae,oB]
    intro n hn;simp[ae,nk n hn,hn]
   |false=>
   have qG:arM c=true:=(by rw[fk,wH,Em,yI];rfl);simp only[↓aX,mX,seval];have hn:bm v (c::q)=(bm v q).map λx=>(c::x.1,x.2):=(by rw[bm,Ev np,Ev qv,Ev (by rintro(h|h);exact absurd h (by simpa using yH);rw[qG] at h;cases h)]);rw[fH (xs:=a7 t) oB (a_ t).symm (by simp at hlen;omega) aav (hU 28 M3)];simp only[↓aX,mX,seval,Lb.app,Lb.fresh,ij,lk,QJ,show(0:Int)<=1 by decide,show(1:Int).toNat=1 from rfl,Su,gL,show 1<=q.length+1 by omega,Rc,EF,bT,nc,Rk,SX,tn,PW,Cj];refine next c q 28 _ hn tM ?_ ?_ ?_ _ ?_ ?_ ?_
   ·rfl
   ·rfl
   ·rfl
   ·simp[ae]
   ·simp[ae]
   intro n hn;simp[ae,nk n hn,hn]
  |false=>
  simp only[↓aX,mX,seval,HF];by_cases qv:c=38
  ·rw[show(c==38)=true by simp[qv]];simp only[↓aX,mX,seval];rw[P8 ⟨rfl,M3,by intro y hy;simp only[PY,QN,QV] at hy;rcases hy with rfl|rfl|rfl|rfl<;>rfl⟩];simp only[↓aX,mX,seval];refine bj (l:= .par 0) (hI (c::q) false) abw (by simp[ij]) ?_;intro x1 dF hx _ _ _;have hK:=yF (c::q);cases hk:ma (c::q) iO 0 with
   |none=>
    rw[hk] at hx hK;simp only at hx hK;obtain⟨rfl,rfl⟩:=hx;have hn:bm v (c::q)=none:=by
     rw[bm,Ev np,P8 qv];split
     ·rename_i e1 q1 h;rw[hK] at h;cases h
     rfl
    simp only[↓aX,mX,seval,show((-1:Int)<0)=True by simp,Ts,YT];refine⟨cG (c::q) true,⟨[],c::q,true,rfl,rfl,by simp at hlen ⊢;omega,λ_=>rfl,λhb=> ?_⟩,rfl,aae,rfl,aai⟩;rw[ke,hn];rfl
   |some y=>
   obtain⟨i,r'⟩:=y;rw[hk] at hx hK;simp only at hx hK;obtain⟨rfl,rfl⟩:=hx;obtain⟨e,he,tw⟩:=hK;have hn:bm v (c::q)=(bm v r').map λx=>(e::x.1,x.2):=by
    rw[bm,Ev np,P8 qv];split
    ·rename_i e1 q1 h;rw[tw] at h;cases h;rfl
    rename_i h;rw[tw] at h;cases h
   have bI:=nw tw;simp only[↓aX,mX,seval,show decide (((i:Nat):Int)<0)=false by simp,QJ,Qj,he];rw[fH (xs:=a7 t) (by simp[ae,oB]) (a_ t).symm (by simp at hlen;omega) aav (by simp[Lb.app,Lb.fresh,ae,hU 65 M3])];simp only[↓aX,mX,seval,Lb.app,Lb.fresh];refine next e r' 65 _ hn bI ?_ ?_ ?_ _ ?_ ?_ ?_
   ·rfl
   ·rfl
   ·rfl
   ·simp[ae]
   ·simp[ae]
   intro n hn;simp[ae,nk n hn,hn]
  rw[show(c==38)=false by simp[qv]];simp only[↓aX,mX,seval,E6];cases yH:(c==62) with
  |true=>
   simp only[↓aX,mX,seval,ij];have hn:bm v (c::q)=none:=(by rw[bm,Ev np,Ev qv,P8 (.inl (by simpa using yH))]);refine v7 _ _ hn ?_ ?_ ?_ ?_ ?_ ?_
   ·rfl
   ·rfl
   ·rfl
   ·simp[ae]
   ·simp[ae,oB]
   intro n hn;simp[ae,nk n hn,hn]
  |false=>
  simp only[↓aX,mX,seval,QI];rw[show((c.toNat:Int) !=10)= !((c.toNat:Int)==10) from rfl];cases wH:((c.toNat:Int)==10) with
  |true=>
   have qG:arM c=true:=(by rw[fk,wH];rfl);simp only[↓aX,mX,seval,QK];have hn:bm v (c::q)=(bm v q).map λx=>(c::x.1,x.2):=(by rw[bm,Ev np,Ev qv,Ev (by rintro(h|h);exact absurd h (by simpa using yH);rw[qG] at h;cases h)]);rw[fH (xs:=a7 t) oB (a_ t).symm (by simp at hlen;omega) aav (hU 28 M3)];simp only[↓aX,mX,seval,Lb.app,Lb.fresh,ij,lk,QJ,show(0:Int)<=1 by decide,show(1:Int).toNat=1 from rfl,Su,gL,show 1<=q.length+1 by omega,Rc,EF,bT,nc,Rk,SX,tn,PW,Cj];refine next c q 28 _ hn tM ?_ ?_ ?_ _ ?_ ?_ ?_
   ·rfl
   ·rfl
   ·rfl
   ·simp[ae]
   ·simp[ae]
   intro n hn;simp[ae,nk n hn,hn]
  |false=>
  simp only[↓aX,mX,seval,QI];cases Em:decide ((c.toNat:Int)<32) with
  |true=>
   have qG:arM c=false:=(by rw[fk,wH,Em];rfl);simp only[↓aX,mX,seval,QK,ij];have hn:bm v (c::q)=none:=(by rw[bm,Ev np,Ev qv,P8 (.inr qG)]);refine v7 _ _ hn ?_ ?_ ?_ ?_ ?_ ?_
   ·rfl
   ·rfl
   ·rfl
   ·simp[ae]
   ·simp[ae,oB]
   intro n hn;simp[ae,nk n hn,hn]
  |false=>
  simp only[↓aX,mX,seval,QI];cases yI:decide ((c.toNat:Int)>126) with
  |true=>
   have qG:arM c=false:=(by rw[fk,wH,Em,yI];rfl);simp only[↓aX,mX,seval,ij];have hn:bm v (c::q)=none:=(by rw[bm,Ev np,Ev qv,P8 (.inr qG)]);refine v7 _ _ hn ?_ ?_ ?_ ?_ ?_ ?_
   ·rfl
   ·rfl
   ·rfl
   ·simp[ae]
   ·simp[ae,oB]
   intro n hn;simp[ae,nk n hn,hn]
  |false=>
  have qG:arM c=true:=by rw[fk,wH,Em,yI];rfl
  simp only[↓aX,mX,seval];have hn:bm v (c::q)=(bm v q).map λx=>(c::x.1,x.2):=by rw[bm,Ev np,Ev qv,Ev (by rintro(h|h);exact absurd h (by simpa using yH);rw[qG] at h;cases h)]
  rw[fH (xs:=a7 t) oB (a_ t).symm (by simp at hlen;omega) aav (hU 28 M3)];simp only[↓aX,mX,seval,Lb.app,Lb.fresh,ij,lk,QJ,show(0:Int)<=1 by decide,show(1:Int).toNat=1 from rfl,Su,gL,show 1<=q.length+1 by omega,Rc,EF,bT,nc,Rk,SX,tn,PW,Cj];refine next c q 28 _ hn tM ?_ ?_ ?_ _ ?_ ?_ ?_
  ·rfl
  ·rfl
  ·rfl
  ·simp[ae]
  ·simp[ae]
  intro n hn;simp[ae,nk n hn,hn]
end

theorem uW:∀l m:List Attr,dX (l++m)=dX l+dX m
 |[],m=>by simp[dX]
 |a::r,m=>by simp[dX,uW r m];omega
def yJ {l m:List Attr} (h:l.Perm m):dX l=dX m:=by
 induction h with
 |nil=>rfl
 |cons x _ ih=>simp[dX,ih]
 |swap x y l=>simp[dX];omega
 |trans _ _ h1 h2=>exact h1.trans h2
def qw (s:Bs) (b:Bool) (x:AV) (cs:List AV):Prop:=∃l r b',x= .list (cD l)/\cs=cG r b'/\r.length+dX l<=s.length/\(b=true->b'=true) /\
 (b=false->match asA s with
  |some y=>b'=false/\r=y.2/\l.length=y.1.length/\(y.1.length<=20->l=cu y.1)
  |none=>b'=true)
def GP (s:Bs) (b:Bool) (q:Bs×List Attr×Bool):Prop:=q.1.length+dX q.2.1<=s.length/\(b=true->q.2.2=true)/\(b=false->if q.2.2 then asA s=none else asA s=(asA q.1).map λy=>(q.2.1++y.1,y.2))
def gU (p s:Bs):iA p s=if p.isPrefixOf s then some (cZ p s) else none:=by
 unfold iA cZ;split<;>rfl
def oj (s:Bs):l6 s=if(decide (s.takeWhile akP=[])||decide (8<(s.takeWhile akP).length)) then none else some (s.takeWhile akP,s.dropWhile akP):=by
 unfold l6;simp only[Tu,dj]
def jC (p:UInt8->Bool) (s:Bs):(s.takeWhile p).length+(s.dropWhile p).length=s.length:=by
 rw[<-ko,Vf]
section
variable {P:Program} {G:Nat->Option (List IV)}
def eV (bf bb aP bo aV bO:Nat):AC:=
(aM [zi 2] (aM [zi 3] (.gh (.own 3 2) (.seq (.block 0 (.loop (.seq (aM [MR 5 0,aQ 6 (.call bf [(.t 5)]),MR 7 6,cU 8 7 0,dW 9 7 (.dp (.t 8)),Wb 10 7 9 1,jm 11 7 10,dW 12 7 (.not (.t 11)),jT 13 7 12,MR 14 13,cU 15 14 0,dW 16 14 (.dp (.t 15)),Wb 17 14 16 0,jm 18 14 17,dW 19 14 (.bin .neq (.t 18) (.c (.str []))),jT 20 14 19,MR 21 20,cU 22 21 0,dW 23 21 (.dp (.t 22)),Wb 24 21 23 0,jm 25 21 24,dW 26 21 (.lj (.t 25) (jS 0)),dW 27 21 (.bin .neq (.t 26) (.c (.int .u8 62))),jT 28 21 27,MR 29 28,cU 30 29 0,dW 31 29 (.dp (.t 30)),Wb 32 29 31 0,jm 33 29 32,dW 34 29 (.lj (.t 33) (jS 0)),dW 35 29 (.bin .neq (.t 34) (.c (.int .u8 47))),jT 36 29 35] (.cond (.t 36) .skip (.exit 0))) (.block 1 (aM [MR 37 0,aQ 38 (.call bb [(.t 37)]),aQ 39 (.sg [(.str []),(.str [])] [(0,(1,(.t 38)))]),aQ 4 (.new [(.str []),(.str [])]),gg (.store 2 (.t 4) (.t 39))] (aM [MR 40 0,aQ 41 (.call aP [(.t 40),(.c (.str [61,34]))])] (aM [MR 42 0,aQ 43 (.call bo [(.t 42),(me true)]),ep 44 4 1,gg (.store 1 (.t 44) (.t 43))] (aM [MR 45 0,aQ 46 (.call aP [(.t 45),(.c (.str [34]))])] (.cq [MR 47 3,gz 48 2 4,aQ 49 (.lits 1 2 [(.str []),(.str [])] [(0,(.t 48))]),aQ 50 (.app (.t 47) (.t 49) 2 32),MR 3 50]))))))))) (aM [MR 51 3,aQ 52 (.call aV [(.t 51),(.c (.fn bO [] []))])] (aM [MR 53 3,MR 2 53] (.gh (.zS (.loc 3) 2) .ret)))))))
def Bp {b5 bf bb aP bo aV bO:Nat} (hF:aw P G b5=some (54,[(none,2)],(eV bf bb aP bo aV bO).bare))
  (HK:∀(s:Bs) (b:Bool),s.length<=B->cR P G bf [.ptr (.par 0) 2 0 0] (cG s b) λx cs=>x= .bool (decide ((s.dropWhile isSp).length<s.length))/\cs=cG (s.dropWhile isSp) b)
  (hN:∀(s:Bs) (b:Bool),s.length<=B->cR P G bb [.ptr (.par 0) 2 0 0] (cG s b) λx cs=>x= .str (s.takeWhile akP)/\cs=cG (s.dropWhile akP) (b||(decide (s.takeWhile akP=[])||decide (8<(s.takeWhile akP).length))))
  (Cn:∀(s p:Bs) (b:Bool),cR P G aP [.ptr (.par 0) 2 0 0,.str p] (cG s b) λx cs=>cs=cG (cZ p s) (b|| !p.isPrefixOf s))
  (hT:∀(v:Bool) (s:Bs) (b:Bool),s.length<=B->cR P G bo [.ptr (.par 0) 2 0 0,.bool v] (cG s b) (rO v s b))
  (rP:∀l:List Attr,l.length<=B->ig P G aV [.sl (.par 0) 2 0 l.length,.fn bO [] []] 2 (cD l) λx ys=>∃zs:List Attr,ys=cD zs/\zs.Perm l/\(l.length<=20->zs=cu l))
  (s:Bs) (hs:s.length<=B) (b:Bool) :
  cR P G b5 [.ptr (.par 0) 2 0 0] (cG s b) (qw s b):=by
 refine dw hF tM aae aae ?_;have zo:B=1073741824:=rfl;unfold eV;simp only[↓aX,mX,seval,Oj];refine gb (σ:={q:Bs×List Attr×Bool // GP s b q}) (λ_=>[.par 0,.loc 3]) (λ_ _=>false)
  (λq=>[(0,.ptr (.par 0) 2 0 0),(3,.sl (.loc 3) 2 0 q.1.2.1.length)])
  (λq=>[(.par 0,⟨2,[cG q.1.1 q.1.2.2]⟩),(.loc 3,⟨2,aB (cD q.1.2.1)⟩)]) (λq=>q.1.1.length) ⟨(s,[],b),by simp[dX],λh=>h,λh=> ?_⟩ (λ_=>rfl) (λq=>by simp[ah,AV.an]) ?_ ⟨[],?_⟩ ?_
 ·simp only[h,jy,nX];cases asA s<;>simp
 ·intro q w hw cs jB z hz;simp only[PY,QN,QV] at hw;rcases hw with rfl|rfl
  ·simp only[bY] at jB;subst jB;simp[ah,AV.an] at hz
  rw[bU jB] at hz;simp at hz
 ·refine⟨?_,?_,?_,aar,aar⟩
  ·intro l hf hu;left;cases l<;>simp[Lb.entry] at hf;rename_i n;by_cases e:n=0
   ·subst e;simp
   exfalso;apply hu;simp[ae,Hp.none,e]
  ·simp[k_,dn,bJ,put,jP]
  simp[tc,dn,ae,dO,bu,bJ,cD,aB]
 rintro⟨⟨r,l,bad⟩,hlen,qE,nL⟩;simp only at hlen qE nL;have Ij:=iz l;have hU:∀d,d≠3->ie (λ_=>false) [(Lb.par 0,⟨2,[cG r bad]⟩),(Lb.loc 3,⟨2,aB (cD l)⟩)] (.loc d)= .unused:=λd hd=>by rw[fE (by simp[hd])];rfl
 have nk:∀d,d≠0->ie (λ_=>false) [(Lb.par 0,⟨2,[cG r bad]⟩),(Lb.loc 3,⟨2,aB (cD l)⟩)] (.par d)= .unused:=λd hd=>by rw[fE (by simp[hd])];rfl
 have ij:ie (λ_=>false) [(Lb.par 0,⟨2,[cG r bad]⟩),(Lb.loc 3,⟨2,aB (cD l)⟩)] (.par 0)= .live ⟨2,[cG r bad]⟩:=cL.2 aaZ;have qI:ie (λ_=>false) [(Lb.par 0,⟨2,[cG r bad]⟩),(Lb.loc 3,⟨2,aB (cD l)⟩)] (.loc 3)= .live ⟨2,aB (cD l)⟩:=cL.2 aaZ;simp only;generalize ie (λ_=>false) [(Lb.par 0,⟨2,[cG r bad]⟩),(Lb.loc 3,⟨2,aB (cD l)⟩)]=H0 at *;simp only[↓aX,mX,seval];refine bj (l:= .par 0) (HK r bad sf) aas (by simp[ij]) ?_;rintro x1 dF ⟨rfl,rfl⟩ _ _ _;obtain⟨r1,iS⟩:∃r1,r1=r.dropWhile isSp:=⟨_,rfl⟩;have En:r1.length<=r.length:=by rw[iS];exact jf _ _
 rw[<-iS];simp only[↓aX,mX,seval];have fin:∀(zs:List Attr),zs.Perm l->(l.length<=20->zs=cu l)->(bad=false->asA r=some ([],r1))->qw s b (.list (cD zs)) (cG r1 bad):=by
  intro zs h1 h2 h4;refine⟨zs,r1,bad,rfl,rfl,by rw[yJ h1];omega,qE,λhb=> ?_⟩;have h5:=nL hb;cases bad with
  |true=>simp only[Rc] at h5;rw[h5]
  |false=>
  simp only[jy,nX,h4 rfl,bT,SU] at h5;rw[h5];exact⟨rfl,rfl,h1.length_eq,h2⟩
 have wv:∀B':Bool,iL r r1=B'->asA r=if B' then(match l7 r1 with|some (a,q)=>(asA q).map λx=>(a::x.1,x.2)|none=>none) else some ([],r1):=by
  intro B' h;rw[asA,<-iS,h];split
  ·split<;>simp_all
  rfl
 cases wu:decide (r1.length<r.length) with
 |false=>
  simp only[↓aX,mX,seval];refine cT (l:= .loc 3) (rP l sf) aas (by simp[ae,qI]) ?_;rintro x1 ys ⟨zs,rfl,ln,oz⟩ _ _;simp only[↓aX,mX,seval];refine⟨2,cD zs,0,l.length,rfl,aai,by rw[bp,ln.length_eq];omega,nW zs,?_⟩;rw[tn,P5 (by rw[bp,ln.length_eq];exact PW _)];exact⟨_,fin zs ln oz (λ_=>by rw[wv false (by unfold iL;rw[wu];rfl)];rfl),rfl,aae,rfl,aai⟩
 |true=>
 simp only[↓aX,mX,seval,QK,QI];cases bad with
 |true=>
  simp only[↓aX,mX,seval,QK,QI];refine cT (l:= .loc 3) (rP l sf) aas (by simp[ae,qI]) ?_;rintro x1 ys ⟨zs,rfl,ln,oz⟩ _ _;simp only[↓aX,mX,seval];refine⟨2,cD zs,0,l.length,rfl,aai,by rw[bp,ln.length_eq];omega,nW zs,?_⟩;rw[tn,P5 (by rw[bp,ln.length_eq];exact PW _)];exact⟨_,fin zs ln oz (λh=>by cases h),rfl,aae,rfl,aai⟩
 |false=>
 have Cm:b=false:=by cases b with|true=>exact absurd (qE rfl) tM|false=>rfl
 have ke:=nL Cm;simp only[jy,nX] at ke;simp only[↓aX,mX,seval,QK,QI];clear nL
 match r1,iS,En,wu,wv,fin with
 |[],iS,En,wu,wv,fin=>
  simp only[↓aX,mX,seval,show((([]:Bs) !=[])=false) from rfl,show(([]:Bs)==[])=true from rfl,QK];refine cT (l:= .loc 3) (rP l sf) aas (by simp[ae,qI]) ?_;rintro x1 ys ⟨zs,rfl,ln,oz⟩ _ _;simp only[↓aX,mX,seval];refine⟨2,cD zs,0,l.length,rfl,aai,by rw[bp,ln.length_eq];omega,nW zs,?_⟩;rw[tn,P5 (by rw[bp,ln.length_eq];exact PW _)];exact⟨_,fin zs ln oz (λ_=>by rw[wv false (by unfold iL;rw[wu];rfl)];rfl),rfl,aae,rfl,aai⟩
 |c::q,iS,En,wu,wv,fin=>
  have E6:((c.toNat:Int)==62)=(c==62):=cI c 62 M3;have LK:((c.toNat:Int)==47)=(c==47):=cI c 47 M3;simp only[↓aX,mX,seval,show((c::q:Bs)==[])=false from rfl,QI,show((0:Int)).toNat=0 from rfl,RA,bne,E6];cases yH:(c==62) with
  |true=>
   simp only[↓aX,mX,seval,QK];refine cT (l:= .loc 3) (rP l sf) aas (by simp[ae,qI]) ?_;rintro x1 ys ⟨zs,rfl,ln,oz⟩ _ _;simp only[↓aX,mX,seval];refine⟨2,cD zs,0,l.length,rfl,aai,by rw[bp,ln.length_eq];omega,nW zs,?_⟩;rw[tn,P5 (by rw[bp,ln.length_eq];exact PW _)];exact⟨_,fin zs ln oz (λ_=>by rw[wv false (by unfold iL;simp[yH])];rfl),rfl,aae,rfl,aai⟩
  |false=>
  simp only[↓aX,mX,seval,QI,show((0:Int)).toNat=0 from rfl,RA,bne,LK];cases HE:(c==47) with
  |true=>
   simp only[↓aX,mX,seval,QK];refine cT (l:= .loc 3) (rP l sf) aas (by simp[ae,qI]) ?_;rintro x1 ys ⟨zs,rfl,ln,oz⟩ _ _;simp only[↓aX,mX,seval];refine⟨2,cD zs,0,l.length,rfl,aai,by rw[bp,ln.length_eq];omega,nW zs,?_⟩;rw[tn,P5 (by rw[bp,ln.length_eq];exact PW _)];exact⟨_,fin zs ln oz (λ_=>by rw[wv false (by unfold iL;simp[yH,HE])];rfl),rfl,aae,rfl,aai⟩
  |false=>
  simp only[↓aX,mX,seval,QI];have GQ:=wv true (by unfold iL;simp only[wu,yH,HE];rfl);simp only[Rc] at GQ;have LL:(c::q).length<r.length:=by simpa using wu
  generalize c::q=r1 at *;refine bj (l:= .par 0) (hN r1 false sf) aas aai ?_;rintro x1 dF ⟨rfl,rfl⟩ _ _ _;have Cv:=jC akP r1;have B2:=oj r1;rw[YZ];generalize r1.takeWhile akP=nm at *;generalize r1.dropWhile akP=r2 at *;generalize (decide (nm=[])||decide (8<nm.length))=Eo at *;simp only[↓aX,mX,seval];refine⟨by simp[ae,hU 4 M3],?_⟩;refine bj (l:= .par 0) (Cn r2 [61,34] Eo) aas aai ?_;rintro x1 dF rfl _ _ _;have hc1:=ic [61,34] r2;have u6:=gU [61,34] r2;generalize List.isPrefixOf [61,34] r2=E7 at *;generalize cZ [61,34] r2=r3 at *;simp only[↓aX,mX,seval];refine bj (l:= .par 0) (hT true r3 (Eo|| !E7) sf) aas aai ?_;rintro x1 dF ⟨t,r4,b4,rfl,rfl,MG,Kr,ky⟩ _ _ _;simp only[↓aX,mX,seval];refine bj (l:= .par 0) (Cn r4 [34] b4) aas aai ?_;rintro x1 dF rfl _ _ _;have MH:=ic [34] r4;have GM:=gU [34] r4;generalize List.isPrefixOf [34] r4=HL at *;generalize cZ [34] r4=r5 at *;simp only[↓aX,mX,seval];rw[qg 2 32 50 3 (cD l) (.agg [.str nm,.str t]) (by simp[ae,qI]) (bp l) rfl (by intro z hz cs;simp only[IV.cells,PY,QN,QV] at hz;rcases hz with rfl|rfl<;>simp) sf M3 M3 (by simp[ae,hU 50 M3])];simp only[↓aX,mX,seval];have pD:if b4|| !HL then l7 r1=none else l7 r1=some (⟨nm,t⟩,r5):=by
   unfold l7;rw[B2];cases Eo with
   |true=>rw[Kr rfl];rfl
   |false=>
   simp only[jy,nX,EF];rw[u6];cases E7 with
   |false=>rw[Kr rfl];rfl
   |true=>
   simp only[Rc,EF];have h4:=ky rfl;cases Ks:bm true r3 with
   |none=>
    rw[Ks] at h4;simp only at h4;rw[h4];rfl
   |some y=>
   rw[Ks] at h4;obtain⟨rfl,rfl⟩:=h4;simp only[EF];rw[GM];cases HL<;>rfl
  refine⟨⟨(r5,l++[⟨nm,t⟩],b4|| !HL),?_,λ(h:b=true)=>(by rw[Cm] at h;cases h),λ_=> ?_⟩,aac,[(.loc 3,.loc 50)],?_,?_,?_,aar,?_⟩
  ·simp only[uW,dX,Attr.wt];omega
  ·simp only;rw[ke,GQ];cases GR:(b4|| !HL) with
   |true=>rw[GR] at pD;simp only[Rc] at pD ⊢;rw[pD];rfl
   |false=>
   rw[GR] at pD;simp only[jy,nX] at pD ⊢;rw[pD];simp only;cases asA r5 with
   |none=>rfl
   |some y=>simp only[bT,SS,V6]
  ·intro z hf hu;left;cases z<;>simp[Lb.entry] at hf;rename_i n;by_cases e0:n=0
   ·subst e0;simp
   exfalso;apply hu;simp[ae,e0,nk n e0]
  ·simp[k_,bJ,dn,put]
  ·refine⟨abo,by simp[dn,dy,ae,cD];rfl,trivial⟩
  intro z hz;simp only[PY,QN,QV] at hz;rcases hz with rfl|rfl
  ·simp[dn]
  simp[dn,Lb.fresh,Lb.entry]
end

def ang {P:Program} {G:Nat->Option (List IV)} {f:Nat} {n:Nat} {rs:List RO} {ac:AC} {args cs:List AV} {R:AV->List AV->Prop}
  (hF:aw P G f=some (n,rs,ac.bare)) (hn:args.length<=n) (ha:∀l∈ah args,l= .par 0) (hc:ah cs=[])
  (hg:go ⟨P,G,n⟩ (fX rs λx H'=>∃dF,R (norm x) dF/\x.an=[]/\ah dF=[]/\dF.length=cs.length/\H' (.par 0)= .live ⟨cs.length,[dF]⟩) [.code ac] (jP args) (Oj cs)):cR P G f args cs R:=by
 have h:=dw (R:=λx c=>R (norm x) c) hF hn ha hc hg;refine⟨h.1,h.2.1,h.2.2.res.mono ?_⟩;rintro x H ⟨y,⟨dF,h1,h2,h3⟩,rfl⟩;exact⟨dF,h1,by rw[nV];exact h2,h3⟩
def Bq {S:St} {F:List Lb} {f:Nat} {args U6:List AV} {cs:List AV} {R:AV->List AV->Prop} {H:Hp} {k:AV->Hp->Prop} {u:Tw k} {l:Lb} (h:cR S.P S.G f U6 cs R)
  (ha:args=bu (ft l) U6) (hl:H l= .live ⟨cs.length,[cs]⟩) (hF:l.iQ∉F) {x0:AV} {wy:List AV} (h0:R x0 wy) (h1:x0.an=[]) (h2:ah wy=[]) (h3:wy.length=cs.length)
  (hk:∀x dF,R x dF->x.an=[]->ah dF=[]->dF.length=cs.length->k x (bD H l (.live ⟨cs.length,[dF]⟩))):DX S F f args H k u:=by
 refine⟨λx H'=>∃dF,R x dF/\x.an=[]/\ah dF=[]/\dF.length=cs.length/\H'=bD H l (.live ⟨cs.length,[dF]⟩),?_,⟨x0,_,wy,h0,h1,h2,h3,rfl⟩,?_⟩
 ·exact bj (k:=λx H'=>∃dF,R x dF/\x.an=[]/\ah dF=[]/\dF.length=cs.length/\H'=bD H l (.live ⟨cs.length,[dF]⟩)) (u:= .mk) h ha hl (λx dF g1 g2 g3 g4=>⟨dF,g1,g2,g3,g4,rfl⟩)
 rintro x H' ⟨dF,g1,g2,g3,g4,rfl⟩;refine⟨λq hq=> ?_,hk x dF g1 g2 g3 g4⟩;rw[aq _ _ (λe=>hF (by rw[e] at hq;exact hq))]
def yK (l:List Attr) (a:Attr):(gF l a).length=l.length+1:=by
 induction l with
 |nil=>rfl
 |cons b r ih=>
 unfold gF;split
 ·rfl
 simp[ih]
def pE (l:List Attr):(cu l).length=l.length:=by
 have key:∀(l acc:List Attr),(l.foldl gF acc).length=acc.length+l.length:=by
  intro l;induction l with
  |nil=>intro acc;rfl
  |cons a r ih=>intro acc;simp only[Bw,ih,yK,gL];omega
 unfold cu;rw[key];simp
mutual
def Tree.v8:Tree->Bool
 | .mk _ _ az ks=>decide (20<az.length)||jR ks
def jR:List Tree->Bool
 |[]=>false
 |x::r=>x.v8||jR r
end
theorem rQ:∀l m:List Tree,jR (l++m)=(jR l||jR m)
 |[],m=>by simp[jR]
 |x::r,m=>by simp[jR,rQ r m,Bool.or_assoc]
def rR (d:Nat) (s:Bs) (b:Bool) (x:AV) (cs:List AV):Prop:=∃(t:Tree) (r:Bs) (b':Bool),x=t.av/\cs=cG r b'/\t.wt<=3*s.length+2/\r.length<=s.length /\
 (∀q,s=60::q->t.wt+3*r.length<=3*s.length/\r.length<s.length)/\(b=true->b'=true) /\
 (b=false->match bG d s with
  |some y=>b'=false/\r=y.2/\(t=y.1\/(t.v8=true/\y.1.v8=true))
  |none=>b'=true)
def pF (d:Nat) (s:Bs) (b:Bool) (x:AV) (cs:List AV):Prop:=∃(l:List Tree) (r:Bs) (b':Bool),x= .list (dq l)/\cs=cG r b'/\dE l+3*r.length<=3*s.length+1/\(b=true->b'=true) /\
 (b=false->match dM (bG d) s with
  |some y=>b'=false/\r=y.2/\(l=y.1\/(jR l=true/\jR y.1=true))
  |none=>b'=true)
section
variable {P:Program} {G:Nat->Option (List IV)}
def ek (aP bb b5 aI cj bf:Nat):AC:=
(aM [aQ 4 (.new [(.bool false),(.str []),.nil0,.nil0])] (aM [MR 6 0,aQ 7 (.call aP [(.t 6),(.c (.str [60]))])] (aM [MR 8 0,aQ 9 (.call bb [(.t 8)]),aQ 10 (.sg [(.bool false),(.str []),.nil0,.nil0] [(1,(1,(.t 9)))]),aQ 5 (.new [(.bool false),(.str []),.nil0,.nil0]),gg (.store 4 (.t 5) (.t 10))] (aM [MR 11 0,aQ 12 (.call b5 [(.t 11)]),ep 13 5 2,gg (.store 1 (.t 13) (.t 12))] (.seq (aM [MR 14 0,aQ 15 (.dp (.t 14)),ep 16 15 1,fm 17 16,MR 18 17,gV 19 18 1,iR 20 18 (.bin .gtr (.t 19) (jS 8)),sj 21 18 20] (.cond (.t 21) (aM [MR 22 0,aQ 23 (.dp (.t 22)),ep 24 23 1,gg (.store 1 (.t 24) (me true))] (aM [gz 25 4 5,gg (.store 4 (.t 4) (.t 25))] .ret)) .skip)) (.seq (aM [MR 26 0,aQ 27 (.call aI [(.t 26),(.c (.str [47,62]))])] (.cond (.t 27) (aM [gz 28 4 5,gg (.store 4 (.t 4) (.t 28))] .ret) .skip)) (aM [MR 29 0,aQ 30 (.call aP [(.t 29),(.c (.str [62]))])] (aM [MR 31 0,MR 32 1,eY 33 .add 32 1,aQ 34 (.call cj [(.t 31),(.t 33)]),ep 35 5 3,gg (.store 1 (.t 35) (.t 34))] (aM [MR 36 0,aQ 37 (.call aP [(.t 36),(.c (.str [60,47]))])] (.seq (.seq (.VL [MR 38 0,aQ 39 (.call bb [(.t 38)]),ep 40 5 1,fm 41 40,et 42 .neq 39 41] [[],[0],[],[2],[1,3]] [.no,(.p_ [(.loc 5)]),.no,.rw [.loc 5] [],.no]) (.cond (.t 42) (.cq [MR 43 0,aQ 44 (.dp (.t 43)),ep 45 44 1,gg (.store 1 (.t 45) (me true))]) .skip)) (aM [MR 46 0,aQ 47 (.call bf [(.t 46)])] (aM [MR 48 0,aQ 49 (.call aP [(.t 48),(.c (.str [62]))])] (aM [gz 50 4 5,gg (.store 4 (.t 4) (.t 50))] .ret)))))))))))))
def yL {aW aP bb b5 aI cj bf:Nat} (hF:aw P G aW=some (51,[((some (some 4)),4)],(ek aP bb b5 aI cj bf).bare))
  (HK:∀(s:Bs) (b:Bool),s.length<=B->cR P G bf [.ptr (.par 0) 2 0 0] (cG s b) λx cs=>x= .bool (decide ((s.dropWhile isSp).length<s.length))/\cs=cG (s.dropWhile isSp) b)
  (hN:∀(s:Bs) (b:Bool),s.length<=B->cR P G bb [.ptr (.par 0) 2 0 0] (cG s b) λx cs=>x= .str (s.takeWhile akP)/\cs=cG (s.dropWhile akP) (b||(decide (s.takeWhile akP=[])||decide (8<(s.takeWhile akP).length))))
  (Cn:∀(s p:Bs) (b:Bool),cR P G aP [.ptr (.par 0) 2 0 0,.str p] (cG s b) λx cs=>cs=cG (cZ p s) (b|| !p.isPrefixOf s))
  (Km:∀(s p:Bs) (b:Bool),cR P G aI [.ptr (.par 0) 2 0 0,.str p] (cG s b) λx cs=>x= .bool (p.isPrefixOf s)/\cs=cG (cZ p s) b)
  (hA:∀(s:Bs) (b:Bool),s.length<=B->cR P G b5 [.ptr (.par 0) 2 0 0] (cG s b) (qw s b))
  (d:Nat) (hd:d<=9) (hK:∀d',d=d'+1->∀(s:Bs) (b:Bool),s.length<=B->cR P G cj [.ptr (.par 0) 2 0 0,.int .i64 (9 - d':Int)] (cG s b) (pF d' s b))
  (s:Bs) (hs:s.length<=B) (b:Bool) :
  cR P G aW [.ptr (.par 0) 2 0 0,.int .i64 (9 - d:Int)] (cG s b) (rR d s b):=by
 refine ang hF tM aae aae ?_;have zo:B=1073741824:=rfl;unfold ek;simp only[↓aX,mX,seval,Oj];refine bj (l:= .par 0) (Cn s [60] b) aas aai ?_;rintro x1 dF rfl _ _ _;have hc1:=ic [60] s;have Jp:∀q,s=60::q->cZ [60] s=q:=by rintro q rfl;simp[cZ,List.isPrefixOf]
 have u6:=gU [60] s;generalize List.isPrefixOf [60] s=E7 at *;generalize cZ [60] s=r1 at *;simp only[↓aX,mX,seval];refine bj (l:= .par 0) (hN r1 (b|| !E7) sf) aas aai ?_;rintro x1 dF ⟨rfl,rfl⟩ _ _ _;have Cv:=jC akP r1;have B2:=oj r1;generalize r1.takeWhile akP=nm at *;generalize r1.dropWhile akP=r2 at *;generalize (decide (nm=[])||decide (8<nm.length))=bn at *;simp only[↓aX,mX,seval];refine bj (l:= .par 0) (hA r2 (b|| !E7||bn) sf) aas aai ?_;rintro x1 dF ⟨az,r3,b3,rfl,rfl,MI,HM,Kt⟩ _ _ _;simp only[↓aX,mX,seval];have yM:b=false->if b3 then kO s=none else ∃mZ,kO s=some (nm,mZ,r3)/\az.length=mZ.length/\(mZ.length<=20->az=cu mZ):=by
  intro hb;unfold kO;rw[u6];cases E7 with
  |false=>rw[HM (by simp[hb])];simp
  |true=>
  simp only[Rc,EF,B2];cases bn with
  |true=>rw[HM tM];simp
  |false=>
  have h3:=Kt (by simp[hb]);cases HN:asA r2 with
  |none=>rw[HN] at h3;simp only at h3;rw[h3];simp[HN]
  |some y=>
  rw[HN] at h3;obtain⟨rfl,rfl,e3,e4⟩:=h3;simp[HN];exact⟨e3,e4⟩
 have GR:b=true->b3=true:=λh=>HM (by simp[h]);clear Kt HM;have bI:∀q,s=60::q->nm.length+r2.length+1=s.length:=by
  intro q hq;rw[<-Jp q hq] at hq;rw[hq];simp;omega
 have stop:(b=false->bG d s=none)->rR d s b (Tree.av (.mk false nm az [])) (cG r3 true):=by
  intro h2;refine⟨_,r3,true,rfl,rfl,?_,sf,λq hq=> ?_,λ_=>rfl,λhb=>by rw[h2 hb]⟩
  ·simp only[Tree.wt,dE];omega
  have:=bI q hq;simp only[Tree.wt,dE];omega
 have LM:bG 0 s=none:=rfl;have GS:∀d',bG (d'+1) s=(kO s).bind λx=>
  if [47,62].isPrefixOf x.2.2 then some (.mk false x.1 (cu x.2.1) [],x.2.2.drop 2)
  else(iA [62] x.2.2).bind λr=>(dM (bG d') r).bind λy=>(ka x.1 y.2).map λq=>(.mk false x.1 (cu x.2.1) y.1,q):=λ_=>rfl
 cases b3 with
 |true=>
  simp only[↓aX,mX,seval,norm,fi,kj];exact⟨_,stop (λhb=>by
   have h:=yM hb;simp only[Rc] at h;cases d with
   |zero=>rfl
   |succ d=>rw[GS,h];rfl),aao,aao,rfl,aai⟩
 |false=>
 simp only[↓aX,mX,seval,QI];cases d with
 |zero=>
  simp only[↓aX,mX,seval,norm,fi,kj,show((9:Int) - ((0:Nat):Int)>8)=True by simp,Ts];exact⟨_,stop (λhb=>rfl),aao,aao,rfl,aai⟩
 |succ d=>
 have hK:=hK d rfl;have hw:IntKind.i64.wrap ((9:Int) - ((d+1:Nat):Int)+1)=(9:Int) - (d:Int):=by rw[wrap64 sf sf];omega
 simp only[↓aX,mX,seval,show((9:Int) - ((d+1:Nat):Int)>8)=False by simp;omega,XG];refine bj (l:= .par 0) (Km r3 [47,62] false) aas aai ?_;rintro x1 dF ⟨rfl,rfl⟩ _ _ _;have ke:∀mZ,kO s=some (nm,mZ,r3)->bG (d+1) s=if [47,62].isPrefixOf r3 then some (.mk false nm (cu mZ) [],r3.drop 2)
   else(iA [62] r3).bind λr=>(dM (bG d) r).bind λy=>(ka nm y.2).map λq=>(.mk false nm (cu mZ) y.1,q):=by
  intro mZ h;rw[GS,h];rfl
 have j0:∀mZ:List Attr,az.length=mZ.length->(mZ.length<=20->az=cu mZ)->∀ks:List Tree,(Tree.mk false nm az ks= .mk false nm (cu mZ) ks)\/(∀k1 k2,(Tree.mk false nm az k1).v8=true/\(Tree.mk false nm (cu mZ) k2).v8=true):=by
  intro mZ h1 h2 ks;by_cases h:mZ.length<=20
  ·left;rw[h2 h]
  right;intro k1 k2;have h3:(cu mZ).length=mZ.length:=(pE mZ);simp only[Tree.v8,Tu,dj];omega
 cases HO:[47,62].isPrefixOf r3 with
 |true=>
  have wJ:cZ [47,62] r3=r3.drop 2:=by unfold cZ;rw[HO];rfl
  rw[wJ];simp only[↓aX,mX,seval,norm,fi,kj];refine⟨cG (r3.drop 2) false,⟨.mk false nm az [],r3.drop 2,false,rfl,rfl,?_,aak,λq hq=> ?_,GR,λhb=> ?_⟩,aao,aao,rfl,aai⟩
  ·simp only[Tree.wt,dE];omega
  ·have:=bI q hq;simp only[Tree.wt,dE,BH];omega
  have h:=yM hb;simp only[jy,nX] at h;obtain⟨mZ,h1,h2,h3⟩:=h;rw[ke mZ h1,HO];refine⟨rfl,rfl,?_⟩;rcases j0 mZ h2 h3 [] with h|h
  ·exact .inl h
  exact .inr (h [] [])
 |false=>
 have wJ:cZ [47,62] r3=r3:=by unfold cZ;rw[HO];rfl
 rw[wJ];simp only[↓aX,mX,seval];refine bj (l:= .par 0) (Cn r3 [62] false) aas aai ?_;rintro x1 dF rfl _ _ _;have MJ:=ic [62] r3;have LN:=gU [62] r3;rw[YZ];generalize List.isPrefixOf [62] r3=Ku at *;generalize cZ [62] r3=r5 at *;simp only[↓aX,mX,seval,hw];refine bj (l:= .par 0) (hK r5 (!Ku) sf) aas aai ?_;rintro x1 dF ⟨ks,r6,b6,rfl,rfl,MK,LO,LP⟩ _ _ _;simp only[↓aX,mX,seval];refine bj (l:= .par 0) (Cn r6 [60,47] b6) aas aai ?_;rintro x1 dF rfl _ _ _;have ML:=ic [60,47] r6;have LQ:=gU [60,47] r6;generalize List.isPrefixOf [60,47] r6=E8 at *;generalize cZ [60,47] r6=r7 at *;have MM:r6.length<=r5.length:=by have:=eZ ks;omega
 simp only[↓aX,mX,seval];refine⟨rfl,?_⟩;refine Bq (l:= .par 0) (hN r7 (b6|| !E8) sf) aas aai (by simp[pL]) ⟨rfl,rfl⟩ rfl aao rfl ?_;rintro x1 dF ⟨rfl,rfl⟩ _ _ _;have MN:=jC akP r7;have Jq:=oj r7;generalize r7.takeWhile akP=GU at *;generalize r7.dropWhile akP=r8 at *;generalize (decide (GU=[])||decide (8<GU.length))=GV at *;simp only[↓aX,mX,seval];have last:∀b9:Bool,b9=(b6|| !E8||GV|| !(GU==nm))->∀r9 GW:Bs,r9.length<=r8.length->GW.length<=r9.length->r9=r8.dropWhile isSp->GW=cZ [62] r9->rR (d+1) s b (Tree.av (.mk false nm az ks)) (cG GW (b9|| !List.isPrefixOf [62] r9)):=by
  rintro b9 h9 r9 GW g9 g10 e9 GX;refine⟨_,GW,_,rfl,rfl,?_,sf,λq hq=> ?_,λhb=> ?_,λhb=> ?_⟩
  ·simp only[Tree.wt];omega
  ·have:=bI q hq;simp only[Tree.wt];omega
  ·have:=GR hb;cases this
  have h:=yM hb;simp only[jy,nX] at h;obtain⟨mZ,h1,h2,h3⟩:=h;rw[ke mZ h1,HO];simp only[jy,nX];rw[LN];cases Ku with
  |false=>
   have:b9=true:=(by rw[h9,LO rfl];rfl);rw[this];rfl
  |true=>
  simp only[Rc,EF];have h6:=LP rfl;cases Kv:dM (bG d) r5 with
  |none=>
   rw[Kv] at h6;simp only at h6;have:b9=true:=(by rw[h9,h6];rfl);rw[this];rfl
  |some y=>
  rw[Kv] at h6;obtain⟨rfl,rfl,h7⟩:=h6;simp only[EF];unfold ka;rw[LQ];cases E8 with
  |false=>
   have:b9=true:=(by rw[h9];rfl);rw[this];rfl
  |true=>
  simp only[Rc,EF,Jq];cases GV with
  |true=>
   have:b9=true:=(by rw[h9];rfl);rw[this];rfl
  |false=>
  simp only[jy,nX,EF];by_cases wM:GU=nm
  ·rw[P8 wM,<-e9,gU,<-GX];have:b9=false:=(by rw[h9,wM];simp);rw[this];cases List.isPrefixOf [62] r9 with
   |false=>rfl
   |true=>
   simp only[Rc,bT];refine⟨rfl,trivial,?_⟩;rcases j0 mZ h2 h3 ks with g|g
   ·rcases h7 with h7|⟨h7,h8⟩
    ·left;rw[<-h7];exact g
    right;simp only[Tree.v8,h7,h8,Bool.or_true,A5]
   exact .inr (g ks y.1)
  rw[Ev wM];have:b9=true:=by rw[h9];simp[wM]
  rw[this];rfl
 cases wM:(GU==nm) with
 |true=>
  simp only[↓aX,mX,seval];refine bj (l:= .par 0) (HK r8 (b6|| !E8||GV) sf) aas aai ?_;rintro x1 dF ⟨rfl,rfl⟩ _ _ _;have Jr:=jf isSp r8;simp only[↓aX,mX,seval];refine bj (l:= .par 0) (Cn (r8.dropWhile isSp) [62] (b6|| !E8||GV)) aas aai ?_;rintro x1 dF rfl _ _ _;have Ep:=ic [62] (r8.dropWhile isSp);simp only[↓aX,mX,seval,norm,fi,kj];refine⟨_,last (b6|| !E8||GV) (by rw[wM];simp) _ _ Jr Ep rfl rfl,aao,aao,rfl,aai⟩
 |false=>
 simp only[↓aX,mX,seval];refine bj (l:= .par 0) (HK r8 true sf) aas aai ?_;rintro x1 dF ⟨rfl,rfl⟩ _ _ _;have Jr:=jf isSp r8;simp only[↓aX,mX,seval];refine bj (l:= .par 0) (Cn (r8.dropWhile isSp) [62] true) aas aai ?_;rintro x1 dF rfl _ _ _;have Ep:=ic [62] (r8.dropWhile isSp);simp only[↓aX,mX,seval,norm,fi,kj];refine⟨_,last true (by rw[wM];simp) _ _ Jr Ep rfl rfl,aao,aao,rfl,aai⟩
end

def Js (d:Nat) (s:Bs) (b:Bool) (q:Bs×List Tree×Bool):Prop:=dE q.2.1+3*q.1.length<=3*s.length+(if q.2.2 then 1 else 0)/\(b=true->q.2.2=true) /\
 (b=false->∃l0,(q.2.1=l0\/(jR q.2.1=true/\jR l0=true))/\if q.2.2 then dM (bG d) s=none else dM (bG d) s=(dM (bG d) q.1).map λy=>(l0++y.1,y.2))
def iP {c:UInt8} {q t r:Bs} (hc:c≠60) (h:bm false (c::q)=some (t,r)):r.length<(c::q).length:=by
 have hl:=mC _ _ _ _ (PW _) h;have ht:t≠[]:=by
  rw[bm,Ev (by simp[hc])] at h;split at h
  ·split at h
   ·obtain⟨y,_,h2⟩:=jF.1 h;simp only[eS] at h2;rw[<-h2.1];simp
   cases h
  split at h
  ·cases h
  obtain⟨y,_,h2⟩:=jF.1 h;simp only[eS] at h2;rw[<-h2.1];simp
 have:0<t.length:=V0.2 ht;omega
section
variable {P:Program} {G:Nat->Option (List IV)}
def alJ (b7 aW bo:Nat):AC:=
(aM [zi 4] (aM [zi 5] (.gh (.own 5 4) (.seq (.block 0 (.loop (.seq (aM [MR 6 0,aQ 7 (.dp (.t 6)),ep 8 7 0,fm 9 8,aQ 10 (.bin .neq (.t 9) (.c (.str []))),MR 11 10,cU 12 11 0,dW 13 11 (.dp (.t 12)),Wb 14 11 13 1,jm 15 11 14,dW 16 11 (.not (.t 15)),jT 17 11 16,MR 18 17,cU 19 18 0,dW 20 18 (.dp (.t 19)),Wb 21 18 20 0,jm 22 18 21,dW 23 18 (.call b7 [(.t 22),(.c (.str [60,47]))]),dW 24 18 (.not (.t 23)),jT 25 18 24] (.cond (.t 25) .skip (.exit 0))) (.block 1 (aM [MR 26 0,aQ 27 (.dp (.t 26)),ep 28 27 0,fm 29 28,aQ 30 (.lj (.t 29) (jS 0)),aQ 31 (.bin .eql (.t 30) (.c (.int .u8 60)))] (.cond (.t 31) (.cq [MR 32 5,MR 33 0,MR 34 1,aQ 35 (.call aW [(.t 33),(.t 34)]),aQ 36 (.lits 1 4 [(.bool false),(.str []),.nil0,.nil0] [(0,(.t 35))]),aQ 37 (.app (.t 32) (.t 36) 4 72),MR 5 37]) (.cq [MR 38 5,MR 39 0,aQ 40 (.call bo [(.t 39),(me false)]),aQ 41 (.sg [(.bool false),(.str []),.nil0,.nil0] [(0,(1,(me true))),(1,(1,(.t 40)))]),aQ 42 (.lits 1 4 [(.bool false),(.str []),.nil0,.nil0] [(0,(.t 41))]),aQ 43 (.app (.t 38) (.t 42) 4 72),MR 5 43]))))))) (.gh (.zS (.loc 5) 5) (aM [MR 44 5,MR 4 44] .ret))))))
def Er {cj b7 aW bo:Nat} (hF:aw P G cj=some (45,[(none,4)],(alJ b7 aW bo).bare))
  (hP:∀s t:Bs,au P G b7 [.str s,.str t] (.bool (t.isPrefixOf s)))
  (hT:∀(v:Bool) (s:Bs) (b:Bool),s.length<=B->cR P G bo [.ptr (.par 0) 2 0 0,.bool v] (cG s b) (rO v s b))
  (d:Nat) (hE:∀(s:Bs) (b:Bool),s.length<=B->cR P G aW [.ptr (.par 0) 2 0 0,.int .i64 (9 - d:Int)] (cG s b) (rR d s b))
  (s:Bs) (hs:s.length<=B) (b:Bool) :
  cR P G cj [.ptr (.par 0) 2 0 0,.int .i64 (9 - d:Int)] (cG s b) (pF d s b):=by
 refine dw hF tM aae aae ?_;have zo:B=1073741824:=rfl;unfold alJ;simp only[↓aX,mX,seval,Oj];refine gb (σ:={q:Bs×List Tree×Bool // Js d s b q}) (λ_=>[.par 0,.loc 5]) (λ_ _=>false)
  (λq=>[(0,.ptr (.par 0) 2 0 0),(1,.int .i64 (9 - d:Int)),(5,.sl (.loc 5) 4 0 q.1.2.1.length)])
  (λq=>[(.par 0,⟨2,[cG q.1.1 q.1.2.2]⟩),(.loc 5,⟨4,aB (dq q.1.2.1)⟩)]) (λq=>2*q.1.1.length+(if q.1.2.2 then 0 else 1)) ⟨(s,[],b),abB,λh=>h,λh=>⟨[],.inl rfl,?_⟩⟩ (λ_=>rfl) (λq=>by simp[ah,AV.an]) ?_ ⟨[],?_⟩ ?_
 ·simp only[h,jy,nX];cases dM (bG d) s<;>simp
 ·intro q w hw cs jB z hz;simp only[PY,QN,QV] at hw;rcases hw with rfl|rfl
  ·simp only[bY] at jB;subst jB;simp[ah,AV.an] at hz
  rw[bU jB] at hz;simp at hz
 ·refine⟨?_,?_,?_,aar,aar⟩
  ·intro l hf hu;left;cases l<;>simp[Lb.entry] at hf;rename_i n;by_cases e:n=0
   ·subst e;simp
   exfalso;apply hu;simp[ae,Hp.none,e]
  ·simp[k_,dn,bJ,put,jP]
  simp[tc,dn,ae,dO,bu,bJ,dq,aB]
 rintro⟨⟨r,l,bad⟩,hlen,qE,nL⟩;simp only at hlen qE nL;have Ij:=eZ l;have Ly:l.length<=3*s.length+1:=by split at hlen<;>omega
 have Jt:r.length<=s.length:=by split at hlen<;>omega
 have hU:∀d,d≠5->ie (λ_=>false) [(Lb.par 0,⟨2,[cG r bad]⟩),(Lb.loc 5,⟨4,aB (dq l)⟩)] (.loc d)= .unused:=λd hd=>by rw[fE (by simp[hd])];rfl
 have nk:∀d,d≠0->ie (λ_=>false) [(Lb.par 0,⟨2,[cG r bad]⟩),(Lb.loc 5,⟨4,aB (dq l)⟩)] (.par d)= .unused:=λd hd=>by rw[fE (by simp[hd])];rfl
 have ij:ie (λ_=>false) [(Lb.par 0,⟨2,[cG r bad]⟩),(Lb.loc 5,⟨4,aB (dq l)⟩)] (.par 0)= .live ⟨2,[cG r bad]⟩:=cL.2 aaZ;have oB:ie (λ_=>false) [(Lb.par 0,⟨2,[cG r bad]⟩),(Lb.loc 5,⟨4,aB (dq l)⟩)] (.loc 5)= .live ⟨4,aB (dq l)⟩:=cL.2 aaZ;simp only;generalize ie (λ_=>false) [(Lb.par 0,⟨2,[cG r bad]⟩),(Lb.loc 5,⟨4,aB (dq l)⟩)]=H0 at *;have fin:(bad=false->dM (bG d) r=some ([],r))->pF d s b (.list (dq l)) (cG r bad):=by
  intro h4;refine⟨l,r,bad,rfl,rfl,by split at hlen<;>omega,qE,λhb=> ?_⟩;obtain⟨l0,h1,h2⟩:=nL hb;cases bad with
  |true=>simp only[Rc] at h2;rw[h2]
  |false=>
  simp only[jy,nX,h4 rfl,bT,SU] at h2;rw[h2];exact⟨rfl,rfl,h1⟩
 simp only[↓aX,mX,seval,ij]
 match r,hlen,nL,ij,fin,Jt with
 |[],hlen,nL,ij,fin,Jt=>
  simp only[↓aX,mX,seval,show(([]:Bs)==[])=true from rfl,QK];refine⟨4,dq l,0,l.length,rfl,oB,by rw[bF];omega,pa l,?_⟩;rw[tn,P5 (by rw[bF];exact PW _)];exact⟨_,fin (λ_=>by rw[dM]),rfl,aae,rfl,by simp[ae,ij]⟩
 |c::q,hlen,nL,ij,fin,Jt=>
  simp only[↓aX,mX,seval,show((c::q:Bs)==[])=false from rfl,QI,ij];cases bad with
  |true=>
   simp only[↓aX,mX,seval,QK];refine⟨4,dq l,0,l.length,rfl,oB,by rw[bF];omega,pa l,?_⟩;rw[tn,P5 (by rw[bF];exact PW _)];exact⟨_,fin (λh=>by cases h),rfl,aae,rfl,by simp[ae,ij]⟩
  |false=>
  have Cm:b=false:=by cases b with|true=>exact absurd (qE rfl) tM|false=>rfl
  obtain⟨l0,LR,ke⟩:=nL Cm;simp only[jy,nX] at ke hlen;simp only[↓aX,mX,seval,QI,ij];refine ay (hP (c::q) [60,47]) ?_;cases yN:List.isPrefixOf [60,47] (c::q) with
  |true=>
   simp only[↓aX,mX,seval,QK];refine⟨4,dq l,0,l.length,rfl,oB,by rw[bF];omega,pa l,?_⟩;rw[tn,P5 (by rw[bF];exact PW _)];exact⟨_,fin (λ_=>by rw[dM,P8 yN]),rfl,aae,rfl,by simp[ae,ij]⟩
  |false=>
  have GL:((c.toNat:Int)==60)=(c==60):=cI c 60 M3;have HP:¬List.isPrefixOf [60,47] (c::q)=true:=by rw[yN];simp
  simp only[↓aX,mX,seval,QI,ij,show((0:Int)).toNat=0 from rfl,RA,GL];have cX:∀(t t0:Tree),(t=t0\/(t.v8=true/\t0.v8=true))->(l++[t]=l0++[t0]\/(jR (l++[t])=true/\jR (l0++[t0])=true)):=by
   intro t t0 h;simp only[rQ,jR,Bool.or_false];rcases LR with h1|⟨h1,h2⟩
   ·rcases h with h|⟨h3,h4⟩
    ·left;rw[h1,h]
    right;rw[h3,h4];simp
   right;rw[h1,h2];simp
  by_cases tv:c=60
  ·rw[show(c==60)=true by simp[tv]];simp only[↓aX,mX,seval];refine bj (l:= .par 0) (hE (c::q) false sf) aas (by simp[ij]) ?_;rintro x1 dF ⟨t,r',b',rfl,rfl,zO,pU,wB,_,ky⟩ _ _ _;obtain⟨Es,HQ⟩:=wB q (by rw[tv]);have ky:=ky rfl;simp only[↓aX,mX,seval,Tree.av];rw[qg 4 72 37 5 (dq l) (.agg [.bool t.text,.str t.s,.list (cD t.attrs),.list (dq t.kids)]) (by simp[ae,oB]) (bF l) rfl (by intro z hz cs;simp only[IV.cells,PY,QN,QV] at hz;rcases hz with rfl|rfl|rfl|rfl<;>simp) sf M3 M3 (by simp[ae,hU 37 M3])];simp only[↓aX,mX,seval];refine⟨⟨(r',l++[t],b'),?_,λ(h:b=true)=>(by rw[Cm] at h;cases h),λ_=> ?_⟩,?_,[(.loc 5,.loc 37)],?_,?_,?_,aar,?_⟩
   ·simp only[kn,dE];split<;>omega
   ·cases ll:bG d (c::q) with
    |none=>
     rw[ll] at ky;refine⟨l0++[t],cX t t (.inl rfl),?_⟩;simp only[ky,Rc];rw[ke,dM,Ev HP,P8 tv,ll];rfl
    |some y=>
     rw[ll] at ky;obtain⟨rfl,rfl,h7⟩:=ky;refine⟨l0++[y.1],cX t y.1 h7,?_⟩;simp only[jy,nX];rw[ke]
     conv=>lhs;rw[dM,Ev HP,P8 tv,ll]
     simp only;rw[Yy HQ];cases dM (bG d) y.2 with
     |none=>rfl
     |some z=>simp only[bT,SS,V6]
   ·simp only;cases b'<;>simp at HQ ⊢<;>omega
   ·intro z hf hu;left;cases z<;>simp[Lb.entry] at hf;rename_i n;by_cases e0:n=0
    ·subst e0;simp
    exfalso;apply hu;simp[ae,e0,nk n e0]
   ·simp[k_,bJ,dn,put]
   ·refine⟨abo,aa2,trivial⟩
   intro z hz;simp only[PY,QN,QV] at hz;rcases hz with rfl|rfl
   ·simp[dn]
   simp[dn,Lb.fresh,Lb.entry]
  rw[show(c==60)=false by simp[tv]];simp only[↓aX,mX,seval];refine bj (l:= .par 0) (hT false (c::q) false sf) aas (by simp[ij]) ?_;rintro x1 dF ⟨t,r',b',rfl,rfl,zO,_,ky⟩ _ _ _;have ky:=ky rfl;simp only[↓aX,mX,seval];rw[qg 4 72 43 5 (dq l) (.agg [.bool true,.str t,.list [],.list []]) (by simp[ae,oB]) (bF l) rfl (by intro z hz cs;simp only[IV.cells,PY,QN,QV] at hz;rcases hz with rfl|rfl|rfl|rfl<;>simp) sf M3 M3 (by simp[ae,hU 43 M3])];simp only[↓aX,mX,seval];refine⟨⟨(r',l++[(Tree.mk true t [] [])],b'),?_,λ(h:b=true)=>(by rw[Cm] at h;cases h),λ_=> ?_⟩,?_,[(.loc 5,.loc 43)],?_,?_,?_,aar,?_⟩
  ·simp only[kn,dE,Tree.wt,dX];cases v_:bm false (c::q) with
   |none=>rw[v_] at ky;rw[ky];simp only[Rc];omega
   |some y=>
   rw[v_] at ky;obtain⟨rfl,rfl⟩:=ky;have:=iP tv v_;simp only[jy,nX];omega
  ·cases v_:bm false (c::q) with
   |none=>
    rw[v_] at ky;refine⟨l0++[.mk true t [] []],cX _ _ (.inl rfl),?_⟩;simp only at ky;simp only[ky,Rc];rw[ke,dM,Ev HP,Ev tv,v_];rfl
   |some y=>
    rw[v_] at ky;obtain⟨rfl,rfl⟩:=ky;refine⟨l0++[.mk true t [] []],cX _ _ (.inl rfl),?_⟩;simp only[jy,nX];rw[ke]
    conv=>lhs;rw[dM,Ev HP,Ev tv,v_]
    simp only[bT];rw[Yy (iP tv v_)];cases dM (bG d) r' with
    |none=>rfl
    |some z=>simp only[bT,SS,V6]
  ·show 2*r'.length+(if b'=true then 0 else 1)<2*(c::q).length+1;cases v_:bm false (c::q) with
   |none=>rw[v_] at ky;simp only at ky;simp only[ky,Rc];omega
   |some y=>
   rw[v_] at ky;obtain⟨rfl,rfl⟩:=ky;have:=iP tv v_;simp only[jy,nX];omega
  ·intro z hf hu;left;cases z<;>simp[Lb.entry] at hf;rename_i n;by_cases e0:n=0
   ·subst e0;simp
   exfalso;apply hu;simp[ae,e0,nk n e0]
  ·simp[k_,bJ,dn,put]
  ·refine⟨abo,aa2,trivial⟩
  intro z hz;simp only[PY,QN,QV] at hz;rcases hz with rfl|rfl
  ·simp[dn]
  simp[dn,Lb.fresh,Lb.entry]
end

def om (a b:Attr):Int:=Lib.compareBytes a.name b.name
def Attr.yO (a:Attr):AV:= .agg [.str a.name,.str a.val]
section
variable {P:Program} {G:Nat->Option (List IV)}
def cB (bq:Nat):AC:=
(aM [gH 4 0] (aM [MR 5 0,MR 6 1,aQ 7 (.kE bq [(.t 5),(.t 6)]),MR 4 7] .ret))
def anh {a6 bq:Nat} (hF:aw P G a6=some (8,[(none,4)],(cB bq).bare))
  (hX:∀(N:Nat) (s t:Bs) (H:Hp),sZ ⟨P,G,N⟩ bq [.str s,.str t] H (.int .i64 (Lib.compareBytes s t))) (s t:Bs) :
  au P G a6 [.str s,.str t] (.int .i64 (Lib.compareBytes s t)):=by
 refine aR hF tM aae aad ?_;unfold cB;simp only[↓aX,mX,seval];refine DZ (hX _ _ _ _) ?_;simp only[↓aX,mX,seval]
def fI (a6:Nat):AC:=
(aM [gH 4 0] (aM [MR 5 0,MR 6 1,aQ 7 (.call a6 [(.t 5),(.t 6)]),MR 4 7] .ret))
def yP {cC a6:Nat} (hF:aw P G cC=some (8,[(none,4)],(fI a6).bare)) (s t:Bs) (hC:au P G a6 [.str s,.str t] (.int .i64 (Lib.compareBytes s t))) :
  au P G cC [.str s,.str t] (.int .i64 (Lib.compareBytes s t)):=by
 refine aR hF tM aae aad ?_;unfold fI;simp only[↓aX,mX,seval];refine ay hC ?_;simp only[↓aX,mX,seval]
def NG (cC:Nat):AC:=
(aM [zzX 2 0,zzX 3 1,gH 4 0] (aM [ep 5 2 0,fm 6 5,ep 7 3 0,fm 8 7,aQ 9 (.call cC [(.t 6),(.t 8)]),MR 4 9] .ret))
def GY {bO cC:Nat} (hF:aw P G bO=some (10,[(none,4)],(NG cC).bare)) (a b:Attr) (hC:au P G cC [.str a.name,.str b.name] (.int .i64 (Lib.compareBytes a.name b.name))) :
  au P G bO [a.yO,b.yO] (.int .i64 (om a b)):=by
 refine aR hF tM (by simp[ah,AV.an,Attr.yO]) aad ?_;unfold NG;simp only[↓aX,mX,seval,Attr.yO];refine ay hC ?_;simp only[↓aX,mX,seval,om]
theorem rS:∀s t:Bs,decide (Lib.compareBytes s t<0)=Op.bytesLess s t
 |[],[]=>rfl
 |[],_::_=>rfl
 |_::_,[]=>rfl
 |a::az,b::bs=>by
  have ih:=rS az bs;simp only[Lib.compareBytes,Op.bytesLess];by_cases h1:a<b
  ·simp[h1]
  by_cases h2:b<a
  ·simp only[h1,h2,Rc,nX];have:¬a=b:=λe=>h1 (by rw[e] at h2;exact absurd h2 (mH _));simp_all
  have h3:a=b:=(yj a b).elim (λh=>absurd h h1) (λh=>h.elim id (λh=>absurd h h2));subst h3;simp only[mH,nX,ih]
  try simp
def yQ (a b:Attr):decide (om a b<0)=Op.bytesLess a.name b.name:=rS _ _
def swap_perm {L:List Attr} {i j:Nat} {x y:Attr} (hi:L[i]?=some x) (hj:L[j]?=some y):((L.set i y).set j x).Perm L:=by
 obtain⟨h1,e1⟩:=yY.1 hi;obtain⟨h2,e2⟩:=yY.1 hj;subst e1;subst e2;exact List.set_set_perm h1 h2
def qx:List Attr->Prop
 |[]=>True
 |x::r=>(∀y∈r,Op.bytesLess y.name x.name=false)/\qx r
def yR {l:List Attr} {a x:Attr}:x∈gF l a↔x=a\/x∈l:=by
 induction l with
 |nil=>simp[gF]
 |cons b r ih=>
 unfold gF;split
 ·simp
 simp[ih];constructor<;>(rintro(h|h|h)<;>simp[h])
def yS {l:List Attr} (a:Attr) (h:qx l):qx (gF l a):=by
 induction l with
 |nil=>simp[gF,qx]
 |cons b r ih=>
 unfold gF;split
 ·rename_i bI;refine⟨λy hy=> ?_,h⟩;rcases PY.1 hy with rfl|hy
  ·exact ny bI
  have:=h.1 y hy;cases hc:Op.bytesLess y.name a.name with
  |false=>rfl
  |true=>have:=rG hc bI;simp_all
 rename_i bI;refine⟨λy hy=> ?_,ih h.2⟩;rcases yR.1 hy with rfl|hy
 ·simpa using bI
 exact h.1 y hy
def wa (l:List Attr):qx (cu l):=by
 have key:∀(l acc:List Attr),qx acc->qx (l.foldl gF acc):=by
  intro l;induction l with
  |nil=>intro acc h;exact h
  |cons a r ih=>intro acc h;exact ih _ (yS a h)
 exact key l [] trivial
def rT {p q:List Attr} (h:qx (p++q)):qx p/\∀x∈p,∀y∈q,Op.bytesLess y.name x.name=false:=by
 induction p with
 |nil=>exact⟨trivial,tM⟩
 |cons a r ih=>
 obtain⟨h1,h2⟩:=h;obtain⟨h3,h4⟩:=ih h2;refine⟨⟨λy hy=>h1 y (by simp[hy]),h3⟩,λx hx y hy=> ?_⟩;rcases PY.1 hx with rfl|hx
 ·exact h1 y (by simp[hy])
 exact h4 x hx y hy
theorem uX {x:Attr}:∀{pre suf:List Attr},(∀y∈pre,Op.bytesLess x.name y.name=false)->(∀y∈suf,Op.bytesLess x.name y.name=true)->gF (pre++suf) x=pre++x::suf
 |[],[],_,_=>rfl
 |[],b::r,_,h=>by simp only[List.nil_append,gF,h b tM,Rc]
 |a::p,suf,h1,h2=>by
  have:=uX (pre:=p) (suf:=suf) (x:=x) (λy hy=>h1 y (by simp[hy])) h2;simp only[List.cons_append,gF,h1 a tM,jy,nX,this]
def tE (l:List Attr) (x:Attr):cu (l++[x])=gF (cu l) x:=by unfold cu;rw[List.foldl_append];rfl
def ik {L:List Attr} {i:Nat} {x:Attr} (h:L[i]?=some x):(aB (cD L))[i]?=some [.str x.name,.str x.val]:=by
 rw[xT,lS,h];rfl
def m_ (L:List Attr) (i:Nat) (x:Attr):(aB (cD L)).set i [.str x.name,.str x.val]=aB (cD (L.set i x)):=by
 have:=xU (cD L) i x.iv;rw[show(aB (cD L)).set i [.str x.name,.str x.val]=(aB (cD L)).set i (x.iv.cells.map IV.dQ) from rfl,this];congr 1;simp[cD,Zb]
def cm:AC:=
(aM [MR 10 1,eY 11 .add 10 1,MR 8 11] (.block 0 (.loop (.seq (aM [MR 12 8,MR 13 2,et 14 .lss 12 13] (.cond (.t 14) .skip (.exit 0))) (.seq (.block 1 (aM [MR 17 8,MR 9 17] (.block 2 (.loop (.seq (.seq (.VL [MR 18 9,MR 19 1,et 20 .gtr 18 19,MR 21 20,cU 22 21 3,cU 23 21 0,cU 24 21 9,dW 25 21 (.Vc (.t 23) (.t 24) 2),dW 26 21 (.load (some 2) (.t 25)),cU 27 21 0,cU 28 21 9,dW 29 21 (.bin .sub (.t 28) (jS 1)),dW 30 21 (.Vc (.t 27) (.t 29) 2),dW 31 21 (.load (some 2) (.t 30)),dW 32 21 (.fM (.t 22) [(.t 26),(.t 31)]),dW 33 21 (.bin .lss (.t 32) (jS 0)),jT 34 21 33] [[],[],[0,1],[2],[3],[3],[3],[5,6,3],[7,3],[3],[3],[10,3],[9,11,3],[12,3],[4,8,13,3,3],[14,3],[3,15]] [.no,.no,.no,.no,.no,.no,.no,.no,(.rw [(.par 0)] []),.no,.no,.no,.no,(.rw [(.par 0)] []),.no,.no,.no]) (.cond (.t 34) .skip (.exit 2))) (.seq (.block 3 (.VL [MR 37 0,MR 38 9,MR 39 0,MR 40 9,eY 41 .sub 40 1,MR 42 0,MR 43 9,eY 44 .sub 43 1,jL 45 42 44 2,gz 46 2 45,MR 47 0,MR 48 9,jL 49 47 48 2,gz 50 2 49,jL 51 37 38 2,gg (.store 2 (.t 51) (.t 46)),jL 52 39 41 2,gg (.store 2 (.t 52) (.t 50))] [[],[],[],[],[3],[],[],[6],[5,7],[8],[],[],[10,11],[12],[0,1,0,1,5,6,7,8,9,13],[14,9,0,1,5,6,7,8,9,13],[2,4,0,1,2,3,4,5,6,7,8,9,10,11,12,13,14,15],[16,13,15,0,1,2,3,4,5,6,7,8,9,10,11,12,13,14,15]] [.no,.no,.no,.no,.no,.no,.no,.no,.no,(.rw [(.par 0)] []),.no,.no,.no,(.rw [(.par 0)] []),.no,(.rw [] [(.par 0)]),.no,(.rw [] [(.par 0)])])) (.cq [MR 35 9,eY 36 .sub 35 1,MR 9 36]))))))) (.cq [MR 15 8,eY 16 .add 15 1,MR 8 16]))))))
def Br {s3 dC:Nat} (hF:aw P G s3=some (53,[],cm.bare)) (hB:fU P dC=true) (hC:∀a b:Attr,au P G dC [a.yO,b.yO] (.int .i64 (om a b)))
  (l:List Attr) (hl:l.length<=B) (a b:Nat) (MO:a<=b) (hb:b<=l.length) :
  ig P G s3 [.sl (.par 0) 2 0 l.length,.int .i64 a,.int .i64 b,.fn dC [] []] 2 (cD l) λx ys=>∃zs:List Attr,ys=cD zs/\zs.Perm l/\(a=0->zs=cu (l.take b)++l.drop b)/\(a=b->zs=l):=by
 refine al7 hF tM aae ?_;have zo:B=1073741824:=rfl;unfold cm;simp only[↓aX,mX,seval,df];have Ef:IntKind.i64.wrap ((a:Int)+1)=((a+1:Nat):Int):=wrap64 sf sf;rw[Ef];clear Ef;refine ca (σ:={q:Nat×List Attr // a+1<=q.1/\q.1<=max b (a+1)/\q.2.Perm l/\(a=0->q.2=cu (l.take q.1)++l.drop q.1)/\(q.1=a+1->q.2=l)}) [.par 0]
  (λq=>[(0,.sl (.par 0) 2 0 l.length),(1,.int .i64 a),(2,.int .i64 b),(3,.fn dC [] []),(8,.int .i64 q.1.1)]) (λq=>[(.par 0,⟨2,aB (cD q.1.2)⟩)]) (λq=>b+1 - q.1.1)
  ⟨(a+1,l),PW _,aac,.refl _,λh=> ?_,λ_=>rfl⟩ (λ_=>rfl) M3 aae ?_ ?_ ?_
 ·subst h;cases l with
  |nil=>rfl
  |cons x r=>simp[cu,gF]
 ·intro q w hw cs bV z hz;simp only[bY] at hw;subst hw;rw[bU bV] at hz;simp at hz
 ·refine eL ?_ aah aah;intro z hz hu;by_cases e:z= .par 0
  ·subst e;simp
  exfalso;apply hu;simp[ae,e,Hp.none]
 rintro⟨⟨i,L⟩,LS,A2,hp,hs,j0⟩;simp only at LS A2 hp hs j0;have LU:L.length=l.length:=hp.length_eq;simp only[↓aX,mX,seval,cF,bW];by_cases bI:i<b
 ·rw[show decide (((i:Nat):Int)<((b:Nat):Int))=true by simpa using bI];have E9:IntKind.i64.wrap ((i:Int)+1)=((i+1:Nat):Int):=wrap64 sf sf;simp only[↓aX,mX,seval];refine ca (σ:={q:Nat×List Attr // a<=q.1/\q.1<=i/\q.2.Perm l/\(a=0->∃pre suf x,l[i]?=some x/\pre++suf=cu (l.take i)/\q.2=pre++x::(suf++l.drop (i+1))/\pre.length=q.1/\∀y∈suf,Op.bytesLess x.name y.name=true)}) [.par 0]
   (λq=>[(0,.sl (.par 0) 2 0 l.length),(1,.int .i64 a),(2,.int .i64 b),(3,.fn dC [] []),(8,.int .i64 i),(9,.int .i64 q.1.1)]) (λq=>[(.par 0,⟨2,aB (cD q.1.2)⟩)]) (λq=>q.1.1)
   ⟨(i,L),aac,PW _,hp,λh=> ?_⟩ (λ_=>rfl) M3 aae ?_ ?_ ?_
  ·obtain⟨x,hx⟩:∃x,l[i]?=some x:=⟨_,rX sf⟩;refine⟨cu (l.take i),[],x,hx,tM,?_,?_,tM⟩
   ·simp only;rw[hs h,EK (show i<l.length by omega),(yY.1 hx).2,List.nil_append]
   rw[pE,tp];simp only;omega
  ·intro q w hw cs bV z hz;simp only[bY] at hw;subst hw;rw[bU bV] at hz;simp at hz
  ·refine eL ?_ aah aah;intro z hz hu;by_cases e:z= .par 0
   ·subst e;simp
   exfalso;apply hu;simp[ae,e,Hp.none]
  rintro⟨⟨j,M⟩,Ig,FE,hM,HR⟩;simp only at Ig FE hM HR;have rU:M.length=l.length:=hM.length_eq;simp only[↓aX,mX,seval,cF,bW];refine⟨aax,?_⟩;have done:∀pre suf x,l[i]?=some x->pre++suf=cu (l.take i)->M=pre++x::(suf++l.drop (i+1))->(∀y∈suf,Op.bytesLess x.name y.name=true)->(∀y∈pre,Op.bytesLess x.name y.name=false)->M=cu (l.take (i+1))++l.drop (i+1):=by
   intro pre suf x h1 h2 h3 h4 h5;rw[Ro,h1,Wx,tE,<-h2,uX h5 h4,h3];simp
  by_cases Kw:a<j
  ·rw[show decide (((j:Nat):Int)>((a:Nat):Int))=true by simpa using Kw];have Ju:IntKind.i64.wrap ((j:Int) - 1)=((j - 1:Nat):Int):=(by rw[wrap64 sf sf];omega);obtain⟨x,hx⟩:∃x,M[j]?=some x:=⟨_,rX sf⟩;obtain⟨y,hy⟩:∃y,M[j - 1]?=some y:=⟨_,rX sf⟩;have GZ:=hC x y;simp only[Attr.yO] at GZ;simp only[↓aX,mX,seval,Ju,QJ,Qj,bM,ik hx,ik hy,show j<l.length by omega,show j - 1<l.length by omega,kc,oi];refine⟨hB,jw GZ ?_⟩;simp only[↓aX,mX,seval,yQ];have G0:a=0->∀{pre suf:List Attr} {z:Attr},l[i]?=some z->pre++suf=cu (l.take i)->M=pre++z::(suf++l.drop (i+1))->pre.length=j->Op.bytesLess x.name y.name=false->∀w∈pre,Op.bytesLess z.name w.name=false:=by
    intro h pre suf z h1 h2 h3 h4 nn w hw;have hz:z=x:=by
     rw[h3,b_ sf,h4] at hx;simpa using hx
    subst hz;obtain⟨qy,y',rfl⟩:∃qy y',pre=qy++[y']:=by
     rcases Zt pre with h|⟨p',y',h⟩
     ·subst h;simp at h4;omega
     exact⟨p',y',by simpa using h⟩
    have BS:qy.length=j - 1:=(by simp at h4;omega);have Jv:y'=y:=by
     rw[h3,SS,b_ sf,BS,Gl] at hy;simpa using hy
    subst Jv;have Ky:=wa (l.take i);rw[<-h2] at Ky;have LV:=(rT (rT Ky).1).2;rcases QL.1 hw with hw|hw
    ·have h6:=LV w hw y' tM;cases hc:Op.bytesLess z.name w.name with
     |false=>rfl
     |true=>
     rcases tl y'.name w.name with h7|h7|h7
     ·rw[h7] at h6;cases h6
     ·rw[h7,hc] at nn;cases nn
     rw[rG hc h7] at nn;cases nn
    simp only[bY] at hw;subst hw;exact nn
   cases nn:Op.bytesLess x.name y.name with
   |true=>
    simp only[↓aX,mX,seval];refine⟨aax,?_⟩;simp only[↓aX,mX,seval,Ju,QJ,Qj,bM,ik hx,ik hy,show j<l.length by omega,show j - 1<l.length by omega,eP];have D1:(M.set j y)[j - 1]?=some y:=(by rw[Bd sf];exact hy);rw[m_ M j y];simp only[↓aX,mX,seval,ik D1,Ju];refine⟨⟨(j - 1,(M.set j y).set (j - 1) x),aac,aac,(swap_perm hx hy).trans hM,λh=> ?_⟩,aac,eL ?_ aah ⟨by simp only[ae,Rc];rw[m_],trivial⟩⟩
    ·obtain⟨pre,suf,z,h1,h2,h3,h4,h5⟩:=HR h;have hz:z=x:=by
      rw[h3,b_ sf,h4] at hx;simpa using hx
     subst hz;obtain⟨qy,y',rfl⟩:∃qy y',pre=qy++[y']:=by
      rcases Zt pre with h|⟨p',y',h⟩
      ·subst h;simp at h4;omega
      exact⟨p',y',by simpa using h⟩
     have BS:qy.length=j - 1:=(by simp at h4;omega);have Jv:y'=y:=by
      rw[h3,SS,b_ sf,BS,Gl] at hy;simpa using hy
     subst Jv;refine⟨qy,y'::suf,z,h1,by rw[<-h2];simp,?_,BS,λw hw=> ?_⟩
     ·simp only;rw[h3];have zk:j=qy.length+1:=sf;subst zk;simp[Vq]
     rcases PY.1 hw with rfl|hw
     ·exact nn
     exact h5 w hw
    intro z hz hu;by_cases e:z= .par 0
    ·subst e;simp
    exfalso;apply hu;simp[ae,e,Hp.none]
   |false=>
   simp only[↓aX,mX,seval,E9];refine⟨⟨(i+1,M),aac,U' bI (Nat.le_max_left _ _),hM,λh=> ?_,λh=>absurd h aac⟩,aac,eL ?_ aah aah⟩
   ·obtain⟨pre,suf,z,h1,h2,h3,h4,h5⟩:=HR h;exact done pre suf z h1 h2 h3 h5 (G0 h h1 h2 h3 h4 nn)
   intro z hz hu;by_cases e:z= .par 0
   ·subst e;simp
   exfalso;apply hu;simp[ae,e,Hp.none]
  rw[show decide (((j:Nat):Int)>((a:Nat):Int))=false by simpa using Kw];simp only[↓aX,mX,seval,E9];refine⟨⟨(i+1,M),aac,U' bI (Nat.le_max_left _ _),hM,λh=> ?_,λh=>absurd h aac⟩,aac,eL ?_ aah aah⟩
  ·obtain⟨pre,suf,z,h1,h2,h3,h4,h5⟩:=HR h;exact done pre suf z h1 h2 h3 h5 (by have:pre=[]:=wc sf;rw[this];simp)
  intro z hz hu;by_cases e:z= .par 0
  ·subst e;simp
  exfalso;apply hu;simp[ae,e,Hp.none]
 rw[show decide (((i:Nat):Int)<((b:Nat):Int))=false by simpa using bI];simp only[↓aX,mX,seval,lM,ef,gD];refine⟨_,rfl,cD L,⟨L,rfl,hp,λh=> ?_,λh=>j0 sf⟩,aao,by rw[bp,bp,LU],aai⟩;rw[hs h];by_cases LW:i=b
 ·rw[LW]
 have oK:b=0:=sf
 have Jw:i=1:=sf
 subst oK;subst Jw;cases l with
 |nil=>rfl
 |cons x r=>simp[cu,gF]
end

def RT (az:List Attr) (key:Bs):Nat:=(az.takeWhile λa=>Op.bytesLess a.name key).length
def TU (az:List Attr) (key:Bs):Bool:=match az[RT az key]? with|some a=>a.name==key|none=>false
section
variable {P:Program} {G:Nat->Option (List IV)}
def VW (cC:Nat):AC:=
(aM [zzX 2 0,gH 4 0] (aM [ep 5 2 0,fm 6 5,MR 7 1,aQ 8 (.call cC [(.t 6),(.t 7)]),MR 4 8] .ret))
def asS:AC:=
(aM [gH 6 0,jM 7 false] (aM [MR 12 0,oy 13 12,MR 8 13] (aM [MR 14 8,gH 9 0,MR 10 14] (.seq (.block 0 (.loop (.seq (aM [MR 15 9,MR 16 10,et 17 .lss 15 16] (.cond (.t 17) .skip (.exit 0))) (.block 1 (aM [MR 18 9,MR 19 10,et 20 .add 18 19,aQ 21 (.qK .u64 (.t 20)),aQ 22 (.bin .shr (.t 21) (.c (.int .u64 1))),aQ 23 (.qK .i64 (.t 22)),MR 11 23] (aM [MR 24 2,MR 25 0,MR 26 11,jL 27 25 26 2,gz 28 2 27,MR 29 1,aQ 30 (.fM (.t 24) [(.t 28),(.t 29)]),eY 31 .lss 30 0] (.cond (.t 31) (.cq [MR 32 11,eY 33 .add 32 1,MR 9 33]) (.cq [MR 34 11,MR 10 34])))))))) (aM [MR 35 9,MR 36 9,MR 37 8,et 38 .lss 36 37,MR 39 38,cU 40 39 2,cU 41 39 0,cU 42 39 9,dW 43 39 (.Vc (.t 41) (.t 42) 2),dW 44 39 (.load (some 2) (.t 43)),cU 45 39 1,dW 46 39 (.fM (.t 40) [(.t 44),(.t 45)]),dW 47 39 (.bin .eql (.t 46) (jS 0)),jT 48 39 47,MR 6 35,MR 7 48] .ret)))))
structure U3 (az:List Attr) (key:Bs) where
 lo:Nat
 hi:Nat
 h1:lo<=hi
 h2:hi<=az.length
 h3:∀j a,j<lo->az[j]?=some a->Op.bytesLess a.name key=true
 h4:∀j a,hi<=j->az[j]?=some a->Op.bytesLess a.name key=false
end
end Go.Am
