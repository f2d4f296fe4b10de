import Derived.Test.YtfinkeaikbmpgaaDoorKAm1
import Derived.Laws.AppendOwn
import Derived.Laws.IdiomStrings
import Derived.Laws.BytesString
set_option linter.unusedSimpArgs false
set_option linter.unusedVariables false
set_option linter.unnecessarySimpa false
set_option linter.defProp false
/- THE ABSTRACT MACHINE, part 5: cuts, comparisons, structs: the rest of the instructions that leave the rows alone. -/
namespace Go.Am
open Go Go.RowKit
section
variable {K:Kx} {β:Lb→Option Nat} {env:Env} {H:Hp} {a:Act} {w:World}
def cE (hr:au K β env H a w) {lo:Option Operand} {lP:Option O} {d m n:Nat} (hc:df K.G lo=some lP) (h:gR env lP d m=some n) :
  (lo=none∧lP=none∧n=d)∨∃x k v,lo=some x∧lP.isSome=true∧a.eval x= .int k v∧0≤v∧v.toNat≤m∧n=v.toNat:=by
 cases lo with
 |none=>
  simp[df] at hc;subst hc;simp[gR] at h;exact .inl ⟨rfl,rfl,h.symm⟩
 |some x=>
 simp only[df,Fu] at hc;obtain⟨y,h1,rfl⟩:=hc;have h2:=hr.ev h1;simp only[gR] at h;split at h
 ·rename_i k v e;rw[e] at h2;simp only[RV] at h2;split at h
  ·rename_i hv;simp only[cQ] at h;exact .inr ⟨x,k,v,rfl,rfl,h2,hv.1,hv.2,h.symm⟩
  simp at h
 simp at h
def run_sliceBound {P:Program} {w:World} {k:IntKind} {v:Int} {y:Nat} (code:BoundsCode) (h0:0≤v) (h1:v.toNat≤y):(Instr.sliceBound (.int k v) y code).run P w= .ok v.toNat w:=by
 have:v≤(y:Int):=by omega
 simp[Instr.sliceBound,asIntOf,h0,this,Result.andThen]
def ic (hr:au K β env H a w) {lo hi mx:Option Operand} {lP cM mx':Option O} {n c l h:Nat} {m:Option Nat} (nN:df K.G lo=some lP) (pB:df K.G hi=some cM)
  (nY:df K.G mx=some mx') (v7:n≤c) (hb:jL env lP cM mx' n=some (l,h,m)) :
  (Instr.sliceBounds true n c (lo.map a.eval) (hi.map a.eval) (mx.map a.eval)).run K.P w= .ok (l,h,m.getD c) w∧l≤h∧h≤n∧h≤m.getD c∧m.getD c≤c:=by
 unfold jL at hb;cases mx' with
 |none=>
  simp only[Fv,Fu,FB] at hb;obtain⟨h',h1,l',h2,rfl,rfl,rfl⟩:=hb;have wN:mx=none:=by cases mx with
   |none=>rfl
   |some x=>simp[df] at nY
  subst wN;rcases cE hr pB h1 with⟨rfl,rfl,rfl⟩|⟨x,k,v,rfl,_,e1,e2,e3,rfl⟩
  ·rcases cE hr nN h2 with⟨rfl,rfl,rfl⟩|⟨y,k,u,rfl,_,e4,e5,e6,rfl⟩
   ·exact⟨by simp[Instr.sliceBounds],by omega,by omega,by simpa using v7,by simp⟩
   exact⟨by simp[Instr.sliceBounds,e4,run_sliceBound _ e5 e6],by omega,by omega,by simpa using v7,by simp⟩
  rcases cE hr nN h2 with⟨rfl,rfl,rfl⟩|⟨y,k',u,rfl,_,e4,e5,e6,rfl⟩
  ·exact⟨by simp[Instr.sliceBounds,e1,run_sliceBound _ e2 (show v.toNat≤c by omega)],by omega,e3,by simp;omega,by simp⟩
  exact⟨by simp[Instr.sliceBounds,e1,e4,run_sliceBound _ e2 (show v.toNat≤c by omega),run_sliceBound _ e5 e6],e6,e3,by simp;omega,by simp⟩
 |some m0=>
 simp only at hb;split at hb
 ·simp at hb
 rename_i tQ;simp only[Fv,Fu,FB] at hb;obtain⟨m',h0,h',h1,l',h2,rfl,rfl,rfl⟩:=hb;rcases cE hr nY h0 with⟨rfl,h9,rfl⟩|⟨x1,k1,v1,rfl,_,e1,e2,e3,rfl⟩
 ·simp at h9
 rcases cE hr pB h1 with⟨rfl,rfl,rfl⟩|⟨x2,k2,v2,rfl,_,f1,f2,f3,rfl⟩
 ·simp at tQ
 have q1:v1.toNat≤c:=by omega
 rcases cE hr nN h2 with⟨rfl,rfl,rfl⟩|⟨x3,k3,v3,rfl,_,g1,g2,g3,rfl⟩
 ·exact⟨by simp[Instr.sliceBounds,e1,f1,run_sliceBound _ e2 q1,run_sliceBound _ f2 f3],by omega,by omega,f3,q1⟩
 exact⟨by simp[Instr.sliceBounds,e1,f1,g1,run_sliceBound _ e2 q1,run_sliceBound _ f2 f3,run_sliceBound _ g2 g3],g3,by omega,f3,q1⟩
def qV (hr:au K β env H a w) {lo hi mx:Option Operand} {lP cM mx':Option O} {n c l h:Nat} {m:Option Nat} (nN:df K.G lo=some lP) (pB:df K.G hi=some cM)
  (nY:df K.G mx=some mx') (v7:n≤c) (hb:nW env lP cM mx' n c=some (l,h,m)) :
  (Instr.sliceBounds true n c (lo.map a.eval) (hi.map a.eval) (mx.map a.eval)).run K.P w= .ok (l,h,m.getD c) w∧l≤h∧h≤c∧h≤m.getD c∧m.getD c≤c:=by
 unfold nW at hb;cases mx' with
 |none=>
  simp only[Fv,Fu,FB] at hb;obtain⟨h',h1,l',h2,rfl,rfl,rfl⟩:=hb;have wN:mx=none:=by cases mx with
   |none=>rfl
   |some x=>simp[df] at nY
  subst wN;rcases cE hr pB h1 with⟨rfl,rfl,rfl⟩|⟨x,k,v,rfl,_,e1,e2,e3,rfl⟩
  ·rcases cE hr nN h2 with⟨rfl,rfl,rfl⟩|⟨y,k,u,rfl,_,e4,e5,e6,rfl⟩
   ·exact⟨by simp[Instr.sliceBounds],by omega,by omega,by simpa using v7,by simp⟩
   exact⟨by simp[Instr.sliceBounds,e4,run_sliceBound _ e5 e6],by omega,by omega,by simpa using v7,by simp⟩
  rcases cE hr nN h2 with⟨rfl,rfl,rfl⟩|⟨y,k',u,rfl,_,e4,e5,e6,rfl⟩
  ·exact⟨by simp[Instr.sliceBounds,e1,run_sliceBound _ e2 (show v.toNat≤c by omega)],by omega,e3,by simp;omega,by simp⟩
  exact⟨by simp[Instr.sliceBounds,e1,e4,run_sliceBound _ e2 (show v.toNat≤c by omega),run_sliceBound _ e5 e6],e6,e3,by simp;omega,by simp⟩
 |some m0=>
 simp only at hb;split at hb
 ·simp at hb
 rename_i tQ;simp only[Fv,Fu,FB] at hb;obtain⟨m',h0,h',h1,l',h2,rfl,rfl,rfl⟩:=hb;rcases cE hr nY h0 with⟨rfl,h9,rfl⟩|⟨x1,k1,v1,rfl,_,e1,e2,e3,rfl⟩
 ·simp at h9
 rcases cE hr pB h1 with⟨rfl,rfl,rfl⟩|⟨x2,k2,v2,rfl,_,f1,f2,f3,rfl⟩
 ·simp at tQ
 have q1:v1.toNat≤c:=by omega
 rcases cE hr nN h2 with⟨rfl,rfl,rfl⟩|⟨x3,k3,v3,rfl,_,g1,g2,g3,rfl⟩
 ·exact⟨by simp[Instr.sliceBounds,e1,f1,run_sliceBound _ e2 q1,run_sliceBound _ f2 f3],by omega,by omega,f3,q1⟩
 exact⟨by simp[Instr.sliceBounds,e1,f1,g1,run_sliceBound _ e2 q1,run_sliceBound _ f2 f3,run_sliceBound _ g2 g3],g3,by omega,f3,q1⟩
theorem jl {w:World} {I:Nat→Prop} {sz:Nat}:∀(n:Nat) (xs:List IV) (b o:Nat),aT w I xs b o sz→aT w I (xs.take n) b o sz
 |0,_,_,_,_=>by simp[aT]
 |n+1,[],_,_,_=>by simp[aT]
 |n+1,x::r,b,o,h=>by
  simp only[aT] at h;simp only[Ht,aT];exact⟨h.1,jl n r b (o+sz) h.2⟩
theorem jm {w:World} {I:Nat→Prop} {sz:Nat}:∀(n:Nat) (xs:List IV) (b o:Nat),aT w I xs b o sz→aT w I (xs.drop n) b (o+n*sz) sz
 |0,_,_,_,h=>by simpa using h
 |n+1,[],_,_,_=>by simp[aT]
 |n+1,x::r,b,o,h=>by
  simp only[aT] at h;simp only[GI];have:=jm n r b (o+sz) h.2
  rwa[show o+sz+n*sz=o+(n+1)*sz by rw[FI];omega] at this
def kY {w:World} {I:Nat→Prop} {sz s:Nat} {xs:List IV} {b o:Nat} (h:aT w I xs b o sz) (hs:jK s xs) (hn:0<xs.length):sz=s:=by
 cases xs with
 |nil=>simp at hn
 |cons x r=>
 simp only[aT] at h;have:=(dB w I x b o sz).1 h.1;rw[this.1];exact hs x (by simp)
def tR {xs:List IV} {I:Nat→Prop} {ad:Option Addr} {c s l h m:Nat} (jM:jK s xs) (hl:l≤h) (hh:h≤xs.length) (hm:h≤m) (EY:m≤c) (hc:c≤maxLen)
  (hx:xs.length=0∨∃b o sz,ad=some ⟨b,o,none⟩∧I b∧b<w.heap.size∧0<sz∧aT w I xs b o sz) :
  de w I (.list ((xs.take h).drop l)) (.slice (if m=l then ad else ad.map (·.add (l*s))) (h - l) (m - l)):=by
 simp only[de];have hlen:((xs.take h).drop l).length=h - l:=by simp;omega
 refine⟨_,m - l,by rw[hlen],by omega,by omega,?_⟩;rw[hlen];by_cases e:h - l=0
 ·exact .inl e
 right;rcases hx with hx|⟨b,o,sz,rfl,e1,e2,e3,e4⟩
 ·omega
 have fh:sz=s:=kY e4 jM (by omega);subst fh;refine⟨b,o+l*sz,sz,?_,e1,e2,e3,jm _ _ _ _ (jl _ _ _ _ e4)⟩;rw[FU (by omega)];simp[addr_add]
def zH (hr:au K β env H a w) {o:Oper} {t e:TypeId} {x:Operand} {lo hi mx:Option Operand} {s:Nat} {x':O} {lP cM mx':Option O} (ho:o.op= .slice t x lo hi mx)
  (ht:K.P.underlying t=some (.slice e)) (hs:j0 K.P e=some s) (hx:co K.G x=some x') (nN:df K.G lo=some lP) (pB:df K.G hi=some cM) (nY:df K.G mx=some mx') {y:AV}
  (hy:aa (.td x' lP cM mx' s) env=some y):ar K β H a w o y:=by
 have hv:=hr.ev hx;have hm:=hr.cR hx;have run:∀(ad:Option Addr) (n c l h m:Nat),a.eval x= .slice ad n c→(Instr.sliceBounds true n c (lo.map a.eval) (hi.map a.eval) (mx.map a.eval)).run K.P w= .ok (l,h,m) w →
   (execOp a.eval o).run K.P w= .ok (.value (.slice (if m=l then ad else ad.map (·.add (l*s))) (h - l) (m - l))) w:=by
  intro ad n c l h m e1 e2;simp[execOp,ho,Instr.sliceAt,run_underlying ht,Instr.slice,e1,e2,bu hs,Result.andThen]
 simp only[aa,tJ] at hy;split at hy
 ·rename_i e1;rw[e1] at hv;simp only[RV] at hv;obtain⟨ad,hv⟩:=hv;simp only[Fu] at hy;obtain⟨⟨l,h,m⟩,h1,rfl⟩:=hy;obtain⟨r1,r2,r3,r4,r5⟩:=ic hr nN pB nY (FJ 0) h1;refine ar.same (run ad 0 0 l h _ hv r1) ?_ (by simp[AV.ax]);have z1:h - l=0:=by omega
  have z2:m.getD 0 - l=0:=by omega
  rw[z1,z2];exact⟨_,rfl⟩
 ·rename_i xs e1;rw[e1] at hv;simp only[RV,de] at hv;split at hy
  ·rename_i jM;obtain⟨ad,c,h3,h4,h5,h6⟩:=hv;simp only[Fu] at hy;obtain⟨⟨l,h,m⟩,h1,rfl⟩:=hy;obtain⟨r1,r2,r3,r4,r5⟩:=ic hr nN pB nY h4 h1;refine ar.same (run ad _ c l h _ h3 r1) ?_ (by split<;>simp[AV.ax]);split
   ·rename_i C0;simp only at C0;subst C0;simp only[Gs] at r4 ⊢;have z1:h - l=0:=(by omega);rw[z1];simp only[GW,Gv];exact⟨_,rfl⟩
   simp only[RV];exact tR jM r2 r3 r4 r5 h5 h6
  simp at hy
 ·rename_i lb s' i n e1;rw[e1] at hv hm;simp only[RV] at hv;split at hy
  ·rename_i BL;subst BL;obtain⟨ad,c,h3,h4,h5,h6,h7⟩:=hv;simp only[Fv] at hy;obtain⟨⟨l,h,m⟩,h1,h2⟩:=hy;obtain⟨r1,r2,r3,r4,r5⟩:=ic hr nN pB nY h4 h1;cases m with
   |some m=>simp at h2
   |none=>
   simp only[Hu,Gt,GM,cQ] at h2;subst h2;simp only[H_] at r1 r4 r5;refine ar.same (run ad _ c l h _ h3 r1) ?_ (by simpa[AV.ax] using hm);refine⟨_,_,rfl,by omega,by omega,fun hn=> ?_,fun hl=> ?_⟩
   ·obtain⟨q,rfl⟩:=G4.1 (h6 (by omega));split<;>simp
   by_cases hc:c=l
   ·exact .inl (by omega)
   right;rcases h7 hl with h8|⟨g,S,k1,k2,k3,k4⟩
   ·omega
   subst k2;refine⟨g,S,k1,?_,k3,?_⟩
   ·rw[FU hc];simp[addr_add,FI]
   rw[←k4];congr 1;omega
  simp at hy
 ·rename_i lb s' i n c0 e1;rw[e1] at hv hm;simp only[RV] at hv;split at hy
  ·rename_i BL;subst BL;obtain⟨ad,h3,h4,h5,h6,h7⟩:=hv;simp only[Fv] at hy;obtain⟨⟨l,h,m⟩,h1,h2⟩:=hy;obtain⟨r1,r2,r3,r4,r5⟩:=qV hr nN pB nY h4 h1;cases m with
   |some m=>
    simp only[Option.isSome_some,Gv,cQ] at h2;subst h2;exact ar.same (run ad _ c0 l h _ h3 r1) (by simp[RV]) (by simp[AV.ax])
   |none=>
   simp only[Hu,Gt,GM,cQ] at h2;subst h2;simp only[H_] at r1 r4 r5;refine ar.same (run ad _ c0 l h _ h3 r1) ?_ (by simpa[AV.ax] using hm);refine⟨_,rfl,by omega,by omega,fun hn=> ?_,fun hl=> ?_⟩
   ·obtain⟨q,rfl⟩:=G4.1 (h6 (by omega));split<;>simp
   by_cases hc:c0=l
   ·exact .inl (by omega)
   right;rcases h7 hl with h8|⟨g,S,k1,k2,k3,k4⟩
   ·omega
   subst k2;refine⟨g,S,k1,?_,k3,?_⟩
   ·rw[FU hc];simp[addr_add,FI]
   rw[←k4];congr 1;omega
  simp at hy
 simp at hy
def wO (hr:au K β env H a w) {o:Oper} {t:TypeId} {x:Operand} {lo hi:Option Operand} {x':O} {lP cM:Option O} (ho:o.op= .slice t x lo hi none)
  (ht:K.P.underlying t=some .string) (hx:co K.G x=some x') (nN:df K.G lo=some lP) (pB:df K.G hi=some cM) {y:AV}
  (hy:aa (.en x' lP cM) env=some y):ar K β H a w o y:=by
 have hv:=hr.ev hx;simp only[aa] at hy;split at hy
 ·rename_i s e1;rw[e1] at hv;simp only[RV] at hv;simp only[Fv,Fu] at hy;obtain⟨h,h1,l,h2,rfl⟩:=hy;have hb:jL env lP cM none s.length=some (l,h,none):=by simp[jL,h1,h2]
  have BM:∀C1,(Instr.sliceBounds C1 s.length s.length (lo.map a.eval) (hi.map a.eval) none).run K.P w= .ok (l,h,s.length) w:=by
   intro C1;rcases cE hr pB h1 with⟨rfl,rfl,rfl⟩|⟨x,k,v,rfl,_,e1,e2,e3,rfl⟩
   ·rcases cE hr nN h2 with⟨rfl,rfl,rfl⟩|⟨y,k,u,rfl,_,e4,e5,e6,rfl⟩
    ·simp[Instr.sliceBounds]
    simp[Instr.sliceBounds,e4,run_sliceBound _ e5 e6]
   rcases cE hr nN h2 with⟨rfl,rfl,rfl⟩|⟨y,k',u,rfl,_,e4,e5,e6,rfl⟩
   ·simp[Instr.sliceBounds,e1,run_sliceBound _ e2 e3]
   simp[Instr.sliceBounds,e1,e4,run_sliceBound _ e2 e3,run_sliceBound _ e5 e6]
  obtain⟨_,r2,r3,_,_⟩:=ic hr nN pB (mx:=none) (mx':=none) (by simp[df]) (FJ _) hb;refine ar.same (v:= .string ((⟨s.toArray⟩:ByteArray).extract l h)) ?_ ?_ (by simp[AV.ax])
  ·simp[execOp,ho,Instr.sliceAt,run_underlying ht,Instr.slice,hv,gd,BM,Result.andThen]
  simp only[RV];congr 1;apply HT;show((⟨s.toArray⟩:ByteArray).extract l h).data=((s.take h).drop l).toArray;rw[HG];simp only[List.extract_toArray];congr 1;simp[List.extract,List.drop_take]
 simp at hy
end

section
variable {w:World} {β:Lb→Option Nat} {H:Hp} {I:Nat→Prop}
theorem aI.len:∀(cs:List AV) (vs:List Value),aI w β H I cs vs→vs.length=cs.length
 |[],vs,h=>by simp[aI] at h;simp[h]
 |x::r,vs,h=>by
  simp only[aI] at h;obtain⟨v,us,rfl,_,h2⟩:=h;simp[aI.len r us h2]
theorem aI.get:∀(cs:List AV) (vs:List Value) (i:Nat) (x:AV),aI w β H I cs vs→cs[i]?=some x→∃v,vs[i]?=some v∧RV w β H I x v
 |[],vs,i,x,h,hx=>by simp at hx
 |y::r,vs,0,x,h,hx=>by
  simp only[aI] at h;obtain⟨v,us,rfl,h1,h2⟩:=h;simp at hx;subst hx;exact⟨v,by simp,h1⟩
 |y::r,vs,i+1,x,h,hx=>by
  simp only[aI] at h;obtain⟨v,us,rfl,h1,h2⟩:=h;obtain⟨u,k1,k2⟩:=aI.get r us i x h2 (by simpa using hx);exact⟨u,by simpa using k1,k2⟩
theorem aI.drop:∀(n:Nat) (cs:List AV) (vs:List Value),aI w β H I cs vs→aI w β H I (cs.drop n) (vs.drop n)
 |0,_,_,h=>by simpa using h
 |n+1,[],vs,h=>by simp[aI] at h;simp[h,aI]
 |n+1,x::r,vs,h=>by
  simp only[aI] at h;obtain⟨v,us,rfl,h1,h2⟩:=h;simpa using aI.drop n r us h2
theorem aI.take:∀(n:Nat) (cs:List AV) (vs:List Value),aI w β H I cs vs→aI w β H I (cs.take n) (vs.take n)
 |0,_,_,_=>by simp[aI]
 |n+1,[],vs,h=>by simp[aI] at h;simp[h,aI]
 |n+1,x::r,vs,h=>by
  simp only[aI] at h;obtain⟨v,us,rfl,h1,h2⟩:=h;simp only[Ht,aI];exact⟨v,us.take n,rfl,h1,aI.take n r us h2⟩
theorem aI.append:∀(cs:List AV) (vs:List Value) (ds:List AV) (us:List Value),aI w β H I cs vs→aI w β H I ds us→aI w β H I (cs++ds) (vs++us)
 |[],vs,ds,us,h,h2=>by simp[aI] at h;subst h;simpa using h2
 |x::r,vs,ds,us,h,h2=>by
  simp only[aI] at h;obtain⟨v,Bl,rfl,h1,h3⟩:=h;simp only[Gc,aI];exact⟨v,Bl++us,rfl,h1,aI.append r Bl ds us h3 h2⟩
theorem aI.lQ:∀(cs:List IV) (b o:Nat),aR w I cs b o→∃vs:List Value,aI w β H I (cs.map IV.dQ) vs∧vs.length=cs.length∧∀j v,vs[j]?=some v→w.cell? ⟨b,o+j,none⟩=some v
 |[],b,o,h=>⟨[],by simp[aI],rfl,by simp⟩
 |x::r,b,o,h=>by
  simp only[aR] at h;obtain⟨⟨v,h1,h2⟩,h3⟩:=h;obtain⟨vs,k1,k2,k3⟩:=aI.lQ r b (o+1) h3;refine⟨v::vs,?_,by simp[k2],?_⟩
  ·simp only[FY,aI];refine⟨v,vs,rfl,?_,k1⟩;cases x<;>simp[de] at h2<;>simp[IV.dQ,RV,h2];simpa[de] using h2
  intro j u hj;cases j with
  |zero=>simp at hj;subst hj;exact h1
  |succ j=>
  have:=k3 j u (by simpa using hj)
  rwa[show o+1+j=o+(j+1) by omega] at this
def RV.iv:∀{x:AV} {y:IV} {v:Value},x.iv=some y→RV w β H I x v→de w I y v:=by
 intro x y v h hv;cases x<;>simp[AV.iv] at h<;>subst h<;>simp only[RV] at hv<;>simp only[de]
 case nil0=>
  obtain⟨a,rfl⟩:=hv;exact⟨a,0,rfl,by simp,by simp[maxLen],.inl (by simp)⟩
 case ifc=>
  obtain⟨u,rfl,_⟩:=hv;exact⟨u,rfl⟩
 all_goals first|exact hv|simpa[de] using hv
def qW {x:AV} {y:IV} (h:x.iv=some y):y.cells=[y]:=by
 cases x<;>simp[AV.iv] at h<;>subst h<;>rfl
theorem e9:∀(cs:List AV) (ys:List IV) (vs:List Value) (b o:Nat),mC cs=some ys→aI w β H I cs vs→(∀j v,vs[j]?=some v→w.cell? ⟨b,o+j,none⟩=some v)→aR w I ys b o
 |[],ys,vs,b,o,h,_,_=>by simp[mC] at h;subst h;simp[aR]
 |x::r,ys,vs,b,o,h,hv,hc=>by
  simp only[mC,Fv,Fu] at h;obtain⟨y,h1,s,h2,rfl⟩:=h;simp only[aI] at hv;obtain⟨v,us,rfl,k1,k2⟩:=hv;simp only[aR];refine⟨⟨v,by simpa using hc 0 v (by simp),RV.iv h1 k1⟩,e9 r s us b (o+1) h2 k2 (fun j u hj=> ?_)⟩;have:=hc (j+1) u (by simpa using hj)
  rwa[show o+(j+1)=o+1+j by omega] at this
theorem oX:∀(cs:List AV) (ys:List IV),mC cs=some ys→ys.length=cs.length
 |[],ys,h=>by simp[mC] at h;subst h;rfl
 |x::r,ys,h=>by
  simp only[mC,Fv,Fu] at h;obtain⟨y,h1,s,h2,rfl⟩:=h;simp[oX r s h2]
def RV.cells {x:AV} {v:Value} (h:RV w β H I x v) (hx:∀cs,x= .agg cs→True) (ha:(∃cs,x= .agg cs)∨v.oneCell'=true):aI w β H I x.cells v.cells.toList:=by
 cases x
 case agg cs=>
  simp only[RV] at h;obtain⟨vs,rfl,h1⟩:=h;simpa[AV.cells,Value.cells] using h1
 all_goals
  rcases ha with⟨cs,hc⟩|ha
  ·cases hc
  have:v.cells=#[v]:=by cases v<;>simp_all[Value.cells,Value.oneCell']
  simp only[AV.cells,aI,this];exact⟨v,[],by simp,h,rfl⟩
def RV.ie {x:AV} {v:Value} (h:RV w β H I x v) (hx:x.one=true):v.oneCell'=true:=by
 cases x<;>simp[AV.one] at hx<;>simp only[RV,de] at h
 case list=>obtain⟨a,c,rfl,_⟩:=h;rfl
 case nil0=>obtain⟨a,rfl⟩:=h;rfl
 case sl=>obtain⟨a,c,rfl,_⟩:=h;rfl
 case slk=>obtain⟨a,rfl,_⟩:=h;rfl
 case ptr=>obtain⟨a,rfl,_⟩:=h;rfl
 case lptr=>obtain⟨b,o,rfl,_⟩:=h;rfl
 case fn=>obtain⟨vs,us,rfl,_⟩:=h;rfl
 case ifc=>obtain⟨u,rfl,_⟩:=h;rfl
 all_goals (subst h;rfl)
end
section
variable {K:Kx} {β:Lb→Option Nat} {env:Env} {H:Hp} {a:Act} {w:World}
def zI (hr:au K β env H a w) {o:Oper} {t:TypeId} {x:Operand} {x':O} (ho:o.op= .unOp .not t x) (hx:co K.G x=some x') {y:AV}
  (hy:aa (.not x') env=some y):ar K β H a w o y:=by
 have h:=hr.ev hx;simp only[aa] at hy;split at hy
 ·rename_i b e;rw[e] at h;simp only[RV,cQ] at h hy;subst hy;exact ar.same (v:= .bool !b) (by simp[execOp,ho,h,Op.unary]) (by simp[RV]) (by simp[AV.ax])
 simp at hy
def zJ (hr:au K β env H a w) {o:Oper} {t:TypeId} {x:Operand} {x':O} (ho:o.op= .unOp .neg t x) (hx:co K.G x=some x') {y:AV}
  (hy:aa (.neg x') env=some y):ar K β H a w o y:=by
 have h:=hr.ev hx;simp only[aa] at hy;split at hy
 ·rename_i k n e;rw[e] at h;simp only[RV,cQ] at h hy;subst hy;exact ar.same (v:= .int k (k.wrap (0 - n))) (by simp[execOp,ho,h,Op.unary,Op.intArith]) (by simp[RV]) (by simp[AV.ax])
 simp at hy
def zK (hr:au K β env H a w) {o:Oper} {c:Call} {x y:Operand} {x' y':O} (ho:o.op= .call c) (hc:c.callee= .builtin .max) (ha:c.args.toList=[x,y])
  (hx:co K.G x=some x') (hy:co K.G y=some y') {z:AV} (hz:aa (.max x' y') env=some z):ar K β H a w o z:=by
 have h:=hr.ev hx;have h2:=hr.ev hy;have lO:c.args=#[x,y]:=by cases hh:c.args;simp_all
 simp only[aa] at hz;split at hz
 ·rename_i k m k' n e1 e2;rw[e1] at h;rw[e2] at h2;simp only[RV] at h h2;split at hz
  ·simp only[cQ] at hz;subst hz;refine ar.same (v:= .int k (if n>m then n else m)) ?_ (by simp[RV]) (by simp[AV.ax]);simp[execOp,ho,resolve,hc,lO,h,h2,invoke,builtin,Builtin.max_,Builtin.max2,List.foldlM]
  simp at hz
 simp at hz
def zL (hr:au K β env H a w) {o:Oper} {c:Call} {x y:Operand} {x' y':O} (ho:o.op= .call c) (hc:c.callee= .builtin .min) (ha:c.args.toList=[x,y])
  (hx:co K.G x=some x') (hy:co K.G y=some y') {z:AV} (hz:aa (.min x' y') env=some z):ar K β H a w o z:=by
 have h:=hr.ev hx;have h2:=hr.ev hy;have lO:c.args=#[x,y]:=by cases hh:c.args;simp_all
 simp only[aa] at hz;split at hz
 ·rename_i k m k' n e1 e2;rw[e1] at h;rw[e2] at h2;simp only[RV] at h h2;split at hz
  ·simp only[cQ] at hz;subst hz;refine ar.same (v:= .int k (if n<m then n else m)) ?_ (by simp[RV]) (by simp[AV.ax]);simp[execOp,ho,resolve,hc,lO,h,h2,invoke,builtin,Builtin.min_,Builtin.min2,List.foldlM]
  simp at hz
 simp at hz
theorem bT:∀(cs:List AV) (i:Nat) (x:AV),cs[i]?=some x→∀l∈x.ax,l∈af cs
 |[],i,x,h=>by simp at h
 |y::r,0,x,h=>by simp at h;subst h;intro l hl;simp[af,hl]
 |y::r,i+1,x,h=>by
  intro l hl;have:=bT r i x (by simpa using h) l hl;simp[af,this]
def zM (hr:au K β env H a w) {o:Oper} {x:Operand} {i:Nat} {x':O} (ho:o.op= .extract x i) (hx:co K.G x=some x') {y:AV}
  (hy:aa (.ext x' i) env=some y):ar K β H a w o y:=by
 have h:=hr.ev hx;have hm:=hr.cR hx;simp only[aa] at hy;split at hy
 ·rename_i cs e;rw[e] at h hm;simp only[RV] at h;obtain⟨vs,h1,h2⟩:=h;obtain⟨v,k1,k2⟩:=aI.get _ _ _ _ h2 hy;refine ar.same (v:=v) ?_ k2 (fun l hl=>hm l (by simpa[AV.ax] using bT _ _ _ hy l hl));simp[execOp,ho,h1,Instr.extract,k1]
 simp at hy
def wP (hr:au K β env H a w) {o:Oper} {x:Operand} {x':O} (ho:o.op= .nilCheck x) (hx:co K.G x=some x') {y:AV}
  (hy:aa (.kI x') env=some y):ar K β H a w o y:=by
 have h:=hr.ev hx;have hm:=hr.cR hx;simp only[aa] at hy;split at hy
 ·rename_i l sz i j e;simp only[cQ] at hy;subst hy;rw[e] at h hm;have h':=h;simp only[RV] at h;obtain⟨ad,h1,h2⟩:=h;exact ar.same (v:=a.eval x) (by simp[execOp,ho,h1]) h' hm
 ·rename_i cs e;simp only[cQ] at hy;subst hy;rw[e] at h hm;have h':=h;simp only[RV] at h;obtain⟨b,o',h1,h2⟩:=h;exact ar.same (v:=a.eval x) (by simp[execOp,ho,h1]) h' hm
 ·rename_i f p q e;simp only[cQ] at hy;subst hy;rw[e] at h hm;have h':=h;simp only[RV] at h;obtain⟨vs,us,h1,h2⟩:=h;exact ar.same (v:=a.eval x) (by simp[execOp,ho,h1]) h' hm
 simp at hy
theorem e_ (hr:au K β env H a w):∀(xs:List Operand) (ys:List O),cos K.G xs=some ys→aI w β H (Im K β H) (ys.map (ev env)) (xs.map a.eval)
 |[],ys,h=>by simp[cos] at h;subst h;simp[aI]
 |x::r,ys,h=>by
  simp only[cos,Fv,Fu] at h;obtain⟨y,h1,s,h2,rfl⟩:=h;simp only[FY,aI];exact⟨_,_,rfl,hr.ev h1,e_ hr r s h2⟩
theorem fk (hr:au K β env H a w):∀(xs:List Operand) (ys:List O),cos K.G xs=some ys→∀l∈af (ys.map (ev env)),H l≠ .unused
 |[],ys,h=>by simp[cos] at h;subst h;simp[af]
 |x::r,ys,h=>by
  simp only[cos,Fv,Fu] at h;obtain⟨y,h1,s,h2,rfl⟩:=h;intro l hl;simp only[FY,af,Fz] at hl;exact hl.elim (hr.cR h1 l) (fk hr r s h2 l)
def zN (hr:au K β env H a w) {o:Oper} {f:Nat} {first cap:Array Operand} {cs:List O} (ho:o.op= .makeFunc (.func f) first cap) (hf:first.isEmpty=true)
  (hc:cos K.G cap.toList=some cs) {y:AV} (hy:aa (.tu f cs) env=some y):ar K β H a w o y:=by
 simp only[aa,cQ] at hy;subst hy;have Bm:first=#[]:=by simpa using hf
 refine ar.same (v:= .func (.func f) #[] (cap.toList.map a.eval).toArray) ?_ ?_ ?_
 ·simp[execOp,ho,Instr.makeFunc,Bm];cases cap;simp
 ·simp only[RV,aI];exact⟨[],_,by simp,rfl,e_ hr _ _ hc⟩
 simpa[AV.ax,af] using fk hr _ _ hc
def zO (hr:au K β env H a w) {o:Oper} {f:Nat} {first cap:Array Operand} {qs cs:List O} (ho:o.op= .makeFunc (.func f) first cap) (hq:cos K.G first.toList=some qs)
  (hc:cos K.G cap.toList=some cs) {y:AV} (hy:aa (.tx f qs cs) env=some y):ar K β H a w o y:=by
 simp only[aa,cQ] at hy;subst hy;refine ar.same (v:= .func (.func f) (first.toList.map a.eval).toArray (cap.toList.map a.eval).toArray) ?_ ?_ ?_
 ·simp[execOp,ho,Instr.makeFunc];cases cap;cases first
  simp
 ·simp only[RV];exact⟨_,_,rfl,e_ hr _ _ hq,e_ hr _ _ hc⟩
 intro l hl;simp only[AV.ax,Fz] at hl;rcases hl with hl|hl
 ·exact fk hr _ _ hq l hl
 exact fk hr _ _ hc l hl
def zP (hr:au K β env H a w) {o:Oper} {s d:TypeId} {x:Operand} {x':O} {k k':IntKind} (ho:o.op= .convert s d x) (hs:K.P.underlying s=some (.int k')) (hd:K.P.underlying d=some (.int k))
  (hx:co K.G x=some x') {y:AV} (hy:aa (.tf k x') env=some y):ar K β H a w o y:=by
 have h:=hr.ev hx;simp only[aa] at hy;split at hy
 ·rename_i j n e;rw[e] at h;simp only[RV,cQ] at h hy;subst hy;exact ar.same (v:= .int k (k.wrap n)) (by simp[execOp,ho,h,convert,run_underlying hs,run_underlying hd,Conv.intToInt]) (by simp[RV]) (by simp[AV.ax])
 simp at hy
def zQ (hr:au K β env H a w) {o:Oper} {s d:TypeId} {x:Operand} {x':O} (ho:o.op= .convert s d x) (hs:K.P.underlying s=some .string) (hd:K.P.underlying d=some .string)
  (hx:co K.G x=some x') {y:AV} (hy:aa (.gF x') env=some y):ar K β H a w o y:=by
 have h:=hr.ev hx;simp only[aa] at hy;split at hy
 ·rename_i t e;rw[e] at h;simp only[RV,cQ] at h hy;subst hy;exact ar.same (v:=a.eval x) (by simp[execOp,ho,h,convert,run_underlying hs,run_underlying hd]) (by simpa[RV] using h) (by simp[AV.ax])
 simp at hy
def wQ (hr:au K β env H a w) {o:Oper} {t:TypeId} {x:Operand} {x':O} {d:TypeDesc} (ho:o.op= .makeInterface t x) (ht:K.P.underlying t=some d) (hd:∀ms,d≠ .interface ms)
  (hx:co K.G x=some x') {y:AV} (hy:aa (.lL t x') env=some y):ar K β H a w o y:=by
 have h:=hr.ev hx;simp only[aa,cQ] at hy;subst hy;refine ar.same (v:= .iface t (a.eval x)) ?_ ⟨_,rfl,h⟩ (by simpa[AV.ax] using hr.cR hx);cases d<;>simp[execOp,ho,Instr.makeInterface,run_underlying ht];exact absurd rfl (hd _)
end

theorem ig (off:Nat):∀(l:List Value) (k:Nat) (arr:Array Value),off+k+l.length≤arr.size →
  ((l.zipIdx k).foldl (fun cs (p:Value×Nat)=>cs.setIfInBounds (off+p.2) p.1) arr).toList=arr.toList.take (off+k)++l++arr.toList.drop (off+k+l.length)
 |[],k,arr,h=>by simp
 |v::r,k,arr,h=>by
  simp only[FW] at h;simp only[List.zipIdx_cons,GL];rw[ig off r (k+1) (arr.setIfInBounds (off+k) v) (by simp;omega)];simp only[Array.toList_setIfInBounds,FW];rw[show off+(k+1)+r.length=off+k+(r.length+1) by omega,show off+(k+1)=off+k+1 by omega];have cD:off+k<arr.toList.length:=by simp;omega
  have h1:(arr.toList.set (off+k) v).take (off+k+1)=arr.toList.take (off+k)++[v]:=by
   have hl:(arr.toList.take (off+k)).length=off+k:=(by rw[F0];omega);rw[List.take_set,List.take_succ_eq_append_getElem cD,HM _ _ (by omega),hl,GW];rfl
  have h2:(arr.toList.set (off+k) v).drop (off+k+(r.length+1))=arr.toList.drop (off+k+(r.length+1)):=by
   rw[List.drop_set_of_lt (by omega)]
  rw[h1,h2];simp
section
variable {w:World} {β:Lb→Option Nat} {H:Hp} {I:Nat→Prop}
def aI.gq {x:AV} {v:Value} (h:RV w β H I x v) (hx:(∃cs,x= .agg cs)∨x.one=true):v.cells.size=x.cells.length∧aI w β H I x.cells v.cells.toList:=by
 have h2:aI w β H I x.cells v.cells.toList:=RV.cells h (fun _ _=>trivial) (by
  rcases hx with hx|hx
  ·exact .inl hx
  exact .inr (RV.ie h hx))
 exact⟨by rw[←aI.len _ _ h2];simp,h2⟩
def AV.nZ {x:AV} (h:x.nX=true):(∃cs,x= .agg cs)∨x.one=true:=by
 cases x<;>first|exact .inl ⟨_,rfl⟩|exact .inr (by simpa[AV.nX] using h)
inductive fl {α γ:Type} (R:α→γ→Prop):List α→List γ→Prop
 |nil:fl R [] []
 |cons {a:α} {b:γ} {l:List α} {m:List γ}:R a b→fl R l m→fl R (a::l) (b::m)
theorem ij (place:Nat→Option (Nat×Nat)):∀(ps:List (Nat×Value)) (qs:List (Nat×Nat×AV)) (cs gS:List AV) (cur:Array Value),
  aI w β H I cs cur.toList→dD cs qs=some gS →
  fl (fun(p:Nat×Value) (q:Nat×Nat×AV)=>place p.1=some (q.1,q.2.1)∧RV w β H I q.2.2 p.2) ps qs →
  ∃cur',Instr.fill place cur ps=some cur'∧aI w β H I gS cur'.toList
 |[],qs,cs,gS,cur,h,hf,ha=>by
  cases ha;simp only[dD,cQ] at hf;subst hf;exact⟨cur,rfl,h⟩
 |p::ps,qs,cs,gS,cur,h,hf,ha=>by
  cases ha with
  |@cons _ q _ qs hq zc=>
  obtain⟨off,sz,x⟩:=q;obtain⟨i,v⟩:=p;obtain⟨h1,h2⟩:=hq;simp only at h1 h2;simp only[dD] at hf;split at hf
  ·rename_i fh;obtain⟨h3,fh⟩:=fh;obtain⟨k1,k2⟩:=aI.gq h2 (AV.nZ h3);have hlen:cur.size=cs.length:=(by rw[←aI.len _ _ h];simp);have DI:¬(v.cells.size≠sz||decide (off+v.cells.size>cur.size))=true:=by
    simp only[HD,FV,not_or];omega
   have tU:=ig off v.cells.toList 0 cur (by simp;omega);simp only[G5] at tU;obtain⟨cur',e1,e2⟩:=ij place ps qs _ gS (v.cells.zipIdx.foldl (fun cs (p:Value×Nat)=>cs.setIfInBounds (off+p.2) p.1) cur) (by
    rw[←Array.foldl_toList,Array.toList_zipIdx,tU];have:v.cells.toList.length=sz:=(by simp;omega);rw[this];exact aI.append _ _ _ _ (aI.append _ _ _ _ (aI.take _ _ _ h) k2) (aI.drop _ _ _ h)) hf zc
   refine⟨cur',?_,e2⟩;simp only[Instr.fill,h1];rw[FU DI];exact e1
  simp at hf
end
section
variable {K:Kx} {β:Lb→Option Nat} {env:Env} {H:Hp} {a:Act} {w:World}
def fQ {P:Program} {t:TypeId} {m:Nat} (hm:pz P t=some (some m)) (ad:Addr) (cs:List Value) (hl:cs.length=m)
  (h:∀j v,cs[j]?=some v→w.cell? (ad.add j)=some v):(loadVar t ad).run P w= .ok (.agg cs.toArray) w:=by
 have hu:(isAgg t).run P w= .ok true w∧j0 P t=some m:=by
  unfold pz at hm;split at hm
  ·rename_i fs tg;obtain⟨s,h1,h2⟩:=Fu.1 hm;cases h2;exact⟨by simp[isAgg,run_underlying tg],h1⟩
  ·rename_i n e tg;obtain⟨s,h1,h2⟩:=Fu.1 hm;cases h2;exact⟨by simp[isAgg,run_underlying tg],h1⟩
  ·simp at hm
  simp at hm
 subst hl;simp[loadVar,hu.1,bu hu.2,run_loadCells_list (P:=P) w ad cs h,Result.andThen]
def fR {P:Program} {t:TypeId} (hm:pz P t=some none) (ad:Addr) (v:Value) (h:w.cell? ad=some v):(loadVar t ad).run P w= .ok v w:=by
 have hu:(isAgg t).run P w= .ok false w:=by
  unfold pz at hm;split at hm
  ·simp at hm
  ·simp at hm
  ·rename_i d h1 h2 hd;have zd:∀f,d≠ .struct f:=fun f e=>h1 f e;have DJ:∀n e,d≠ .array n e:=fun n e q=>h2 n e q;cases d<;>simp[isAgg,run_underlying hd]
   ·exact(DJ _ _ rfl).elim
   exact(zd _ rfl).elim
  simp at hm
 simp[loadVar,hu,h]
theorem fE:∀(cs:List IV),af (cs.map IV.dQ)=[]
 |[]=>by simp[af]
 |x::r=>by
  simp only[FY,af,fE r,GF];cases x<;>simp[IV.dQ,AV.ax]
theorem jn {w:World} {I:Nat→Prop}:∀(n:Nat) (cs:List IV) (b o:Nat),aR w I cs b o→aR w I (cs.take n) b o
 |0,_,_,_,_=>by simp[aR]
 |n+1,[],_,_,_=>by simp[aR]
 |n+1,x::r,b,o,h=>by
  simp only[aR] at h;simp only[Ht,aR];exact⟨h.1,jn n r b (o+1) h.2⟩
def tV (hr:au K β env H a w) {o:Oper} {t:TypeId} {x:Operand} {x':O} {m:Option Nat} (ho:o.op= .load t x) (hm:pz K.P t=some m) (hx:co K.G x=some x') {y:AV}
  (hy:aa (.load m x') env=some y):ar K β H a w o y:=by
 have h:=hr.ev hx;simp only[aa] at hy;split at hy
 ·rename_i cs e;rw[e] at h;simp only[RV] at h;obtain⟨b,of,h1,h2,h3,h4⟩:=h;obtain⟨vs,k1,k2,k3⟩:=aI.lQ (β:=β) (H:=H) cs b of h4;have run:∀v,(loadVar t ⟨b,of,none⟩).run K.P w= .ok v w→(execOp a.eval o).run K.P w= .ok (.value v) w:=by
   intro v hv;simp[execOp,ho,h1,Instr.loadAt,Instr.sureAddr,hv]
  cases m with
  |none=>
   simp only[Fu] at hy;obtain⟨z,hz,rfl⟩:=hy;obtain⟨v,e1,e2⟩:=aI.get _ _ 0 (z.dQ) k1 (by simp[hz]);refine ar.same (run v (fR hm _ _ (by simpa using k3 0 v e1))) e2 ?_;cases z<;>simp[IV.dQ,AV.ax]
  |some k=>
  simp only at hy;split at hy
  ·rename_i hk;simp only[cQ] at hy;subst hy;refine ar.same (run (.agg (vs.take k).toArray) (fQ hm _ _ (by simp;omega) (fun j v hj=> ?_))) ?_ ?_
   ·rw[FA] at hj;split at hj
    ·rw[addr_add];exact k3 j v hj
    simp at hj
   ·simp only[RV];exact⟨_,rfl,by rw[List.map_take];exact aI.take _ _ _ k1⟩
   intro l hl;simp only[AV.ax,fE] at hl;simp at hl
  simp at hy
 simp at hy
def au.fresh (hr:au K β env H a w):Im K β H w.heap.size:=by
 refine⟨.inr hr.frame.size,fun l hl hb=> ?_⟩;obtain⟨r,jP⟩:=hl;obtain⟨_,_,h3⟩:=hr.rows l r jP;simp only[hb] at h3;obtain⟨cur,e,cap,h4,_⟩:=h3;have:=(FL.1 h4).1;omega
def cF (w:World) (o:Obj):fW w (w.alloc o):=(Below.refl _ _).alloc (FJ _) o
def iL (w:World):fW w w.drew:=(Below.refl _ _).drew
def j3 (w:World) (c:Array Value) (e:TypeId) (j:Nat):(w.alloc (.cells c e)).cell? ⟨w.heap.size,j,none⟩=c[j]?:=by
 simp
def wR (hr:au K β env H a w) {o:Oper} {t:TypeId} {x:Operand} {x':O} (ho:o.op= .box t x) (hx:co K.G x=some x') {y:AV}
  (hy:aa (.kH x') env=some y):ar K β H a w o y:=by
 have h:=hr.ev hx;simp only[aa,Fu] at hy;obtain⟨ys,h1,rfl⟩:=hy;have cx:(∃cs,ev env x'= .agg cs)∨(ev env x').one=true:=by
  cases hc:ev env x'<;>simp[hc,AV.cells,mC,AV.iv] at h1<;>first|exact .inl ⟨_,rfl⟩|exact .inr rfl
 obtain⟨k1,k2⟩:=aI.gq h cx;have hg:=cF w (.cells (a.eval x).cells t);refine⟨.pointer (some ⟨w.heap.size,0,none⟩),w.alloc (.cells (a.eval x).cells t),?_,hg,?_,by simp[AV.ax]⟩
 ·simp[execOp,ho,Instr.box,newVar,newRow]
 simp only[RV];refine⟨_,0,rfl,hr.fresh,by simp,?_⟩;refine e9 _ _ _ _ _ h1 (aI.mono _ _ (hg.kV β H _ _) k2) (fun j v hj=> ?_);rw[F1,j3];simpa using hj
theorem eE:∀(l:List Value) (xs:List AV),gF l=some xs→∀(w:World) (β:Lb→Option Nat) (H:Hp) (I:Nat→Prop),aI w β H I xs l
 |[],xs,h,w,β,H,I=>by simp[gF] at h;subst h;simp[aI]
 |v::r,xs,h,w,β,H,I=>by
  simp only[gF,Fv,Fu] at h;obtain⟨x,h1,s,h2,rfl⟩:=h;simp only[aI];exact⟨v,r,rfl,vW h1 _ _ _ _,eE r s h2 w β H I⟩
theorem j4 (z:Array Value) (zs:List AV) (w:World) (β:Lb→Option Nat) (H:Hp) (I:Nat→Prop) (h:aI w β H I zs z.toList) (hz:0<z.size):∀n:Nat,
  aI w β H I ((List.replicate n zs).flatten) ((Array.range (n*z.size)).map (fun i=>z[i%z.size]!)).toList
 |0=>by simp[aI]
 |n+1=>by
  have ih:=j4 z zs w β H I h hz n;have e1:(List.replicate (n+1) zs).flatten=(List.replicate n zs).flatten++zs:=by
   rw[List.replicate_succ'];simp
  have e2:((Array.range ((n+1)*z.size)).map (fun i=>z[i%z.size]!)).toList=((Array.range (n*z.size)).map (fun i=>z[i%z.size]!)).toList++z.toList:=by
   simp only[Hc,HY];rw[FI,HI,List.range_add,Ij];congr 1;rw[G6];apply List.ext_getElem
   ·simp
   intro i h1 h2;simp at h1 h2;simp[Ia h1,h1]
  rw[e1,e2];exact aI.append _ _ _ _ ih h
theorem gT (hr:au K β env H a w) (place:Nat→Option (Nat×Nat)):∀(ps:List (Nat×Operand)) (xs:List O) (qs:List (Nat×Nat×O)),cos K.G (ps.map (·.2))=some xs →
  qs.length=ps.length→(∀(i:Nat) (p:Nat×Operand) (x:O) (q:Nat×Nat×O),ps[i]?=some p→xs[i]?=some x→qs[i]?=some q→q.2.2=x∧place p.1=some (q.1,q.2.1)) →
  fl (fun(p:Nat×Value) (q:Nat×Nat×AV)=>place p.1=some (q.1,q.2.1)∧RV w β H (Im K β H) q.2.2 p.2)
   (ps.map fun p=>(p.1,a.eval p.2)) (qs.map fun q=>(q.1,q.2.1,ev env q.2.2))
 |[],xs,qs,h,hl,hp=>by
  have:qs=[]:=FH (by simpa using hl);subst this;exact .nil
 |p::ps,xs,qs,h,hl,hp=>by
  cases qs with
  |nil=>simp at hl
  |cons q qs=>
  simp only[FY,cos,Fv,Fu] at h;obtain⟨y,h1,s,h2,rfl⟩:=h;obtain⟨k1,k2⟩:=hp 0 p y q (by simp) (by simp) (by simp);simp only[FY];refine .cons ⟨k2,?_⟩ (gT hr place ps s qs h2 (by simpa using hl)
   (fun i p' x' q' g1 g2 g3=>hp (i+1) p' x' q' (by simpa using g1) (by simpa using g2) (by simpa using g3)))
  simp only;rw[k1];exact hr.ev h1
def pC (ys:List IV) (h:∀y∈ys,y.cells=[y]) (hn:ys≠[]):(tK ys).cells=ys:=by
 cases ys with
 |nil=>exact absurd rfl hn
 |cons y r=>
 cases r with
 |nil=>simpa[tK] using h y (by simp)
 |cons z r=>simp[tK,IV.cells]
theorem kZ:∀(cs:List AV) (ys:List IV),mC cs=some ys→∀y∈ys,y.cells=[y]
 |[],ys,h=>by simp[mC] at h;subst h;simp
 |x::r,ys,h=>by
  simp only[mC,Fv,Fu] at h;obtain⟨y,h1,s,h2,rfl⟩:=h;intro z hz;simp at hz;rcases hz with rfl|hz
  ·exact qW h1
  exact kZ r s h2 z hz
theorem fF {w:World} {I:Nat→Prop} {sz:Nat} (fh:0<sz):∀(n:Nat) (ys:List IV) (b o:Nat),ys.length=n*sz→(∀y∈ys,y.cells=[y])→aR w I ys b o →
  aT w I (chunks sz n ys) b o sz∧(chunks sz n ys).length=n
 |0,ys,b,o,_,_,_=>by simp[chunks,aT]
 |n+1,ys,b,o,hl,hc,h=>by
  have iM:ys.length=n*sz+sz:=by rw[hl,FI];omega
  have ih:=fF fh n (ys.drop sz) b (o+sz) (by simp;omega) (fun y hy=>hc y (Gw hy)) (eS _ _ _ _ h);have cD:(ys.take sz).length=sz:=by simp;omega
  have zR:(tK (ys.take sz)).cells=ys.take sz:=pC _ (fun y hy=>hc y (FX hy)) (by intro e;rw[e] at cD;simp at cD;omega);simp only[chunks,aT,FW];refine⟨⟨?_,ih.1⟩,by rw[ih.2]⟩;rw[dB,zR];exact⟨cD.symm,jn _ _ _ _ h⟩
def wS (hr:au K β env H a w) {o:Oper} {t e:TypeId} {n:Nat} {ps:Array (Nat×Operand)} {i:TypeInfo} {z:Value} {zs:List AV} {xs:List O} (ho:o.op= .buildSlice t n ps)
   (ht:K.P.underlying t=some (.slice e)) (hi:K.P.info? e=some i) (hz:i.zero=some z) (jV:z.cells.size=i.size) (h0:0<i.size) (hn:n*i.size≤2^24)
   (j5:gF z.cells.toList=some zs) (qM:cos K.G (ps.toList.map (·.2))=some xs) {y:AV}
   (hy:aa (.lits n i.size zs ((ps.toList.map (·.1)).zip xs)) env=some y):ar K β H a w o y:=by
 simp only[aa] at hy
 split at hy
 · split at hy
   · rename_i kX
     obtain⟨rfl,BN⟩:=kX
     simp only[cQ] at hy
     subst hy
     have wT:xs.length=ps.toList.length:=by
       have:=aI.len _ _ (e_ hr _ _ qM)
       simp at this
       simpa using this.symm
     have zS:ps.toList=[]:=by
       have h1:((ps.toList.map (·.1)).zip xs)=[]:=by simpa using BN
       have h2:((ps.toList.map (·.1)).zip xs).length=0:=by rw[h1];rfl
       rw[List.length_zip,FT,wT,Nat.min_self] at h2
       exact GR.1 h2
     have BO:ps=#[]:=by simpa using zS
     subst BO
     refine⟨.slice (some ⟨w.heap.size,0,none⟩) 0 0,w.alloc (.cells #[] e),?_,cF w _,by simp[RV],by simp[AV.ax]⟩
     have zT:=bu (P:=K.P) (t:=e) (s:=i.size) (by simp[j0,hi]) w
     simp[execOp,ho,Instr.buildSlice,run_underlying ht,zT,Instr.fill,newRow,show Array.range 0=#[] from rfl]
   simp at hy
 rename_i fa
 simp only[Fv,Fu] at hy
 obtain⟨cs,h1,ys,h2,rfl⟩:=hy
 have kX:n≠0:=fun e=>fa (by simp[e])
 have ze:=eE _ _ j5 w β H (Im K β H)
 have hzero:=j4 z.cells zs w β H (Im K β H) ze (by omega) n
 have wT:xs.length=ps.toList.length:=by
   have:=aI.len _ _ (e_ hr _ _ qM)
   simp at this
   simpa using this.symm
 have bG:=gT hr (fun j=>some (j*i.size,i.size)) ps.toList xs (((ps.toList.map (·.1)).zip xs).map fun p=>(p.1*i.size,i.size,p.2)) qM
   (by simp at wT;simp[wT])
   (by
     intro j p x q g1 g2 g3
     simp only[F9,HA,Fu] at g3
     obtain⟨⟨u,v⟩,⟨⟨p',e1,e2⟩,e3⟩,rfl⟩:=g3
     simp only at e1 e2 e3
     rw[g1] at e1;cases e1
     rw[g2] at e3;cases e3
     exact⟨rfl,by simp[e2]⟩)
 obtain⟨cur',f1,f2⟩:=ij (fun j=>some (j*i.size,i.size)) _ _ _ cs _ hzero (by simpa[G6,H6] using h1) bG
 have hlen:cs.length=n*i.size:=by
   have e1:=aI.len _ _ hzero
   have e2:∀(qs:List (Nat×Nat×AV)) (c c':List AV),dD c qs=some c'→c'.length=c.length:=by
     intro qs
     induction qs with
     |nil=>intro c c' h;simp[dD] at h;rw[h]
     |cons q qs ih=>
     intro c c' h
     obtain⟨off,sz,x⟩:=q
     simp only[dD] at h
     split at h
     · rename_i hh
       obtain⟨_,hh⟩:=hh
       rw[ih _ _ h]
       simp
       omega
     simp at h
   rw[e2 _ _ _ h1,←e1]
   simp[jV]
 have hg:=cF w (.cells cur' e)
 have DK:ys.length=n*i.size:=by rw[oX _ _ h2,hlen]
 have gU:aR (w.alloc (.cells cur' e)) (Im K β H) ys w.heap.size 0:=
   e9 _ _ _ _ _ h2 (aI.mono _ _ (hg.kV β H _ _) f2) (fun j v hj=>by rw[F1,j3];simpa using hj)
 have BP:=fF h0 n ys w.heap.size 0 DK (kZ _ _ h2) gU
 refine⟨.slice (some ⟨w.heap.size,0,none⟩) n n,w.alloc (.cells cur' e),?_,hg,?_,by simp[AV.ax]⟩
 · have mD:Instr.fill (fun j=>some (j*i.size,i.size)) ((Array.range (n*i.size)).map (z.cells[·%z.cells.size]!)) (ps.toList.map fun p=>(p.1,a.eval p.2))=some cur':=by
     rw[←jV]
     rw[←jV] at f1
     exact f1
   have wU:¬n*i.size=0:=by rw[G7];exact fa
   have zT:=bu (P:=K.P) (t:=e) (s:=i.size) (by simp[j0,hi]) w
   simp only[execOp,ho,Instr.buildSlice,Sem.run_bind,run_underlying ht,Result.andThen_ok,zT,Sem.run_ite,wU,GM,zeroValue,typeInfo,run_program,hi,hz,
     Hc,show ¬n*i.size>2^24 by omega,Sem.run_pure,Result.andThen,mD]
   simp[newRow,mD]
 simp only[RV,de]
 refine⟨_,n,by rw[BP.2],by rw[BP.2];exact FJ _,?_,.inr ⟨w.heap.size,0,i.size,rfl,hr.fresh,by simp,h0,BP.1⟩⟩
 have:n≤n*i.size:=F7 n h0
 simp only[maxLen];omega
theorem j6 (hr:au K β env H a w) (pl:List (Nat×Nat)):∀(ps:List (Nat×Operand)) (xs:List O) (qs:List (Nat×Nat×O)),cos K.G (ps.map (·.2))=some xs →
  gH pl (ps.map (·.1)) xs=some qs →
  fl (fun(p:Nat×Value) (q:Nat×Nat×AV)=>pl.toArray[p.1]?=some (q.1,q.2.1)∧RV w β H (Im K β H) q.2.2 p.2)
   (ps.map fun p=>(p.1,a.eval p.2)) (qs.map fun q=>(q.1,q.2.1,ev env q.2.2))
 |[],xs,qs,h,hb=>by
  simp[cos] at h;subst h;simp[gH] at hb;subst hb;exact .nil
 |p::ps,xs,qs,h,hb=>by
  simp only[FY,cos,Fv,Fu] at h;obtain⟨y,h1,s,h2,rfl⟩:=h;simp only[FY,gH,Fv,Fu] at hb;obtain⟨q,e1,r,e2,rfl⟩:=hb;simp only[FY];exact .cons ⟨by simpa using e1,hr.ev h1⟩ (j6 hr pl ps s r h2 e2)
def zU (hr:au K β env H a w) {o:Oper} {t:TypeId} {fs:Array Field} {ps:Array (Nat×Operand)} {i:TypeInfo} {z:Value} {zs:List AV} {xs:List O} {pl:List (Nat×Nat)}
   {qs:List (Nat×Nat×O)} (ho:o.op= .build t ps)
   (ht:K.P.underlying t=some (.struct fs)) (hi:K.P.info? t=some i) (hz:i.zero=some z) (BQ:fs.toList.mapM (fun f=>(K.P.info? f.type).map fun i=>(f.offset,i.size))=some pl)
   (j5:gF z.cells.toList=some zs) (qM:cos K.G (ps.toList.map (·.2))=some xs) (zc:gH pl (ps.toList.map (·.1)) xs=some qs) {y:AV}
   (hy:aa (.qL zs qs) env=some y):ar K β H a w o y:=by
 simp only[aa,Fu] at hy
 obtain⟨cs,h1,rfl⟩:=hy
 obtain⟨cur',f1,f2⟩:=ij (β:=β) (H:=H) (I:=Im K β H) (w:=w) (fun j=>pl.toArray[j]?) _ _ _ cs z.cells (eE _ _ j5 w β H _) h1 (j6 hr pl _ _ _ qM zc)
 refine ar.same (v:= .agg cur') ?_ ⟨cur'.toList,by simp,f2⟩ ?_
 · have hb:K.P.built t (ps.map fun(i,x)=>(i,a.eval x)).toList=some cur':=by
     simp only[Program.built,hi,ht,hz,BQ]
     simpa using f1
   simp only[execOp,ho,Sem.run_bind,run_build w t _ cur' hb,Result.andThen_ok,Sem.run_pure]
 have oY:∀(l:List Value) (xs:List AV),gF l=some xs→af xs=[]:=by
   intro l
   induction l with
   |nil=>intro xs h;simp[gF] at h;subst h;rfl
   |cons v r ih=>
   intro xs h
   simp only[gF,Fv,Fu] at h
   obtain⟨x,h1,s,h2,rfl⟩:=h
   simp[af,nT h1,ih s h2]
 have DL:∀(ids:List Nat) (xs:List O) (qs:List (Nat×Nat×O)),gH pl ids xs=some qs→∀q∈qs,q.2.2∈xs:=by
   intro ids
   induction ids with
   |nil=>intro xs qs h;cases xs<;>simp[gH] at h;subst h;simp
   |cons j js ih=>
   intro xs qs h
   cases xs with
   |nil=>simp[gH] at h
   |cons x xs=>
   simp only[gH,Fv,Fu] at h
   obtain⟨p,e1,r,e2,rfl⟩:=h
   intro q hq
   simp at hq
   rcases hq with rfl|hq
   · simp
   exact Hi _ (ih xs r e2 q hq)
 have nY:∀x∈xs,∀l∈(ev env x).ax,H l≠ .unused:=by
   intro x hx l hl
   refine fk hr _ _ qM l ?_
   obtain⟨k,hk⟩:=Gl hx
   exact bT _ k _ (by simp[hk]) l hl
 have ik:∀(l m:List AV),af (l++m)=af l++af m:=by
   intro l m
   induction l with
   |nil=>rfl
   |cons x r ih=>simp[af,ih]
 have pD:∀(l:List AV) (n:Nat),(∀q∈af (l.take n),q∈af l)∧(∀q∈af (l.drop n),q∈af l):=by
   intro l n
   have:=ik (l.take n) (l.drop n)
   rw[FZ] at this
   rw[this]
   exact⟨fun q hq=>Fz.2 (.inl hq),fun q hq=>Fz.2 (.inr hq)⟩
 have hf:∀(qs:List (Nat×Nat×AV)) (c c':List AV),dD c qs=some c'→(∀l∈af c,H l≠ .unused)→(∀q∈qs,∀l∈q.2.2.ax,H l≠ .unused)→∀l∈af c',H l≠ .unused:=by
   intro qs
   induction qs with
   |nil=>intro c c' h h1 _;simp[dD] at h;subst h;exact h1
   |cons q qs ih=>
   intro c c' h h1 h2
   obtain⟨off,sz,x⟩:=q
   simp only[dD] at h
   split at h
   · refine ih _ _ h ?_ (fun q hq=>h2 q (by simp[hq]))
     intro l hl
     rw[ik,ik,Fz,Fz] at hl
     rcases hl with(hl|hl)|hl
     · exact h1 l ((pD c off).1 l hl)
     · have:=h2 (off,sz,x) (by simp) l
       refine this ?_
       cases x<;>simp[AV.cells,af] at hl<;>simp[AV.ax] at hl ⊢<;>exact hl
     exact h1 l ((pD c (off+sz)).2 l hl)
   simp at h
 simp only[AV.ax]
 refine hf _ _ _ h1 (by rw[oY _ _ j5];simp) ?_
 intro q hq
 simp only[F2] at hq
 obtain⟨q0,DM,rfl⟩:=hq
 exact nY _ (DL _ _ _ zc q0 DM)
def wV (hr:au K β env H a w) {o:Oper} {t:TypeId} {x:Operand} {f:Nat} {fs:Array Field} {fd:Field} {x':O} {m:Option Nat} (ho:o.op= .field t x f)
  (ht:K.P.underlying t=some (.struct fs)) (hf:fs[f]?=some fd) (hm:pz K.P fd.type=some m) (hx:co K.G x=some x') {y:AV}
  (hy:aa (.lJ x' fd.offset m) env=some y):ar K β H a w o y:=by
 have h:=hr.ev hx;have Bn:=hr.cR hx;simp only[aa] at hy;split at hy
 ·rename_i cs e;rw[e] at h Bn;simp only[RV] at h;obtain⟨vs,h1,h2⟩:=h;have run:∀v,(part fd.type vs.toArray fd.offset).run K.P w= .ok v w→(execOp a.eval o).run K.P w= .ok (.value v) w:=by
   intro v hv;simp[execOp,ho,Instr.field,run_underlying ht,hf,h1,asAgg,hv,Result.andThen]
  cases m with
  |none=>
   simp only at hy;obtain⟨v,k1,k2⟩:=aI.get _ _ _ _ h2 hy;have tW:(isAgg fd.type).run K.P w= .ok false w:=by
    unfold pz at hm;split at hm
    ·simp at hm
    ·simp at hm
    ·rename_i d h1 h2 hd;cases d<;>simp[isAgg,run_underlying hd]
     ·exact(h2 _ _ rfl).elim
     exact(h1 _ rfl).elim
    simp at hm
   refine ar.same (run v ?_) k2 (fun l hl=>Bn l (by simpa[AV.ax] using bT _ _ _ hy l hl));simp[part,tW,k1]
  |some k=>
  simp only at hy;split at hy
  ·rename_i hk;simp only[cQ] at hy;subst hy;have tW:(isAgg fd.type).run K.P w= .ok true w∧j0 K.P fd.type=some k:=by
    unfold pz at hm;split at hm
    ·rename_i fs tg;obtain⟨s,h1,h2⟩:=Fu.1 hm;cases h2;exact⟨by simp[isAgg,run_underlying tg],h1⟩
    ·rename_i n e tg;obtain⟨s,h1,h2⟩:=Fu.1 hm;cases h2;exact⟨by simp[isAgg,run_underlying tg],h1⟩
    ·simp at hm
    simp at hm
   refine ar.same (run (.agg ((vs.drop fd.offset).take k).toArray) ?_) ⟨_,rfl,aI.take _ _ _ (aI.drop _ _ _ h2)⟩ ?_
   ·simp[part,tW.1,bu tW.2,Result.andThen,List.extract]
   intro l hl;simp only[AV.ax] at hl Bn;refine Bn l ?_;have ik:∀(l m:List AV),af (l++m)=af l++af m:=by
    intro l m;induction l with
    |nil=>rfl
    |cons x r ih=>simp[af,ih]
   have e1:=ik (cs.take fd.offset) (cs.drop fd.offset);rw[FZ] at e1;have e2:=ik ((cs.drop fd.offset).take k) ((cs.drop fd.offset).drop k);rw[FZ] at e2;rw[e1,e2];exact Fz.2 (.inr (Fz.2 (.inl hl)))
  simp at hy
 simp at hy
theorem oZ {P:Program}:∀(fs:List Field) (ks:List Kd) (n d:Nat) (xs ys:List AV) (vs us:List Value) (b:Bool),cS P n fs=some ks→eqs ks xs ys=some b →
  aI w β H (Im K β H) xs (vs.drop n)→aI w β H (Im K β H) ys (us.drop n) →
  (Op.eqFields (d+1) vs.toArray us.toArray fs).run P w= .ok b w
 |[],ks,n,d,xs,ys,vs,us,b,hp,he,hx,hy=>by
  simp[cS] at hp;subst hp;cases xs<;>cases ys<;>simp[eqs] at he;subst he;simp[Op.eqFields]
 |f::fs,ks,n,d,xs,ys,vs,us,b,hp,he,hx,hy=>by
  simp only[cS] at hp;split at hp
  ·rename_i hh;simp only[FE,bne_iff_ne,ne_eq,Hj] at hh;obtain⟨h1,h2⟩:=hh;obtain⟨k,Bo,rfl,zf,hk⟩:∃k Bo,ks=k::Bo∧cS P (n+1) fs=some Bo∧((k= .s∧P.underlying f.type=some .string)∨(k= .b∧P.underlying f.type=some .bool)∨(k= .i∧∃j,P.underlying f.type=some (.int j))):=by
    split at hp
    ·obtain⟨s,q1,q2⟩:=Fu.1 hp;exact⟨_,s,q2.symm,q1,.inl ⟨rfl,by assumption⟩⟩
    ·obtain⟨s,q1,q2⟩:=Fu.1 hp;exact⟨_,s,q2.symm,q1,.inr (.inl ⟨rfl,by assumption⟩)⟩
    ·obtain⟨s,q1,q2⟩:=Fu.1 hp;exact⟨_,s,q2.symm,q1,.inr (.inr ⟨rfl,_,by assumption⟩)⟩
    simp at hp
   cases xs with
   |nil=>simp[eqs] at he
   |cons x xs=>
   cases ys with
   |nil=>simp[eqs] at he
   |cons y ys=>
   simp only[eqs,Fv,Fu] at he;obtain⟨b1,e1,b2,e2,rfl⟩:=he;simp only[aI] at hx hy;obtain⟨v,Bl,hv,rx,qM⟩:=hx;obtain⟨u,DN,hu,ry,o1⟩:=hy;have gv:vs[n]?=some v:=(by rw[←Hl,hv];rfl);have gu:us[n]?=some u:=(by rw[←Hl,hu];rfl);have dv:vs.drop (n+1)=Bl:=(by rw[←HN,hv];rfl);have du:us.drop (n+1)=DN:=(by rw[←HN,hu];rfl);have ih:=oZ (P:=P) fs Bo (n+1) d xs ys vs us b2 zf e2 (by rw[dv];exact qM) (by rw[du];exact o1);have tW:(isAgg f.type).run P w= .ok false w:=by
    rcases hk with⟨_,hk⟩|⟨_,hk⟩|⟨_,j,hk⟩<;>simp[isAgg,run_underlying hk]
   have pv:(part f.type vs.toArray f.offset).run P w= .ok v w:=(by simp[part,tW,h2,gv]);have pu:(part f.type us.toArray f.offset).run P w= .ok u w:=(by simp[part,tW,h2,gu]);have heq:(Op.equalIn (d+1) f.type v u).run P w= .ok b1 w:=by
    rcases hk with⟨rfl,hk⟩|⟨rfl,hk⟩|⟨rfl,j,hk⟩<;>cases x<;>cases y<;>simp[Bi] at e1<;>simp only[RV] at rx ry<;>subst rx<;>subst ry
    ·rw[run_equalIn_string w d f.type _ _ hk];simp[ByteArray.toList_mk,←e1]
    ·rw[run_equalIn_bool' w d f.type _ _ hk];simp[←e1]
    obtain⟨rfl,e1⟩:=e1;rw[run_equalIn_int w d f.type _ _ _ _ hk];simp[←e1]
   simp only[Op.eqFields,ne_eq,h1,not_false_eq_true,Gv,Sem.run_bind,pv,pu,heq,Result.andThen_ok,Sem.run_ite,ih];cases b1<;>simp
  simp at hp
def fm {op:BinOp} {n:Bool} (h:fO op=some n):(op= .eql∧n=false)∨(op= .neq∧n=true):=by
 cases op<;>simp[fO] at h<;>subst h<;>simp
def wW (hr:au K β env H a w) {o:Oper} {op:BinOp} {t t2:TypeId} {x y:Operand} {x' y':O} {ks:List Kd} {n:Bool} (ho:o.op= .binOp op t x y t2) (hn:fO op=some n)
  (qX:gb K.P t=some ks) (hx:co K.G x=some x') (hy:co K.G y=some y') {z:AV} (hz:aa (.jI n ks x' y') env=some z):ar K β H a w o z:=by
 have h:=hr.ev hx;have h2:=hr.ev hy;unfold gb at qX;split at qX
 ·rename_i fs tg;split at qX
  ·rename_i hc;simp only[FE,GU] at hc;simp only[aa] at hz;split at hz
   ·rename_i xs ys e1 e2;rw[e1] at h;rw[e2] at h2;simp only[RV] at h h2;obtain⟨vs,h3,h4⟩:=h;obtain⟨us,h5,h6⟩:=h2;obtain⟨b,hb,rfl⟩:=Fu.1 hz;have DO:K.P.underlying t=some (.struct (K.P.fieldsOf t)):=(by simp[Program.fieldsOf,tg]);have DP:(K.P.fieldsOf t).toList=fs.toList:=(by simp[Program.fieldsOf,tg]);have hq:(Op.equalIn 10000 t (.agg vs.toArray) (.agg us.toArray)).run K.P w= .ok b w:=by
     rw[show(10000:Nat)=9998+1+1 from rfl,run_equalIn_struct w _ t _ _ DO hc.1,DP];exact oZ fs.toList ks 0 9998 xs ys vs us b qX hb (by simpa using h4) (by simpa using h6)
    refine ar.same (v:= .bool (n ^^ b)) ?_ (by simp[RV]) (by simp[AV.ax]);rcases fm hn with⟨rfl,rfl⟩|⟨rfl,rfl⟩
    ·simp only[execOp,ho,h3,h5,Sem.run_bind,run_eqGuard_agg w _ t x y _ _ hc.2,Result.andThen_ok,run_eql_struct,hq];simp
    simp only[execOp,ho,h3,h5,Sem.run_bind,run_eqGuard_agg w _ t x y _ _ hc.2,Result.andThen_ok,run_neq_struct,hq];simp
   simp at hz
  simp at qX
 simp at qX
def zV (hr:au K β env H a w) {o:Oper} {op:BinOp} {t t2:TypeId} {x y:Operand} {x' y':O} {n:Bool} (ho:o.op= .binOp op t x y t2) (hn:fO op=some n)
  (ht:K.P.underlying t=some .bool) (hx:co K.G x=some x') (hy:co K.G y=some y') {z:AV} (hz:aa (.tr n x' y') env=some z):ar K β H a w o z:=by
 have h:=hr.ev hx;have h2:=hr.ev hy;simp only[aa] at hz;split at hz
 ·rename_i p q e1 e2;rw[e1] at h;rw[e2] at h2;simp only[RV,cQ] at h h2 hz;subst hz;refine ar.same (v:= .bool (n ^^ (p==q))) ?_ (by simp[RV]) (by simp[AV.ax]);have hq:(Op.equal t (.bool p) (.bool q)).run K.P w= .ok (p==q) w:=run_equalIn_bool' w 9999 t p q ht;rcases fm hn with⟨rfl,rfl⟩|⟨rfl,rfl⟩
  ·simp[execOp,ho,h,h2,eqGuard,binOp,hq]
  simp[execOp,ho,h,h2,eqGuard,binOp,hq]
 simp at hz
def n0 (d:Nat) {P:Program} {t e:TypeId} (ht:P.underlying t=some (.pointer e)) (q:Option Addr):(Op.equalIn (d+1) t (.pointer none) (.pointer q)).run P w= .ok q.isNone w:=by
 simp[Op.equalIn,run_underlying ht]
def n1 (d:Nat) {P:Program} {t e:TypeId} (ht:P.underlying t=some (.pointer e)) (q:Addr):(Op.equalIn (d+1) t (.pointer (some q)) (.pointer none)).run P w= .ok false w:=by
 simp[Op.equalIn,run_underlying ht]
def n2 (d:Nat) {P:Program} {t:TypeId} {ms:Array (String×TypeId)} (ht:P.underlying t=some (.interface ms)):(Op.equalIn (d+1) t .nilIface .nilIface).run P w= .ok true w:=by
 simp[Op.equalIn,run_underlying ht]
def n3 (d:Nat) {P:Program} {t u:TypeId} {v:Value} {ms:Array (String×TypeId)} (ht:P.underlying t=some (.interface ms)):(Op.equalIn (d+1) t (.iface u v) .nilIface).run P w= .ok false w:=by
 simp[Op.equalIn,run_underlying ht]
def zW (hr:au K β env H a w) {o:Oper} {op:BinOp} {t t2 e:TypeId} {x y:Operand} {x' y':O} {n:Bool} (ho:o.op= .binOp op t x y t2) (hn:fO op=some n)
  (ht:K.P.underlying t=some (.pointer e)) (hx:co K.G x=some x') (hy:co K.G y=some y') {z:AV} (hz:aa (.tt n x' y') env=some z):ar K β H a w o z:=by
 have h:=hr.ev hx;have h2:=hr.ev hy;simp only[aa,Fu] at hz;obtain⟨b,hb,rfl⟩:=hz;have key:∀p q,a.eval x= .pointer p→a.eval y= .pointer q→(Op.equal t (.pointer p) (.pointer q)).run K.P w= .ok b w→ar K β H a w o (.bool (n ^^ b)):=by
  intro p q h3 h4 h5;refine ar.same (v:= .bool (n ^^ b)) ?_ (by simp[RV]) (by simp[AV.ax]);rcases fm hn with⟨rfl,rfl⟩|⟨rfl,rfl⟩
  ·simp[execOp,ho,h3,h4,eqGuard,binOp,h5]
  simp[execOp,ho,h3,h4,eqGuard,binOp,h5]
 have iN:∀q,(Op.equal t (.pointer none) (.pointer q)).run K.P w= .ok q.isNone w:=by
  intro q;exact n0 9999 ht q
 have zX:∀q,(Op.equal t (.pointer (some q)) (.pointer none)).run K.P w= .ok false w:=by
  intro q;exact n1 9999 ht q
 cases e1:ev env x'<;>cases e2:ev env y'<;>rw[e1] at h<;>rw[e2] at h2<;>rw[e1,e2] at hb<;>simp[CZ] at hb<;>simp only[RV] at h h2<;>subst hb
 ·exact key _ _ h h2 (iN _)
 ·obtain⟨q,h2,_⟩:=h2;exact key _ _ h h2 (iN _)
 ·obtain⟨q,q2,h2,_⟩:=h2;exact key _ _ h h2 (iN _)
 ·obtain⟨q,h,_⟩:=h;exact key _ _ h h2 (zX _)
 obtain⟨q,q2,h,_⟩:=h;exact key _ _ h h2 (zX _)
def zY (hr:au K β env H a w) {o:Oper} {op:BinOp} {t t2:TypeId} {ms:Array (String×TypeId)} {x y:Operand} {x' y':O} {n:Bool} (ho:o.op= .binOp op t x y t2) (hn:fO op=some n)
  (ht:K.P.underlying t=some (.interface ms)) (hc:nU y=true) (hx:co K.G x=some x') {z:AV} (hz:aa (.te n x' y') env=some z):ar K β H a w o z:=by
 have h:=hr.ev hx;have hy:y= .const .nilIface:=by
  cases y<;>simp[nU] at hc;rename_i v;cases v<;>simp at hc;rfl
 subst hy;simp only[aa] at hz;split at hz
 ·rename_i e1;rw[e1] at h;simp only[RV,cQ] at h hz;subst hz;refine ar.same (v:= .bool (n ^^ true)) ?_ (by simp[RV]) (by simp[AV.ax]);have hq:(Op.equal t .nilIface .nilIface).run K.P w= .ok true w:=n2 9999 ht;rcases fm hn with⟨rfl,rfl⟩|⟨rfl,rfl⟩
  ·simp[execOp,ho,h,show a.eval (.const .nilIface)= .nilIface from rfl,eqGuard,binOp,hq]
  simp[execOp,ho,h,show a.eval (.const .nilIface)= .nilIface from rfl,eqGuard,binOp,hq]
 ·rename_i t' x0 e1;rw[e1] at h;simp only[RV,cQ] at h hz;subst hz;obtain⟨u,h,_⟩:=h;refine ar.same (v:= .bool (n ^^ false)) ?_ (by simp[RV]) (by simp[AV.ax]);have hq:(Op.equal t (.iface t' u) .nilIface).run K.P w= .ok false w:=n3 9999 ht;rcases fm hn with⟨rfl,rfl⟩|⟨rfl,rfl⟩
  ·simp[execOp,ho,h,show a.eval (.const .nilIface)= .nilIface from rfl,eqGuard,binOp,hq]
  simp[execOp,ho,h,show a.eval (.const .nilIface)= .nilIface from rfl,eqGuard,binOp,hq]
 simp at hz
end

def BR (s:List UInt8):List IV:=s.map fun c=> .int .u8 (c.toNat:Int)
theorem mE {w:World} {I:Nat→Prop} (b:Nat):∀(s:List UInt8) (o:Nat),(∀j c,s[j]?=some c→w.cell? ⟨b,o+j,none⟩=some (.int .u8 (c.toNat:Int)))→aT w I (BR s) b o 1
 |[],o,_=>by simp[BR,aT]
 |c::r,o,h=>by
  simp only[BR,FY,aT,dR];refine⟨⟨trivial,_,by simpa using h 0 c rfl,rfl⟩,mE b r (o+1) fun j d hj=> ?_⟩;have:=h (j+1) d (by simpa using hj);rw[←this];congr 2;omega
section
variable {K:Kx} {β:Lb→Option Nat} {env:Env} {H:Hp} {a:Act} {w:World}
def zZ (hr:au K β env H a w) {o:Oper} {s d e:TypeId} {x:Operand} {x':O} (ho:o.op= .convert s d x) (hs:K.P.underlying s=some .string) (hd:K.P.underlying d=some (.slice e)) (he:K.P.underlying e=some (.int .u8))
  (hx:co K.G x=some x') {y:AV} (hy:aa (.tv x') env=some y):ar K β H a w o y:=by
 have h:=hr.ev hx;simp only[aa] at hy;split at hy
 ·rename_i t e1;split at hy
  ·rename_i hlen;rw[e1] at h;simp only[RV,de,cQ] at h hy;subst hy;have fG:=run_bytes_of_string (P:=K.P) w s d e ⟨t.toArray⟩ hs hd he;have mF:=grownCap_ge w t.length 0 e;have mr:=grownCap_le_maxLen w t.length 0 e (by simp only[maxLen];omega);have fh:(⟨t.toArray⟩:ByteArray).size=t.length:=(by simp[ByteArray.size]);rw[fh] at fG;have gI:∀j c,t[j]?=some c→(w.drew.alloc (.cells (bytesRow ⟨t.toArray⟩ (grownCap w t.length 0 e)) e ((bytesRow ⟨t.toArray⟩ (grownCap w t.length 0 e)).size,(bytesRow ⟨t.toArray⟩ (grownCap w t.length 0 e)).size+1))).cell? ⟨w.heap.size,0+j,none⟩=some (.int .u8 (c.toNat:Int)):=by
    intro j c hj;have h1:=World.cell?_alloc_mark w.drew (bytesRow ⟨t.toArray⟩ (grownCap w t.length 0 e)) e ((bytesRow ⟨t.toArray⟩ (grownCap w t.length 0 e)).size,(bytesRow ⟨t.toArray⟩ (grownCap w t.length 0 e)).size+1) j;have h2:w.drew.heap.size=w.heap.size:=rfl;rw[h2] at h1;rw[F1,h1];have v8:=(Fw.1 hj).1;unfold bytesRow;rw[GN (by simpa using v8)];simp[hj]
   refine⟨.slice (some ⟨w.heap.size,0,none⟩) t.length (grownCap w t.length 0 e),_,?_,(iL w).trans (cF w.drew (.cells (bytesRow ⟨t.toArray⟩ (grownCap w t.length 0 e)) e ((bytesRow ⟨t.toArray⟩ (grownCap w t.length 0 e)).size,(bytesRow ⟨t.toArray⟩ (grownCap w t.length 0 e)).size+1))),?_,by simp[AV.ax]⟩
   ·simp only[execOp,ho,h,Sem.run_bind,fG,Result.andThen,Sem.run_pure]
   simp only[RV,de];exact⟨_,_,by rw[FT],by rw[FT];exact mF,mr,.inr ⟨w.heap.size,0,1,rfl,hr.fresh,by simp,by decide,mE _ t 0 gI⟩⟩
  simp at hy
 simp at hy
theorem jo {w:World} {I:Nat→Prop} {b sz:Nat}:∀(xs:List IV) (s:List UInt8) (o:Nat),ib xs=some s→aT w I xs b o sz→xs=[]∨sz=1 →
  ∃ns:List Int,ns.length=xs.length∧ns.map (fun n=>UInt8.ofNat n.toNat)=s∧∀j n,ns[j]?=some n→w.cell? ⟨b,o+j,none⟩=some (.int .u8 n)
 |[],s,o,h,_,_=>by simp[ib] at h;subst h;exact⟨[],rfl,rfl,by simp⟩
 |x::r,s,o,h,he,hz=>by
  have DQ:sz=1:=by simpa using hz
  subst DQ;cases x with
  |int k n=>
   cases k<;>simp only[ib,reduceCtorEq,Fu] at h;obtain⟨s',h1,rfl⟩:=h;simp only[aT,dR] at he;obtain⟨⟨_,v,hv,rfl⟩,z6⟩:=he;obtain⟨ns,e1,e2,e3⟩:=jo r s' (o+1) h1 z6 (.inr rfl);refine⟨n::ns,by simp[e1],by simp[e2],fun j m hj=> ?_⟩;cases j with
   |zero=>simp at hj;subst hj;exact hv
   |succ j=>
   have:=e3 j m (by simpa using hj);rw[←this];congr 2;omega
  |_=>simp[ib] at h
theorem fold_push:∀(ns:List Int) (r:ByteArray),ns.foldl (fun r n=>r.push (UInt8.ofNat n.toNat)) r=⟨r.data++(ns.map fun n=>UInt8.ofNat n.toNat).toArray⟩
 |[],r=>by simp
 |n::ns,r=>by
  simp only[GL];rw[fold_push ns];simp[ByteArray.push]
def z7 (hr:au K β env H a w) {o:Oper} {s d e:TypeId} {x:Operand} {x':O} (ho:o.op= .convert s d x) (hs:K.P.underlying s=some (.slice e)) (he:K.P.underlying e=some (.int .u8)) (hd:K.P.underlying d=some .string)
  (hx:co K.G x=some x') {y:AV} (hy:aa (.tw x') env=some y):ar K β H a w o y:=by
 simp only[aa] at hy;have h:=hr.ev hx;have key:∀(ad:Option Addr) (n c:Nat) (t:List UInt8),a.eval x= .slice ad n c→(convert s d (.slice ad n c)).run K.P w= .ok (.string ⟨t.toArray⟩) w→ar K β H a w o (.str t):=by
  intro ad n c t h1 h2;exact ar.same (v:= .string ⟨t.toArray⟩) (by simp only[execOp,ho,h1,Sem.run_bind,h2,Result.andThen,Sem.run_pure]) (by simp[RV,de]) (by simp[AV.ax])
 unfold zB at hy;split at hy
 ·rename_i xs e1;rw[e1] at h;simp only[RV,de] at h;obtain⟨t,ht,rfl⟩:=Fu.1 hy;obtain⟨ad,c,h1,hn,hc,v_⟩:=h;refine key ad xs.length c t h1 ?_;cases ad with
  |none=>
   rw[run_convert_bytes_string w s d e none _ c hs he hd];rcases v_ with h0|⟨b,o,sz,h2,_⟩
   ·have:xs=[]:=GR.1 h0;subst this;simp[ib] at ht;subst ht;simp[Conv.bytesToString];rfl
   cases h2
  |some ad=>
  rw[run_convert_bytes_string w s d e (some ad) _ c hs he hd];have tQ:∃ns:List Int,ns.length=xs.length∧ns.map (fun n=>UInt8.ofNat n.toNat)=t∧∀j n,ns[j]?=some n→w.cell? (ad.add j)=some (.int .u8 n):=by
   rcases v_ with h0|⟨b,o,sz,h2,_,_,fh,jM⟩
   ·have:xs=[]:=GR.1 h0;subst this;simp[ib] at ht;subst ht;exact⟨[],rfl,rfl,by simp⟩
   cases h2;have hz:xs=[]∨sz=1:=by
    cases xs with
    |nil=>exact .inl rfl
    |cons x r=>
    right;cases x with
    |int k n=>simp only[aT,dR] at jM;exact jM.1.1
    |_=>simp[ib] at ht
   obtain⟨ns,e1,e2,e3⟩:=jo xs t o ht jM hz;refine⟨ns,e1,e2,fun j n hj=> ?_⟩;have:=e3 j n hj;have wX:(⟨b,o,none⟩:Addr).add j=⟨b,o+j,none⟩:=(by unfold Addr.add;split<;>simp_all);rw[←this,wX]
  obtain⟨ns,e1,e2,e3⟩:=tQ;have hl:=run_loadCells_list (P:=K.P) w ad (ns.map (Value.int .u8)) (fun j v hj=>by
   rw[F9] at hj;obtain⟨n,hn,rfl⟩:=Fu.1 hj;exact e3 j n hn)
  rw[FT,e1] at hl;rw[run_bytesToString w ad xs.length c ns hl,fold_push,e2];simp[show ByteArray.empty.data=#[] from rfl]
 ·rename_i e1;rw[e1] at h;simp only[RV] at h;obtain⟨ad,h1⟩:=h;simp only[cQ] at hy;subst hy;refine key ad 0 0 [] h1 ?_;rw[run_convert_bytes_string w s d e ad 0 0 hs he hd];cases ad with
  |none=>simp[Conv.bytesToString];rfl
  |some ad=>
  have hl:=run_loadCells_list (P:=K.P) w ad ([].map (Value.int .u8)) (fun j v hj=>by simp at hj);rw[run_bytesToString w ad 0 0 [] hl];rfl
 simp at hy
end
end Go.Am
