import Derived.Test.YtfinkeaikbmpgaaGreatDoorKAm1
import Derived.Laws.AppendOwn
import Derived.Laws.IdiomStrings
import Derived.Laws.BytesString
set_option linter.unusedSimpArgs false
set_option linter.unusedVariables false
set_option linter.unnecessarySimpa false
set_option linter.defProp false
/- THE ABSTRACT MACHINE, part 5: cuts, comparisons, structs: the rest of the instructions that leave the rows alone. -/
namespace Go.Am
open Go Go.RowKit
section
variable {K:Kx} {β:Lb→Option Nat} {env:Env} {H:Hp} {a:Act} {w:World}
def j9 (hr:bu K β env H a w) {lo:Option Operand} {Dl:Option O} {d m n:Nat} (hc:lN K.G lo=some Dl) (h:mW env Dl d m=some n) :
  (lo=none∧Dl=none∧n=d)∨∃x k v,lo=some x∧Dl.isSome=true∧a.eval x= .int k v∧0≤v∧v.toNat≤m∧n=v.toNat:=by
 cases lo with
 |none=>
  simp[lN] at hc;subst hc;simp[mW] at h;exact .inl ⟨rfl,rfl,h.symm⟩
 |some x=>
 simp only[lN,ag4] at hc;obtain⟨y,h1,rfl⟩:=hc;have h2:=hr.ev h1;simp only[mW] at h;split at h
 ·rename_i k v e;rw[e] at h2;simp only[RV] at h2;split at h
  ·rename_i hv;simp only[jl] at h;exact .inr ⟨x,k,v,rfl,rfl,h2,hv.1,hv.2,h.symm⟩
  simp at h
 simp at h
def run_sliceBound {P:Program} {w:World} {k:IntKind} {v:Int} {y:Nat} (code:BoundsCode) (h0:0≤v) (h1:v.toNat≤y):(Instr.sliceBound (.int k v) y code).run P w= .ok v.toNat w:=by
 have:v≤(y:Int):=by omega
 simp[Instr.sliceBound,asIntOf,h0,this,Result.andThen]
def wi (hr:bu K β env H a w) {lo hi mx:Option Operand} {Dl jz mx':Option O} {n c l h:Nat} {m:Option Nat} (B2:lN K.G lo=some Dl) (Km:lN K.G hi=some jz)
  (GU:lN K.G mx=some mx') (TA:n≤c) (hb:rK env Dl jz mx' n=some (l,h,m)) :
  (Instr.sliceBounds true n c (lo.map a.eval) (hi.map a.eval) (mx.map a.eval)).run K.P w= .ok (l,h,m.getD c) w∧l≤h∧h≤n∧h≤m.getD c∧m.getD c≤c:=by
 unfold rK at hb;cases mx' with
 |none=>
  simp only[adx,ag4,adJ] at hb;obtain⟨h',h1,l',h2,rfl,rfl,rfl⟩:=hb;have UQ:mx=none:=by cases mx with
   |none=>rfl
   |some x=>simp[lN] at GU
  subst UQ;rcases j9 hr Km h1 with⟨rfl,rfl,rfl⟩|⟨x,k,v,rfl,_,e1,e2,e3,rfl⟩
  ·rcases j9 hr B2 h2 with⟨rfl,rfl,rfl⟩|⟨y,k,u,rfl,_,e4,e5,e6,rfl⟩
   ·exact⟨by simp[Instr.sliceBounds],by omega,by omega,by simpa using TA,by simp⟩
   exact⟨by simp[Instr.sliceBounds,e4,run_sliceBound _ e5 e6],by omega,by omega,by simpa using TA,by simp⟩
  rcases j9 hr B2 h2 with⟨rfl,rfl,rfl⟩|⟨y,k',u,rfl,_,e4,e5,e6,rfl⟩
  ·exact⟨by simp[Instr.sliceBounds,e1,run_sliceBound _ e2 (show v.toNat≤c by omega)],by omega,e3,by simp;omega,by simp⟩
  exact⟨by simp[Instr.sliceBounds,e1,e4,run_sliceBound _ e2 (show v.toNat≤c by omega),run_sliceBound _ e5 e6],e6,e3,by simp;omega,by simp⟩
 |some m0=>
 simp only at hb;split at hb
 ·simp at hb
 rename_i xp;simp only[adx,ag4,adJ] at hb;obtain⟨m',h0,h',h1,l',h2,rfl,rfl,rfl⟩:=hb;rcases j9 hr GU h0 with⟨rfl,h9,rfl⟩|⟨x1,k1,v1,rfl,_,e1,e2,e3,rfl⟩
 ·simp at h9
 rcases j9 hr Km h1 with⟨rfl,rfl,rfl⟩|⟨x2,k2,v2,rfl,_,f1,f2,f3,rfl⟩
 ·simp at xp
 have q1:v1.toNat≤c:=by omega
 rcases j9 hr B2 h2 with⟨rfl,rfl,rfl⟩|⟨x3,k3,v3,rfl,_,g1,g2,g3,rfl⟩
 ·exact⟨by simp[Instr.sliceBounds,e1,f1,run_sliceBound _ e2 q1,run_sliceBound _ f2 f3],by omega,by omega,f3,q1⟩
 exact⟨by simp[Instr.sliceBounds,e1,f1,g1,run_sliceBound _ e2 q1,run_sliceBound _ f2 f3,run_sliceBound _ g2 g3],g3,by omega,f3,q1⟩
def MK (hr:bu K β env H a w) {lo hi mx:Option Operand} {Dl jz mx':Option O} {n c l h:Nat} {m:Option Nat} (B2:lN K.G lo=some Dl) (Km:lN K.G hi=some jz)
  (GU:lN K.G mx=some mx') (TA:n≤c) (hb:oR env Dl jz mx' n c=some (l,h,m)) :
  (Instr.sliceBounds true n c (lo.map a.eval) (hi.map a.eval) (mx.map a.eval)).run K.P w= .ok (l,h,m.getD c) w∧l≤h∧h≤c∧h≤m.getD c∧m.getD c≤c:=by
 unfold oR at hb;cases mx' with
 |none=>
  simp only[adx,ag4,adJ] at hb;obtain⟨h',h1,l',h2,rfl,rfl,rfl⟩:=hb;have UQ:mx=none:=by cases mx with
   |none=>rfl
   |some x=>simp[lN] at GU
  subst UQ;rcases j9 hr Km h1 with⟨rfl,rfl,rfl⟩|⟨x,k,v,rfl,_,e1,e2,e3,rfl⟩
  ·rcases j9 hr B2 h2 with⟨rfl,rfl,rfl⟩|⟨y,k,u,rfl,_,e4,e5,e6,rfl⟩
   ·exact⟨by simp[Instr.sliceBounds],by omega,by omega,by simpa using TA,by simp⟩
   exact⟨by simp[Instr.sliceBounds,e4,run_sliceBound _ e5 e6],by omega,by omega,by simpa using TA,by simp⟩
  rcases j9 hr B2 h2 with⟨rfl,rfl,rfl⟩|⟨y,k',u,rfl,_,e4,e5,e6,rfl⟩
  ·exact⟨by simp[Instr.sliceBounds,e1,run_sliceBound _ e2 (show v.toNat≤c by omega)],by omega,e3,by simp;omega,by simp⟩
  exact⟨by simp[Instr.sliceBounds,e1,e4,run_sliceBound _ e2 (show v.toNat≤c by omega),run_sliceBound _ e5 e6],e6,e3,by simp;omega,by simp⟩
 |some m0=>
 simp only at hb;split at hb
 ·simp at hb
 rename_i xp;simp only[adx,ag4,adJ] at hb;obtain⟨m',h0,h',h1,l',h2,rfl,rfl,rfl⟩:=hb;rcases j9 hr GU h0 with⟨rfl,h9,rfl⟩|⟨x1,k1,v1,rfl,_,e1,e2,e3,rfl⟩
 ·simp at h9
 rcases j9 hr Km h1 with⟨rfl,rfl,rfl⟩|⟨x2,k2,v2,rfl,_,f1,f2,f3,rfl⟩
 ·simp at xp
 have q1:v1.toNat≤c:=by omega
 rcases j9 hr B2 h2 with⟨rfl,rfl,rfl⟩|⟨x3,k3,v3,rfl,_,g1,g2,g3,rfl⟩
 ·exact⟨by simp[Instr.sliceBounds,e1,f1,run_sliceBound _ e2 q1,run_sliceBound _ f2 f3],by omega,by omega,f3,q1⟩
 exact⟨by simp[Instr.sliceBounds,e1,f1,g1,run_sliceBound _ e2 q1,run_sliceBound _ f2 f3,run_sliceBound _ g2 g3],g3,by omega,f3,q1⟩
theorem yq {w:World} {I:Nat→Prop} {sz:Nat}:∀(n:Nat) (xs:List IV) (b o:Nat),dS w I xs b o sz→dS w I (xs.take n) b o sz
 |0,_,_,_,_=>by simp[dS]
 |n+1,[],_,_,_=>by simp[dS]
 |n+1,x::r,b,o,h=>by
  simp only[dS] at h;simp only[aeF,dS];exact⟨h.1,yq n r b (o+sz) h.2⟩
theorem yr {w:World} {I:Nat→Prop} {sz:Nat}:∀(n:Nat) (xs:List IV) (b o:Nat),dS w I xs b o sz→dS w I (xs.drop n) b (o+n*sz) sz
 |0,_,_,_,h=>by simpa using h
 |n+1,[],_,_,_=>by simp[dS]
 |n+1,x::r,b,o,h=>by
  simp only[dS] at h;simp only[aet];have:=yr n r b (o+sz) h.2
  rwa[show o+sz+n*sz=o+(n+1)*sz by rw[ad_];omega] at this
def B3 {w:World} {I:Nat→Prop} {sz s:Nat} {xs:List IV} {b o:Nat} (h:dS w I xs b o sz) (hs:ko s xs) (hn:0<xs.length):sz=s:=by
 cases xs with
 |nil=>simp at hn
 |cons x r=>
 simp only[dS] at h;have:=(ku w I x b o sz).1 h.1;rw[this.1];exact hs x (by simp)
def QH {xs:List IV} {I:Nat→Prop} {ad:Option Addr} {c s l h m:Nat} (oS:ko s xs) (hl:l≤h) (hh:h≤xs.length) (hm:h≤m) (hmc:m≤c) (hc:c≤maxLen)
  (hx:xs.length=0∨∃b o sz,ad=some ⟨b,o,none⟩∧I b∧b<w.heap.size∧0<sz∧dS w I xs b o sz) :
  kP w I (.list ((xs.take h).drop l)) (.slice (if m=l then ad else ad.map (·.add (l*s))) (h - l) (m - l)):=by
 simp only[kP];have hlen:((xs.take h).drop l).length=h - l:=by simp;omega
 refine⟨_,m - l,by rw[hlen],by omega,by omega,?_⟩;rw[hlen];by_cases e:h - l=0
 ·exact .inl e
 right;rcases hx with hx|⟨b,o,sz,rfl,e1,e2,e3,e4⟩
 ·omega
 have pC:sz=s:=B3 e4 oS (by omega);subst pC;refine⟨b,o+l*sz,sz,?_,e1,e2,e3,yr _ _ _ _ (yq _ _ _ _ e4)⟩;rw[ag8 (by omega)];simp[addr_add]
def YO (hr:bu K β env H a w) {o:Oper} {t e:TypeId} {x:Operand} {lo hi mx:Option Operand} {s:Nat} {x':O} {Dl jz mx':Option O} (ho:o.op= .slice t x lo hi mx)
  (ht:K.P.underlying t=some (.slice e)) (hs:zQ K.P e=some s) (hx:co K.G x=some x') (B2:lN K.G lo=some Dl) (Km:lN K.G hi=some jz) (GU:lN K.G mx=some mx') {y:AV}
  (hy:aj (.qd x' Dl jz mx' s) env=some y):bD K β H a w o y:=by
 have hv:=hr.ev hx;have hm:=hr.kI hx;have run:∀(ad:Option Addr) (n c l h m:Nat),a.eval x= .slice ad n c→(Instr.sliceBounds true n c (lo.map a.eval) (hi.map a.eval) (mx.map a.eval)).run K.P w= .ok (l,h,m) w →
   (execOp a.eval o).run K.P w= .ok (.value (.slice (if m=l then ad else ad.map (·.add (l*s))) (h - l) (m - l))) w:=by
  intro ad n c l h m e1 e2;simp[execOp,ho,Instr.sliceAt,run_underlying ht,Instr.slice,e1,e2,fQ hs,Result.andThen]
 simp only[aj,nG] at hy;split at hy
 ·rename_i e1;rw[e1] at hv;simp only[RV] at hv;obtain⟨ad,hv⟩:=hv;simp only[ag4] at hy;obtain⟨⟨l,h,m⟩,h1,rfl⟩:=hy;obtain⟨r1,r2,r3,r4,r5⟩:=wi hr B2 Km GU (adw 0) h1;refine bD.same (run ad 0 0 l h _ hv r1) ?_ (by simp[AV.aB]);have z1:h - l=0:=by omega
  have z2:m.getD 0 - l=0:=by omega
  rw[z1,z2];exact⟨_,rfl⟩
 ·rename_i xs e1;rw[e1] at hv;simp only[RV,kP] at hv;split at hy
  ·rename_i oS;obtain⟨ad,c,h3,h4,h5,h6⟩:=hv;simp only[ag4] at hy;obtain⟨⟨l,h,m⟩,h1,rfl⟩:=hy;obtain⟨r1,r2,r3,r4,r5⟩:=wi hr B2 Km GU h4 h1;refine bD.same (run ad _ c l h _ h3 r1) ?_ (by split<;>simp[AV.aB]);split
   ·rename_i TB;simp only at TB;subst TB;simp only[ae'] at r4 ⊢;have z1:h - l=0:=(by omega);rw[z1];simp only[ae_,adH];exact⟨_,rfl⟩
   simp only[RV];exact QH oS r2 r3 r4 r5 h5 h6
  simp at hy
 ·rename_i lb s' i n e1;rw[e1] at hv hm;simp only[RV] at hv;split at hy
  ·rename_i hs';subst hs';obtain⟨ad,c,h3,h4,h5,h6,h7⟩:=hv;simp only[adx] at hy;obtain⟨⟨l,h,m⟩,h1,h2⟩:=hy;obtain⟨r1,r2,r3,r4,r5⟩:=wi hr B2 Km GU h4 h1;cases m with
   |some m=>simp at h2
   |none=>
   simp only[ad7,adQ,adS,jl] at h2;subst h2;simp only[d_] at r1 r4 r5;refine bD.same (run ad _ c l h _ h3 r1) ?_ (by simpa[AV.aB] using hm);refine⟨_,_,rfl,by omega,by omega,fun hn=> ?_,fun hl=> ?_⟩
   ·obtain⟨q,rfl⟩:=afj.1 (h6 (by omega));split<;>simp
   by_cases hc:c=l
   ·exact .inl (by omega)
   right;rcases h7 hl with h8|⟨g,S,k1,k2,k3,k4⟩
   ·omega
   subst k2;refine⟨g,S,k1,?_,k3,?_⟩
   ·rw[ag8 hc];simp[addr_add,ad_]
   rw[←k4];congr 1;omega
  simp at hy
 ·rename_i lb s' i n c0 e1;rw[e1] at hv hm;simp only[RV] at hv;split at hy
  ·rename_i hs';subst hs';obtain⟨ad,h3,h4,h5,h6,h7⟩:=hv;simp only[adx] at hy;obtain⟨⟨l,h,m⟩,h1,h2⟩:=hy;obtain⟨r1,r2,r3,r4,r5⟩:=MK hr B2 Km GU h4 h1;cases m with
   |some m=>
    simp only[afK,adH,jl] at h2;subst h2;exact bD.same (run ad _ c0 l h _ h3 r1) (by simp[RV]) (by simp[AV.aB])
   |none=>
   simp only[ad7,adQ,adS,jl] at h2;subst h2;simp only[d_] at r1 r4 r5;refine bD.same (run ad _ c0 l h _ h3 r1) ?_ (by simpa[AV.aB] using hm);refine⟨_,rfl,by omega,by omega,fun hn=> ?_,fun hl=> ?_⟩
   ·obtain⟨q,rfl⟩:=afj.1 (h6 (by omega));split<;>simp
   by_cases hc:c0=l
   ·exact .inl (by omega)
   right;rcases h7 hl with h8|⟨g,S,k1,k2,k3,k4⟩
   ·omega
   subst k2;refine⟨g,S,k1,?_,k3,?_⟩
   ·rw[ag8 hc];simp[addr_add,ad_]
   rw[←k4];congr 1;omega
  simp at hy
 simp at hy
def UR (hr:bu K β env H a w) {o:Oper} {t:TypeId} {x:Operand} {lo hi:Option Operand} {x':O} {Dl jz:Option O} (ho:o.op= .slice t x lo hi none)
  (ht:K.P.underlying t=some .string) (hx:co K.G x=some x') (B2:lN K.G lo=some Dl) (Km:lN K.G hi=some jz) {y:AV}
  (hy:aj (.ot x' Dl jz) env=some y):bD K β H a w o y:=by
 have hv:=hr.ev hx;simp only[aj] at hy;split at hy
 ·rename_i s e1;rw[e1] at hv;simp only[RV] at hv;simp only[adx,ag4] at hy;obtain⟨h,h1,l,h2,rfl⟩:=hy;have hb:rK env Dl jz none s.length=some (l,h,none):=by simp[rK,h1,h2]
  have ML:∀isS,(Instr.sliceBounds isS s.length s.length (lo.map a.eval) (hi.map a.eval) none).run K.P w= .ok (l,h,s.length) w:=by
   intro isS;rcases j9 hr Km h1 with⟨rfl,rfl,rfl⟩|⟨x,k,v,rfl,_,e1,e2,e3,rfl⟩
   ·rcases j9 hr B2 h2 with⟨rfl,rfl,rfl⟩|⟨y,k,u,rfl,_,e4,e5,e6,rfl⟩
    ·simp[Instr.sliceBounds]
    simp[Instr.sliceBounds,e4,run_sliceBound _ e5 e6]
   rcases j9 hr B2 h2 with⟨rfl,rfl,rfl⟩|⟨y,k',u,rfl,_,e4,e5,e6,rfl⟩
   ·simp[Instr.sliceBounds,e1,run_sliceBound _ e2 e3]
   simp[Instr.sliceBounds,e1,e4,run_sliceBound _ e2 e3,run_sliceBound _ e5 e6]
  obtain⟨_,r2,r3,_,_⟩:=wi hr B2 Km (mx:=none) (mx':=none) (by simp[lN]) (adw _) hb;refine bD.same (v:= .string ((⟨s.toArray⟩:ByteArray).extract l h)) ?_ ?_ (by simp[AV.aB])
  ·simp[execOp,ho,Instr.sliceAt,run_underlying ht,Instr.slice,hv,s8,ML,Result.andThen]
  simp only[RV];congr 1;apply agT;show((⟨s.toArray⟩:ByteArray).extract l h).data=((s.take h).drop l).toArray;rw[agE];simp only[List.extract_toArray];congr 1;simp[List.extract,List.drop_take]
 simp at hy
end

section
variable {w:World} {β:Lb→Option Nat} {H:Hp} {I:Nat→Prop}
theorem cM.len:∀(cs:List AV) (vs:List Value),cM w β H I cs vs→vs.length=cs.length
 |[],vs,h=>by simp[cM] at h;simp[h]
 |x::r,vs,h=>by
  simp only[cM] at h;obtain⟨v,us,rfl,_,h2⟩:=h;simp[cM.len r us h2]
theorem cM.get:∀(cs:List AV) (vs:List Value) (i:Nat) (x:AV),cM w β H I cs vs→cs[i]?=some x→∃v,vs[i]?=some v∧RV w β H I x v
 |[],vs,i,x,h,hx=>by simp at hx
 |y::r,vs,0,x,h,hx=>by
  simp only[cM] at h;obtain⟨v,us,rfl,h1,h2⟩:=h;simp at hx;subst hx;exact⟨v,by simp,h1⟩
 |y::r,vs,i+1,x,h,hx=>by
  simp only[cM] at h;obtain⟨v,us,rfl,h1,h2⟩:=h;obtain⟨u,k1,k2⟩:=cM.get r us i x h2 (by simpa using hx);exact⟨u,by simpa using k1,k2⟩
theorem cM.drop:∀(n:Nat) (cs:List AV) (vs:List Value),cM w β H I cs vs→cM w β H I (cs.drop n) (vs.drop n)
 |0,_,_,h=>by simpa using h
 |n+1,[],vs,h=>by simp[cM] at h;simp[h,cM]
 |n+1,x::r,vs,h=>by
  simp only[cM] at h;obtain⟨v,us,rfl,h1,h2⟩:=h;simpa using cM.drop n r us h2
theorem cM.take:∀(n:Nat) (cs:List AV) (vs:List Value),cM w β H I cs vs→cM w β H I (cs.take n) (vs.take n)
 |0,_,_,_=>by simp[cM]
 |n+1,[],vs,h=>by simp[cM] at h;simp[h,cM]
 |n+1,x::r,vs,h=>by
  simp only[cM] at h;obtain⟨v,us,rfl,h1,h2⟩:=h;simp only[aeF,cM];exact⟨v,us.take n,rfl,h1,cM.take n r us h2⟩
theorem cM.append:∀(cs:List AV) (vs:List Value) (ds:List AV) (us:List Value),cM w β H I cs vs→cM w β H I ds us→cM w β H I (cs++ds) (vs++us)
 |[],vs,ds,us,h,h2=>by simp[cM] at h;subst h;simpa using h2
 |x::r,vs,ds,us,h,h2=>by
  simp only[cM] at h;obtain⟨v,MM,rfl,h1,h3⟩:=h;simp only[adR,cM];exact⟨v,MM++us,rfl,h1,cM.append r MM ds us h3 h2⟩
theorem cM.Dm:∀(cs:List IV) (b o:Nat),dF w I cs b o→∃vs:List Value,cM w β H I (cs.map IV.gK) vs∧vs.length=cs.length∧∀j v,vs[j]?=some v→w.cell? ⟨b,o+j,none⟩=some v
 |[],b,o,h=>⟨[],by simp[cM],rfl,by simp⟩
 |x::r,b,o,h=>by
  simp only[dF] at h;obtain⟨⟨v,h1,h2⟩,h3⟩:=h;obtain⟨vs,k1,k2,k3⟩:=cM.Dm r b (o+1) h3;refine⟨v::vs,?_,by simp[k2],?_⟩
  ·simp only[ad5,cM];refine⟨v,vs,rfl,?_,k1⟩;cases x<;>simp[kP] at h2<;>simp[IV.gK,RV,h2];simpa[kP] using h2
  intro j u hj;cases j with
  |zero=>simp at hj;subst hj;exact h1
  |succ j=>
  have:=k3 j u (by simpa using hj)
  rwa[show o+1+j=o+(j+1) by omega] at this
def RV.iv:∀{x:AV} {y:IV} {v:Value},x.iv=some y→RV w β H I x v→kP w I y v:=by
 intro x y v h hv;cases x<;>simp[AV.iv] at h<;>subst h<;>simp only[RV] at hv<;>simp only[kP]
 case nil0=>
  obtain⟨a,rfl⟩:=hv;exact⟨a,0,rfl,by simp,by simp[maxLen],.inl (by simp)⟩
 case ifc=>
  obtain⟨u,rfl,_⟩:=hv;exact⟨u,rfl⟩
 all_goals first|exact hv|simpa[kP] using hv
def MN {x:AV} {y:IV} (h:x.iv=some y):y.cells=[y]:=by
 cases x<;>simp[AV.iv] at h<;>subst h<;>rfl
theorem qA:∀(cs:List AV) (ys:List IV) (vs:List Value) (b o:Nat),Ex cs=some ys→cM w β H I cs vs→(∀j v,vs[j]?=some v→w.cell? ⟨b,o+j,none⟩=some v)→dF w I ys b o
 |[],ys,vs,b,o,h,_,_=>by simp[Ex] at h;subst h;simp[dF]
 |x::r,ys,vs,b,o,h,hv,hc=>by
  simp only[Ex,adx,ag4] at h;obtain⟨y,h1,s,h2,rfl⟩:=h;simp only[cM] at hv;obtain⟨v,us,rfl,k1,k2⟩:=hv;simp only[dF];refine⟨⟨v,by simpa using hc 0 v (by simp),RV.iv h1 k1⟩,qA r s us b (o+1) h2 k2 (fun j u hj=> ?_)⟩;have:=hc (j+1) u (by simpa using hj)
  rwa[show o+(j+1)=o+1+j by omega] at this
theorem IS:∀(cs:List AV) (ys:List IV),Ex cs=some ys→ys.length=cs.length
 |[],ys,h=>by simp[Ex] at h;subst h;rfl
 |x::r,ys,h=>by
  simp only[Ex,adx,ag4] at h;obtain⟨y,h1,s,h2,rfl⟩:=h;simp[IS r s h2]
def RV.cells {x:AV} {v:Value} (h:RV w β H I x v) (hx:∀cs,x= .agg cs→True) (ha:(∃cs,x= .agg cs)∨v.oneCell'=true):cM w β H I x.cells v.cells.toList:=by
 cases x
 case agg cs=>
  simp only[RV] at h;obtain⟨vs,rfl,h1⟩:=h;simpa[AV.cells,Value.cells] using h1
 all_goals
  rcases ha with⟨cs,hc⟩|ha
  ·cases hc
  have:v.cells=#[v]:=by cases v<;>simp_all[Value.cells,Value.oneCell']
  simp only[AV.cells,cM,this];exact⟨v,[],by simp,h,rfl⟩
def RV.wj {x:AV} {v:Value} (h:RV w β H I x v) (hx:x.one=true):v.oneCell'=true:=by
 cases x<;>simp[AV.one] at hx<;>simp only[RV,kP] at h
 case list=>obtain⟨a,c,rfl,_⟩:=h;rfl
 case nil0=>obtain⟨a,rfl⟩:=h;rfl
 case sl=>obtain⟨a,c,rfl,_⟩:=h;rfl
 case slk=>obtain⟨a,rfl,_⟩:=h;rfl
 case ptr=>obtain⟨a,rfl,_⟩:=h;rfl
 case lptr=>obtain⟨b,o,rfl,_⟩:=h;rfl
 case fn=>obtain⟨vs,us,rfl,_⟩:=h;rfl
 case ifc=>obtain⟨u,rfl,_⟩:=h;rfl
 all_goals (subst h;rfl)
end
section
variable {K:Kx} {β:Lb→Option Nat} {env:Env} {H:Hp} {a:Act} {w:World}
def YP (hr:bu K β env H a w) {o:Oper} {t:TypeId} {x:Operand} {x':O} (ho:o.op= .unOp .not t x) (hx:co K.G x=some x') {y:AV}
  (hy:aj (.not x') env=some y):bD K β H a w o y:=by
 have h:=hr.ev hx;simp only[aj] at hy;split at hy
 ·rename_i b e;rw[e] at h;simp only[RV,jl] at h hy;subst hy;exact bD.same (v:= .bool !b) (by simp[execOp,ho,h,Op.unary]) (by simp[RV]) (by simp[AV.aB])
 simp at hy
def YQ (hr:bu K β env H a w) {o:Oper} {t:TypeId} {x:Operand} {x':O} (ho:o.op= .unOp .neg t x) (hx:co K.G x=some x') {y:AV}
  (hy:aj (.neg x') env=some y):bD K β H a w o y:=by
 have h:=hr.ev hx;simp only[aj] at hy;split at hy
 ·rename_i k n e;rw[e] at h;simp only[RV,jl] at h hy;subst hy;exact bD.same (v:= .int k (k.wrap (0 - n))) (by simp[execOp,ho,h,Op.unary,Op.intArith]) (by simp[RV]) (by simp[AV.aB])
 simp at hy
def YR (hr:bu K β env H a w) {o:Oper} {c:Call} {x y:Operand} {x' y':O} (ho:o.op= .call c) (hc:c.callee= .builtin .max) (ha:c.args.toList=[x,y])
  (hx:co K.G x=some x') (hy:co K.G y=some y') {z:AV} (hz:aj (.max x' y') env=some z):bD K β H a w o z:=by
 have h:=hr.ev hx;have h2:=hr.ev hy;have Dk:c.args=#[x,y]:=by cases hh:c.args;simp_all
 simp only[aj] at hz;split at hz
 ·rename_i k m k' n e1 e2;rw[e1] at h;rw[e2] at h2;simp only[RV] at h h2;split at hz
  ·simp only[jl] at hz;subst hz;refine bD.same (v:= .int k (if n>m then n else m)) ?_ (by simp[RV]) (by simp[AV.aB]);simp[execOp,ho,resolve,hc,Dk,h,h2,invoke,builtin,Builtin.max_,Builtin.max2,List.foldlM]
  simp at hz
 simp at hz
def YS (hr:bu K β env H a w) {o:Oper} {c:Call} {x y:Operand} {x' y':O} (ho:o.op= .call c) (hc:c.callee= .builtin .min) (ha:c.args.toList=[x,y])
  (hx:co K.G x=some x') (hy:co K.G y=some y') {z:AV} (hz:aj (.min x' y') env=some z):bD K β H a w o z:=by
 have h:=hr.ev hx;have h2:=hr.ev hy;have Dk:c.args=#[x,y]:=by cases hh:c.args;simp_all
 simp only[aj] at hz;split at hz
 ·rename_i k m k' n e1 e2;rw[e1] at h;rw[e2] at h2;simp only[RV] at h h2;split at hz
  ·simp only[jl] at hz;subst hz;refine bD.same (v:= .int k (if n<m then n else m)) ?_ (by simp[RV]) (by simp[AV.aB]);simp[execOp,ho,resolve,hc,Dk,h,h2,invoke,builtin,Builtin.min_,Builtin.min2,List.foldlM]
  simp at hz
 simp at hz
theorem gL:∀(cs:List AV) (i:Nat) (x:AV),cs[i]?=some x→∀l∈x.aB,l∈ah cs
 |[],i,x,h=>by simp at h
 |y::r,0,x,h=>by simp at h;subst h;intro l hl;simp[ah,hl]
 |y::r,i+1,x,h=>by
  intro l hl;have:=gL r i x (by simpa using h) l hl;simp[ah,this]
def YT (hr:bu K β env H a w) {o:Oper} {x:Operand} {i:Nat} {x':O} (ho:o.op= .extract x i) (hx:co K.G x=some x') {y:AV}
  (hy:aj (.ext x' i) env=some y):bD K β H a w o y:=by
 have h:=hr.ev hx;have hm:=hr.kI hx;simp only[aj] at hy;split at hy
 ·rename_i cs e;rw[e] at h hm;simp only[RV] at h;obtain⟨vs,h1,h2⟩:=h;obtain⟨v,k1,k2⟩:=cM.get _ _ _ _ h2 hy;refine bD.same (v:=v) ?_ k2 (fun l hl=>hm l (by simpa[AV.aB] using gL _ _ _ hy l hl));simp[execOp,ho,h1,Instr.extract,k1]
 simp at hy
def US (hr:bu K β env H a w) {o:Oper} {x:Operand} {x':O} (ho:o.op= .nilCheck x) (hx:co K.G x=some x') {y:AV}
  (hy:aj (.dc x') env=some y):bD K β H a w o y:=by
 have h:=hr.ev hx;have hm:=hr.kI hx;simp only[aj] at hy;split at hy
 ·rename_i l sz i j e;simp only[jl] at hy;subst hy;rw[e] at h hm;have h':=h;simp only[RV] at h;obtain⟨ad,h1,h2⟩:=h;exact bD.same (v:=a.eval x) (by simp[execOp,ho,h1]) h' hm
 ·rename_i cs e;simp only[jl] at hy;subst hy;rw[e] at h hm;have h':=h;simp only[RV] at h;obtain⟨b,o',h1,h2⟩:=h;exact bD.same (v:=a.eval x) (by simp[execOp,ho,h1]) h' hm
 ·rename_i f p q e;simp only[jl] at hy;subst hy;rw[e] at h hm;have h':=h;simp only[RV] at h;obtain⟨vs,us,h1,h2⟩:=h;exact bD.same (v:=a.eval x) (by simp[execOp,ho,h1]) h' hm
 simp at hy
theorem qB (hr:bu K β env H a w):∀(xs:List Operand) (ys:List O),cos K.G xs=some ys→cM w β H (Im K β H) (ys.map (ev env)) (xs.map a.eval)
 |[],ys,h=>by simp[cos] at h;subst h;simp[cM]
 |x::r,ys,h=>by
  simp only[cos,adx,ag4] at h;obtain⟨y,h1,s,h2,rfl⟩:=h;simp only[ad5,cM];exact⟨_,_,rfl,hr.ev h1,qB hr r s h2⟩
theorem qY (hr:bu K β env H a w):∀(xs:List Operand) (ys:List O),cos K.G xs=some ys→∀l∈ah (ys.map (ev env)),H l≠ .unused
 |[],ys,h=>by simp[cos] at h;subst h;simp[ah]
 |x::r,ys,h=>by
  simp only[cos,adx,ag4] at h;obtain⟨y,h1,s,h2,rfl⟩:=h;intro l hl;simp only[ad5,ah,adD] at hl;exact hl.elim (hr.kI h1 l) (qY hr r s h2 l)
def YU (hr:bu K β env H a w) {o:Oper} {f:Nat} {first cap:Array Operand} {cs:List O} (ho:o.op= .makeFunc (.func f) first cap) (hf:first.isEmpty=true)
  (hc:cos K.G cap.toList=some cs) {y:AV} (hy:aj (.Qo f cs) env=some y):bD K β H a w o y:=by
 simp only[aj,jl] at hy;subst hy;have IT:first=#[]:=by simpa using hf
 refine bD.same (v:= .func (.func f) #[] (cap.toList.map a.eval).toArray) ?_ ?_ ?_
 ·simp[execOp,ho,Instr.makeFunc,IT];cases cap;simp
 ·simp only[RV,cM];exact⟨[],_,by simp,rfl,qB hr _ _ hc⟩
 simpa[AV.aB,ah] using qY hr _ _ hc
def YV (hr:bu K β env H a w) {o:Oper} {f:Nat} {first cap:Array Operand} {qs cs:List O} (ho:o.op= .makeFunc (.func f) first cap) (hq:cos K.G first.toList=some qs)
  (hc:cos K.G cap.toList=some cs) {y:AV} (hy:aj (.Qp f qs cs) env=some y):bD K β H a w o y:=by
 simp only[aj,jl] at hy;subst hy;refine bD.same (v:= .func (.func f) (first.toList.map a.eval).toArray (cap.toList.map a.eval).toArray) ?_ ?_ ?_
 ·simp[execOp,ho,Instr.makeFunc];cases cap;cases first
  simp
 ·simp only[RV];exact⟨_,_,rfl,qB hr _ _ hq,qB hr _ _ hc⟩
 intro l hl;simp only[AV.aB,adD] at hl;rcases hl with hl|hl
 ·exact qY hr _ _ hq l hl
 exact qY hr _ _ hc l hl
def YW (hr:bu K β env H a w) {o:Oper} {s d:TypeId} {x:Operand} {x':O} {k k':IntKind} (ho:o.op= .convert s d x) (hs:K.P.underlying s=some (.int k')) (hd:K.P.underlying d=some (.int k))
  (hx:co K.G x=some x') {y:AV} (hy:aj (.Dh k x') env=some y):bD K β H a w o y:=by
 have h:=hr.ev hx;simp only[aj] at hy;split at hy
 ·rename_i j n e;rw[e] at h;simp only[RV,jl] at h hy;subst hy;exact bD.same (v:= .int k (k.wrap n)) (by simp[execOp,ho,h,convert,run_underlying hs,run_underlying hd,Conv.intToInt]) (by simp[RV]) (by simp[AV.aB])
 simp at hy
def YX (hr:bu K β env H a w) {o:Oper} {s d:TypeId} {x:Operand} {x':O} (ho:o.op= .convert s d x) (hs:K.P.underlying s=some .string) (hd:K.P.underlying d=some .string)
  (hx:co K.G x=some x') {y:AV} (hy:aj (.u6 x') env=some y):bD K β H a w o y:=by
 have h:=hr.ev hx;simp only[aj] at hy;split at hy
 ·rename_i t e;rw[e] at h;simp only[RV,jl] at h hy;subst hy;exact bD.same (v:=a.eval x) (by simp[execOp,ho,h,convert,run_underlying hs,run_underlying hd]) (by simpa[RV] using h) (by simp[AV.aB])
 simp at hy
def UT (hr:bu K β env H a w) {o:Oper} {t:TypeId} {x:Operand} {x':O} {d:TypeDesc} (ho:o.op= .makeInterface t x) (ht:K.P.underlying t=some d) (hd:∀ms,d≠ .interface ms)
  (hx:co K.G x=some x') {y:AV} (hy:aj (.Di t x') env=some y):bD K β H a w o y:=by
 have h:=hr.ev hx;simp only[aj,jl] at hy;subst hy;refine bD.same (v:= .iface t (a.eval x)) ?_ ⟨_,rfl,h⟩ (by simpa[AV.aB] using hr.kI hx);cases d<;>simp[execOp,ho,Instr.makeInterface,run_underlying ht];exact absurd rfl (hd _)
end

theorem wm (off:Nat):∀(l:List Value) (k:Nat) (arr:Array Value),off+k+l.length≤arr.size →
  ((l.zipIdx k).foldl (fun cs (p:Value×Nat)=>cs.setIfInBounds (off+p.2) p.1) arr).toList=arr.toList.take (off+k)++l++arr.toList.drop (off+k+l.length)
 |[],k,arr,h=>by simp
 |v::r,k,arr,h=>by
  simp only[adK] at h;simp only[List.zipIdx_cons,aeP];rw[wm off r (k+1) (arr.setIfInBounds (off+k) v) (by simp;omega)];simp only[Array.toList_setIfInBounds,adK];rw[show off+(k+1)+r.length=off+k+(r.length+1) by omega,show off+(k+1)=off+k+1 by omega];have bO:off+k<arr.toList.length:=by simp;omega
  have h1:(arr.toList.set (off+k) v).take (off+k+1)=arr.toList.take (off+k)++[v]:=by
   have hl:(arr.toList.take (off+k)).length=off+k:=(by rw[adP];omega);rw[List.take_set,List.take_succ_eq_append_getElem bO,afQ _ _ (by omega),hl,ae_];rfl
  have h2:(arr.toList.set (off+k) v).drop (off+k+(r.length+1))=arr.toList.drop (off+k+(r.length+1)):=by
   rw[agW (by omega)]
  rw[h1,h2];simp
section
variable {w:World} {β:Lb→Option Nat} {H:Hp} {I:Nat→Prop}
def cM.um {x:AV} {v:Value} (h:RV w β H I x v) (hx:(∃cs,x= .agg cs)∨x.one=true):v.cells.size=x.cells.length∧cM w β H I x.cells v.cells.toList:=by
 have h2:cM w β H I x.cells v.cells.toList:=RV.cells h (fun _ _=>trivial) (by
  rcases hx with hx|hx
  ·exact .inl hx
  exact .inr (RV.wj h hx))
 exact⟨by rw[←cM.len _ _ h2];simp,h2⟩
def AV.GV {x:AV} (h:x.GF=true):(∃cs,x= .agg cs)∨x.one=true:=by
 cases x<;>first|exact .inl ⟨_,rfl⟩|exact .inr (by simpa[AV.GF] using h)
inductive gT {α γ:Type} (R:α→γ→Prop):List α→List γ→Prop
 |nil:gT R [] []
 |cons {a:α} {b:γ} {l:List α} {m:List γ}:R a b→gT R l m→gT R (a::l) (b::m)
theorem wo (place:Nat→Option (Nat×Nat)):∀(ps:List (Nat×Value)) (qs:List (Nat×Nat×AV)) (cs jm:List AV) (cur:Array Value),
  cM w β H I cs cur.toList→lO cs qs=some jm →
  gT (fun(p:Nat×Value) (q:Nat×Nat×AV)=>place p.1=some (q.1,q.2.1)∧RV w β H I q.2.2 p.2) ps qs →
  ∃cur',Instr.fill place cur ps=some cur'∧cM w β H I jm cur'.toList
 |[],qs,cs,jm,cur,h,hf,ha=>by
  cases ha;simp only[lO,jl] at hf;subst hf;exact⟨cur,rfl,h⟩
 |p::ps,qs,cs,jm,cur,h,hf,ha=>by
  cases ha with
  |@cons _ q _ qs hq Ya=>
  obtain⟨off,sz,x⟩:=q;obtain⟨i,v⟩:=p;obtain⟨h1,h2⟩:=hq;simp only at h1 h2;simp only[lO] at hf;split at hf
  ·rename_i pC;obtain⟨h3,pC⟩:=pC;obtain⟨k1,k2⟩:=cM.um h2 (AV.GV h3);have hlen:cur.size=cs.length:=(by rw[←cM.len _ _ h];simp);have B4:¬(v.cells.size≠sz||decide (off+v.cells.size>cur.size))=true:=by
    simp only[aeJ,adM,not_or];omega
   have Ey:=wm off v.cells.toList 0 cur (by simp;omega);simp only[ae0] at Ey;obtain⟨cur',e1,e2⟩:=wo place ps qs _ jm (v.cells.zipIdx.foldl (fun cs (p:Value×Nat)=>cs.setIfInBounds (off+p.2) p.1) cur) (by
    rw[←Array.foldl_toList,Array.toList_zipIdx,Ey];have:v.cells.toList.length=sz:=(by simp;omega);rw[this];exact cM.append _ _ _ _ (cM.append _ _ _ _ (cM.take _ _ _ h) k2) (cM.drop _ _ _ h)) hf Ya
   refine⟨cur',?_,e2⟩;simp only[Instr.fill,h1];rw[ag8 B4];exact e1
  simp at hf
end
section
variable {K:Kx} {β:Lb→Option Nat} {env:Env} {H:Hp} {a:Act} {w:World}
def sJ {P:Program} {t:TypeId} {m:Nat} (hm:Kl P t=some (some m)) (ad:Addr) (cs:List Value) (hl:cs.length=m)
  (h:∀j v,cs[j]?=some v→w.cell? (ad.add j)=some v):(loadVar t ad).run P w= .ok (.agg cs.toArray) w:=by
 have hu:(isAgg t).run P w= .ok true w∧zQ P t=some m:=by
  unfold Kl at hm;split at hm
  ·rename_i fs Qr;obtain⟨s,h1,h2⟩:=ag4.1 hm;cases h2;exact⟨by simp[isAgg,run_underlying Qr],h1⟩
  ·rename_i n e Qr;obtain⟨s,h1,h2⟩:=ag4.1 hm;cases h2;exact⟨by simp[isAgg,run_underlying Qr],h1⟩
  ·simp at hm
  simp at hm
 subst hl;simp[loadVar,hu.1,fQ hu.2,run_loadCells_list (P:=P) w ad cs h,Result.andThen]
def sK {P:Program} {t:TypeId} (hm:Kl P t=some none) (ad:Addr) (v:Value) (h:w.cell? ad=some v):(loadVar t ad).run P w= .ok v w:=by
 have hu:(isAgg t).run P w= .ok false w:=by
  unfold Kl at hm;split at hm
  ·simp at hm
  ·simp at hm
  ·rename_i d h1 h2 hd;have UU:∀f,d≠ .struct f:=fun f e=>h1 f e;have h2':∀n e,d≠ .array n e:=fun n e q=>h2 n e q;cases d<;>simp[isAgg,run_underlying hd]
   ·exact(h2' _ _ rfl).elim
   exact(UU _ rfl).elim
  simp at hm
 simp[loadVar,hu,h]
theorem rM:∀(cs:List IV),ah (cs.map IV.gK)=[]
 |[]=>by simp[ah]
 |x::r=>by
  simp only[ad5,ah,rM r,adN];cases x<;>simp[IV.gK,AV.aB]
theorem yt {w:World} {I:Nat→Prop}:∀(n:Nat) (cs:List IV) (b o:Nat),dF w I cs b o→dF w I (cs.take n) b o
 |0,_,_,_,_=>by simp[dF]
 |n+1,[],_,_,_=>by simp[dF]
 |n+1,x::r,b,o,h=>by
  simp only[dF] at h;simp only[aeF,dF];exact⟨h.1,yt n r b (o+1) h.2⟩
def QI (hr:bu K β env H a w) {o:Oper} {t:TypeId} {x:Operand} {x':O} {m:Option Nat} (ho:o.op= .load t x) (hm:Kl K.P t=some m) (hx:co K.G x=some x') {y:AV}
  (hy:aj (.load m x') env=some y):bD K β H a w o y:=by
 have h:=hr.ev hx;simp only[aj] at hy;split at hy
 ·rename_i cs e;rw[e] at h;simp only[RV] at h;obtain⟨b,of,h1,h2,h3,h4⟩:=h;obtain⟨vs,k1,k2,k3⟩:=cM.Dm (β:=β) (H:=H) cs b of h4;have run:∀v,(loadVar t ⟨b,of,none⟩).run K.P w= .ok v w→(execOp a.eval o).run K.P w= .ok (.value v) w:=by
   intro v hv;simp[execOp,ho,h1,Instr.loadAt,Instr.sureAddr,hv]
  cases m with
  |none=>
   simp only[ag4] at hy;obtain⟨z,hz,rfl⟩:=hy;obtain⟨v,e1,e2⟩:=cM.get _ _ 0 (z.gK) k1 (by simp[hz]);refine bD.same (run v (sK hm _ _ (by simpa using k3 0 v e1))) e2 ?_;cases z<;>simp[IV.gK,AV.aB]
  |some k=>
  simp only at hy;split at hy
  ·rename_i hk;simp only[jl] at hy;subst hy;refine bD.same (run (.agg (vs.take k).toArray) (sJ hm _ _ (by simp;omega) (fun j v hj=> ?_))) ?_ ?_
   ·rw[adT] at hj;split at hj
    ·rw[addr_add];exact k3 j v hj
    simp at hj
   ·simp only[RV];exact⟨_,rfl,by rw[afp];exact cM.take _ _ _ k1⟩
   intro l hl;simp only[AV.aB,rM] at hl;simp at hl
  simp at hy
 simp at hy
def bu.fresh (hr:bu K β env H a w):Im K β H w.heap.size:=by
 refine⟨.inr hr.frame.size,fun l hl hb=> ?_⟩;obtain⟨r,sY⟩:=hl;obtain⟨_,_,h3⟩:=hr.rows l r sY;simp only[hb] at h3;obtain⟨cur,e,cap,h4,_⟩:=h3;have:=(aed.1 h4).1;omega
def j_ (w:World) (o:Obj):rJ w (w.alloc o):=(Below.refl _ _).alloc (adw _) o
def xx (w:World):rJ w w.drew:=(Below.refl _ _).drew
def zR (w:World) (c:Array Value) (e:TypeId) (j:Nat):(w.alloc (.cells c e)).cell? ⟨w.heap.size,j,none⟩=c[j]?:=by
 simp
def UW (hr:bu K β env H a w) {o:Oper} {t:TypeId} {x:Operand} {x':O} (ho:o.op= .box t x) (hx:co K.G x=some x') {y:AV}
  (hy:aj (.BK x') env=some y):bD K β H a w o y:=by
 have h:=hr.ev hx;simp only[aj,ag4] at hy;obtain⟨ys,h1,rfl⟩:=hy;have mY:(∃cs,ev env x'= .agg cs)∨(ev env x').one=true:=by
  cases hc:ev env x'<;>simp[hc,AV.cells,Ex,AV.iv] at h1<;>first|exact .inl ⟨_,rfl⟩|exact .inr rfl
 obtain⟨k1,k2⟩:=cM.um h mY;have hg:=j_ w (.cells (a.eval x).cells t);refine⟨.pointer (some ⟨w.heap.size,0,none⟩),w.alloc (.cells (a.eval x).cells t),?_,hg,?_,by simp[AV.aB]⟩
 ·simp[execOp,ho,Instr.box,newVar,newRow]
 simp only[RV];refine⟨_,0,rfl,hr.fresh,by simp,?_⟩;refine qA _ _ _ _ _ h1 (cM.mono _ _ (hg.zP β H _ _) k2) (fun j v hj=> ?_);rw[adC,zR];simpa using hj
theorem pD:∀(l:List Value) (xs:List AV),u6 l=some xs→∀(w:World) (β:Lb→Option Nat) (H:Hp) (I:Nat→Prop),cM w β H I xs l
 |[],xs,h,w,β,H,I=>by simp[u6] at h;subst h;simp[cM]
 |v::r,xs,h,w,β,H,I=>by
  simp only[u6,adx,ag4] at h;obtain⟨x,h1,s,h2,rfl⟩:=h;simp only[cM];exact⟨v,r,rfl,Tu h1 _ _ _ _,pD r s h2 w β H I⟩
theorem zS (z:Array Value) (zs:List AV) (w:World) (β:Lb→Option Nat) (H:Hp) (I:Nat→Prop) (h:cM w β H I zs z.toList) (hz:0<z.size):∀n:Nat,
  cM w β H I ((List.replicate n zs).flatten) ((Array.range (n*z.size)).map (fun i=>z[i%z.size]!)).toList
 |0=>by simp[cM]
 |n+1=>by
  have ih:=zS z zs w β H I h hz n;have e1:(List.replicate (n+1) zs).flatten=(List.replicate n zs).flatten++zs:=by
   rw[List.replicate_succ'];simp
  have e2:((Array.range ((n+1)*z.size)).map (fun i=>z[i%z.size]!)).toList=((Array.range (n*z.size)).map (fun i=>z[i%z.size]!)).toList++z.toList:=by
   simp only[af7,ag0];rw[ad_,afL,List.range_add,aeQ];congr 1;rw[af0];apply List.ext_getElem
   ·simp
   intro i h1 h2;simp at h1 h2;simp[lz h1,h1]
  rw[e1,e2];exact cM.append _ _ _ _ ih h
theorem vD (hr:bu K β env H a w) (place:Nat→Option (Nat×Nat)):∀(ps:List (Nat×Operand)) (xs:List O) (qs:List (Nat×Nat×O)),cos K.G (ps.map (·.2))=some xs →
  qs.length=ps.length→(∀(i:Nat) (p:Nat×Operand) (x:O) (q:Nat×Nat×O),ps[i]?=some p→xs[i]?=some x→qs[i]?=some q→q.2.2=x∧place p.1=some (q.1,q.2.1)) →
  gT (fun(p:Nat×Value) (q:Nat×Nat×AV)=>place p.1=some (q.1,q.2.1)∧RV w β H (Im K β H) q.2.2 p.2)
   (ps.map fun p=>(p.1,a.eval p.2)) (qs.map fun q=>(q.1,q.2.1,ev env q.2.2))
 |[],xs,qs,h,hl,hp=>by
  have:qs=[]:=aeb (by simpa using hl);subst this;exact .nil
 |p::ps,xs,qs,h,hl,hp=>by
  cases qs with
  |nil=>simp at hl
  |cons q qs=>
  simp only[ad5,cos,adx,ag4] at h;obtain⟨y,h1,s,h2,rfl⟩:=h;obtain⟨k1,k2⟩:=hp 0 p y q (by simp) (by simp) (by simp);simp only[ad5];refine .cons ⟨k2,?_⟩ (vD hr place ps s qs h2 (by simpa using hl)
   (fun i p' x' q' g1 g2 g3=>hp (i+1) p' x' q' (by simpa using g1) (by simpa using g2) (by simpa using g3)))
  simp only;rw[k1];exact hr.ev h1
def Kn (ys:List IV) (h:∀y∈ys,y.cells=[y]) (hn:ys≠[]):(QF ys).cells=ys:=by
 cases ys with
 |nil=>exact absurd rfl hn
 |cons y r=>
 cases r with
 |nil=>simpa[QF] using h y (by simp)
 |cons z r=>simp[QF,IV.cells]
theorem B5:∀(cs:List AV) (ys:List IV),Ex cs=some ys→∀y∈ys,y.cells=[y]
 |[],ys,h=>by simp[Ex] at h;subst h;simp
 |x::r,ys,h=>by
  simp only[Ex,adx,ag4] at h;obtain⟨y,h1,s,h2,rfl⟩:=h;intro z hz;simp at hz;rcases hz with rfl|hz
  ·exact MN h1
  exact B5 r s h2 z hz
theorem rN {w:World} {I:Nat→Prop} {sz:Nat} (pC:0<sz):∀(n:Nat) (ys:List IV) (b o:Nat),ys.length=n*sz→(∀y∈ys,y.cells=[y])→dF w I ys b o →
  dS w I (chunks sz n ys) b o sz∧(chunks sz n ys).length=n
 |0,ys,b,o,_,_,_=>by simp[chunks,dS]
 |n+1,ys,b,o,hl,hc,h=>by
  have mT:ys.length=n*sz+sz:=by rw[hl,ad_];omega
  have ih:=rN pC n (ys.drop sz) b (o+sz) (by simp;omega) (fun y hy=>hc y (aev hy)) (qj _ _ _ _ h);have bO:(ys.take sz).length=sz:=by simp;omega
  have UX:(QF (ys.take sz)).cells=ys.take sz:=Kn _ (fun y hy=>hc y (ad4 hy)) (by intro e;rw[e] at bO;simp at bO;omega);simp only[chunks,dS,adK];refine⟨⟨?_,ih.1⟩,by rw[ih.2]⟩;rw[ku,UX];exact⟨bO.symm,yt _ _ _ _ h⟩
def UY (hr:bu K β env H a w) {o:Oper} {t e:TypeId} {n:Nat} {ps:Array (Nat×Operand)} {i:TypeInfo} {z:Value} {zs:List AV} {xs:List O} (ho:o.op= .buildSlice t n ps)
   (ht:K.P.underlying t=some (.slice e)) (hi:K.P.info? e=some i) (hz:i.zero=some z) (yu:z.cells.size=i.size) (h0:0<i.size) (hn:n*i.size≤2^24)
   (zT:u6 z.cells.toList=some zs) (GW:cos K.G (ps.toList.map (·.2))=some xs) {y:AV}
   (hy:aj (.lits n i.size zs ((ps.toList.map (·.1)).zip xs)) env=some y):bD K β H a w o y:=by
 simp only[aj] at hy
 split at hy
 · split at hy
   · rename_i qX
     obtain⟨rfl,abz⟩:=qX
     simp only[jl] at hy
     subst hy
     have UZ:xs.length=ps.toList.length:=by
       have:=cM.len _ _ (qB hr _ _ GW)
       simp at this
       simpa using this.symm
     have YY:ps.toList=[]:=by
       have h1:((ps.toList.map (·.1)).zip xs)=[]:=by simpa using abz
       have h2:((ps.toList.map (·.1)).zip xs).length=0:=by rw[h1];rfl
       rw[List.length_zip,ag5,UZ,Nat.min_self] at h2
       exact aea.1 h2
     have abA:ps=#[]:=by simpa using YY
     subst abA
     refine⟨.slice (some ⟨w.heap.size,0,none⟩) 0 0,w.alloc (.cells #[] e),?_,j_ w _,by simp[RV],by simp[AV.aB]⟩
     have YZ:=fQ (P:=K.P) (t:=e) (s:=i.size) (by simp[zQ,hi]) w
     simp[execOp,ho,Instr.buildSlice,run_underlying ht,YZ,Instr.fill,newRow,show Array.range 0=#[] from rfl]
   simp at hy
 rename_i ff
 simp only[adx,ag4] at hy
 obtain⟨cs,h1,ys,h2,rfl⟩:=hy
 have qX:n≠0:=fun e=>ff (by simp[e])
 have Ko:=pD _ _ zT w β H (Im K β H)
 have hzero:=zS z.cells zs w β H (Im K β H) Ko (by omega) n
 have UZ:xs.length=ps.toList.length:=by
   have:=cM.len _ _ (qB hr _ _ GW)
   simp at this
   simpa using this.symm
 have fX:=vD hr (fun j=>some (j*i.size,i.size)) ps.toList xs (((ps.toList.map (·.1)).zip xs).map fun p=>(p.1*i.size,i.size,p.2)) GW
   (by simp at UZ;simp[UZ])
   (by
     intro j p x q g1 g2 g3
     simp only[adX,agr,ag4] at g3
     obtain⟨⟨u,v⟩,⟨⟨p',e1,e2⟩,e3⟩,rfl⟩:=g3
     simp only at e1 e2 e3
     rw[g1] at e1;cases e1
     rw[g2] at e3;cases e3
     exact⟨rfl,by simp[e2]⟩)
 obtain⟨cur',f1,f2⟩:=wo (fun j=>some (j*i.size,i.size)) _ _ _ cs _ hzero (by simpa[af0,j8] using h1) fX
 have hlen:cs.length=n*i.size:=by
   have e1:=cM.len _ _ hzero
   have e2:∀(qs:List (Nat×Nat×AV)) (c c':List AV),lO c qs=some c'→c'.length=c.length:=by
     intro qs
     induction qs with
     |nil=>intro c c' h;simp[lO] at h;rw[h]
     |cons q qs ih=>
     intro c c' h
     obtain⟨off,sz,x⟩:=q
     simp only[lO] at h
     split at h
     · rename_i hh
       obtain⟨_,hh⟩:=hh
       rw[ih _ _ h]
       simp
       omega
     simp at h
   rw[e2 _ _ _ h1,←e1]
   simp[yu]
 have hg:=j_ w (.cells cur' e)
 have hyl:ys.length=n*i.size:=by rw[IS _ _ h2,hlen]
 have vE:dF (w.alloc (.cells cur' e)) (Im K β H) ys w.heap.size 0:=
   qA _ _ _ _ _ h2 (cM.mono _ _ (hg.zP β H _ _) f2) (fun j v hj=>by rw[adC,zR];simpa using hj)
 have B6:=rN h0 n ys w.heap.size 0 hyl (B5 _ _ h2) vE
 refine⟨.slice (some ⟨w.heap.size,0,none⟩) n n,w.alloc (.cells cur' e),?_,hg,?_,by simp[AV.aB]⟩
 · have Ez:Instr.fill (fun j=>some (j*i.size,i.size)) ((Array.range (n*i.size)).map (z.cells[·%z.cells.size]!)) (ps.toList.map fun p=>(p.1,a.eval p.2))=some cur':=by
     rw[←yu]
     rw[←yu] at f1
     exact f1
   have U0:¬n*i.size=0:=by rw[afk];exact ff
   have YZ:=fQ (P:=K.P) (t:=e) (s:=i.size) (by simp[zQ,hi]) w
   simp only[execOp,ho,Instr.buildSlice,Sem.run_bind,run_underlying ht,Result.andThen_ok,YZ,Sem.run_ite,U0,adS,zeroValue,typeInfo,run_program,hi,hz,
     af7,show ¬n*i.size>2^24 by omega,Sem.run_pure,Result.andThen,Ez]
   simp[newRow,Ez]
 simp only[RV,kP]
 refine⟨_,n,by rw[B6.2],by rw[B6.2];exact adw _,?_,.inr ⟨w.heap.size,0,i.size,rfl,hr.fresh,by simp,h0,B6.1⟩⟩
 have:n≤n*i.size:=aeE n h0
 simp only[maxLen];omega
theorem zU (hr:bu K β env H a w) (pl:List (Nat×Nat)):∀(ps:List (Nat×Operand)) (xs:List O) (qs:List (Nat×Nat×O)),cos K.G (ps.map (·.2))=some xs →
  ve pl (ps.map (·.1)) xs=some qs →
  gT (fun(p:Nat×Value) (q:Nat×Nat×AV)=>pl.toArray[p.1]?=some (q.1,q.2.1)∧RV w β H (Im K β H) q.2.2 p.2)
   (ps.map fun p=>(p.1,a.eval p.2)) (qs.map fun q=>(q.1,q.2.1,ev env q.2.2))
 |[],xs,qs,h,hb=>by
  simp[cos] at h;subst h;simp[ve] at hb;subst hb;exact .nil
 |p::ps,xs,qs,h,hb=>by
  simp only[ad5,cos,adx,ag4] at h;obtain⟨y,h1,s,h2,rfl⟩:=h;simp only[ad5,ve,adx,ag4] at hb;obtain⟨q,e1,r,e2,rfl⟩:=hb;simp only[ad5];exact .cons ⟨by simpa using e1,hr.ev h1⟩ (zU hr pl ps s r h2 e2)
def Y0 (hr:bu K β env H a w) {o:Oper} {t:TypeId} {fs:Array Field} {ps:Array (Nat×Operand)} {i:TypeInfo} {z:Value} {zs:List AV} {xs:List O} {pl:List (Nat×Nat)}
   {qs:List (Nat×Nat×O)} (ho:o.op= .build t ps)
   (ht:K.P.underlying t=some (.struct fs)) (hi:K.P.info? t=some i) (hz:i.zero=some z) (EA:fs.toList.mapM (fun f=>(K.P.info? f.type).map fun i=>(f.offset,i.size))=some pl)
   (zT:u6 z.cells.toList=some zs) (GW:cos K.G (ps.toList.map (·.2))=some xs) (Ya:ve pl (ps.toList.map (·.1)) xs=some qs) {y:AV}
   (hy:aj (.oa zs qs) env=some y):bD K β H a w o y:=by
 simp only[aj,ag4] at hy
 obtain⟨cs,h1,rfl⟩:=hy
 obtain⟨cur',f1,f2⟩:=wo (β:=β) (H:=H) (I:=Im K β H) (w:=w) (fun j=>pl.toArray[j]?) _ _ _ cs z.cells (pD _ _ zT w β H _) h1 (zU hr pl _ _ _ GW Ya)
 refine bD.same (v:= .agg cur') ?_ ⟨cur'.toList,by simp,f2⟩ ?_
 · have hb:K.P.built t (ps.map fun(i,x)=>(i,a.eval x)).toList=some cur':=by
     simp only[Program.built,hi,ht,hz,EA]
     simpa using f1
   simp only[execOp,ho,Sem.run_bind,run_build w t _ cur' hb,Result.andThen_ok,Sem.run_pure]
 have IU:∀(l:List Value) (xs:List AV),u6 l=some xs→ah xs=[]:=by
   intro l
   induction l with
   |nil=>intro xs h;simp[u6] at h;subst h;rfl
   |cons v r ih=>
   intro xs h
   simp only[u6,adx,ag4] at h
   obtain⟨x,h1,s,h2,rfl⟩:=h
   simp[ah,GO h1,ih s h2]
 have hmq:∀(ids:List Nat) (xs:List O) (qs:List (Nat×Nat×O)),ve pl ids xs=some qs→∀q∈qs,q.2.2∈xs:=by
   intro ids
   induction ids with
   |nil=>intro xs qs h;cases xs<;>simp[ve] at h;subst h;simp
   |cons j js ih=>
   intro xs qs h
   cases xs with
   |nil=>simp[ve] at h
   |cons x xs=>
   simp only[ve,adx,ag4] at h
   obtain⟨p,e1,r,e2,rfl⟩:=h
   intro q hq
   simp at hq
   rcases hq with rfl|hq
   · simp
   exact afT _ (ih xs r e2 q hq)
 have GU:∀x∈xs,∀l∈(ev env x).aB,H l≠ .unused:=by
   intro x hx l hl
   refine qY hr _ _ GW l ?_
   obtain⟨k,hk⟩:=aeh hx
   exact gL _ k _ (by simp[hk]) l hl
 have wq:∀(l m:List AV),ah (l++m)=ah l++ah m:=by
   intro l m
   induction l with
   |nil=>rfl
   |cons x r ih=>simp[ah,ih]
 have Kp:∀(l:List AV) (n:Nat),(∀q∈ah (l.take n),q∈ah l)∧(∀q∈ah (l.drop n),q∈ah l):=by
   intro l n
   have:=wq (l.take n) (l.drop n)
   rw[ad0] at this
   rw[this]
   exact⟨fun q hq=>adD.2 (.inl hq),fun q hq=>adD.2 (.inr hq)⟩
 have hf:∀(qs:List (Nat×Nat×AV)) (c c':List AV),lO c qs=some c'→(∀l∈ah c,H l≠ .unused)→(∀q∈qs,∀l∈q.2.2.aB,H l≠ .unused)→∀l∈ah c',H l≠ .unused:=by
   intro qs
   induction qs with
   |nil=>intro c c' h h1 _;simp[lO] at h;subst h;exact h1
   |cons q qs ih=>
   intro c c' h h1 h2
   obtain⟨off,sz,x⟩:=q
   simp only[lO] at h
   split at h
   · refine ih _ _ h ?_ (fun q hq=>h2 q (by simp[hq]))
     intro l hl
     rw[wq,wq,adD,adD] at hl
     rcases hl with(hl|hl)|hl
     · exact h1 l ((Kp c off).1 l hl)
     · have:=h2 (off,sz,x) (by simp) l
       refine this ?_
       cases x<;>simp[AV.cells,ah] at hl<;>simp[AV.aB] at hl ⊢<;>exact hl
     exact h1 l ((Kp c (off+sz)).2 l hl)
   simp at h
 simp only[AV.aB]
 refine hf _ _ _ h1 (by rw[IU _ _ zT];simp) ?_
 intro q hq
 simp only[adY] at hq
 obtain⟨q0,Y1,rfl⟩:=hq
 exact GU _ (hmq _ _ _ Ya q0 Y1)
def U1 (hr:bu K β env H a w) {o:Oper} {t:TypeId} {x:Operand} {f:Nat} {fs:Array Field} {fd:Field} {x':O} {m:Option Nat} (ho:o.op= .field t x f)
  (ht:K.P.underlying t=some (.struct fs)) (hf:fs[f]?=some fd) (hm:Kl K.P fd.type=some m) (hx:co K.G x=some x') {y:AV}
  (hy:aj (.zM x' fd.offset m) env=some y):bD K β H a w o y:=by
 have h:=hr.ev hx;have Yb:=hr.kI hx;simp only[aj] at hy;split at hy
 ·rename_i cs e;rw[e] at h Yb;simp only[RV] at h;obtain⟨vs,h1,h2⟩:=h;have run:∀v,(part fd.type vs.toArray fd.offset).run K.P w= .ok v w→(execOp a.eval o).run K.P w= .ok (.value v) w:=by
   intro v hv;simp[execOp,ho,Instr.field,run_underlying ht,hf,h1,asAgg,hv,Result.andThen]
  cases m with
  |none=>
   simp only at hy;obtain⟨v,k1,k2⟩:=cM.get _ _ _ _ h2 hy;have EB:(isAgg fd.type).run K.P w= .ok false w:=by
    unfold Kl at hm;split at hm
    ·simp at hm
    ·simp at hm
    ·rename_i d h1 h2 hd;cases d<;>simp[isAgg,run_underlying hd]
     ·exact(h2 _ _ rfl).elim
     exact(h1 _ rfl).elim
    simp at hm
   refine bD.same (run v ?_) k2 (fun l hl=>Yb l (by simpa[AV.aB] using gL _ _ _ hy l hl));simp[part,EB,k1]
  |some k=>
  simp only at hy;split at hy
  ·rename_i hk;simp only[jl] at hy;subst hy;have EB:(isAgg fd.type).run K.P w= .ok true w∧zQ K.P fd.type=some k:=by
    unfold Kl at hm;split at hm
    ·rename_i fs Qr;obtain⟨s,h1,h2⟩:=ag4.1 hm;cases h2;exact⟨by simp[isAgg,run_underlying Qr],h1⟩
    ·rename_i n e Qr;obtain⟨s,h1,h2⟩:=ag4.1 hm;cases h2;exact⟨by simp[isAgg,run_underlying Qr],h1⟩
    ·simp at hm
    simp at hm
   refine bD.same (run (.agg ((vs.drop fd.offset).take k).toArray) ?_) ⟨_,rfl,cM.take _ _ _ (cM.drop _ _ _ h2)⟩ ?_
   ·simp[part,EB.1,fQ EB.2,Result.andThen,List.extract]
   intro l hl;simp only[AV.aB] at hl Yb;refine Yb l ?_;have wq:∀(l m:List AV),ah (l++m)=ah l++ah m:=by
    intro l m;induction l with
    |nil=>rfl
    |cons x r ih=>simp[ah,ih]
   have e1:=wq (cs.take fd.offset) (cs.drop fd.offset);rw[ad0] at e1;have e2:=wq ((cs.drop fd.offset).take k) ((cs.drop fd.offset).drop k);rw[ad0] at e2;rw[e1,e2];exact adD.2 (.inr (adD.2 (.inl hl)))
  simp at hy
 simp at hy
theorem IW {P:Program}:∀(fs:List Field) (ks:List Kd) (n d:Nat) (xs ys:List AV) (vs us:List Value) (b:Bool),kS P n fs=some ks→eqs ks xs ys=some b →
  cM w β H (Im K β H) xs (vs.drop n)→cM w β H (Im K β H) ys (us.drop n) →
  (Op.eqFields (d+1) vs.toArray us.toArray fs).run P w= .ok b w
 |[],ks,n,d,xs,ys,vs,us,b,hp,he,hx,hy=>by
  simp[kS] at hp;subst hp;cases xs<;>cases ys<;>simp[eqs] at he;subst he;simp[Op.eqFields]
 |f::fs,ks,n,d,xs,ys,vs,us,b,hp,he,hx,hy=>by
  simp only[kS] at hp;split at hp
  ·rename_i hh;simp only[ady,agb,ne_eq,aep] at hh;obtain⟨h1,h2⟩:=hh;obtain⟨k,vF,rfl,iJ,hk⟩:∃k vF,ks=k::vF∧kS P (n+1) fs=some vF∧((k= .s∧P.underlying f.type=some .string)∨(k= .b∧P.underlying f.type=some .bool)∨(k= .i∧∃j,P.underlying f.type=some (.int j))):=by
    split at hp
    ·obtain⟨s,q1,q2⟩:=ag4.1 hp;exact⟨_,s,q2.symm,q1,.inl ⟨rfl,by assumption⟩⟩
    ·obtain⟨s,q1,q2⟩:=ag4.1 hp;exact⟨_,s,q2.symm,q1,.inr (.inl ⟨rfl,by assumption⟩)⟩
    ·obtain⟨s,q1,q2⟩:=ag4.1 hp;exact⟨_,s,q2.symm,q1,.inr (.inr ⟨rfl,_,by assumption⟩)⟩
    simp at hp
   cases xs with
   |nil=>simp[eqs] at he
   |cons x xs=>
   cases ys with
   |nil=>simp[eqs] at he
   |cons y ys=>
   simp only[eqs,adx,ag4] at he;obtain⟨b1,e1,b2,e2,rfl⟩:=he;simp only[cM] at hx hy;obtain⟨v,MM,hv,rx,GW⟩:=hx;obtain⟨u,us',hu,ry,zf⟩:=hy;have gv:vs[n]?=some v:=(by rw[←agB,hv];rfl);have gu:us[n]?=some u:=(by rw[←agB,hu];rfl);have dv:vs.drop (n+1)=MM:=(by rw[←agG,hv];rfl);have du:us.drop (n+1)=us':=(by rw[←agG,hu];rfl);have ih:=IW (P:=P) fs vF (n+1) d xs ys vs us b2 iJ e2 (by rw[dv];exact GW) (by rw[du];exact zf);have EB:(isAgg f.type).run P w= .ok false w:=by
    rcases hk with⟨_,hk⟩|⟨_,hk⟩|⟨_,j,hk⟩<;>simp[isAgg,run_underlying hk]
   have pv:(part f.type vs.toArray f.offset).run P w= .ok v w:=(by simp[part,EB,h2,gv]);have pu:(part f.type us.toArray f.offset).run P w= .ok u w:=(by simp[part,EB,h2,gu]);have heq:(Op.equalIn (d+1) f.type v u).run P w= .ok b1 w:=by
    rcases hk with⟨rfl,hk⟩|⟨rfl,hk⟩|⟨rfl,j,hk⟩<;>cases x<;>cases y<;>simp[eq1] at e1<;>simp only[RV] at rx ry<;>subst rx<;>subst ry
    ·rw[run_equalIn_string w d f.type _ _ hk];simp[ByteArray.toList_mk,←e1]
    ·rw[run_equalIn_bool' w d f.type _ _ hk];simp[←e1]
    obtain⟨rfl,e1⟩:=e1;rw[run_equalIn_int w d f.type _ _ _ _ hk];simp[←e1]
   simp only[Op.eqFields,ne_eq,h1,afN,adH,Sem.run_bind,pv,pu,heq,Result.andThen_ok,Sem.run_ite,ih];cases b1<;>simp
  simp at hp
def qZ {op:BinOp} {n:Bool} (h:sH op=some n):(op= .eql∧n=false)∨(op= .neq∧n=true):=by
 cases op<;>simp[sH] at h<;>subst h<;>simp
def U2 (hr:bu K β env H a w) {o:Oper} {op:BinOp} {t t2:TypeId} {x y:Operand} {x' y':O} {ks:List Kd} {n:Bool} (ho:o.op= .binOp op t x y t2) (hn:sH op=some n)
  (Kq:s6 K.P t=some ks) (hx:co K.G x=some x') (hy:co K.G y=some y') {z:AV} (hz:aj (.zc n ks x' y') env=some z):bD K β H a w o z:=by
 have h:=hr.ev hx;have h2:=hr.ev hy;unfold s6 at Kq;split at Kq
 ·rename_i fs Qr;split at Kq
  ·rename_i hc;simp only[ady,aeT] at hc;simp only[aj] at hz;split at hz
   ·rename_i xs ys e1 e2;rw[e1] at h;rw[e2] at h2;simp only[RV] at h h2;obtain⟨vs,h3,h4⟩:=h;obtain⟨us,h5,h6⟩:=h2;obtain⟨b,hb,rfl⟩:=ag4.1 hz;have hfo:K.P.underlying t=some (.struct (K.P.fieldsOf t)):=(by simp[Program.fieldsOf,Qr]);have hfe:(K.P.fieldsOf t).toList=fs.toList:=(by simp[Program.fieldsOf,Qr]);have hq:(Op.equalIn 10000 t (.agg vs.toArray) (.agg us.toArray)).run K.P w= .ok b w:=by
     rw[show(10000:Nat)=9998+1+1 from rfl,run_equalIn_struct w _ t _ _ hfo hc.1,hfe];exact IW fs.toList ks 0 9998 xs ys vs us b Kq hb (by simpa using h4) (by simpa using h6)
    refine bD.same (v:= .bool (n ^^ b)) ?_ (by simp[RV]) (by simp[AV.aB]);rcases qZ hn with⟨rfl,rfl⟩|⟨rfl,rfl⟩
    ·simp only[execOp,ho,h3,h5,Sem.run_bind,run_eqGuard_agg w _ t x y _ _ hc.2,Result.andThen_ok,run_eql_struct,hq];simp
    simp only[execOp,ho,h3,h5,Sem.run_bind,run_eqGuard_agg w _ t x y _ _ hc.2,Result.andThen_ok,run_neq_struct,hq];simp
   simp at hz
  simp at Kq
 simp at Kq
def Y2 (hr:bu K β env H a w) {o:Oper} {op:BinOp} {t t2:TypeId} {x y:Operand} {x' y':O} {n:Bool} (ho:o.op= .binOp op t x y t2) (hn:sH op=some n)
  (ht:K.P.underlying t=some .bool) (hx:co K.G x=some x') (hy:co K.G y=some y') {z:AV} (hz:aj (.Mr n x' y') env=some z):bD K β H a w o z:=by
 have h:=hr.ev hx;have h2:=hr.ev hy;simp only[aj] at hz;split at hz
 ·rename_i p q e1 e2;rw[e1] at h;rw[e2] at h2;simp only[RV,jl] at h h2 hz;subst hz;refine bD.same (v:= .bool (n ^^ (p==q))) ?_ (by simp[RV]) (by simp[AV.aB]);have hq:(Op.equal t (.bool p) (.bool q)).run K.P w= .ok (p==q) w:=run_equalIn_bool' w 9999 t p q ht;rcases qZ hn with⟨rfl,rfl⟩|⟨rfl,rfl⟩
  ·simp[execOp,ho,h,h2,eqGuard,binOp,hq]
  simp[execOp,ho,h,h2,eqGuard,binOp,hq]
 simp at hz
def GX (d:Nat) {P:Program} {t e:TypeId} (ht:P.underlying t=some (.pointer e)) (q:Option Addr):(Op.equalIn (d+1) t (.pointer none) (.pointer q)).run P w= .ok q.isNone w:=by
 simp[Op.equalIn,run_underlying ht]
def GY (d:Nat) {P:Program} {t e:TypeId} (ht:P.underlying t=some (.pointer e)) (q:Addr):(Op.equalIn (d+1) t (.pointer (some q)) (.pointer none)).run P w= .ok false w:=by
 simp[Op.equalIn,run_underlying ht]
def GZ (d:Nat) {P:Program} {t:TypeId} {ms:Array (String×TypeId)} (ht:P.underlying t=some (.interface ms)):(Op.equalIn (d+1) t .nilIface .nilIface).run P w= .ok true w:=by
 simp[Op.equalIn,run_underlying ht]
def G0 (d:Nat) {P:Program} {t u:TypeId} {v:Value} {ms:Array (String×TypeId)} (ht:P.underlying t=some (.interface ms)):(Op.equalIn (d+1) t (.iface u v) .nilIface).run P w= .ok false w:=by
 simp[Op.equalIn,run_underlying ht]
def Y3 (hr:bu K β env H a w) {o:Oper} {op:BinOp} {t t2 e:TypeId} {x y:Operand} {x' y':O} {n:Bool} (ho:o.op= .binOp op t x y t2) (hn:sH op=some n)
  (ht:K.P.underlying t=some (.pointer e)) (hx:co K.G x=some x') (hy:co K.G y=some y') {z:AV} (hz:aj (.Kj n x' y') env=some z):bD K β H a w o z:=by
 have h:=hr.ev hx;have h2:=hr.ev hy;simp only[aj,ag4] at hz;obtain⟨b,hb,rfl⟩:=hz;have key:∀p q,a.eval x= .pointer p→a.eval y= .pointer q→(Op.equal t (.pointer p) (.pointer q)).run K.P w= .ok b w→bD K β H a w o (.bool (n ^^ b)):=by
  intro p q h3 h4 h5;refine bD.same (v:= .bool (n ^^ b)) ?_ (by simp[RV]) (by simp[AV.aB]);rcases qZ hn with⟨rfl,rfl⟩|⟨rfl,rfl⟩
  ·simp[execOp,ho,h3,h4,eqGuard,binOp,h5]
  simp[execOp,ho,h3,h4,eqGuard,binOp,h5]
 have MO:∀q,(Op.equal t (.pointer none) (.pointer q)).run K.P w= .ok q.isNone w:=by
  intro q;exact GX 9999 ht q
 have TC:∀q,(Op.equal t (.pointer (some q)) (.pointer none)).run K.P w= .ok false w:=by
  intro q;exact GY 9999 ht q
 cases e1:ev env x'<;>cases e2:ev env y'<;>rw[e1] at h<;>rw[e2] at h2<;>rw[e1,e2] at hb<;>simp[YI] at hb<;>simp only[RV] at h h2<;>subst hb
 ·exact key _ _ h h2 (MO _)
 ·obtain⟨q,h2,_⟩:=h2;exact key _ _ h h2 (MO _)
 ·obtain⟨q,q2,h2,_⟩:=h2;exact key _ _ h h2 (MO _)
 ·obtain⟨q,h,_⟩:=h;exact key _ _ h h2 (TC _)
 obtain⟨q,q2,h,_⟩:=h;exact key _ _ h h2 (TC _)
def Y4 (hr:bu K β env H a w) {o:Oper} {op:BinOp} {t t2:TypeId} {ms:Array (String×TypeId)} {x y:Operand} {x' y':O} {n:Bool} (ho:o.op= .binOp op t x y t2) (hn:sH op=some n)
  (ht:K.P.underlying t=some (.interface ms)) (hc:GP y=true) (hx:co K.G x=some x') {z:AV} (hz:aj (.Qn n x' y') env=some z):bD K β H a w o z:=by
 have h:=hr.ev hx;have hy:y= .const .nilIface:=by
  cases y<;>simp[GP] at hc;rename_i v;cases v<;>simp at hc;rfl
 subst hy;simp only[aj] at hz;split at hz
 ·rename_i e1;rw[e1] at h;simp only[RV,jl] at h hz;subst hz;refine bD.same (v:= .bool (n ^^ true)) ?_ (by simp[RV]) (by simp[AV.aB]);have hq:(Op.equal t .nilIface .nilIface).run K.P w= .ok true w:=GZ 9999 ht;rcases qZ hn with⟨rfl,rfl⟩|⟨rfl,rfl⟩
  ·simp[execOp,ho,h,show a.eval (.const .nilIface)= .nilIface from rfl,eqGuard,binOp,hq]
  simp[execOp,ho,h,show a.eval (.const .nilIface)= .nilIface from rfl,eqGuard,binOp,hq]
 ·rename_i t' x0 e1;rw[e1] at h;simp only[RV,jl] at h hz;subst hz;obtain⟨u,h,_⟩:=h;refine bD.same (v:= .bool (n ^^ false)) ?_ (by simp[RV]) (by simp[AV.aB]);have hq:(Op.equal t (.iface t' u) .nilIface).run K.P w= .ok false w:=G0 9999 ht;rcases qZ hn with⟨rfl,rfl⟩|⟨rfl,rfl⟩
  ·simp[execOp,ho,h,show a.eval (.const .nilIface)= .nilIface from rfl,eqGuard,binOp,hq]
  simp[execOp,ho,h,show a.eval (.const .nilIface)= .nilIface from rfl,eqGuard,binOp,hq]
 simp at hz
end

def u8s (s:List UInt8):List IV:=s.map fun c=> .int .u8 (c.toNat:Int)
theorem EC {w:World} {I:Nat→Prop} (b:Nat):∀(s:List UInt8) (o:Nat),(∀j c,s[j]?=some c→w.cell? ⟨b,o+j,none⟩=some (.int .u8 (c.toNat:Int)))→dS w I (u8s s) b o 1
 |[],o,_=>by simp[u8s,dS]
 |c::r,o,h=>by
  simp only[u8s,ad5,dS,nJ];refine⟨⟨trivial,_,by simpa using h 0 c rfl,rfl⟩,EC b r (o+1) fun j d hj=> ?_⟩;have:=h (j+1) d (by simpa using hj);rw[←this];congr 2;omega
section
variable {K:Kx} {β:Lb→Option Nat} {env:Env} {H:Hp} {a:Act} {w:World}
def Y5 (hr:bu K β env H a w) {o:Oper} {s d e:TypeId} {x:Operand} {x':O} (ho:o.op= .convert s d x) (hs:K.P.underlying s=some .string) (hd:K.P.underlying d=some (.slice e)) (he:K.P.underlying e=some (.int .u8))
  (hx:co K.G x=some x') {y:AV} (hy:aj (.QE x') env=some y):bD K β H a w o y:=by
 have h:=hr.ev hx;simp only[aj] at hy;split at hy
 ·rename_i t e1;split at hy
  ·rename_i hlen;rw[e1] at h;simp only[RV,kP,jl] at h hy;subst hy;have rO:=run_bytes_of_string (P:=K.P) w s d e ⟨t.toArray⟩ hs hd he;have xy:=grownCap_ge w t.length 0 e;have El:=grownCap_le_maxLen w t.length 0 e (by simp only[maxLen];omega);have pC:(⟨t.toArray⟩:ByteArray).size=t.length:=(by simp[ByteArray.size]);rw[pC] at rO;have sL:∀j c,t[j]?=some c→(w.drew.alloc (.cells (bytesRow ⟨t.toArray⟩ (grownCap w t.length 0 e)) e ((bytesRow ⟨t.toArray⟩ (grownCap w t.length 0 e)).size,(bytesRow ⟨t.toArray⟩ (grownCap w t.length 0 e)).size+1))).cell? ⟨w.heap.size,0+j,none⟩=some (.int .u8 (c.toNat:Int)):=by
    intro j c hj;have h1:=World.cell?_alloc_mark w.drew (bytesRow ⟨t.toArray⟩ (grownCap w t.length 0 e)) e ((bytesRow ⟨t.toArray⟩ (grownCap w t.length 0 e)).size,(bytesRow ⟨t.toArray⟩ (grownCap w t.length 0 e)).size+1) j;have h2:w.drew.heap.size=w.heap.size:=rfl;rw[h2] at h1;rw[adC,h1];have wu:=(ag6.1 hj).1;unfold bytesRow;rw[afC (by simpa using wu)];simp[hj]
   refine⟨.slice (some ⟨w.heap.size,0,none⟩) t.length (grownCap w t.length 0 e),_,?_,(xx w).trans (j_ w.drew (.cells (bytesRow ⟨t.toArray⟩ (grownCap w t.length 0 e)) e ((bytesRow ⟨t.toArray⟩ (grownCap w t.length 0 e)).size,(bytesRow ⟨t.toArray⟩ (grownCap w t.length 0 e)).size+1))),?_,by simp[AV.aB]⟩
   ·simp only[execOp,ho,h,Sem.run_bind,rO,Result.andThen,Sem.run_pure]
   simp only[RV,kP];exact⟨_,_,by rw[ag5],by rw[ag5];exact xy,El,.inr ⟨w.heap.size,0,1,rfl,hr.fresh,by simp,by decide,EC _ t 0 sL⟩⟩
  simp at hy
 simp at hy
theorem yv {w:World} {I:Nat→Prop} {b sz:Nat}:∀(xs:List IV) (s:List UInt8) (o:Nat),s7 xs=some s→dS w I xs b o sz→xs=[]∨sz=1 →
  ∃ns:List Int,ns.length=xs.length∧ns.map (fun n=>UInt8.ofNat n.toNat)=s∧∀j n,ns[j]?=some n→w.cell? ⟨b,o+j,none⟩=some (.int .u8 n)
 |[],s,o,h,_,_=>by simp[s7] at h;subst h;exact⟨[],rfl,rfl,by simp⟩
 |x::r,s,o,h,he,hz=>by
  have rP:sz=1:=by simpa using hz
  subst rP;cases x with
  |int k n=>
   cases k<;>simp only[s7,reduceCtorEq,ag4] at h;obtain⟨s',h1,rfl⟩:=h;simp only[dS,nJ] at he;obtain⟨⟨_,v,hv,rfl⟩,Y6⟩:=he;obtain⟨ns,e1,e2,e3⟩:=yv r s' (o+1) h1 Y6 (.inr rfl);refine⟨n::ns,by simp[e1],by simp[e2],fun j m hj=> ?_⟩;cases j with
   |zero=>simp at hj;subst hj;exact hv
   |succ j=>
   have:=e3 j m (by simpa using hj);rw[←this];congr 2;omega
  |_=>simp[s7] at h
theorem fold_push:∀(ns:List Int) (r:ByteArray),ns.foldl (fun r n=>r.push (UInt8.ofNat n.toNat)) r=⟨r.data++(ns.map fun n=>UInt8.ofNat n.toNat).toArray⟩
 |[],r=>by simp
 |n::ns,r=>by
  simp only[aeP];rw[fold_push ns];simp[ByteArray.push]
def Y7 (hr:bu K β env H a w) {o:Oper} {s d e:TypeId} {x:Operand} {x':O} (ho:o.op= .convert s d x) (hs:K.P.underlying s=some (.slice e)) (he:K.P.underlying e=some (.int .u8)) (hd:K.P.underlying d=some .string)
  (hx:co K.G x=some x') {y:AV} (hy:aj (.Ms x') env=some y):bD K β H a w o y:=by
 simp only[aj] at hy;have h:=hr.ev hx;have key:∀(ad:Option Addr) (n c:Nat) (t:List UInt8),a.eval x= .slice ad n c→(convert s d (.slice ad n c)).run K.P w= .ok (.string ⟨t.toArray⟩) w→bD K β H a w o (.str t):=by
  intro ad n c t h1 h2;exact bD.same (v:= .string ⟨t.toArray⟩) (by simp only[execOp,ho,h1,Sem.run_bind,h2,Result.andThen,Sem.run_pure]) (by simp[RV,kP]) (by simp[AV.aB])
 unfold GR at hy;split at hy
 ·rename_i xs e1;rw[e1] at h;simp only[RV,kP] at h;obtain⟨t,ht,rfl⟩:=ag4.1 hy;obtain⟨ad,c,h1,hn,hc,IX⟩:=h;refine key ad xs.length c t h1 ?_;cases ad with
  |none=>
   rw[run_convert_bytes_string w s d e none _ c hs he hd];rcases IX with h0|⟨b,o,sz,h2,_⟩
   ·have:xs=[]:=aea.1 h0;subst this;simp[s7] at ht;subst ht;simp[Conv.bytesToString];rfl
   cases h2
  |some ad=>
  rw[run_convert_bytes_string w s d e (some ad) _ c hs he hd];have xp:∃ns:List Int,ns.length=xs.length∧ns.map (fun n=>UInt8.ofNat n.toNat)=t∧∀j n,ns[j]?=some n→w.cell? (ad.add j)=some (.int .u8 n):=by
   rcases IX with h0|⟨b,o,sz,h2,_,_,pC,oS⟩
   ·have:xs=[]:=aea.1 h0;subst this;simp[s7] at ht;subst ht;exact⟨[],rfl,rfl,by simp⟩
   cases h2;have hz:xs=[]∨sz=1:=by
    cases xs with
    |nil=>exact .inl rfl
    |cons x r=>
    right;cases x with
    |int k n=>simp only[dS,nJ] at oS;exact oS.1.1
    |_=>simp[s7] at ht
   obtain⟨ns,e1,e2,e3⟩:=yv xs t o ht oS hz;refine⟨ns,e1,e2,fun j n hj=> ?_⟩;have:=e3 j n hj;have U3:(⟨b,o,none⟩:Addr).add j=⟨b,o+j,none⟩:=(by unfold Addr.add;split<;>simp_all);rw[←this,U3]
  obtain⟨ns,e1,e2,e3⟩:=xp;have hl:=run_loadCells_list (P:=K.P) w ad (ns.map (Value.int .u8)) (fun j v hj=>by
   rw[adX] at hj;obtain⟨n,hn,rfl⟩:=ag4.1 hj;exact e3 j n hn)
  rw[ag5,e1] at hl;rw[run_bytesToString w ad xs.length c ns hl,fold_push,e2];simp[show ByteArray.empty.data=#[] from rfl]
 ·rename_i e1;rw[e1] at h;simp only[RV] at h;obtain⟨ad,h1⟩:=h;simp only[jl] at hy;subst hy;refine key ad 0 0 [] h1 ?_;rw[run_convert_bytes_string w s d e ad 0 0 hs he hd];cases ad with
  |none=>simp[Conv.bytesToString];rfl
  |some ad=>
  have hl:=run_loadCells_list (P:=K.P) w ad ([].map (Value.int .u8)) (fun j v hj=>by simp at hj);rw[run_bytesToString w ad 0 0 [] hl];rfl
 simp at hy
end
end Go.Am
