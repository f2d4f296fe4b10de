import Derived.Test.YtfinkeaikbmpgaaGreatDoorKT115
set_option linter.unusedSimpArgs false
set_option linter.unusedVariables false
set_option linter.unnecessarySimpa false
set_option linter.defProp false
/- Lines of two kinds change places. -/
namespace Go.Am
open Go Go.RowKit
def MD (d:Doc) (l l':List Op):Prop:=((eI d l).2=0↔(eI d l').2=0)∧(eI d l).1=(eI d l').1
def MD.abx (d:Doc) (l:List Op):MD d l l:=⟨Iff.rfl,rfl⟩
def MD.tr {d:Doc} {a b c:List Op} (h:MD d a b) (g:MD d b c):MD d a c:=⟨h.1.trans g.1,h.2.trans g.2⟩
theorem UL (d:Doc) (a:Op) (q:List Op):∀(B p:List Op),(∀b∈B,a.kind≠b.kind)→MD d (p++a::(B++q)) (p++(B++a::q))
 |[],p,_=>MD.abx d _
 |b::B,p,h=>by
  have h1:MD d (p++a::b::(B++q)) (p++b::a::(B++q)):=Pn d p (B++q) a b fun e=>h b (by simp) e.1;have h2:=UL d a q B (p++[b]) fun x hx=>h x (by simp[hx]);simp only[adV,adR,aec] at h1 h2 ⊢;exact h1.tr h2
theorem UM (d:Doc) (B q:List Op):∀(A p:List Op),(∀a∈A,∀b∈B,a.kind≠b.kind)→MD d (p++(A++(B++q))) (p++(B++(A++q)))
 |[],p,_=>MD.abx d _
 |a::A,p,h=>by
  have h1:=UM d B q A (p++[a]) fun x hx=>h x (by simp[hx]);have h2:=UL d a (A++q) B p (h a (by simp));simp only[adV,adR,aec] at h1 h2 ⊢;exact h1.tr h2
theorem ui (d:Doc):∀(p r:List Bs) (acc:List Op),dR d acc (p++r)=(dR d acc p).bind fun x=>dR d x r
 |[],r,acc=>rfl
 |x::p,r,acc=>by
  simp only[adR,dR];split
  ·split
   ·rfl
   exact ui d p r _
  rfl
theorem qz (d:Doc):∀(r:List Bs) (acc:List Op),dR d acc r=(dR d [] r).map fun x=>acc++x
 |[],acc=>by simp[dR,Except.map]
 |x::r,acc=>by
  simp only[dR];split
  ·split
   ·rfl
   rw[qz d r (acc++_),qz d r ([]++_)];cases dR d [] r<;>simp[Except.map]
  rfl
theorem uj (d:Doc) {e:Int}:∀(r:List Bs) (acc:List Op),dR d acc r= .error e→e≠0
 |[],acc,h=>by simp[dR] at h
 |x::r,acc,h=>by
  simp only[dR] at h;split at h
  ·split at h
   ·cases h;decide
   exact uj d r _ h
  rename_i hx;cases h;exact hx
def De {o x:Op} {ns:List Int} (h:x∈sF o ns):x.kind=o.kind:=by
 simp only[sF,adY] at h;obtain⟨n,_,rfl⟩:=h;rfl
def Ei (d:Doc) (acc:List Op) {a b:Bs} (q:List Bs) (ha:(cQ a).2.2=0) (hb:(cQ b).2.2=0) (hk:(cQ a).1.kind≠(cQ b).1.kind) :
  (∃e e',e≠0∧e'≠0∧dR d acc (a::b::q)= .error e∧dR d acc (b::a::q)= .error e') ∨
  ∃l l',dR d acc (a::b::q)= .ok l∧dR d acc (b::a::q)= .ok l'∧l.length=l'.length∧MD d l l':=by
 simp only[dR,ha,hb,adH];by_cases h1:(gm d (cQ a).2.1).1=[]
 ·by_cases h2:(gm d (cQ b).2.1).1=[]
  ·exact .inl ⟨3,3,by decide,by decide,by rw[adv h1],by rw[adv h2]⟩
  exact .inl ⟨3,3,by decide,by decide,by rw[adv h1],by rw[ag8 h2,adv h1]⟩
 by_cases h2:(gm d (cQ b).2.1).1=[]
 ·exact .inl ⟨3,3,by decide,by decide,by rw[ag8 h1,adv h2],by rw[adv h2]⟩
 simp only[ag8 h1,ag8 h2];rw[qz d q (acc++_++_),qz d q (acc++_++_)];cases hq:dR d [] q with
 |error e=>exact .inl ⟨e,e,uj d q _ hq,uj d q _ hq,rfl,rfl⟩
 |ok T=>
 refine .inr ⟨_,_,rfl,rfl,by simp;omega,?_⟩;have:=UM d (sF (cQ b).1 (gm d (cQ b).2.1).1) T (sF (cQ a).1 (gm d (cQ a).2.1).1) acc fun x hx y hy=>by rw[De hx,De hy];exact hk
 simpa only[adV] using this
def GD (d:Doc) (p:List Bs) {a b:Bs} (q:List Bs) (ha:(cQ a).2.2=0) (hb:(cQ b).2.2=0) (hk:(cQ a).1.kind≠(cQ b).1.kind) :
  ((adl d (p++a::b::q)).2.code=0↔(adl d (p++b::a::q)).2.code=0)∧(adl d (p++a::b::q)).2.n=(adl d (p++b::a::q)).2.n∧(adl d (p++a::b::q)).1=(adl d (p++b::a::q)).1:=by
 unfold adl;have hl:(p++a::b::q).length=(p++b::a::q).length:=by simp
 rw[hl];split
 ·simp
 rw[ui,ui];cases hp:dR d [] p with
 |error e=>simp[Except.bind]
 |ok acc=>
 simp only[Except.bind];rcases Ei d acc q ha hb hk with⟨e,e',h1,h2,h3,h4⟩|⟨l,l',h3,h4,h5,h6⟩
 ·rw[h3,h4];simp[h1,h2]
 rw[h3,h4];simp only;by_cases h0:(eI d l).2=0
 ·rw[adv h0,adv (h6.1.1 h0)];exact⟨Iff.rfl,by simp[h5],h6.2⟩
 have h0':¬(eI d l').2=0:=fun e=>h0 (h6.1.2 e);rw[ag8 h0,ag8 h0'];simp[h0,h0']
def Tq (d:Doc) {n:Int} (hn:n<100) (p:List Bs) {a b:Bs} (q:List Bs) (ha:(cQ a).2.2=0) (hb:(cQ b).2.2=0) (hk:(cQ a).1.kind≠(cQ b).1.kind) :
  ((mQ d n ⟨2,p++a::b::q⟩).2.code=0↔(mQ d n ⟨2,p++b::a::q⟩).2.code=0)∧(mQ d n ⟨2,p++a::b::q⟩).2.n=(mQ d n ⟨2,p++b::a::q⟩).2.n∧(mQ d n ⟨2,p++a::b::q⟩).1.1=(mQ d n ⟨2,p++b::a::q⟩).1.1:=by
 unfold mQ kt;simp only[show ¬100≤n by omega,show ¬(2:Int)=1 by decide,adS,adH];exact GD d p q ha hb hk
def Tr (p q:List Bs):qf (p++q)=qf p+qf q:=by
 induction p with
 |nil=>simp[qf]
 |cons x p ih=>simp only[adR,qf,ih];omega
theorem Ki:∀(l:List Bs) (k:Nat) (a b:Bs),k+1<l.length→(l.set k b).set (k+1) a=l.take k++b::a::l.drop (k+2)
 |[],k,a,b,h=>by simp at h
 |[x],k,a,b,h=>by simp at h
 |x::y::r,0,a,b,h=>rfl
 |x::y::r,k+1,a,b,h=>by
  have:=Ki (y::r) k a b (by simpa using h);simp only[List.set_cons_succ,aeF,adR,aet] at this ⊢;rw[this]
def X' {l:List Bs} {k:Nat} (h:k+1<l.length):∃a b,l[k]?=some a∧l[k+1]?=some b∧l=l.take k++a::b::l.drop (k+2)∧(l.set k b).set (k+1) a=l.take k++b::a::l.drop (k+2):=by
 refine⟨l[k],l[k+1],ag7 (by omega),ag7 h,?_,Ki l k _ _ h⟩;rw[←aeN h,←aeN (by omega),ad0]
end Go.Am
