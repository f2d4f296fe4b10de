import Derived.Test.YtfinkeaikbmpgaaGreatDoorKAm1
set_option linter.unusedSimpArgs false
set_option linter.unusedVariables false
set_option linter.unnecessarySimpa false
set_option linter.defProp false
/- THE ABSTRACT MACHINE, part 4: the instructions that leave the rows alone do what the model's operations do. -/
namespace Go.Am
open Go Go.RowKit
def aJ (K:Kx) (β:Lb→Option Nat) (H:Hp) (a:Act) (w:World) (o:Oper) (x:AV):Prop:=
 ∃v w',(execOp a.eval o).run K.P w= .ok (.value v) w'∧iU w w'∧RV w' β H (Im K β H) x v∧∀l∈x.an,H l≠ .unused
def aJ.same {K:Kx} {β:Lb→Option Nat} {H:Hp} {a:Act} {w:World} {o:Oper} {x:AV} {v:Value} (h:(execOp a.eval o).run K.P w= .ok (.value v) w)
 (hv:RV w β H (Im K β H) x v) (hm:∀l∈x.an,H l≠ .unused):aJ K β H a w o x:=⟨v,w,h,Below.refl _ _,hv,hm⟩
section
variable {K:Kx} {β:Lb→Option Nat} {env:Env} {H:Hp} {a:Act} {w:World}
def BM (hr:aH K β env H a w) {o:Oper} {x:Operand} {y:O} (ho:o.op= .move x∨o.op= .assign x) (hy:co K.G x=some y):aJ K β H a w o (ev env y):=by
 refine aJ.same (v:=a.eval x) ?_ (hr.ev hy) (hr.eo hy);rcases ho with ho|ho<;>simp[execOp,ho]
def Ct (hr:aH K β env H a w) {o:Oper} {c x y:Operand} {c' x' y':O} (ho:o.op= .pick c x y) (hc:co K.G c=some c') (hx:co K.G x=some x') (hy:co K.G y=some y')
  {t:Bool} (ht:ev env c'= .bool t):aJ K β H a w o (if t then ev env x' else ev env y'):=by
 have h:=hr.ev hc;rw[ht] at h;simp only[RV] at h;refine aJ.same (v:=if t then a.eval x else a.eval y) ?_ ?_ ?_
 ·cases t<;>simp[execOp,ho,h,asBool]
 ·cases t
  ·simpa using hr.ev hy
  simpa using hr.ev hx
 cases t
 ·simpa using hr.eo hy
 simpa using hr.eo hx
def addr_add (g off n:Nat):(⟨g,off,none⟩:Addr).add n=⟨g,off+n,none⟩:=by
 unfold Addr.add;split<;>simp_all
def cp {P:Program} {t:TypeId} {s:Nat} (h:ZM P t=some s) (w:World):(sizeOf t).run P w= .ok s w:=by
 unfold ZM at h;obtain⟨i,h1,h2⟩:=bR.1 h;simp[sizeOf,typeInfo,h1,h2]
theorem il {w:World} {I:Nat→Prop}:∀(n:Nat) (cs:List IV) (b o:Nat),bK w I cs b o→bK w I (cs.drop n) b (o+n)
 |0,cs,b,o,h=>by simpa using h
 |n+1,[],b,o,_=>by simp[bK]
 |n+1,x::r,b,o,h=>by
  simp only[bK] at h;have:=il n r b (o+1) h.2;rw[A7]
  rwa[show o+1+n=o+(n+1) by omega] at this
def Fa (hr:aH K β env H a w) {o:Oper} {t:TypeId} {x:Operand} {f:Nat} {fs:Array Field} {fd:Field} {s:Nat} {x':O} (ho:o.op= .fieldAddr t x f)
  (ht:K.P.underlying t=some (.struct fs)) (hf:fs[f]?=some fd) (hs:ZM K.P fd.type=some s) (wo:s≠0) (hx:co K.G x=some x') {y:AV}
  (hy:af (.wj x' fd.offset) env=some y):aJ K β H a w o y:=by
 have h:=hr.ev hx;have hm:=hr.eo hx;have run:∀ad:Addr,a.eval x= .pointer (some ad)→(execOp a.eval o).run K.P w= .ok (.value (.pointer (some (ad.add fd.offset)))) w:=fun ad HY=>by
  simp[execOp,ho,HY,Instr.fieldAt,run_underlying ht,hf,Instr.sureAddr,fieldPlace,cp hs,wo,Result.andThen]
 simp only[af] at hy;split at hy<;>simp at hy<;>subst hy<;>rename_i heq
 ·rw[heq] at h hm;simp only[RV] at h;obtain⟨ad,h1,h2⟩:=h;refine aJ.same (run ad h1) ?_ (by simpa[AV.an] using hm);simp only[RV];refine⟨_,rfl,fun hl=> ?_⟩;obtain⟨g,k1,rfl⟩:=h2 hl;exact⟨g,k1,by rw[addr_add];simp[ze]⟩
 rw[heq] at h;simp only[RV] at h;obtain⟨b,o',h1,h2,h3,h4⟩:=h;refine aJ.same (run _ h1) ?_ Pv;rw[addr_add];exact⟨b,_,rfl,h2,h3,il _ _ _ _ h4⟩
theorem oU {w:World} {I:Nat→Prop} {sz:Nat}:∀(k:Nat) (xs:List IV) (b o:Nat) (y:IV),xs[k]?=some y→bH w I xs b o sz→fL w I y b (o+k*sz) sz
 |0,[],_,_,_,h,_=>by simp at h
 |0,x::r,b,o,y,h,he=>by
  simp at h;subst h;simp only[bH] at he;simpa using he.1
 |k+1,[],_,_,_,h,_=>by simp at h
 |k+1,x::r,b,o,y,h,he=>by
  simp only[bH] at he;have:=oU k r b (o+sz) y (by simpa using h) he.2
  rwa[show o+sz+k*sz=o+(k+1)*sz by rw[uQ];omega] at this
def run_indexAt_slice {P:Program} {w:World} {t e:TypeId} {s:Nat} (ht:P.underlying t=some (.slice e)) (hs:ZM P e=some s) (ad:Addr) (n c:Nat) (k:IntKind) (i:Int) (h0:0≤i) (hi:i.toNat<n) :
  (Instr.indexAt t (.slice (some ad) n c) (.int k i)).run P w= .ok (.pointer (some (ad.add (i.toNat*s)))) w:=by
 have:i<(n:Int):=tM
 simp[Instr.indexAt,asIntOf,run_underlying ht,cp hs,h0,this,Result.andThen]
def Fb (hr:aH K β env H a w) {o:Oper} {t e:TypeId} {x i:Operand} {n s:Nat} {x' i':O} (ho:o.op= .indexAddr t x i)
  (ht:K.P.underlying t=some (.array n e)) (hs:ZM K.P e=some s) (hx:co K.G x=some x') (hi:co K.G i=some i') {y:AV}
  (hy:af (.wC x' i' n s) env=some y):aJ K β H a w o y:=by
 have h:=hr.ev hx;have h2:=hr.ev hi;have hm:=hr.eo hx;have run:∀(ad:Addr) (k:IntKind) (m:Int),a.eval x= .pointer (some ad)→a.eval i= .int k m→0≤m→m.toNat<n→(execOp a.eval o).run K.P w= .ok (.value (.pointer (some (ad.add (m.toNat*s))))) w:=fun ad k m HY qB h0 bI=>by
  have JR:m<(n:Int):=tM
  simp[execOp,ho,HY,qB,Instr.indexAt,asIntOf,run_underlying ht,Instr.sureAddr,cp hs,Result.andThen,h0,JR]
 simp only[af] at hy;split at hy
 ·rename_i l sz a0 j k m e1 e2;rw[e1] at h hm;rw[e2] at h2;simp only[RV,NN] at h h2;split at hy
  ·rename_i hn;simp only[di] at hy;subst hy;obtain⟨ad,h3,h4⟩:=h;refine aJ.same (run ad k m h3 h2 hn.1 hn.2) ?_ (by simpa[AV.an] using hm);simp only[RV];refine⟨_,rfl,fun hl=> ?_⟩;obtain⟨g,k1,rfl⟩:=h4 hl;exact⟨g,k1,by rw[addr_add];simp[ze]⟩
  simp at hy
 ·rename_i cs k m e1 e2;rw[e1] at h;rw[e2] at h2;simp only[RV,NN] at h h2;split at hy
  ·rename_i hn;simp only[di] at hy;subst hy;obtain⟨b,o',h3,h4,h5,h6⟩:=h;refine aJ.same (run _ k m h3 h2 hn.1 hn.2) ?_ Pv;rw[addr_add];exact⟨b,_,rfl,h4,h5,il _ _ _ _ h6⟩
  simp at hy
 simp at hy
def Fc (hr:aH K β env H a w) {o:Oper} {t e:TypeId} {x i:Operand} {s:Nat} {x' i':O} (ho:o.op= .indexAddr t x i)
  (ht:K.P.underlying t=some (.slice e)) (hs:ZM K.P e=some s) (hx:co K.G x=some x') (hi:co K.G i=some i') {y:AV}
  (hy:af (.Vc x' i' s) env=some y):aJ K β H a w o y:=by
 have h:=hr.ev hx;have h2:=hr.ev hi;have hm:=hr.eo hx;simp only[af] at hy;split at hy
 ·rename_i xs k n e1 e2;rw[e1] at h;rw[e2] at h2;simp only[RV,NN] at h h2;split at hy
  ·rename_i hn;split at hy
   ·rename_i z hz;split at hy
    ·rename_i ll;simp only[di] at hy;subst hy;obtain⟨ad,c,h3,h4,h5,h6⟩:=h;have bI:n.toNat<xs.length:=(bd.1 hz).1;rcases h6 with h6|⟨b,of,sz,rfl,h7,h8,h9,wH⟩
     ·omega
     have Cu:=oU n.toNat xs b of z hz wH;rw[eH] at Cu;have HZ:sz=s:=(by rw[Cu.1];exact ll z (dc hz));subst HZ;refine aJ.same (v:= .pointer (some ⟨b,of+n.toNat*sz,none⟩)) ?_ ⟨b,_,rfl,h7,h8,Cu.2⟩ Pv;simp[execOp,ho,h3,h2,run_indexAt_slice ht hs _ _ _ _ _ hn bI,addr_add]
    simp at hy
   simp at hy
  simp at hy
 ·rename_i l s' i0 m k n e1 e2;rw[e1] at h hm;rw[e2] at h2;simp only[RV] at h h2;split at hy
  ·rename_i hn;obtain⟨wq,Cv,rfl⟩:=hn;simp only[di] at hy;subst hy;obtain⟨ad,c,h3,h4,h5,h6,h7⟩:=h;obtain⟨KC,rfl⟩:=He.1 (h6 tM);refine aJ.same (v:= .pointer (some (KC.add (n.toNat*s')))) ?_ ?_ (by simpa[AV.an] using hm)
   ·simp[execOp,ho,h3,h2,run_indexAt_slice ht hs _ _ _ _ _ wq Cv]
   refine⟨_,rfl,fun hl=> ?_⟩;rcases h7 hl with h8|⟨g,S,k1,k2,k3,k4⟩
   ·omega
   simp only[di] at k2;subst k2;exact⟨g,k1,by rw[addr_add];simp[uQ]⟩
  simp at hy
 simp at hy
def Fe (hr:aH K β env H a w) {o:Oper} {t:TypeId} {x i:Operand} {x' i':O} (ho:o.op= .index t x i)
  (ht:K.P.underlying t=some .string) (hx:co K.G x=some x') (hi:co K.G i=some i') {y:AV}
  (hy:af (.lj x' i') env=some y):aJ K β H a w o y:=by
 have h:=hr.ev hx;have h2:=hr.ev hi;simp only[af] at hy;split at hy
 ·rename_i s k n e1 e2;rw[e1] at h;rw[e2] at h2;simp only[RV] at h h2;split at hy
  ·rename_i hn;split at hy
   ·rename_i c hc;simp only[di] at hy;subst hy;have bI:n.toNat<s.length:=(bd.1 hc).1;refine aJ.same (v:= .int .u8 c.toNat) ?_ PT Pv;have KD:(⟨s.toArray⟩:ByteArray)[n.toNat]?=some c:=by
     have e:s[n.toNat]=c:=(bd.1 hc).2;have hs:n.toNat<(⟨s.toArray⟩:ByteArray).size:=(by show n.toNat<s.toArray.size;simpa using bI);rw[getElem?_pos (⟨s.toArray⟩:ByteArray) n.toNat hs];exact GB some e
    simp[execOp,ho,h,h2,Instr.index,asIntOf,run_underlying ht,hn,KD]
   simp at hy
  simp at hy
 simp at hy
def jX (s:List UInt8):(⟨s.toArray⟩:ByteArray).size=s.length:=by show s.toArray.size=_;simp
def Cw (hr:aH K β env H a w) {o:Oper} {c:Call} {x:Operand} {x':O} (ho:o.op= .call c) (hc:c.callee= .builtin .len) (ha:c.args.toList=[x])
  (ht:c.argTypes[0]?.bind K.P.underlying=some .string) (hx:co K.G x=some x') {y:AV} (hy:af (.lens x') env=some y):aJ K β H a w o y:=by
 have h:=hr.ev hx;obtain⟨t,sk,u6⟩:=dJ.1 ht;have pQ:c.args=#[x]:=by cases hh:c.args;simp_all
 simp only[af] at hy;split at hy
 ·rename_i s hs;rw[hs] at h;simp only[RV,di] at h hy;subst hy;refine aJ.same (v:= .int .i64 s.length) ?_ PT Pv;simp[execOp,ho,resolve,hc,pQ,h,invoke,builtin,Builtin.len_,sk,run_underlying u6,goInt,jX]
 simp at hy
def Ff (hr:aH K β env H a w) {o:Oper} {c:Call} {x:Operand} {x':O} {e:TypeId} (ho:o.op= .call c) (hc:c.callee= .builtin .len) (ha:c.args.toList=[x])
  (ht:c.argTypes[0]?.bind K.P.underlying=some (.slice e)) (hx:co K.G x=some x') {y:AV} (hy:af (.len x') env=some y):aJ K β H a w o y:=by
 have h:=hr.ev hx;obtain⟨t,sk,u6⟩:=dJ.1 ht;have pQ:c.args=#[x]:=by cases hh:c.args;simp_all
 have sl:∀(ad:Option Addr) (n c':Nat),a.eval x= .slice ad n c'→(execOp a.eval o).run K.P w= .ok (.value (.int .i64 n)) w:=by
  intro ad n c' hv;simp[execOp,ho,resolve,hc,pQ,hv,invoke,builtin,Builtin.len_,sk,run_underlying u6,goInt]
 simp only[af] at hy;split at hy
 ·rename_i xs hs;rw[hs] at h;simp only[RV,NN,di] at h hy;subst hy;obtain⟨ad,c',h3,h4⟩:=h;exact aJ.same (sl _ _ _ h3) PT Pv
 ·rename_i hs;rw[hs] at h;simp only[RV,di] at h hy;subst hy;obtain⟨ad,h3⟩:=h;exact aJ.same (sl _ _ _ h3) PT Pv
 ·rename_i l sz i n hs;rw[hs] at h;simp only[RV,di] at h hy;subst hy;obtain⟨ad,c',h3,h4⟩:=h;exact aJ.same (sl _ _ _ h3) PT Pv
 ·rename_i l sz i n c hs;rw[hs] at h;simp only[RV,di] at h hy;subst hy;obtain⟨ad,h3,h4⟩:=h;exact aJ.same (sl _ _ _ h3) PT Pv
 simp at hy
def ng (op:BinOp) (t:TypeId) (x y:Operand) (k k':IntKind) (m n:Int) {P:Program} {w:World}:(eqGuard op t x y (.int k m) (.int k' n)).run P w= .ok () w:=by
 cases op<;>simp[eqGuard]
def nh (op:BinOp) (t:TypeId) (x y:Operand) (m n:ByteArray) {P:Program} {w:World}:(eqGuard op t x y (.string m) (.string n)).run P w= .ok () w:=by
 cases op<;>simp[eqGuard]
def BN (hr:aH K β env H a w) {o:Oper} {op:BinOp} {t t2:TypeId} {x y:Operand} {x' y':O} (ho:o.op= .binOp op t x y t2)
  (hx:co K.G x=some x') (hy:co K.G y=some y') {z:AV} (hz:af (.bin op x' y') env=some z):aJ K β H a w o z:=by
 have h:=hr.ev hx;have h2:=hr.ev hy;simp only[af,dk] at hz;split at hz
 ·rename_i k m k' n e1 e2;rw[e1] at h;rw[e2] at h2;simp only[RV] at h h2;split at hz
  ·rename_i hk;subst hk;have key:∀v,(binOp op t (.int k m) (.int k n)).run K.P w= .ok v w→RV w β H (Im K β H) z v→z.an=[]→aJ K β H a w o z:=by
    intro v hv BO hl;refine aJ.same (v:=v) ?_ BO (by simp[hl]);simp[execOp,ho,h,h2,ng,hv]
   cases op<;>simp only[di,reduceCtorEq] at hz
   case quo=>
    split at hz
    ·simp at hz
    rename_i hn;simp only[di] at hz;subst hz;exact key (.int k (k.wrap (m.tdiv n))) (by simp[binOp,Op.intDiv,hn]) PT Pv
   case rem=>
    split at hz
    ·simp at hz
    rename_i hn;simp only[di] at hz;subst hz;exact key (.int k (m.tmod n)) (by simp[binOp,Op.intDiv,hn]) PT Pv
   case shr=>
    split at hz
    ·rename_i hn;simp only[di] at hz;subst hz;exact key (.int k (m/2^min n.toNat k.bits)) (by rw[binOp_shr,shift_shr_any k k m n hn];rfl) PT Pv
    simp at hz
   all_goals (subst hz;refine key _ (by simp[binOp,Op.intArith,Op.intCmp];rfl) PT Pv)
  simp at hz
 ·rename_i s u e1 e2;rw[e1] at h;rw[e2] at h2;simp only[RV] at h h2;have key:∀v,(binOp op t (.string ⟨s.toArray⟩) (.string ⟨u.toArray⟩)).run K.P w= .ok v w→RV w β H (Im K β H) z v→z.an=[]→aJ K β H a w o z:=by
   intro v hv BO hl;refine aJ.same (v:=v) ?_ BO (by simp[hl]);simp[execOp,ho,h,h2,nh,hv]
  cases op<;>simp only[di,reduceCtorEq] at hz
  case add=>
   split at hz
   ·rename_i hn;simp only[di] at hz;subst hz;refine key (.string ⟨(s++u).toArray⟩) ?_ PT Pv;have h1:¬((((⟨s.toArray⟩:ByteArray).size+(⟨u.toArray⟩:ByteArray).size:Nat):Int)>IntKind.i64.max):=by
     rw[jX,jX];simp only[IntKind.max,IntKind.signed,IntKind.bits];simp;omega
    have h3:(⟨s.toArray⟩:ByteArray)++⟨u.toArray⟩=⟨(s++u).toArray⟩:=by
     apply OT;show((⟨s.toArray⟩:ByteArray)++⟨u.toArray⟩).data=(s++u).toArray;simp[ByteArray.data_append]
    simp only[binOp,Op.stringOp,h1,nX,h3,Sem.run_pure]
   simp at hz
  all_goals (subst hz;refine key _ (by simp[binOp,Op.stringOp,ByteArray.toList_mk];rfl) PT Pv)
 simp at hz
theorem nC (kd:IntKind) (n:Int):∀(l:List MapEntry) (es:List (Int×List UInt8)) (i:Nat),(l.map fun e=>(e.key,e.val))=(es.map fun p=>(Value.int .i64 p.1,Value.string ⟨p.2.toArray⟩)) →
  (es.lookup n=none∧Instr.findNow (.int kd) (.int .i64 n) l i=some none)∨∃j s,es.lookup n=some s∧Instr.findNow (.int kd) (.int .i64 n) l i=some (some (j,.string ⟨s.toArray⟩))
 |[],[],i,_=> .inl ⟨rfl,rfl⟩
 |[],_::_,_,h=>by simp at h
 |_::_,[],_,h=>by simp at h
 |e::l,p::es,i,h=>by
  simp only[o2,yn,eS] at h;obtain⟨⟨h1,h2⟩,h3⟩:=h;by_cases hp:n=p.1
  ·refine .inr ⟨i,p.2,?_,?_⟩
   ·subst hp;simp[List.lookup]
   simp[Instr.findNow,Instr.sameNow,h1,h2,hp]
  have e1:(n==p.1)=false:=by simpa using hp
  rcases nC kd n l es (i+1) h3 with⟨g1,g2⟩|⟨j,s,g1,g2⟩
  ·exact .inl ⟨by simp[List.lookup,e1,g1],by simp[Instr.findNow,Instr.sameNow,h1,e1,g2]⟩
  exact .inr ⟨j,s,by simp[List.lookup,e1,g1],by simp[Instr.findNow,Instr.sameNow,h1,e1,g2]⟩
def jo {P:Program} {w:World} {t:TypeId} {kd k:IntKind} {n:Int} (h:P.underlying t=some (.int kd)) (e:Bool) (m:Nat):(Instr.checkKey e (m+1) t (.int k n)).run P w= .ok () w:=by
 unfold Instr.checkKey;simp only[Sem.run_bind,run_underlying h,Result.andThen];simp
def Cx (hr:aH K β env H a w) {o:Oper} {t k e:TypeId} {x i:Operand} {kd:IntKind} {z:ByteArray} {x' i':O} (ho:o.op= .lookup t x i false) (ht:K.P.underlying t=some (.map k e))
  (hk:K.P.underlying k=some (.int kd)) (hz:(K.P.info? e).bind (·.zero)=some (.string z)) (Hg:z.data.toList=[]) (hx:co K.G x=some x') (hi:co K.G i=some i') {y:AV}
  (hy:af (.sy x' i') env=some y):aJ K β H a w o y:=by
 have h:=hr.ev hx;have h2:=hr.ev hi;simp only[af] at hy;split at hy
 ·rename_i es n e1 e2;rw[e1] at h;rw[e2] at h2;simp only[RV] at h h2;simp only[di] at hy;subst hy;obtain⟨r,xs,c,h3,_,_,h4,h5⟩:=h;obtain⟨q,hq,KE⟩:=dJ.1 hz;have u7:z=⟨(#[]:Array UInt8)⟩:=by cases z with|mk d=>simp at Hg;simp[Hg]
  rcases nC kd n xs.toList es 0 h5 with⟨g1,g2⟩|⟨j,s,g1,g2⟩
  ·refine aJ.same (v:= .string z) ?_ ?_ Pv
   ·simp[execOp,ho,h3,h2,Instr.lookup,run_underlying ht,run_underlying hk,getObj,Sem.run,h4,jo hk,Instr.findKey,g2,zeroValue,typeInfo,hq,KE,Result.andThen]
   simp[RV,g1,u7]
  refine aJ.same (v:= .string ⟨s.toArray⟩) ?_ ?_ Pv
  ·simp[execOp,ho,h3,h2,Instr.lookup,run_underlying ht,run_underlying hk,getObj,Sem.run,h4,jo hk,Instr.findKey,g2,Result.andThen]
  simp[RV,g1]
 simp at hy

def dY (hr:aH K β env H a w) {lo:Option Operand} {pR:Option O} {d m n:Nat} (hc:WG K.G lo=some pR) (h:bnd env pR d m=some n) :
  (lo=none∧pR=none∧n=d)∨∃x k v,lo=some x∧pR.isSome=true∧a.eval x= .int k v∧0≤v∧v.toNat≤m∧n=v.toNat:=by
 cases lo with
 |none=>
  simp[WG] at hc;subst hc;simp[bnd] at h;exact .inl ⟨rfl,rfl,h.symm⟩
 |some x=>
 simp only[WG,bR] at hc;obtain⟨y,h1,rfl⟩:=hc;have h2:=hr.ev h1;simp only[bnd] at h;split at h
 ·rename_i k v e;rw[e] at h2;simp only[RV] at h2;split at h
  ·rename_i hv;simp only[di] at h;exact .inr ⟨x,k,v,rfl,rfl,h2,hv.1,hv.2,h.symm⟩
  simp at h
 simp at h
def run_sliceBound {P:Program} {w:World} {k:IntKind} {v:Int} {y:Nat} (code:BoundsCode) (h0:0≤v) (h1:v.toNat≤y):(Instr.sliceBound (.int k v) y code).run P w= .ok v.toNat w:=by
 have:v≤(y:Int):=tM
 simp[Instr.sliceBound,asIntOf,h0,this,Result.andThen]
def lu (hr:aH K β env H a w) {lo hi mx:Option Operand} {pR ed mx':Option O} {n c l h:Nat} {m:Option Nat} (qP:WG K.G lo=some pR) (hhi:WG K.G hi=some ed)
  (sK:WG K.G mx=some mx') (BP:n≤c) (hb:nB env pR ed mx' n=some (l,h,m)) :
  (Instr.sliceBounds true n c (lo.map a.eval) (hi.map a.eval) (mx.map a.eval)).run K.P w= .ok (l,h,m.getD c) w∧l≤h∧h≤n∧h≤m.getD c∧m.getD c≤c:=by
 unfold nB at hb;cases mx' with
 |none=>
  simp only[dJ,bR,eS] at hb;obtain⟨h',h1,l',h2,rfl,rfl,rfl⟩:=hb;have Cy:mx=none:=by cases mx with
   |none=>rfl
   |some x=>simp[WG] at sK
  subst Cy;rcases dY hr hhi h1 with⟨rfl,rfl,rfl⟩|⟨x,k,v,rfl,_,e1,e2,e3,rfl⟩
  ·rcases dY hr qP h2 with⟨rfl,rfl,rfl⟩|⟨y,k,u,rfl,_,e4,e5,e6,rfl⟩
   ·exact⟨by simp[Instr.sliceBounds],tM,tM,by simpa using BP,N7⟩
   exact⟨by simp[Instr.sliceBounds,e4,run_sliceBound _ e5 e6],tM,tM,by simpa using BP,N7⟩
  rcases dY hr qP h2 with⟨rfl,rfl,rfl⟩|⟨y,k',u,rfl,_,e4,e5,e6,rfl⟩
  ·exact⟨by simp[Instr.sliceBounds,e1,run_sliceBound _ e2 (show v.toNat≤c by omega)],tM,e3,PJ,N7⟩
  exact⟨by simp[Instr.sliceBounds,e1,e4,run_sliceBound _ e2 (show v.toNat≤c by omega),run_sliceBound _ e5 e6],e6,e3,PJ,N7⟩
 |some m0=>
 simp only at hb;split at hb
 ·simp at hb
 rename_i np;simp only[dJ,bR,eS] at hb;obtain⟨m',h0,h',h1,l',h2,rfl,rfl,rfl⟩:=hb;rcases dY hr sK h0 with⟨rfl,h9,rfl⟩|⟨x1,k1,v1,rfl,_,e1,e2,e3,rfl⟩
 ·simp at h9
 rcases dY hr hhi h1 with⟨rfl,rfl,rfl⟩|⟨x2,k2,v2,rfl,_,f1,f2,f3,rfl⟩
 ·simp at np
 have q1:v1.toNat≤c:=tM
 rcases dY hr qP h2 with⟨rfl,rfl,rfl⟩|⟨x3,k3,v3,rfl,_,g1,g2,g3,rfl⟩
 ·exact⟨by simp[Instr.sliceBounds,e1,f1,run_sliceBound _ e2 q1,run_sliceBound _ f2 f3],tM,tM,f3,q1⟩
 exact⟨by simp[Instr.sliceBounds,e1,f1,g1,run_sliceBound _ e2 q1,run_sliceBound _ f2 f3,run_sliceBound _ g2 g3],g3,tM,f3,q1⟩
def wI (hr:aH K β env H a w) {lo hi mx:Option Operand} {pR ed mx':Option O} {n c l h:Nat} {m:Option Nat} (qP:WG K.G lo=some pR) (hhi:WG K.G hi=some ed)
  (sK:WG K.G mx=some mx') (BP:n≤c) (hb:sH env pR ed mx' n c=some (l,h,m)) :
  (Instr.sliceBounds true n c (lo.map a.eval) (hi.map a.eval) (mx.map a.eval)).run K.P w= .ok (l,h,m.getD c) w∧l≤h∧h≤c∧h≤m.getD c∧m.getD c≤c:=by
 unfold sH at hb;cases mx' with
 |none=>
  simp only[dJ,bR,eS] at hb;obtain⟨h',h1,l',h2,rfl,rfl,rfl⟩:=hb;have Cy:mx=none:=by cases mx with
   |none=>rfl
   |some x=>simp[WG] at sK
  subst Cy;rcases dY hr hhi h1 with⟨rfl,rfl,rfl⟩|⟨x,k,v,rfl,_,e1,e2,e3,rfl⟩
  ·rcases dY hr qP h2 with⟨rfl,rfl,rfl⟩|⟨y,k,u,rfl,_,e4,e5,e6,rfl⟩
   ·exact⟨by simp[Instr.sliceBounds],tM,tM,by simpa using BP,N7⟩
   exact⟨by simp[Instr.sliceBounds,e4,run_sliceBound _ e5 e6],tM,tM,by simpa using BP,N7⟩
  rcases dY hr qP h2 with⟨rfl,rfl,rfl⟩|⟨y,k',u,rfl,_,e4,e5,e6,rfl⟩
  ·exact⟨by simp[Instr.sliceBounds,e1,run_sliceBound _ e2 (show v.toNat≤c by omega)],tM,e3,PJ,N7⟩
  exact⟨by simp[Instr.sliceBounds,e1,e4,run_sliceBound _ e2 (show v.toNat≤c by omega),run_sliceBound _ e5 e6],e6,e3,PJ,N7⟩
 |some m0=>
 simp only at hb;split at hb
 ·simp at hb
 rename_i np;simp only[dJ,bR,eS] at hb;obtain⟨m',h0,h',h1,l',h2,rfl,rfl,rfl⟩:=hb;rcases dY hr sK h0 with⟨rfl,h9,rfl⟩|⟨x1,k1,v1,rfl,_,e1,e2,e3,rfl⟩
 ·simp at h9
 rcases dY hr hhi h1 with⟨rfl,rfl,rfl⟩|⟨x2,k2,v2,rfl,_,f1,f2,f3,rfl⟩
 ·simp at np
 have q1:v1.toNat≤c:=tM
 rcases dY hr qP h2 with⟨rfl,rfl,rfl⟩|⟨x3,k3,v3,rfl,_,g1,g2,g3,rfl⟩
 ·exact⟨by simp[Instr.sliceBounds,e1,f1,run_sliceBound _ e2 q1,run_sliceBound _ f2 f3],tM,tM,f3,q1⟩
 exact⟨by simp[Instr.sliceBounds,e1,f1,g1,run_sliceBound _ e2 q1,run_sliceBound _ f2 f3,run_sliceBound _ g2 g3],g3,tM,f3,q1⟩
theorem mK {w:World} {I:Nat→Prop} {sz:Nat}:∀(n:Nat) (xs:List IV) (b o:Nat),bH w I xs b o sz→bH w I (xs.take n) b o sz
 |0,_,_,_,_=>by simp[bH]
 |n+1,[],_,_,_=>by simp[bH]
 |n+1,x::r,b,o,h=>by
  simp only[bH] at h;simp only[Cj,bH];exact⟨h.1,mK n r b (o+sz) h.2⟩
theorem mL {w:World} {I:Nat→Prop} {sz:Nat}:∀(n:Nat) (xs:List IV) (b o:Nat),bH w I xs b o sz→bH w I (xs.drop n) b (o+n*sz) sz
 |0,_,_,_,h=>by simpa using h
 |n+1,[],_,_,_=>by simp[bH]
 |n+1,x::r,b,o,h=>by
  simp only[bH] at h;simp only[A7];have:=mL n r b (o+sz) h.2
  rwa[show o+sz+n*sz=o+(n+1)*sz by rw[uQ];omega] at this
def oV {w:World} {I:Nat→Prop} {sz s:Nat} {xs:List IV} {b o:Nat} (h:bH w I xs b o sz) (hs:jV s xs) (hn:0<xs.length):sz=s:=by
 cases xs with
 |nil=>simp at hn
 |cons x r=>
 simp only[bH] at h;have:=(eH w I x b o sz).1 h.1;rw[this.1];exact hs x N7
def zy {xs:List IV} {I:Nat→Prop} {ad:Option Addr} {c s l h m:Nat} (ll:jV s xs) (hl:l≤h) (hh:h≤xs.length) (hm:h≤m) (hmc:m≤c) (hc:c≤maxLen)
  (hx:xs.length=0∨∃b o sz,ad=some ⟨b,o,none⟩∧I b∧b<w.heap.size∧0<sz∧bH w I xs b o sz) :
  NN w I (.list ((xs.take h).drop l)) (.slice (if m=l then ad else ad.map (·.add (l*s))) (h - l) (m - l)):=by
 simp only[NN];have hlen:((xs.take h).drop l).length=h - l:=PJ
 refine⟨_,m - l,by rw[hlen],tM,tM,?_⟩;rw[hlen];by_cases e:h - l=0
 ·exact .inl e
 right;rcases hx with hx|⟨b,o,sz,rfl,e1,e2,e3,e4⟩
 ·omega
 have gm:sz=s:=oV e4 ll tM;subst gm;refine⟨b,o+l*sz,sz,?_,e1,e2,e3,mL _ _ _ _ (mK _ _ _ _ e4)⟩;rw[cY tM];simp[addr_add]
def Fg (hr:aH K β env H a w) {o:Oper} {t e:TypeId} {x:Operand} {lo hi mx:Option Operand} {s:Nat} {x':O} {pR ed mx':Option O} (ho:o.op= .slice t x lo hi mx)
  (ht:K.P.underlying t=some (.slice e)) (hs:ZM K.P e=some s) (hx:co K.G x=some x') (qP:WG K.G lo=some pR) (hhi:WG K.G hi=some ed) (sK:WG K.G mx=some mx') {y:AV}
  (hy:af (.zr x' pR ed mx' s) env=some y):aJ K β H a w o y:=by
 have hv:=hr.ev hx;have hm:=hr.eo hx;have run:∀(ad:Option Addr) (n c l h m:Nat),a.eval x= .slice ad n c→(Instr.sliceBounds true n c (lo.map a.eval) (hi.map a.eval) (mx.map a.eval)).run K.P w= .ok (l,h,m) w →
   (execOp a.eval o).run K.P w= .ok (.value (.slice (if m=l then ad else ad.map (·.add (l*s))) (h - l) (m - l))) w:=by
  intro ad n c l h m e1 e2;simp[execOp,ho,Instr.sliceAt,run_underlying ht,Instr.slice,e1,e2,cp hs,Result.andThen]
 simp only[af,Cs] at hy;split at hy
 ·rename_i e1;rw[e1] at hv;simp only[RV] at hv;obtain⟨ad,hv⟩:=hv;simp only[bR] at hy;obtain⟨⟨l,h,m⟩,h1,rfl⟩:=hy;obtain⟨r1,r2,r3,r4,r5⟩:=lu hr qP hhi sK (eM 0) h1;refine aJ.same (run ad 0 0 l h _ hv r1) ?_ Pv;have z1:h - l=0:=by omega
  have z2:m.getD 0 - l=0:=tM
  rw[z1,z2];exact⟨_,rfl⟩
 ·rename_i xs e1;rw[e1] at hv;simp only[RV,NN] at hv;split at hy
  ·rename_i ll;obtain⟨ad,c,h3,h4,h5,h6⟩:=hv;simp only[bR] at hy;obtain⟨⟨l,h,m⟩,h1,rfl⟩:=hy;obtain⟨r1,r2,r3,r4,r5⟩:=lu hr qP hhi sK h4 h1;refine aJ.same (run ad _ c l h _ h3 r1) ?_ (by split<;>simp[AV.an]);split
   ·rename_i JS;simp only at JS;subst JS;simp only[EG] at r4 ⊢;have z1:h - l=0:=tM;rw[z1];simp only[Gl,ku];exact⟨_,rfl⟩
   simp only[RV];exact zy ll r2 r3 r4 r5 h5 h6
  simp at hy
 ·rename_i lb s' i n e1;rw[e1] at hv hm;simp only[RV] at hv;split at hy
  ·rename_i T5;subst T5;obtain⟨ad,c,h3,h4,h5,h6,h7⟩:=hv;simp only[dJ] at hy;obtain⟨⟨l,h,m⟩,h1,h2⟩:=hy;obtain⟨r1,r2,r3,r4,r5⟩:=lu hr qP hhi sK h4 h1;cases m with
   |some m=>simp at h2
   |none=>
   simp only[Mt,jy,nX,di] at h2;subst h2;simp only[O6] at r1 r4 r5;refine aJ.same (run ad _ c l h _ h3 r1) ?_ (by simpa[AV.an] using hm);refine⟨_,_,rfl,tM,tM,fun hn=> ?_,fun hl=> ?_⟩
   ·obtain⟨q,rfl⟩:=He.1 (h6 tM);split<;>simp
   by_cases hc:c=l
   ·exact .inl tM
   right;rcases h7 hl with h8|⟨g,S,k1,k2,k3,k4⟩
   ·omega
   subst k2;refine⟨g,S,k1,?_,k3,?_⟩
   ·rw[cY hc];simp[addr_add,uQ]
   rw[←k4];congr 1;omega
  simp at hy
 ·rename_i lb s' i n c0 e1;rw[e1] at hv hm;simp only[RV] at hv;split at hy
  ·rename_i T5;subst T5;obtain⟨ad,h3,h4,h5,h6,h7⟩:=hv;simp only[dJ] at hy;obtain⟨⟨l,h,m⟩,h1,h2⟩:=hy;obtain⟨r1,r2,r3,r4,r5⟩:=wI hr qP hhi sK h4 h1;cases m with
   |some m=>
    simp only[N0,ku,di] at h2;subst h2;exact aJ.same (run ad _ c0 l h _ h3 r1) PT Pv
   |none=>
   simp only[Mt,jy,nX,di] at h2;subst h2;simp only[O6] at r1 r4 r5;refine aJ.same (run ad _ c0 l h _ h3 r1) ?_ (by simpa[AV.an] using hm);refine⟨_,rfl,tM,tM,fun hn=> ?_,fun hl=> ?_⟩
   ·obtain⟨q,rfl⟩:=He.1 (h6 tM);split<;>simp
   by_cases hc:c0=l
   ·exact .inl tM
   right;rcases h7 hl with h8|⟨g,S,k1,k2,k3,k4⟩
   ·omega
   subst k2;refine⟨g,S,k1,?_,k3,?_⟩
   ·rw[cY hc];simp[addr_add,uQ]
   rw[←k4];congr 1;omega
  simp at hy
 simp at hy
def Cz (hr:aH K β env H a w) {o:Oper} {t:TypeId} {x:Operand} {lo hi:Option Operand} {x':O} {pR ed:Option O} (ho:o.op= .slice t x lo hi none)
  (ht:K.P.underlying t=some .string) (hx:co K.G x=some x') (qP:WG K.G lo=some pR) (hhi:WG K.G hi=some ed) {y:AV}
  (hy:af (.ZL x' pR ed) env=some y):aJ K β H a w o y:=by
 have hv:=hr.ev hx;simp only[af] at hy;split at hy
 ·rename_i s e1;rw[e1] at hv;simp only[RV] at hv;simp only[dJ,bR] at hy;obtain⟨h,h1,l,h2,rfl⟩:=hy;have hb:nB env pR ed none s.length=some (l,h,none):=by simp[nB,h1,h2]
  have wJ:∀JT,(Instr.sliceBounds JT s.length s.length (lo.map a.eval) (hi.map a.eval) none).run K.P w= .ok (l,h,s.length) w:=by
   intro JT;rcases dY hr hhi h1 with⟨rfl,rfl,rfl⟩|⟨x,k,v,rfl,_,e1,e2,e3,rfl⟩
   ·rcases dY hr qP h2 with⟨rfl,rfl,rfl⟩|⟨y,k,u,rfl,_,e4,e5,e6,rfl⟩
    ·simp[Instr.sliceBounds]
    simp[Instr.sliceBounds,e4,run_sliceBound _ e5 e6]
   rcases dY hr qP h2 with⟨rfl,rfl,rfl⟩|⟨y,k',u,rfl,_,e4,e5,e6,rfl⟩
   ·simp[Instr.sliceBounds,e1,run_sliceBound _ e2 e3]
   simp[Instr.sliceBounds,e1,e4,run_sliceBound _ e2 e3,run_sliceBound _ e5 e6]
  obtain⟨_,r2,r3,_,_⟩:=lu hr qP hhi (mx:=none) (mx':=none) (by simp[WG]) (eM _) hb;refine aJ.same (v:= .string ((⟨s.toArray⟩:ByteArray).extract l h)) ?_ ?_ Pv
  ·simp[execOp,ho,Instr.sliceAt,run_underlying ht,Instr.slice,hv,jX,wJ,Result.andThen]
  simp only[RV];congr 1;apply OT;show((⟨s.toArray⟩:ByteArray).extract l h).data=((s.take h).drop l).toArray;rw[OG];simp only[List.extract_toArray];congr 1;simp[List.extract,List.drop_take]
 simp at hy
end

section
variable {w:World} {β:Lb→Option Nat} {H:Hp} {I:Nat→Prop}
theorem br.len:∀(cs:List AV) (vs:List Value),br w β H I cs vs→vs.length=cs.length
 |[],vs,h=>by simp[br] at h;simp[h]
 |x::r,vs,h=>by
  simp only[br] at h;obtain⟨v,us,rfl,_,h2⟩:=h;simp[br.len r us h2]
theorem br.get:∀(cs:List AV) (vs:List Value) (i:Nat) (x:AV),br w β H I cs vs→cs[i]?=some x→∃v,vs[i]?=some v∧RV w β H I x v
 |[],vs,i,x,h,hx=>by simp at hx
 |y::r,vs,0,x,h,hx=>by
  simp only[br] at h;obtain⟨v,us,rfl,h1,h2⟩:=h;simp at hx;subst hx;exact⟨v,N7,h1⟩
 |y::r,vs,i+1,x,h,hx=>by
  simp only[br] at h;obtain⟨v,us,rfl,h1,h2⟩:=h;obtain⟨u,k1,k2⟩:=br.get r us i x h2 (by simpa using hx);exact⟨u,by simpa using k1,k2⟩
theorem br.drop:∀(n:Nat) (cs:List AV) (vs:List Value),br w β H I cs vs→br w β H I (cs.drop n) (vs.drop n)
 |0,_,_,h=>by simpa using h
 |n+1,[],vs,h=>by simp[br] at h;simp[h,br]
 |n+1,x::r,vs,h=>by
  simp only[br] at h;obtain⟨v,us,rfl,h1,h2⟩:=h;simpa using br.drop n r us h2
theorem br.take:∀(n:Nat) (cs:List AV) (vs:List Value),br w β H I cs vs→br w β H I (cs.take n) (vs.take n)
 |0,_,_,_=>by simp[br]
 |n+1,[],vs,h=>by simp[br] at h;simp[h,br]
 |n+1,x::r,vs,h=>by
  simp only[br] at h;obtain⟨v,us,rfl,h1,h2⟩:=h;simp only[Cj,br];exact⟨v,us.take n,rfl,h1,br.take n r us h2⟩
theorem br.append:∀(cs:List AV) (vs:List Value) (ds:List AV) (us:List Value),br w β H I cs vs→br w β H I ds us→br w β H I (cs++ds) (vs++us)
 |[],vs,ds,us,h,h2=>by simp[br] at h;subst h;simpa using h2
 |x::r,vs,ds,us,h,h2=>by
  simp only[br] at h;obtain⟨v,Hh,rfl,h1,h3⟩:=h;simp only[List.cons_append,br];exact⟨v,Hh++us,rfl,h1,br.append r Hh ds us h3 h2⟩
theorem br.pS:∀(cs:List IV) (b o:Nat),bK w I cs b o→∃vs:List Value,br w β H I (cs.map IV.dQ) vs∧vs.length=cs.length∧∀j v,vs[j]?=some v→w.cell? ⟨b,o+j,none⟩=some v
 |[],b,o,h=>⟨[],QK,rfl,N7⟩
 |x::r,b,o,h=>by
  simp only[bK] at h;obtain⟨⟨v,h1,h2⟩,h3⟩:=h;obtain⟨vs,k1,k2,k3⟩:=br.pS r b (o+1) h3;refine⟨v::vs,?_,by simp[k2],?_⟩
  ·simp only[o2,br];refine⟨v,vs,rfl,?_,k1⟩;cases x<;>simp[NN] at h2<;>simp[IV.dQ,RV,h2];simpa[NN] using h2
  intro j u hj;cases j with
  |zero=>simp at hj;subst hj;exact h1
  |succ j=>
  have:=k3 j u (by simpa using hj)
  rwa[show o+1+j=o+(j+1) by omega] at this
def RV.iv:∀{x:AV} {y:IV} {v:Value},x.iv=some y→RV w β H I x v→NN w I y v:=by
 intro x y v h hv;cases x<;>simp[AV.iv] at h<;>subst h<;>simp only[RV] at hv<;>simp only[NN]
 case nil0=>
  obtain⟨a,rfl⟩:=hv;exact⟨a,0,rfl,N7,by simp[maxLen],.inl N7⟩
 case ifc=>
  obtain⟨u,rfl,_⟩:=hv;exact⟨u,rfl⟩
 all_goals first|exact hv|simpa[NN] using hv
def wK {x:AV} {y:IV} (h:x.iv=some y):y.cells=[y]:=by
 cases x<;>simp[AV.iv] at h<;>subst h<;>rfl
theorem iD:∀(cs:List AV) (ys:List IV) (vs:List Value) (b o:Nat),qO cs=some ys→br w β H I cs vs→(∀j v,vs[j]?=some v→w.cell? ⟨b,o+j,none⟩=some v)→bK w I ys b o
 |[],ys,vs,b,o,h,_,_=>by simp[qO] at h;subst h;simp[bK]
 |x::r,ys,vs,b,o,h,hv,hc=>by
  simp only[qO,dJ,bR] at h;obtain⟨y,h1,s,h2,rfl⟩:=h;simp only[br] at hv;obtain⟨v,us,rfl,k1,k2⟩:=hv;simp only[bK];refine⟨⟨v,by simpa using hc 0 v N7,RV.iv h1 k1⟩,iD r s us b (o+1) h2 k2 (fun j u hj=> ?_)⟩;have:=hc (j+1) u (by simpa using hj)
  rwa[show o+(j+1)=o+1+j by omega] at this
theorem tX:∀(cs:List AV) (ys:List IV),qO cs=some ys→ys.length=cs.length
 |[],ys,h=>by simp[qO] at h;subst h;rfl
 |x::r,ys,h=>by
  simp only[qO,dJ,bR] at h;obtain⟨y,h1,s,h2,rfl⟩:=h;simp[tX r s h2]
def RV.cells {x:AV} {v:Value} (h:RV w β H I x v) (hx:∀cs,x= .agg cs→True) (ha:(∃cs,x= .agg cs)∨v.oneCell'=true):br w β H I x.cells v.cells.toList:=by
 cases x
 case agg cs=>
  simp only[RV] at h;obtain⟨vs,rfl,h1⟩:=h;simpa[AV.cells,Value.cells] using h1
 all_goals
  rcases ha with⟨cs,hc⟩|ha
  ·cases hc
  have:v.cells=#[v]:=by cases v<;>simp_all[Value.cells,Value.oneCell']
  simp only[AV.cells,br,this];exact⟨v,[],N7,h,rfl⟩
def RV.lv {x:AV} {v:Value} (h:RV w β H I x v) (hx:x.one=true):v.oneCell'=true:=by
 cases x<;>simp[AV.one] at hx<;>simp only[RV,NN] at h
 case list=>obtain⟨a,c,rfl,_⟩:=h;rfl
 case nil0=>obtain⟨a,rfl⟩:=h;rfl
 case sl=>obtain⟨a,c,rfl,_⟩:=h;rfl
 case slk=>obtain⟨a,rfl,_⟩:=h;rfl
 case ptr=>obtain⟨a,rfl,_⟩:=h;rfl
 case lptr=>obtain⟨b,o,rfl,_⟩:=h;rfl
 case fn=>obtain⟨vs,us,rfl,_⟩:=h;rfl
 case ifc=>obtain⟨u,rfl,_⟩:=h;rfl
 case mis=>obtain⟨r,xs,c,rfl,_⟩:=h;rfl
 all_goals (subst h;rfl)
end
section
variable {K:Kx} {β:Lb→Option Nat} {env:Env} {H:Hp} {a:Act} {w:World}
def Fh (hr:aH K β env H a w) {o:Oper} {t:TypeId} {x:Operand} {x':O} (ho:o.op= .unOp .not t x) (hx:co K.G x=some x') {y:AV}
  (hy:af (.not x') env=some y):aJ K β H a w o y:=by
 have h:=hr.ev hx;simp only[af] at hy;split at hy
 ·rename_i b e;rw[e] at h;simp only[RV,di] at h hy;subst hy;exact aJ.same (v:= .bool !b) (by simp[execOp,ho,h,Op.unary]) PT Pv
 simp at hy
def Fi (hr:aH K β env H a w) {o:Oper} {t:TypeId} {x:Operand} {x':O} (ho:o.op= .unOp .neg t x) (hx:co K.G x=some x') {y:AV}
  (hy:af (.neg x') env=some y):aJ K β H a w o y:=by
 have h:=hr.ev hx;simp only[af] at hy;split at hy
 ·rename_i k n e;rw[e] at h;simp only[RV,di] at h hy;subst hy;exact aJ.same (v:= .int k (k.wrap (0 - n))) (by simp[execOp,ho,h,Op.unary,Op.intArith]) PT Pv
 simp at hy
def Fj (hr:aH K β env H a w) {o:Oper} {c:Call} {x y:Operand} {x' y':O} (ho:o.op= .call c) (hc:c.callee= .builtin .max) (ha:c.args.toList=[x,y])
  (hx:co K.G x=some x') (hy:co K.G y=some y') {z:AV} (hz:af (.max x' y') env=some z):aJ K β H a w o z:=by
 have h:=hr.ev hx;have h2:=hr.ev hy;have pQ:c.args=#[x,y]:=by cases hh:c.args;simp_all
 simp only[af] at hz;split at hz
 ·rename_i k m k' n e1 e2;rw[e1] at h;rw[e2] at h2;simp only[RV] at h h2;split at hz
  ·simp only[di] at hz;subst hz;refine aJ.same (v:= .int k (if n>m then n else m)) ?_ PT Pv;simp[execOp,ho,resolve,hc,pQ,h,h2,invoke,builtin,Builtin.max_,Builtin.max2,List.foldlM]
  simp at hz
 simp at hz
def Fk (hr:aH K β env H a w) {o:Oper} {c:Call} {x y:Operand} {x' y':O} (ho:o.op= .call c) (hc:c.callee= .builtin .min) (ha:c.args.toList=[x,y])
  (hx:co K.G x=some x') (hy:co K.G y=some y') {z:AV} (hz:af (.min x' y') env=some z):aJ K β H a w o z:=by
 have h:=hr.ev hx;have h2:=hr.ev hy;have pQ:c.args=#[x,y]:=by cases hh:c.args;simp_all
 simp only[af] at hz;split at hz
 ·rename_i k m k' n e1 e2;rw[e1] at h;rw[e2] at h2;simp only[RV] at h h2;split at hz
  ·simp only[di] at hz;subst hz;refine aJ.same (v:= .int k (if n<m then n else m)) ?_ PT Pv;simp[execOp,ho,resolve,hc,pQ,h,h2,invoke,builtin,Builtin.min_,Builtin.min2,List.foldlM]
  simp at hz
 simp at hz
theorem cW:∀(cs:List AV) (i:Nat) (x:AV),cs[i]?=some x→∀l∈x.an,l∈ah cs
 |[],i,x,h=>by simp at h
 |y::r,0,x,h=>by simp at h;subst h;intro l hl;simp[ah,hl]
 |y::r,i+1,x,h=>by
  intro l hl;have:=cW r i x (by simpa using h) l hl;simp[ah,this]
def Fl (hr:aH K β env H a w) {o:Oper} {x:Operand} {i:Nat} {x':O} (ho:o.op= .extract x i) (hx:co K.G x=some x') {y:AV}
  (hy:af (.ext x' i) env=some y):aJ K β H a w o y:=by
 have h:=hr.ev hx;have hm:=hr.eo hx;simp only[af] at hy;split at hy
 ·rename_i cs e;rw[e] at h hm;simp only[RV] at h;obtain⟨vs,h1,h2⟩:=h;obtain⟨v,k1,k2⟩:=br.get _ _ _ _ h2 hy;refine aJ.same (v:=v) ?_ k2 (fun l hl=>hm l (by simpa[AV.an] using cW _ _ _ hy l hl));simp[execOp,ho,h1,Instr.extract,k1]
 simp at hy
def CA (hr:aH K β env H a w) {o:Oper} {x:Operand} {x':O} (ho:o.op= .nilCheck x) (hx:co K.G x=some x') {y:AV}
  (hy:af (.dp x') env=some y):aJ K β H a w o y:=by
 have h:=hr.ev hx;have hm:=hr.eo hx;simp only[af] at hy;split at hy
 ·rename_i l sz i j e;simp only[di] at hy;subst hy;rw[e] at h hm;have h':=h;simp only[RV] at h;obtain⟨ad,h1,h2⟩:=h;exact aJ.same (v:=a.eval x) (by simp[execOp,ho,h1]) h' hm
 ·rename_i cs e;simp only[di] at hy;subst hy;rw[e] at h hm;have h':=h;simp only[RV] at h;obtain⟨b,o',h1,h2⟩:=h;exact aJ.same (v:=a.eval x) (by simp[execOp,ho,h1]) h' hm
 ·rename_i f p q e;simp only[di] at hy;subst hy;rw[e] at h hm;have h':=h;simp only[RV] at h;obtain⟨vs,us,h1,h2⟩:=h;exact aJ.same (v:=a.eval x) (by simp[execOp,ho,h1]) h' hm
 simp at hy
theorem iE (hr:aH K β env H a w):∀(xs:List Operand) (ys:List O),cos K.G xs=some ys→br w β H (Im K β H) (ys.map (ev env)) (xs.map a.eval)
 |[],ys,h=>by simp[cos] at h;subst h;simp[br]
 |x::r,ys,h=>by
  simp only[cos,dJ,bR] at h;obtain⟨y,h1,s,h2,rfl⟩:=h;simp only[o2,br];exact⟨_,_,rfl,hr.ev h1,iE hr r s h2⟩
theorem iV (hr:aH K β env H a w):∀(xs:List Operand) (ys:List O),cos K.G xs=some ys→∀l∈ah (ys.map (ev env)),H l≠ .unused
 |[],ys,h=>by simp[cos] at h;subst h;simp[ah]
 |x::r,ys,h=>by
  simp only[cos,dJ,bR] at h;obtain⟨y,h1,s,h2,rfl⟩:=h;intro l hl;simp only[o2,ah,eR] at hl;exact hl.elim (hr.eo h1 l) (iV hr r s h2 l)
def Fm (hr:aH K β env H a w) {o:Oper} {f:Nat} {first cap:Array Operand} {cs:List O} (ho:o.op= .makeFunc (.func f) first cap) (hf:first.isEmpty=true)
  (hc:cos K.G cap.toList=some cs) {y:AV} (hy:af (.zw f cs) env=some y):aJ K β H a w o y:=by
 simp only[af,di] at hy;subst hy;have BQ:first=#[]:=by simpa using hf
 refine aJ.same (v:= .func (.func f) #[] (cap.toList.map a.eval).toArray) ?_ ?_ ?_
 ·simp[execOp,ho,Instr.makeFunc,BQ];cases cap;simp
 ·simp only[RV,br];exact⟨[],_,N7,rfl,iE hr _ _ hc⟩
 simpa[AV.an,ah] using iV hr _ _ hc
def Fo (hr:aH K β env H a w) {o:Oper} {f:Nat} {first cap:Array Operand} {qs cs:List O} (ho:o.op= .makeFunc (.func f) first cap) (hq:cos K.G first.toList=some qs)
  (hc:cos K.G cap.toList=some cs) {y:AV} (hy:af (.zh f qs cs) env=some y):aJ K β H a w o y:=by
 simp only[af,di] at hy;subst hy;refine aJ.same (v:= .func (.func f) (first.toList.map a.eval).toArray (cap.toList.map a.eval).toArray) ?_ ?_ ?_
 ·simp[execOp,ho,Instr.makeFunc];cases cap;cases first
  simp
 ·simp only[RV];exact⟨_,_,rfl,iE hr _ _ hq,iE hr _ _ hc⟩
 intro l hl;simp only[AV.an,eR] at hl;rcases hl with hl|hl
 ·exact iV hr _ _ hq l hl
 exact iV hr _ _ hc l hl
def Fq (hr:aH K β env H a w) {o:Oper} {s d:TypeId} {x:Operand} {x':O} {k k':IntKind} (ho:o.op= .convert s d x) (hs:K.P.underlying s=some (.int k')) (hd:K.P.underlying d=some (.int k))
  (hx:co K.G x=some x') {y:AV} (hy:af (.qK k x') env=some y):aJ K β H a w o y:=by
 have h:=hr.ev hx;simp only[af] at hy;split at hy
 ·rename_i j n e;rw[e] at h;simp only[RV,di] at h hy;subst hy;exact aJ.same (v:= .int k (k.wrap n)) (by simp[execOp,ho,h,convert,run_underlying hs,run_underlying hd,Conv.intToInt]) PT Pv
 simp at hy
def Fs (hr:aH K β env H a w) {o:Oper} {s d:TypeId} {x:Operand} {x':O} (ho:o.op= .convert s d x) (hs:K.P.underlying s=some .string) (hd:K.P.underlying d=some .string)
  (hx:co K.G x=some x') {y:AV} (hy:af (.YJ x') env=some y):aJ K β H a w o y:=by
 have h:=hr.ev hx;simp only[af] at hy;split at hy
 ·rename_i t e;rw[e] at h;simp only[RV,di] at h hy;subst hy;exact aJ.same (v:=a.eval x) (by simp[execOp,ho,h,convert,run_underlying hs,run_underlying hd]) (by simpa[RV] using h) Pv
 simp at hy
def CB (hr:aH K β env H a w) {o:Oper} {t:TypeId} {x:Operand} {x':O} {d:TypeDesc} (ho:o.op= .makeInterface t x) (ht:K.P.underlying t=some d) (hd:∀ms,d≠ .interface ms)
  (hx:co K.G x=some x') {y:AV} (hy:af (.pO t x') env=some y):aJ K β H a w o y:=by
 have h:=hr.ev hx;simp only[af,di] at hy;subst hy;refine aJ.same (v:= .iface t (a.eval x)) ?_ ⟨_,rfl,h⟩ (by simpa[AV.an] using hr.eo hx);cases d<;>simp[execOp,ho,Instr.makeInterface,run_underlying ht];exact absurd rfl (hd _)
end
end Go.Am
