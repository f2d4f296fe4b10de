import Derived.Test.YtfinkeaikbmpgaaGreatDoorKAm1
set_option linter.unusedSimpArgs false
set_option linter.unusedVariables false
set_option linter.unnecessarySimpa false
set_option linter.defProp false
/- THE ABSTRACT MACHINE, part 5: cuts, comparisons, structs: the rest of the instructions that leave the rows alone. -/
namespace Go.Am
open Go Go.RowKit
section
variable {K:Kx} {β:Lb→Option Nat} {env:Env} {H:Hp} {a:Act} {w:World}
theorem ea (hr:aM K β env H a w) {lo:Option Operand} {ql:Option O} {d m n:Nat} (hc:eZ K.G lo=some ql) (h:kZ env ql d m=some n) :
  (lo=none∧ql=none∧n=d)∨∃x k v,lo=some x∧ql.isSome=true∧a.eval x= .int k v∧0≤v∧v.toNat≤m∧n=v.toNat:=by
 cases lo with
 |none=>
  simp[eZ] at hc;subst hc;simp[kZ] at h;exact .inl ⟨rfl,rfl,h.symm⟩
 |some x=>
  simp only[eZ,Option.map_eq_some_iff] at hc;obtain⟨y,h1,rfl⟩:=hc;have h2:=hr.ev h1;simp only[kZ] at h;split at h
  ·rename_i k v e;rw[e] at h2;simp only[RV] at h2;split at h
   ·rename_i hv;simp only[Option.some.injEq] at h;exact .inr ⟨x,k,v,rfl,rfl,h2,hv.1,hv.2,h.symm⟩
   ·simp at h
  ·simp at h
theorem run_sliceBound {P:Program} {w:World} {k:IntKind} {v:Int} {y:Nat} (code:BoundsCode) (h0:0≤v) (h1:v.toNat≤y):(Instr.sliceBound (.int k v) y code).run P w= .ok v.toNat w:=by
 have:v≤(y:Int):=by omega
 simp[Instr.sliceBound,asIntOf,h0,this,Result.andThen]
theorem lE (hr:aM K β env H a w) {lo hi mx:Option Operand} {ql dX mx':Option O} {n c l h:Nat} {m:Option Nat} (s5:eZ K.G lo=some ql) (vM:eZ K.G hi=some dX)
  (tf:eZ K.G mx=some mx') (Cc:n≤c) (hb:j4 env ql dX mx' n=some (l,h,m)) :
  (Instr.sliceBounds true n c (lo.map a.eval) (hi.map a.eval) (mx.map a.eval)).run K.P w= .ok (l,h,m.getD c) w∧l≤h∧h≤n∧h≤m.getD c∧m.getD c≤c:=by
 unfold j4 at hb;cases mx' with
 |none=>
  simp only[Option.bind_eq_some_iff,Option.map_eq_some_iff,Prod.mk.injEq] at hb;obtain⟨h',h1,l',h2,rfl,rfl,rfl⟩:=hb
  have CJ:mx=none:=by cases mx with
   |none=>rfl
   |some x=>simp[eZ] at tf
  subst CJ;rcases ea hr vM h1 with⟨rfl,rfl,rfl⟩|⟨x,k,v,rfl,_,e1,e2,e3,rfl⟩
  ·rcases ea hr s5 h2 with⟨rfl,rfl,rfl⟩|⟨y,k,u,rfl,_,e4,e5,e6,rfl⟩
   ·exact⟨by simp[Instr.sliceBounds],by omega,by omega,by simpa using Cc,by simp⟩
   ·exact⟨by simp[Instr.sliceBounds,e4,run_sliceBound _ e5 e6],by omega,by omega,by simpa using Cc,by simp⟩
  ·rcases ea hr s5 h2 with⟨rfl,rfl,rfl⟩|⟨y,k',u,rfl,_,e4,e5,e6,rfl⟩
   ·exact⟨by simp[Instr.sliceBounds,e1,run_sliceBound _ e2 (show v.toNat≤c by omega)],by omega,e3,by simp;omega,by simp⟩
   ·exact⟨by simp[Instr.sliceBounds,e1,e4,run_sliceBound _ e2 (show v.toNat≤c by omega),run_sliceBound _ e5 e6],e6,e3,by simp;omega,by simp⟩
 |some m0=>
  simp only at hb;split at hb
  ·simp at hb
  ·rename_i Ae;simp only[Option.bind_eq_some_iff,Option.map_eq_some_iff,Prod.mk.injEq] at hb;obtain⟨m',h0,h',h1,l',h2,rfl,rfl,rfl⟩:=hb;rcases ea hr tf h0 with⟨rfl,h9,rfl⟩|⟨x1,k1,v1,rfl,_,e1,e2,e3,rfl⟩
   ·simp at h9
   ·rcases ea hr vM h1 with⟨rfl,rfl,rfl⟩|⟨x2,k2,v2,rfl,_,f1,f2,f3,rfl⟩
    ·simp at Ae
    ·have q1:v1.toNat≤c:=by omega
     rcases ea hr s5 h2 with⟨rfl,rfl,rfl⟩|⟨x3,k3,v3,rfl,_,g1,g2,g3,rfl⟩
     ·exact⟨by simp[Instr.sliceBounds,e1,f1,run_sliceBound _ e2 q1,run_sliceBound _ f2 f3],by omega,by omega,f3,q1⟩
     ·exact⟨by simp[Instr.sliceBounds,e1,f1,g1,run_sliceBound _ e2 q1,run_sliceBound _ f2 f3,run_sliceBound _ g2 g3],g3,by omega,f3,q1⟩
theorem xo (hr:aM K β env H a w) {lo hi mx:Option Operand} {ql dX mx':Option O} {n c l h:Nat} {m:Option Nat} (s5:eZ K.G lo=some ql) (vM:eZ K.G hi=some dX)
  (tf:eZ K.G mx=some mx') (Cc:n≤c) (hb:td env ql dX mx' n c=some (l,h,m)) :
  (Instr.sliceBounds true n c (lo.map a.eval) (hi.map a.eval) (mx.map a.eval)).run K.P w= .ok (l,h,m.getD c) w∧l≤h∧h≤c∧h≤m.getD c∧m.getD c≤c:=by
 unfold td at hb;cases mx' with
 |none=>
  simp only[Option.bind_eq_some_iff,Option.map_eq_some_iff,Prod.mk.injEq] at hb;obtain⟨h',h1,l',h2,rfl,rfl,rfl⟩:=hb
  have CJ:mx=none:=by cases mx with
   |none=>rfl
   |some x=>simp[eZ] at tf
  subst CJ;rcases ea hr vM h1 with⟨rfl,rfl,rfl⟩|⟨x,k,v,rfl,_,e1,e2,e3,rfl⟩
  ·rcases ea hr s5 h2 with⟨rfl,rfl,rfl⟩|⟨y,k,u,rfl,_,e4,e5,e6,rfl⟩
   ·exact⟨by simp[Instr.sliceBounds],by omega,by omega,by simpa using Cc,by simp⟩
   ·exact⟨by simp[Instr.sliceBounds,e4,run_sliceBound _ e5 e6],by omega,by omega,by simpa using Cc,by simp⟩
  ·rcases ea hr s5 h2 with⟨rfl,rfl,rfl⟩|⟨y,k',u,rfl,_,e4,e5,e6,rfl⟩
   ·exact⟨by simp[Instr.sliceBounds,e1,run_sliceBound _ e2 (show v.toNat≤c by omega)],by omega,e3,by simp;omega,by simp⟩
   ·exact⟨by simp[Instr.sliceBounds,e1,e4,run_sliceBound _ e2 (show v.toNat≤c by omega),run_sliceBound _ e5 e6],e6,e3,by simp;omega,by simp⟩
 |some m0=>
  simp only at hb;split at hb
  ·simp at hb
  ·rename_i Ae;simp only[Option.bind_eq_some_iff,Option.map_eq_some_iff,Prod.mk.injEq] at hb;obtain⟨m',h0,h',h1,l',h2,rfl,rfl,rfl⟩:=hb;rcases ea hr tf h0 with⟨rfl,h9,rfl⟩|⟨x1,k1,v1,rfl,_,e1,e2,e3,rfl⟩
   ·simp at h9
   ·rcases ea hr vM h1 with⟨rfl,rfl,rfl⟩|⟨x2,k2,v2,rfl,_,f1,f2,f3,rfl⟩
    ·simp at Ae
    ·have q1:v1.toNat≤c:=by omega
     rcases ea hr s5 h2 with⟨rfl,rfl,rfl⟩|⟨x3,k3,v3,rfl,_,g1,g2,g3,rfl⟩
     ·exact⟨by simp[Instr.sliceBounds,e1,f1,run_sliceBound _ e2 q1,run_sliceBound _ f2 f3],by omega,by omega,f3,q1⟩
     ·exact⟨by simp[Instr.sliceBounds,e1,f1,g1,run_sliceBound _ e2 q1,run_sliceBound _ f2 f3,run_sliceBound _ g2 g3],g3,by omega,f3,q1⟩
theorem mS {w:World} {I:Nat→Prop} {sz:Nat}:∀(n:Nat) (xs:List IV) (b o:Nat),bN w I xs b o sz→bN w I (xs.take n) b o sz
 |0,_,_,_,_=>by simp[bN]
 |n+1,[],_,_,_=>by simp[bN]
 |n+1,x::r,b,o,h=>by
  simp only[bN] at h;simp only[List.take_succ_cons,bN];exact⟨h.1,mS n r b (o+sz) h.2⟩
theorem mT {w:World} {I:Nat→Prop} {sz:Nat}:∀(n:Nat) (xs:List IV) (b o:Nat),bN w I xs b o sz→bN w I (xs.drop n) b (o+n*sz) sz
 |0,_,_,_,h=>by simpa using h
 |n+1,[],_,_,_=>by simp[bN]
 |n+1,x::r,b,o,h=>by
  simp only[bN] at h;simp only[List.drop_succ_cons];have:=mT n r b (o+sz) h.2
  rwa[show o+sz+n*sz=o+(n+1)*sz by rw[Nat.add_mul];omega] at this
theorem pw {w:World} {I:Nat→Prop} {sz s:Nat} {xs:List IV} {b o:Nat} (h:bN w I xs b o sz) (hs:ia s xs) (hn:0<xs.length):sz=s:=by
 cases xs with
 |nil=>simp at hn
 |cons x r=>
  simp only[bN] at h;have:=(fB w I x b o sz).1 h.1;rw[this.1];exact hs x (by simp)
theorem Af {xs:List IV} {I:Nat→Prop} {ad:Option Addr} {c s l h m:Nat} (nz:ia s xs) (hl:l≤h) (hh:h≤xs.length) (hm:h≤m) (LJ:m≤c) (hc:c≤maxLen)
  (hx:xs.length=0∨∃b o sz,ad=some ⟨b,o,none⟩∧I b∧b<w.heap.size∧0<sz∧bN w I xs b o sz) :
  eT w I (.list ((xs.take h).drop l)) (.slice (if m=l then ad else ad.map (·.add (l*s))) (h - l) (m - l)):=by
 simp only[eT];have hlen:((xs.take h).drop l).length=h - l:=by simp;omega
 refine⟨_,m - l,by rw[hlen],by omega,by omega,?_⟩;rw[hlen];by_cases e:h - l=0
 ·exact .inl e
 ·right;rcases hx with hx|⟨b,o,sz,rfl,e1,e2,e3,e4⟩
  ·omega
  ·have iO:sz=s:=pw e4 nz (by omega);subst iO;refine⟨b,o+l*sz,sz,?_,e1,e2,e3,mT _ _ _ _ (mS _ _ _ _ e4)⟩;rw[if_neg (by omega)];simp[addr_add]
theorem Fl (hr : aM K β env H a w) {o : Oper} {t e : TypeId} {x : Operand} {lo hi mx : Option Operand} {s : Nat} {x' : O} {ql dX mx' : Option O} (ho : o.op = .slice t x lo hi mx)
   (ht:K.P.underlying t=some (.slice e)) (hs:nV K.P e=some s) (hx:co K.G x=some x') (s5:eZ K.G lo=some ql) (vM:eZ K.G hi=some dX) (tf:eZ K.G mx=some mx') {y:AV}
   (hy:aa (.uM x' ql dX mx' s) env=some y):aO K β H a w o y:=by
 have hv:=hr.ev hx
 have hm:=hr.eu hx
 have run:∀(ad:Option Addr) (n c l h m:Nat),a.eval x= .slice ad n c→(Instr.sliceBounds true n c (lo.map a.eval) (hi.map a.eval) (mx.map a.eval)).run K.P w= .ok (l,h,m) w →
     (execOp a.eval o).run K.P w= .ok (.value (.slice (if m=l then ad else ad.map (·.add (l*s))) (h - l) (m - l))) w:=by
   intro ad n c l h m e1 e2
   simp[execOp,ho,Instr.sliceAt,run_underlying ht,Instr.slice,e1,e2,cy hs,Result.andThen]
 simp only[aa,qk] at hy
 split at hy
 · rename_i e1
   rw[e1] at hv
   simp only[RV] at hv
   obtain⟨ad,hv⟩:=hv
   simp only[Option.map_eq_some_iff] at hy
   obtain⟨⟨l,h,m⟩,h1,rfl⟩:=hy
   obtain⟨r1,r2,r3,r4,r5⟩:=lE hr s5 vM tf (Nat.le_refl 0) h1
   refine aO.same (run ad 0 0 l h _ hv r1) ?_ (by simp[AV.ar])
   have z1:h - l=0:=by omega
   have z2:m.getD 0 - l=0:=by omega
   rw[z1,z2]
   exact⟨_,rfl⟩
 · rename_i xs e1
   rw[e1] at hv
   simp only[RV,eT] at hv
   split at hy
   · rename_i nz
     obtain⟨ad,c,h3,h4,h5,h6⟩:=hv
     simp only[Option.map_eq_some_iff] at hy
     obtain⟨⟨l,h,m⟩,h1,rfl⟩:=hy
     obtain⟨r1,r2,r3,r4,r5⟩:=lE hr s5 vM tf h4 h1
     refine aO.same (run ad _ c l h _ h3 r1) ?_ (by split<;>simp[AV.ar])
     split
     · rename_i HF
       simp only at HF
       subst HF
       simp only[Option.getD_some] at r4 ⊢
       have z1:h - l=0:=by omega
       rw[z1]
       simp only[Nat.sub_self,if_true]
       exact⟨_,rfl⟩
     · simp only[RV]
       exact Af nz r2 r3 r4 r5 h5 h6
   · simp at hy
 · rename_i lb s' i n e1
   rw[e1] at hv hm
   simp only[RV] at hv
   split at hy
   · rename_i Fm
     subst Fm
     obtain⟨ad,c,h3,h4,h5,h6,h7⟩:=hv
     simp only[Option.bind_eq_some_iff] at hy
     obtain⟨⟨l,h,m⟩,h1,h2⟩:=hy
     obtain⟨r1,r2,r3,r4,r5⟩:=lE hr s5 vM tf h4 h1
     cases m with
     |some m=>simp at h2
     |none=>
       simp only[Option.isSome_none,Bool.false_eq_true,if_false,Option.some.injEq] at h2
       subst h2
       simp only[Option.getD_none] at r1 r4 r5
       refine aO.same (run ad _ c l h _ h3 r1) ?_ (by simpa[AV.ar] using hm)
       refine⟨_,_,rfl,by omega,by omega,fun hn=> ?_,fun hl=> ?_⟩
       · obtain⟨q,rfl⟩:=Option.isSome_iff_exists.1 (h6 (by omega))
         split<;>simp
       · by_cases hc : c = l
         · exact .inl (by omega)
         · right
           rcases h7 hl with h8|⟨g,S,k1,k2,k3,k4⟩
           · omega
           · subst k2
             refine⟨g,S,k1,?_,k3,?_⟩
             · rw[if_neg hc];simp[addr_add,Nat.add_mul]
             · rw[←k4];congr 1;omega
   · simp at hy
 · rename_i lb s' i n c0 e1
   rw[e1] at hv hm
   simp only[RV] at hv
   split at hy
   · rename_i Fm
     subst Fm
     obtain⟨ad,h3,h4,h5,h6,h7⟩:=hv
     simp only[Option.bind_eq_some_iff] at hy
     obtain⟨⟨l,h,m⟩,h1,h2⟩:=hy
     obtain⟨r1,r2,r3,r4,r5⟩:=xo hr s5 vM tf h4 h1
     cases m with
     |some m=>
       simp only[Option.isSome_some,if_true,Option.some.injEq] at h2
       subst h2
       exact aO.same (run ad _ c0 l h _ h3 r1) (by simp[RV]) (by simp[AV.ar])
     |none=>
       simp only[Option.isSome_none,Bool.false_eq_true,if_false,Option.some.injEq] at h2
       subst h2
       simp only[Option.getD_none] at r1 r4 r5
       refine aO.same (run ad _ c0 l h _ h3 r1) ?_ (by simpa[AV.ar] using hm)
       refine⟨_,rfl,by omega,by omega,fun hn=> ?_,fun hl=> ?_⟩
       · obtain⟨q,rfl⟩:=Option.isSome_iff_exists.1 (h6 (by omega))
         split<;>simp
       · by_cases hc : c0 = l
         · exact .inl (by omega)
         · right
           rcases h7 hl with h8|⟨g,S,k1,k2,k3,k4⟩
           · omega
           · subst k2
             refine⟨g,S,k1,?_,k3,?_⟩
             · rw[if_neg hc];simp[addr_add,Nat.add_mul]
             · rw[←k4];congr 1;omega
   · simp at hy
 · simp at hy
theorem CK (hr:aM K β env H a w) {o:Oper} {t:TypeId} {x:Operand} {lo hi:Option Operand} {x':O} {ql dX:Option O} (ho:o.op= .slice t x lo hi none)
  (ht:K.P.underlying t=some .string) (hx:co K.G x=some x') (s5:eZ K.G lo=some ql) (vM:eZ K.G hi=some dX) {y:AV}
  (hy:aa (.gV x' ql dX) env=some y):aO K β H a w o y:=by
 have hv:=hr.ev hx;simp only[aa] at hy;split at hy
 ·rename_i s e1;rw[e1] at hv;simp only[RV] at hv;simp only[Option.bind_eq_some_iff,Option.map_eq_some_iff] at hy;obtain⟨h,h1,l,h2,rfl⟩:=hy;have hb:j4 env ql dX none s.length=some (l,h,none):=by simp[j4,h1,h2]
  have HG:∀Jp,(Instr.sliceBounds Jp s.length s.length (lo.map a.eval) (hi.map a.eval) none).run K.P w= .ok (l,h,s.length) w:=by
   intro Jp;rcases ea hr vM h1 with⟨rfl,rfl,rfl⟩|⟨x,k,v,rfl,_,e1,e2,e3,rfl⟩
   ·rcases ea hr s5 h2 with⟨rfl,rfl,rfl⟩|⟨y,k,u,rfl,_,e4,e5,e6,rfl⟩
    ·simp[Instr.sliceBounds]
    ·simp[Instr.sliceBounds,e4,run_sliceBound _ e5 e6]
   ·rcases ea hr s5 h2 with⟨rfl,rfl,rfl⟩|⟨y,k',u,rfl,_,e4,e5,e6,rfl⟩
    ·simp[Instr.sliceBounds,e1,run_sliceBound _ e2 e3]
    ·simp[Instr.sliceBounds,e1,e4,run_sliceBound _ e2 e3,run_sliceBound _ e5 e6]
  obtain⟨_,r2,r3,_,_⟩:=lE hr s5 vM (mx:=none) (mx':=none) (by simp[eZ]) (Nat.le_refl _) hb;refine aO.same (v:= .string ((⟨s.toArray⟩:ByteArray).extract l h)) ?_ ?_ (by simp[AV.ar])
  ·simp[execOp,ho,Instr.sliceAt,run_underlying ht,Instr.slice,hv,j5,HG,Result.andThen]
  ·simp only[RV]
   congr 1
   apply ByteArray.ext;show((⟨s.toArray⟩:ByteArray).extract l h).data=((s.take h).drop l).toArray;rw[ByteArray.data_extract];simp only[List.extract_toArray]
   congr 1
   simp[List.extract,List.drop_take]
 ·simp at hy
end
end Go.Am

/- THE ABSTRACT MACHINE, part 6: comparisons, structs and new memory that nobody writes. -/
namespace Go.Am
open Go Go.RowKit
section
variable {w:World} {β:Lb→Option Nat} {H:Hp} {I:Nat→Prop}
theorem bo.len:∀(cs:List AV) (vs:List Value),bo w β H I cs vs→vs.length=cs.length
 |[],vs,h=>by simp[bo] at h;simp[h]
 |x::r,vs,h=>by
  simp only[bo] at h;obtain⟨v,us,rfl,_,h2⟩:=h;simp[bo.len r us h2]
theorem bo.get:∀(cs:List AV) (vs:List Value) (i:Nat) (x:AV),bo w β H I cs vs→cs[i]?=some x→∃v,vs[i]?=some v∧RV w β H I x v
 |[],vs,i,x,h,hx=>by simp at hx
 |y::r,vs,0,x,h,hx=>by
  simp only[bo] at h;obtain⟨v,us,rfl,h1,h2⟩:=h;simp at hx;subst hx;exact⟨v,by simp,h1⟩
 |y::r,vs,i+1,x,h,hx=>by
  simp only[bo] at h;obtain⟨v,us,rfl,h1,h2⟩:=h;obtain⟨u,k1,k2⟩:=bo.get r us i x h2 (by simpa using hx);exact⟨u,by simpa using k1,k2⟩
theorem bo.drop:∀(n:Nat) (cs:List AV) (vs:List Value),bo w β H I cs vs→bo w β H I (cs.drop n) (vs.drop n)
 |0,_,_,h=>by simpa using h
 |n+1,[],vs,h=>by simp[bo] at h;simp[h,bo]
 |n+1,x::r,vs,h=>by
  simp only[bo] at h;obtain⟨v,us,rfl,h1,h2⟩:=h;simpa using bo.drop n r us h2
theorem bo.take:∀(n:Nat) (cs:List AV) (vs:List Value),bo w β H I cs vs→bo w β H I (cs.take n) (vs.take n)
 |0,_,_,_=>by simp[bo]
 |n+1,[],vs,h=>by simp[bo] at h;simp[h,bo]
 |n+1,x::r,vs,h=>by
  simp only[bo] at h;obtain⟨v,us,rfl,h1,h2⟩:=h;simp only[List.take_succ_cons,bo];exact⟨v,us.take n,rfl,h1,bo.take n r us h2⟩
theorem bo.append:∀(cs:List AV) (vs:List Value) (ds:List AV) (us:List Value),bo w β H I cs vs→bo w β H I ds us→bo w β H I (cs++ds) (vs++us)
 |[],vs,ds,us,h,h2=>by simp[bo] at h;subst h;simpa using h2
 |x::r,vs,ds,us,h,h2=>by
  simp only[bo] at h;obtain⟨v,Hb,rfl,h1,h3⟩:=h;simp only[List.cons_append,bo];exact⟨v,Hb++us,rfl,h1,bo.append r Hb ds us h3 h2⟩
theorem bo.qm:∀(cs:List IV) (b o:Nat),bH w I cs b o→∃vs:List Value,bo w β H I (cs.map IV.b7) vs∧vs.length=cs.length∧∀j v,vs[j]?=some v→w.cell? ⟨b,o+j,none⟩=some v
 |[],b,o,h=>⟨[],by simp[bo],rfl,by simp⟩
 |x::r,b,o,h=>by
  simp only[bH] at h;obtain⟨⟨v,h1,h2⟩,h3⟩:=h;obtain⟨vs,k1,k2,k3⟩:=bo.qm r b (o+1) h3;refine⟨v::vs,?_,by simp[k2],?_⟩
  ·simp only[List.map_cons,bo];refine⟨v,vs,rfl,?_,k1⟩;cases x<;>simp[eT] at h2<;>simp[IV.b7,RV,h2];simpa[eT] using h2
  ·intro j u hj;cases j with
   |zero=>simp at hj;subst hj;exact h1
   |succ j=>
    have:=k3 j u (by simpa using hj)
    rwa[show o+1+j=o+(j+1) by omega] at this
theorem RV.iv:∀{x:AV} {y:IV} {v:Value},x.iv=some y→RV w β H I x v→eT w I y v:=by
 intro x y v h hv;cases x<;>simp[AV.iv] at h<;>subst h<;>simp only[RV] at hv<;>simp only[eT]
 case nil0=>
  obtain⟨a,rfl⟩:=hv;exact⟨a,0,rfl,by simp,by simp[maxLen],.inl (by simp)⟩
 case ifc=>
  obtain⟨u,rfl,_⟩:=hv;exact⟨u,rfl⟩
 all_goals first|exact hv|simpa[eT] using hv
theorem xp {x:AV} {y:IV} (h:x.iv=some y):y.cells=[y]:=by
 cases x<;>simp[AV.iv] at h<;>subst h<;>rfl
theorem iP:∀(cs:List AV) (ys:List IV) (vs:List Value) (b o:Nat),dj cs=some ys→bo w β H I cs vs→(∀j v,vs[j]?=some v→w.cell? ⟨b,o+j,none⟩=some v)→bH w I ys b o
 |[],ys,vs,b,o,h,_,_=>by simp[dj] at h;subst h;simp[bH]
 |x::r,ys,vs,b,o,h,hv,hc=>by
  simp only[dj,Option.bind_eq_some_iff,Option.map_eq_some_iff] at h;obtain⟨y,h1,s,h2,rfl⟩:=h;simp only[bo] at hv;obtain⟨v,us,rfl,k1,k2⟩:=hv;simp only[bH];refine⟨⟨v,by simpa using hc 0 v (by simp),RV.iv h1 k1⟩,iP r s us b (o+1) h2 k2 (fun j u hj=> ?_)⟩;have:=hc (j+1) u (by simpa using hj)
  rwa[show o+(j+1)=o+1+j by omega] at this
theorem uR:∀(cs:List AV) (ys:List IV),dj cs=some ys→ys.length=cs.length
 |[],ys,h=>by simp[dj] at h;subst h;rfl
 |x::r,ys,h=>by
  simp only[dj,Option.bind_eq_some_iff,Option.map_eq_some_iff] at h;obtain⟨y,h1,s,h2,rfl⟩:=h;simp[uR r s h2]
theorem RV.cells {x:AV} {v:Value} (h:RV w β H I x v) (hx:∀cs,x= .agg cs→True) (ha:(∃cs,x= .agg cs)∨v.oneCell'=true):bo w β H I x.cells v.cells.toList:=by
 cases x
 case agg cs=>
  simp only[RV] at h;obtain⟨vs,rfl,h1⟩:=h;simpa[AV.cells,Value.cells] using h1
 all_goals
  rcases ha with⟨cs,hc⟩|ha
  ·cases hc
  ·have:v.cells=#[v]:=by cases v<;>simp_all[Value.cells,Value.oneCell']
   simp only[AV.cells,bo,this];exact⟨v,[],by simp,h,rfl⟩
theorem RV.lF {x:AV} {v:Value} (h:RV w β H I x v) (hx:x.one=true):v.oneCell'=true:=by
 cases x<;>simp[AV.one] at hx<;>simp only[RV,eT] at h
 case list=>obtain⟨a,c,rfl,_⟩:=h;rfl
 case nil0=>obtain⟨a,rfl⟩:=h;rfl
 case sl=>obtain⟨a,c,rfl,_⟩:=h;rfl
 case slk=>obtain⟨a,rfl,_⟩:=h;rfl
 case ptr=>obtain⟨a,rfl,_⟩:=h;rfl
 case lptr=>obtain⟨b,o,rfl,_⟩:=h;rfl
 case fn=>obtain⟨vs,us,rfl,_⟩:=h;rfl
 case ifc=>obtain⟨u,rfl,_⟩:=h;rfl
 all_goals (subst h;rfl)
end
section
variable {K:Kx} {β:Lb→Option Nat} {env:Env} {H:Hp} {a:Act} {w:World}
theorem Fo (hr:aM K β env H a w) {o:Oper} {t:TypeId} {x:Operand} {x':O} (ho:o.op= .unOp .not t x) (hx:co K.G x=some x') {y:AV}
  (hy:aa (.not x') env=some y):aO K β H a w o y:=by
 have h:=hr.ev hx;simp only[aa] at hy;split at hy
 ·rename_i b e;rw[e] at h;simp only[RV,Option.some.injEq] at h hy;subst hy;exact aO.same (v:= .bool !b) (by simp[execOp,ho,h,Op.unary]) (by simp[RV]) (by simp[AV.ar])
 ·simp at hy
theorem Fq (hr:aM K β env H a w) {o:Oper} {t:TypeId} {x:Operand} {x':O} (ho:o.op= .unOp .neg t x) (hx:co K.G x=some x') {y:AV}
  (hy:aa (.neg x') env=some y):aO K β H a w o y:=by
 have h:=hr.ev hx;simp only[aa] at hy;split at hy
 ·rename_i k n e;rw[e] at h;simp only[RV,Option.some.injEq] at h hy;subst hy;exact aO.same (v:= .int k (k.wrap (0 - n))) (by simp[execOp,ho,h,Op.unary,Op.intArith]) (by simp[RV]) (by simp[AV.ar])
 ·simp at hy
theorem Fs (hr:aM K β env H a w) {o:Oper} {c:Call} {x y:Operand} {x' y':O} (ho:o.op= .call c) (hc:c.callee= .builtin .max) (ha:c.args.toList=[x,y])
  (hx:co K.G x=some x') (hy:co K.G y=some y') {z:AV} (hz:aa (.max x' y') env=some z):aO K β H a w o z:=by
 have h:=hr.ev hx;have h2:=hr.ev hy;have nA:c.args=#[x,y]:=by cases hh:c.args;simp_all
 simp only[aa] at hz;split at hz
 ·rename_i k m k' n e1 e2;rw[e1] at h;rw[e2] at h2;simp only[RV] at h h2;split at hz
  ·simp only[Option.some.injEq] at hz;subst hz;refine aO.same (v:= .int k (if n>m then n else m)) ?_ (by simp[RV]) (by simp[AV.ar]);simp[execOp,ho,resolve,hc,nA,h,h2,invoke,builtin,Builtin.max_,Builtin.max2,List.foldlM]
  ·simp at hz
 ·simp at hz
theorem Ft (hr:aM K β env H a w) {o:Oper} {c:Call} {x y:Operand} {x' y':O} (ho:o.op= .call c) (hc:c.callee= .builtin .min) (ha:c.args.toList=[x,y])
  (hx:co K.G x=some x') (hy:co K.G y=some y') {z:AV} (hz:aa (.min x' y') env=some z):aO K β H a w o z:=by
 have h:=hr.ev hx;have h2:=hr.ev hy;have nA:c.args=#[x,y]:=by cases hh:c.args;simp_all
 simp only[aa] at hz;split at hz
 ·rename_i k m k' n e1 e2;rw[e1] at h;rw[e2] at h2;simp only[RV] at h h2;split at hz
  ·simp only[Option.some.injEq] at hz;subst hz;refine aO.same (v:= .int k (if n<m then n else m)) ?_ (by simp[RV]) (by simp[AV.ar]);simp[execOp,ho,resolve,hc,nA,h,h2,invoke,builtin,Builtin.min_,Builtin.min2,List.foldlM]
  ·simp at hz
 ·simp at hz
theorem cR:∀(cs:List AV) (i:Nat) (x:AV),cs[i]?=some x→∀l∈x.ar,l∈ah cs
 |[],i,x,h=>by simp at h
 |y::r,0,x,h=>by simp at h;subst h;intro l hl;simp[ah,hl]
 |y::r,i+1,x,h=>by
  intro l hl;have:=cR r i x (by simpa using h) l hl;simp[ah,this]
theorem Fu (hr:aM K β env H a w) {o:Oper} {x:Operand} {i:Nat} {x':O} (ho:o.op= .extract x i) (hx:co K.G x=some x') {y:AV}
  (hy:aa (.ext x' i) env=some y):aO K β H a w o y:=by
 have h:=hr.ev hx;have hm:=hr.eu hx;simp only[aa] at hy;split at hy
 ·rename_i cs e;rw[e] at h hm;simp only[RV] at h;obtain⟨vs,h1,h2⟩:=h;obtain⟨v,k1,k2⟩:=bo.get _ _ _ _ h2 hy;refine aO.same (v:=v) ?_ k2 (fun l hl=>hm l (by simpa[AV.ar] using cR _ _ _ hy l hl));simp[execOp,ho,h1,Instr.extract,k1]
 ·simp at hy
theorem CL (hr:aM K β env H a w) {o:Oper} {x:Operand} {x':O} (ho:o.op= .nilCheck x) (hx:co K.G x=some x') {y:AV}
  (hy:aa (.mq x') env=some y):aO K β H a w o y:=by
 have h:=hr.ev hx;have hm:=hr.eu hx;simp only[aa] at hy;split at hy
 ·rename_i l sz i j e;simp only[Option.some.injEq] at hy;subst hy;rw[e] at h hm;have h':=h;simp only[RV] at h;obtain⟨ad,h1,h2⟩:=h;exact aO.same (v:=a.eval x) (by simp[execOp,ho,h1]) h' hm
 ·rename_i cs e;simp only[Option.some.injEq] at hy;subst hy;rw[e] at h hm;have h':=h;simp only[RV] at h;obtain⟨b,o',h1,h2⟩:=h;exact aO.same (v:=a.eval x) (by simp[execOp,ho,h1]) h' hm
 ·rename_i f p q e;simp only[Option.some.injEq] at hy;subst hy;rw[e] at h hm;have h':=h;simp only[RV] at h;obtain⟨vs,us,h1,h2⟩:=h;exact aO.same (v:=a.eval x) (by simp[execOp,ho,h1]) h' hm
 ·simp at hy
theorem iQ (hr:aM K β env H a w):∀(xs:List Operand) (ys:List O),cos K.G xs=some ys→bo w β H (Im K β H) (ys.map (ev env)) (xs.map a.eval)
 |[],ys,h=>by simp[cos] at h;subst h;simp[bo]
 |x::r,ys,h=>by
  simp only[cos,Option.bind_eq_some_iff,Option.map_eq_some_iff] at h;obtain⟨y,h1,s,h2,rfl⟩:=h;simp only[List.map_cons,bo];exact⟨_,_,rfl,hr.ev h1,iQ hr r s h2⟩
theorem iZ (hr:aM K β env H a w):∀(xs:List Operand) (ys:List O),cos K.G xs=some ys→∀l∈ah (ys.map (ev env)),H l≠ .unused
 |[],ys,h=>by simp[cos] at h;subst h;simp[ah]
 |x::r,ys,h=>by
  simp only[cos,Option.bind_eq_some_iff,Option.map_eq_some_iff] at h;obtain⟨y,h1,s,h2,rfl⟩:=h;intro l hl;simp only[List.map_cons,ah,List.mem_append] at hl;exact hl.elim (hr.eu h1 l) (iZ hr r s h2 l)
theorem Fv (hr:aM K β env H a w) {o:Oper} {f:Nat} {first cap:Array Operand} {cs:List O} (ho:o.op= .makeFunc (.func f) first cap) (hf:first.isEmpty=true)
  (hc:cos K.G cap.toList=some cs) {y:AV} (hy:aa (.z8 f cs) env=some y):aO K β H a w o y:=by
 simp only[aa,Option.some.injEq] at hy;subst hy;have zT:first=#[]:=by simpa using hf
 refine aO.same (v:= .func (.func f) #[] (cap.toList.map a.eval).toArray) ?_ ?_ ?_
 ·simp[execOp,ho,Instr.makeFunc,zT];cases cap;simp
 ·simp only[RV,bo];exact⟨[],_,by simp,rfl,iQ hr _ _ hc⟩
 ·simpa[AV.ar,ah] using iZ hr _ _ hc
theorem Fw (hr:aM K β env H a w) {o:Oper} {f:Nat} {first cap:Array Operand} {qs cs:List O} (ho:o.op= .makeFunc (.func f) first cap) (hq:cos K.G first.toList=some qs)
  (hc:cos K.G cap.toList=some cs) {y:AV} (hy:aa (.Aa f qs cs) env=some y):aO K β H a w o y:=by
 simp only[aa,Option.some.injEq] at hy;subst hy;refine aO.same (v:= .func (.func f) (first.toList.map a.eval).toArray (cap.toList.map a.eval).toArray) ?_ ?_ ?_
 ·simp[execOp,ho,Instr.makeFunc];cases cap;cases first
  simp
 ·simp only[RV];exact⟨_,_,rfl,iQ hr _ _ hq,iQ hr _ _ hc⟩
 ·intro l hl;simp only[AV.ar,List.mem_append] at hl;rcases hl with hl|hl
  ·exact iZ hr _ _ hq l hl
  ·exact iZ hr _ _ hc l hl
theorem Fx (hr:aM K β env H a w) {o:Oper} {s d:TypeId} {x:Operand} {x':O} {k k':IntKind} (ho:o.op= .convert s d x) (hs:K.P.underlying s=some (.int k')) (hd:K.P.underlying d=some (.int k))
  (hx:co K.G x=some x') {y:AV} (hy:aa (.z' k x') env=some y):aO K β H a w o y:=by
 have h:=hr.ev hx;simp only[aa] at hy;split at hy
 ·rename_i j n e;rw[e] at h;simp only[RV,Option.some.injEq] at h hy;subst hy;exact aO.same (v:= .int k (k.wrap n)) (by simp[execOp,ho,h,convert,run_underlying hs,run_underlying hd,Conv.intToInt]) (by simp[RV]) (by simp[AV.ar])
 ·simp at hy
theorem Fy (hr:aM K β env H a w) {o:Oper} {s d:TypeId} {x:Operand} {x':O} (ho:o.op= .convert s d x) (hs:K.P.underlying s=some .string) (hd:K.P.underlying d=some .string)
  (hx:co K.G x=some x') {y:AV} (hy:aa (.kJ x') env=some y):aO K β H a w o y:=by
 have h:=hr.ev hx;simp only[aa] at hy;split at hy
 ·rename_i t e;rw[e] at h;simp only[RV,Option.some.injEq] at h hy;subst hy;exact aO.same (v:=a.eval x) (by simp[execOp,ho,h,convert,run_underlying hs,run_underlying hd]) (by simpa[RV] using h) (by simp[AV.ar])
 ·simp at hy
theorem CM (hr:aM K β env H a w) {o:Oper} {t:TypeId} {x:Operand} {x':O} {d:TypeDesc} (ho:o.op= .makeInterface t x) (ht:K.P.underlying t=some d) (hd:∀ms,d≠ .interface ms)
  (hx:co K.G x=some x') {y:AV} (hy:aa (.qh t x') env=some y):aO K β H a w o y:=by
 have h:=hr.ev hx;simp only[aa,Option.some.injEq] at hy;subst hy;refine aO.same (v:= .iface t (a.eval x)) ?_ ⟨_,rfl,h⟩ (by simpa[AV.ar] using hr.eu hx);cases d<;>simp[execOp,ho,Instr.makeInterface,run_underlying ht];exact absurd rfl (hd _)
end
end Go.Am

/- THE ABSTRACT MACHINE, part 7: structs made, boxed, loaded from memory that nobody writes. -/
namespace Go.Am
open Go Go.RowKit
theorem lG (off:Nat):∀(l:List Value) (k:Nat) (arr:Array Value),off+k+l.length≤arr.size →
  ((l.zipIdx k).foldl (fun cs (p:Value×Nat)=>cs.setIfInBounds (off+p.2) p.1) arr).toList=arr.toList.take (off+k)++l++arr.toList.drop (off+k+l.length)
 |[],k,arr,h=>by simp
 |v::r,k,arr,h=>by
  simp only[List.length_cons] at h;simp only[List.zipIdx_cons,List.foldl_cons];rw[lG off r (k+1) (arr.setIfInBounds (off+k) v) (by simp;omega)];simp only[Array.toList_setIfInBounds,List.length_cons];rw[show off+(k+1)+r.length=off+k+(r.length+1) by omega,show off+(k+1)=off+k+1 by omega];have bz:off+k<arr.toList.length:=by simp;omega
  have h1:(arr.toList.set (off+k) v).take (off+k+1)=arr.toList.take (off+k)++[v]:=by
   have hl:(arr.toList.take (off+k)).length=off+k:=by rw[List.length_take];omega
   rw[List.take_set,List.take_succ_eq_append_getElem bz,List.set_append_right _ _ (by omega),hl,Nat.sub_self];rfl
  have h2:(arr.toList.set (off+k) v).drop (off+k+(r.length+1))=arr.toList.drop (off+k+(r.length+1)):=by
   rw[List.drop_set_of_lt (by omega)]
  rw[h1,h2];simp
section
variable {w:World} {β:Lb→Option Nat} {H:Hp} {I:Nat→Prop}
theorem bo.kt {x:AV} {v:Value} (h:RV w β H I x v) (hx:(∃cs,x= .agg cs)∨x.one=true):v.cells.size=x.cells.length∧bo w β H I x.cells v.cells.toList:=by
 have h2:bo w β H I x.cells v.cells.toList:=RV.cells h (fun _ _=>trivial) (by
  rcases hx with hx|hx
  ·exact .inl hx
  ·exact .inr (RV.lF h hx))
 exact⟨by rw[←bo.len _ _ h2];simp,h2⟩
theorem AV.tg {x:AV} (h:x.dk=true):(∃cs,x= .agg cs)∨x.one=true:=by
 cases x<;>first|exact .inl ⟨_,rfl⟩|exact .inr (by simpa[AV.dk] using h)
inductive i_ {α γ:Type} (R:α→γ→Prop):List α→List γ→Prop
 |nil:i_ R [] []
 |cons {a:α} {b:γ} {l:List α} {m:List γ}:R a b→i_ R l m→i_ R (a::l) (b::m)
theorem lH (place:Nat→Option (Nat×Nat)):∀(ps:List (Nat×Value)) (qs:List (Nat×Nat×AV)) (cs kK:List AV) (cur:Array Value),
  bo w β H I cs cur.toList→aQ cs qs=some kK →
  i_ (fun(p:Nat×Value) (q:Nat×Nat×AV)=>place p.1=some (q.1,q.2.1)∧RV w β H I q.2.2 p.2) ps qs →
  ∃cur',Instr.fill place cur ps=some cur'∧bo w β H I kK cur'.toList
 |[],qs,cs,kK,cur,h,hf,ha=>by
  cases ha;simp only[aQ,Option.some.injEq] at hf;subst hf;exact⟨cur,rfl,h⟩
 |p::ps,qs,cs,kK,cur,h,hf,ha=>by
  cases ha with
  |@cons _ q _ qs hq EV=>
   obtain⟨off,sz,x⟩:=q;obtain⟨i,v⟩:=p;obtain⟨h1,h2⟩:=hq;simp only at h1 h2;simp only[aQ] at hf;split at hf
   ·rename_i iO;obtain⟨h3,iO⟩:=iO;obtain⟨k1,k2⟩:=bo.kt h2 (AV.tg h3);have hlen:cur.size=cs.length:=by rw[←bo.len _ _ h];simp
    have J_:¬(v.cells.size≠sz||decide (off+v.cells.size>cur.size))=true:=by
     simp only[Bool.or_eq_true,decide_eq_true_eq,not_or];omega
    have CN:=lG off v.cells.toList 0 cur (by simp;omega);simp only[Nat.add_zero] at CN
    obtain⟨cur',e1,e2⟩:=lH place ps qs _ kK (v.cells.zipIdx.foldl (fun cs (p:Value×Nat)=>cs.setIfInBounds (off+p.2) p.1) cur) (by
     rw[←Array.foldl_toList,Array.toList_zipIdx,CN];have:v.cells.toList.length=sz:=by simp;omega
     rw[this];exact bo.append _ _ _ _ (bo.append _ _ _ _ (bo.take _ _ _ h) k2) (bo.drop _ _ _ h)) hf EV
    refine⟨cur',?_,e2⟩;simp only[Instr.fill,h1];rw[if_neg J_];exact e1
   ·simp at hf
end
section
variable {K:Kx} {β:Lb→Option Nat} {env:Env} {H:Hp} {a:Act} {w:World}
theorem jN {P:Program} {t:TypeId} {m:Nat} (hm:vL P t=some (some m)) (ad:Addr) (cs:List Value) (hl:cs.length=m)
  (h:∀j v,cs[j]?=some v→w.cell? (ad.add j)=some v):(loadVar t ad).run P w= .ok (.agg cs.toArray) w:=by
 have hu:(isAgg t).run P w= .ok true w∧nV P t=some m:=by
  unfold vL at hm;split at hm
  ·rename_i fs zU;obtain⟨s,h1,h2⟩:=Option.map_eq_some_iff.1 hm;cases h2;exact⟨by simp[isAgg,run_underlying zU],h1⟩
  ·rename_i n e zU;obtain⟨s,h1,h2⟩:=Option.map_eq_some_iff.1 hm;cases h2;exact⟨by simp[isAgg,run_underlying zU],h1⟩
  ·simp at hm
  ·simp at hm
 subst hl;simp[loadVar,hu.1,cy hu.2,run_loadCells_list (P:=P) w ad cs h,Result.andThen]
theorem jO {P:Program} {t:TypeId} (hm:vL P t=some none) (ad:Addr) (v:Value) (h:w.cell? ad=some v):(loadVar t ad).run P w= .ok v w:=by
 have hu:(isAgg t).run P w= .ok false w:=by
  unfold vL at hm;split at hm
  ·simp at hm
  ·simp at hm
  ·rename_i d h1 h2 hd;have uU:∀f,d≠ .struct f:=fun f e=>h1 f e
   have HI:∀n e,d≠ .array n e:=fun n e q=>h2 n e q
   cases d<;>simp[isAgg,run_underlying hd]
   ·exact(HI _ _ rfl).elim
   ·exact(uU _ rfl).elim
  ·simp at hm
 simp[loadVar,hu,h]
theorem gX:∀(cs:List IV),ah (cs.map IV.b7)=[]
 |[]=>by simp[ah]
 |x::r=>by
  simp only[List.map_cons,ah,gX r,List.append_nil];cases x<;>simp[IV.b7,AV.ar]
theorem mU {w:World} {I:Nat→Prop}:∀(n:Nat) (cs:List IV) (b o:Nat),bH w I cs b o→bH w I (cs.take n) b o
 |0,_,_,_,_=>by simp[bH]
 |n+1,[],_,_,_=>by simp[bH]
 |n+1,x::r,b,o,h=>by
  simp only[bH] at h;simp only[List.take_succ_cons,bH];exact⟨h.1,mU n r b (o+1) h.2⟩
theorem Ag (hr:aM K β env H a w) {o:Oper} {t:TypeId} {x:Operand} {x':O} {m:Option Nat} (ho:o.op= .load t x) (hm:vL K.P t=some m) (hx:co K.G x=some x') {y:AV}
  (hy:aa (.load m x') env=some y):aO K β H a w o y:=by
 have h:=hr.ev hx;simp only[aa] at hy;split at hy
 ·rename_i cs e;rw[e] at h;simp only[RV] at h;obtain⟨b,of,h1,h2,h3,h4⟩:=h;obtain⟨vs,k1,k2,k3⟩:=bo.qm (β:=β) (H:=H) cs b of h4
  have run:∀v,(loadVar t ⟨b,of,none⟩).run K.P w= .ok v w→(execOp a.eval o).run K.P w= .ok (.value v) w:=by
   intro v hv;simp[execOp,ho,h1,Instr.loadAt,Instr.sureAddr,hv]
  cases m with
  |none=>
   simp only[Option.map_eq_some_iff] at hy;obtain⟨z,hz,rfl⟩:=hy;obtain⟨v,e1,e2⟩:=bo.get _ _ 0 (z.b7) k1 (by simp[hz]);refine aO.same (run v (jO hm _ _ (by simpa using k3 0 v e1))) e2 ?_;cases z<;>simp[IV.b7,AV.ar]
  |some k=>
   simp only at hy;split at hy
   ·rename_i hk;simp only[Option.some.injEq] at hy;subst hy;refine aO.same (run (.agg (vs.take k).toArray) (jN hm _ _ (by simp;omega) (fun j v hj=> ?_))) ?_ ?_
    ·rw[List.getElem?_take] at hj;split at hj
     ·rw[addr_add];exact k3 j v hj
     ·simp at hj
    ·simp only[RV];exact⟨_,rfl,by rw[List.map_take];exact bo.take _ _ _ k1⟩
    ·intro l hl;simp only[AV.ar,gX] at hl;simp at hl
   ·simp at hy
 ·simp at hy
theorem aM.fresh (hr:aM K β env H a w):Im K β H w.heap.size:=by
 refine⟨.inr hr.frame.size,fun l hl hb=> ?_⟩;obtain⟨r,nD⟩:=hl;obtain⟨_,_,h3⟩:=hr.rows l r nD;simp only[hb] at h3;obtain⟨cur,e,cap,h4,_⟩:=h3;have:=(Array.getElem?_eq_some_iff.1 h4).1;omega
theorem eb (w:World) (o:Obj):jT w (w.alloc o):=(Below.refl _ _).alloc (Nat.le_refl _) o
theorem mr (w:World):jT w w.drew:=(Below.refl _ _).drew
theorem nX (w:World) (c:Array Value) (e:TypeId) (j:Nat):(w.alloc (.cells c e)).cell? ⟨w.heap.size,j,none⟩=c[j]?:=by
 simp
theorem CO (hr:aM K β env H a w) {o:Oper} {t:TypeId} {x:Operand} {x':O} (ho:o.op= .box t x) (hx:co K.G x=some x') {y:AV}
  (hy:aa (.pd x') env=some y):aO K β H a w o y:=by
 have h:=hr.ev hx;simp only[aa,Option.map_eq_some_iff] at hy;obtain⟨ys,h1,rfl⟩:=hy
 have fm:(∃cs,ev env x'= .agg cs)∨(ev env x').one=true:=by
  cases hc:ev env x'<;>simp[hc,AV.cells,dj,AV.iv] at h1<;>first|exact .inl ⟨_,rfl⟩|exact .inr rfl
 obtain⟨k1,k2⟩:=bo.kt h fm;have hg:=eb w (.cells (a.eval x).cells t);refine⟨.pointer (some ⟨w.heap.size,0,none⟩),w.alloc (.cells (a.eval x).cells t),?_,hg,?_,by simp[AV.ar]⟩
 ·simp[execOp,ho,Instr.box,newVar,newRow]
 ·simp only[RV];refine⟨_,0,rfl,hr.fresh,by simp,?_⟩;refine iP _ _ _ _ _ h1 (bo.mono _ _ (hg.pr β H _ _) k2) (fun j v hj=> ?_);rw[Nat.zero_add,nX];simpa using hj
theorem ib:∀(l:List Value) (xs:List AV),kJ l=some xs→∀(w:World) (β:Lb→Option Nat) (H:Hp) (I:Nat→Prop),bo w β H I xs l
 |[],xs,h,w,β,H,I=>by simp[kJ] at h;subst h;simp[bo]
 |v::r,xs,h,w,β,H,I=>by
  simp only[kJ,Option.bind_eq_some_iff,Option.map_eq_some_iff] at h;obtain⟨x,h1,s,h2,rfl⟩:=h;simp only[bo];exact⟨v,r,rfl,B' h1 _ _ _ _,ib r s h2 w β H I⟩
theorem nY (z:Array Value) (zs:List AV) (w:World) (β:Lb→Option Nat) (H:Hp) (I:Nat→Prop) (h:bo w β H I zs z.toList) (hz:0<z.size):∀n:Nat,
  bo w β H I ((List.replicate n zs).flatten) ((Array.range (n*z.size)).map (fun i=>z[i%z.size]!)).toList
 |0=>by simp[bo]
 |n+1=>by
  have ih:=nY z zs w β H I h hz n
  have e1:(List.replicate (n+1) zs).flatten=(List.replicate n zs).flatten++zs:=by
   rw[List.replicate_succ'];simp
  have e2:((Array.range ((n+1)*z.size)).map (fun i=>z[i%z.size]!)).toList=((Array.range (n*z.size)).map (fun i=>z[i%z.size]!)).toList++z.toList:=by
   simp only[Array.toList_map,Array.toList_range];rw[Nat.add_mul,Nat.one_mul,List.range_add,List.map_append]
   congr 1
   rw[List.map_map];apply List.ext_getElem
   ·simp
   ·intro i h1 h2;simp at h1 h2;simp[Nat.mod_eq_of_lt h1,h1]
  rw[e1,e2];exact bo.append _ _ _ _ ih h
theorem k8 (hr:aM K β env H a w) (place:Nat→Option (Nat×Nat)):∀(ps:List (Nat×Operand)) (xs:List O) (qs:List (Nat×Nat×O)),cos K.G (ps.map (·.2))=some xs →
  qs.length=ps.length→(∀(i:Nat) (p:Nat×Operand) (x:O) (q:Nat×Nat×O),ps[i]?=some p→xs[i]?=some x→qs[i]?=some q→q.2.2=x∧place p.1=some (q.1,q.2.1)) →
  i_ (fun(p:Nat×Value) (q:Nat×Nat×AV)=>place p.1=some (q.1,q.2.1)∧RV w β H (Im K β H) q.2.2 p.2)
   (ps.map fun p=>(p.1,a.eval p.2)) (qs.map fun q=>(q.1,q.2.1,ev env q.2.2))
 |[],xs,qs,h,hl,hp=>by
  have:qs=[]:=List.eq_nil_of_length_eq_zero (by simpa using hl);subst this;exact .nil
 |p::ps,xs,qs,h,hl,hp=>by
  cases qs with
  |nil=>simp at hl
  |cons q qs=>
   simp only[List.map_cons,cos,Option.bind_eq_some_iff,Option.map_eq_some_iff] at h;obtain⟨y,h1,s,h2,rfl⟩:=h;obtain⟨k1,k2⟩:=hp 0 p y q (by simp) (by simp) (by simp);simp only[List.map_cons]
   refine .cons ⟨k2,?_⟩ (k8 hr place ps s qs h2 (by simpa using hl)
    (fun i p' x' q' g1 g2 g3=>hp (i+1) p' x' q' (by simpa using g1) (by simpa using g2) (by simpa using g3)))
   simp only;rw[k1];exact hr.ev h1
theorem vN (ys:List IV) (h:∀y∈ys,y.cells=[y]) (hn:ys≠[]):(dF ys).cells=ys:=by
 cases ys with
 |nil=>exact absurd rfl hn
 |cons y r=>
  cases r with
  |nil=>simpa[dF] using h y (by simp)
  |cons z r=>simp[dF,IV.cells]
theorem px:∀(cs:List AV) (ys:List IV),dj cs=some ys→∀y∈ys,y.cells=[y]
 |[],ys,h=>by simp[dj] at h;subst h;simp
 |x::r,ys,h=>by
  simp only[dj,Option.bind_eq_some_iff,Option.map_eq_some_iff] at h;obtain⟨y,h1,s,h2,rfl⟩:=h;intro z hz;simp at hz;rcases hz with rfl|hz
  ·exact xp h1
  ·exact px r s h2 z hz
theorem jw {w:World} {I:Nat→Prop} {sz:Nat} (iO:0<sz):∀(n:Nat) (ys:List IV) (b o:Nat),ys.length=n*sz→(∀y∈ys,y.cells=[y])→bH w I ys b o →
  bN w I (chunks sz n ys) b o sz∧(chunks sz n ys).length=n
 |0,ys,b,o,_,_,_=>by simp[chunks,bN]
 |n+1,ys,b,o,hl,hc,h=>by
  have jY:ys.length=n*sz+sz:=by rw[hl,Nat.add_mul];omega
  have ih:=jw iO n (ys.drop sz) b (o+sz) (by simp;omega) (fun y hy=>hc y (List.mem_of_mem_drop hy)) (iD _ _ _ _ h);have bz:(ys.take sz).length=sz:=by simp;omega
  have Fz:(dF (ys.take sz)).cells=ys.take sz:=vN _ (fun y hy=>hc y (List.mem_of_mem_take hy)) (by intro e;rw[e] at bz;simp at bz;omega);simp only[chunks,bN,List.length_cons];refine⟨⟨?_,ih.1⟩,by rw[ih.2]⟩;rw[fB,Fz];exact⟨bz.symm,mU _ _ _ _ h⟩
theorem CP (hr:aM K β env H a w) {o:Oper} {t e:TypeId} {n:Nat} {ps:Array (Nat×Operand)} {i:TypeInfo} {z:Value} {zs:List AV} {xs:List O} (ho:o.op= .buildSlice t n ps)
   (ht:K.P.underlying t=some (.slice e)) (hi:K.P.info? e=some i) (hz:i.zero=some z) (nL:z.cells.size=i.size) (h0:0<i.size) (hn:n*i.size≤2^24)
   (nZ:kJ z.cells.toList=some zs) (xb:cos K.G (ps.toList.map (·.2))=some xs) {y:AV}
   (hy:aa (.lits n i.size zs ((ps.toList.map (·.1)).zip xs)) env=some y):aO K β H a w o y:=by
 simp only[aa] at hy
 split at hy
 · split at hy
   · rename_i mm
     obtain⟨rfl,HJ⟩:=mm
     simp only[Option.some.injEq] at hy
     subst hy
     have xq:xs.length=ps.toList.length:=by
       have:=bo.len _ _ (iQ hr _ _ xb)
       simp at this
       simpa using this.symm
     have FA:ps.toList=[]:=by
       have h1:((ps.toList.map (·.1)).zip xs)=[]:=by simpa using HJ
       have h2:((ps.toList.map (·.1)).zip xs).length=0:=by rw[h1];rfl
       rw[List.length_zip,List.length_map,xq,Nat.min_self] at h2
       exact List.length_eq_zero_iff.1 h2
     have HK:ps=#[]:=by simpa using FA
     subst HK
     refine⟨.slice (some ⟨w.heap.size,0,none⟩) 0 0,w.alloc (.cells #[] e),?_,eb w _,by simp[RV],by simp[AV.ar]⟩
     have FB:=cy (P:=K.P) (t:=e) (s:=i.size) (by simp[nV,hi]) w
     simp[execOp,ho,Instr.buildSlice,run_underlying ht,FB,Instr.fill,newRow,show Array.range 0=#[] from rfl]
   · simp at hy
 · rename_i eg
   simp only[Option.bind_eq_some_iff,Option.map_eq_some_iff] at hy
   obtain⟨cs,h1,ys,h2,rfl⟩:=hy
   have mm:n≠0:=fun e=>eg (by simp[e])
   have EW:=ib _ _ nZ w β H (Im K β H)
   have hzero:=nY z.cells zs w β H (Im K β H) EW (by omega) n
   have xq:xs.length=ps.toList.length:=by
     have:=bo.len _ _ (iQ hr _ _ xb)
     simp at this
     simpa using this.symm
   have dN:=k8 hr (fun j=>some (j*i.size,i.size)) ps.toList xs (((ps.toList.map (·.1)).zip xs).map fun p=>(p.1*i.size,i.size,p.2)) xb
     (by simp at xq;simp[xq])
     (by
       intro j p x q g1 g2 g3
       simp only[List.getElem?_map,List.getElem?_zip_eq_some,Option.map_eq_some_iff] at g3
       obtain⟨⟨u,v⟩,⟨⟨p',e1,e2⟩,e3⟩,rfl⟩:=g3
       simp only at e1 e2 e3
       rw[g1] at e1;cases e1
       rw[g2] at e3;cases e3
       exact⟨rfl,by simp[e2]⟩)
   obtain⟨cur',f1,f2⟩:=lH (fun j=>some (j*i.size,i.size)) _ _ _ cs _ hzero (by simpa[List.map_map,Function.comp_def] using h1) dN
   have hlen:cs.length=n*i.size:=by
     have e1:=bo.len _ _ hzero
     have e2:∀(qs:List (Nat×Nat×AV)) (c c':List AV),aQ c qs=some c'→c'.length=c.length:=by
       intro qs
       induction qs with
       |nil=>intro c c' h;simp[aQ] at h;rw[h]
       |cons q qs ih=>
         intro c c' h
         obtain⟨off,sz,x⟩:=q
         simp only[aQ] at h
         split at h
         · rename_i hh
           obtain⟨_,hh⟩:=hh
           rw[ih _ _ h]
           simp
           omega
         · simp at h
     rw[e2 _ _ _ h1,←e1]
     simp[nL]
   have hg:=eb w (.cells cur' e)
   have Ka:ys.length=n*i.size:=by rw[uR _ _ h2,hlen]
   have k9:bH (w.alloc (.cells cur' e)) (Im K β H) ys w.heap.size 0:=
     iP _ _ _ _ _ h2 (bo.mono _ _ (hg.pr β H _ _) f2) (fun j v hj=>by rw[Nat.zero_add,nX];simpa using hj)
   have HL:=jw h0 n ys w.heap.size 0 Ka (px _ _ h2) k9
   refine⟨.slice (some ⟨w.heap.size,0,none⟩) n n,w.alloc (.cells cur' e),?_,hg,?_,by simp[AV.ar]⟩
   · have rr:Instr.fill (fun j=>some (j*i.size,i.size)) ((Array.range (n*i.size)).map (z.cells[·%z.cells.size]!)) (ps.toList.map fun p=>(p.1,a.eval p.2))=some cur':=by
       rw[←nL]
       rw[←nL] at f1
       exact f1
     have CQ:¬n*i.size=0:=by rw[Nat.mul_comm];exact eg
     have FB:=cy (P:=K.P) (t:=e) (s:=i.size) (by simp[nV,hi]) w
     simp only[execOp,ho,Instr.buildSlice,Sem.run_bind,run_underlying ht,Result.andThen_ok,FB,Sem.run_ite,CQ,if_false,zeroValue,typeInfo,run_program,hi,hz,
       Array.toList_map,show ¬n*i.size>2^24 by omega,Sem.run_pure,Result.andThen,rr]
     simp[newRow,rr]
   · simp only[RV,eT]
     refine⟨_,n,by rw[HL.2],by rw[HL.2];exact Nat.le_refl _,?_,.inr ⟨w.heap.size,0,i.size,rfl,hr.fresh,by simp,h0,HL.1⟩⟩
     have:n≤n*i.size:=Nat.le_mul_of_pos_right n h0
     simp only[maxLen];omega
theorem n1 (hr:aM K β env H a w) (pl:List (Nat×Nat)):∀(ps:List (Nat×Operand)) (xs:List O) (qs:List (Nat×Nat×O)),cos K.G (ps.map (·.2))=some xs →
  kN pl (ps.map (·.1)) xs=some qs →
  i_ (fun(p:Nat×Value) (q:Nat×Nat×AV)=>pl.toArray[p.1]?=some (q.1,q.2.1)∧RV w β H (Im K β H) q.2.2 p.2)
   (ps.map fun p=>(p.1,a.eval p.2)) (qs.map fun q=>(q.1,q.2.1,ev env q.2.2))
 |[],xs,qs,h,hb=>by
  simp[cos] at h;subst h;simp[kN] at hb;subst hb;exact .nil
 |p::ps,xs,qs,h,hb=>by
  simp only[List.map_cons,cos,Option.bind_eq_some_iff,Option.map_eq_some_iff] at h;obtain⟨y,h1,s,h2,rfl⟩:=h;simp only[List.map_cons,kN,Option.bind_eq_some_iff,Option.map_eq_some_iff] at hb;obtain⟨q,e1,r,e2,rfl⟩:=hb;simp only[List.map_cons];exact .cons ⟨by simpa using e1,hr.ev h1⟩ (n1 hr pl ps s r h2 e2)
theorem FC (hr:aM K β env H a w) {o:Oper} {t:TypeId} {fs:Array Field} {ps:Array (Nat×Operand)} {i:TypeInfo} {z:Value} {zs:List AV} {xs:List O} {pl:List (Nat×Nat)}
   {qs:List (Nat×Nat×O)} (ho:o.op= .build t ps)
   (ht:K.P.underlying t=some (.struct fs)) (hi:K.P.info? t=some i) (hz:i.zero=some z) (HM:fs.toList.mapM (fun f=>(K.P.info? f.type).map fun i=>(f.offset,i.size))=some pl)
   (nZ:kJ z.cells.toList=some zs) (xb:cos K.G (ps.toList.map (·.2))=some xs) (EV:kN pl (ps.toList.map (·.1)) xs=some qs) {y:AV}
   (hy:aa (.rp zs qs) env=some y):aO K β H a w o y:=by
 simp only[aa,Option.map_eq_some_iff] at hy
 obtain⟨cs,h1,rfl⟩:=hy
 obtain⟨cur',f1,f2⟩:=lH (β:=β) (H:=H) (I:=Im K β H) (w:=w) (fun j=>pl.toArray[j]?) _ _ _ cs z.cells (ib _ _ nZ w β H _) h1 (n1 hr pl _ _ _ xb EV)
 refine aO.same (v:= .agg cur') ?_ ⟨cur'.toList,by simp,f2⟩ ?_
 · have hb:K.P.built t (ps.map fun(i,x)=>(i,a.eval x)).toList=some cur':=by
     simp only[Program.built,hi,ht,hz,HM]
     simpa using f1
   simp only[execOp,ho,Sem.run_bind,run_build w t _ cur' hb,Result.andThen_ok,Sem.run_pure]
 · have uV:∀(l:List Value) (xs:List AV),kJ l=some xs→ah xs=[]:=by
     intro l
     induction l with
     |nil=>intro xs h;simp[kJ] at h;subst h;rfl
     |cons v r ih=>
       intro xs h
       simp only[kJ,Option.bind_eq_some_iff,Option.map_eq_some_iff] at h
       obtain⟨x,h1,s,h2,rfl⟩:=h
       simp[ah,s_ h1,ih s h2]
   have Kb:∀(ids:List Nat) (xs:List O) (qs:List (Nat×Nat×O)),kN pl ids xs=some qs→∀q∈qs,q.2.2∈xs:=by
     intro ids
     induction ids with
     |nil=>intro xs qs h;cases xs<;>simp[kN] at h;subst h;simp
     |cons j js ih=>
       intro xs qs h
       cases xs with
       |nil=>simp[kN] at h
       |cons x xs=>
         simp only[kN,Option.bind_eq_some_iff,Option.map_eq_some_iff] at h
         obtain⟨p,e1,r,e2,rfl⟩:=h
         intro q hq
         simp at hq
         rcases hq with rfl|hq
         · simp
         · exact List.mem_cons_of_mem _ (ih xs r e2 q hq)
   have tf:∀x∈xs,∀l∈(ev env x).ar,H l≠ .unused:=by
     intro x hx l hl
     refine iZ hr _ _ xb l ?_
     obtain⟨k,hk⟩:=List.getElem?_of_mem hx
     exact cR _ k _ (by simp[hk]) l hl
   have lI:∀(l m:List AV),ah (l++m)=ah l++ah m:=by
     intro l m
     induction l with
     |nil=>rfl
     |cons x r ih=>simp[ah,ih]
   have vO:∀(l:List AV) (n:Nat),(∀q∈ah (l.take n),q∈ah l)∧(∀q∈ah (l.drop n),q∈ah l):=by
     intro l n
     have:=lI (l.take n) (l.drop n)
     rw[List.take_append_drop] at this
     rw[this]
     exact⟨fun q hq=>List.mem_append.2 (.inl hq),fun q hq=>List.mem_append.2 (.inr hq)⟩
   have hf:∀(qs:List (Nat×Nat×AV)) (c c':List AV),aQ c qs=some c'→(∀l∈ah c,H l≠ .unused)→(∀q∈qs,∀l∈q.2.2.ar,H l≠ .unused)→∀l∈ah c',H l≠ .unused:=by
     intro qs
     induction qs with
     |nil=>intro c c' h h1 _;simp[aQ] at h;subst h;exact h1
     |cons q qs ih=>
       intro c c' h h1 h2
       obtain⟨off,sz,x⟩:=q
       simp only[aQ] at h
       split at h
       · refine ih _ _ h ?_ (fun q hq=>h2 q (by simp[hq]))
         intro l hl
         rw[lI,lI,List.mem_append,List.mem_append] at hl
         rcases hl with(hl|hl)|hl
         · exact h1 l ((vO c off).1 l hl)
         · have:=h2 (off,sz,x) (by simp) l
           refine this ?_
           cases x<;>simp[AV.cells,ah] at hl<;>simp[AV.ar] at hl ⊢<;>exact hl
         · exact h1 l ((vO c (off+sz)).2 l hl)
       · simp at h
   simp only[AV.ar]
   refine hf _ _ _ h1 (by rw[uV _ _ nZ];simp) ?_
   intro q hq
   simp only[List.mem_map] at hq
   obtain⟨q0,FD,rfl⟩:=hq
   exact tf _ (Kb _ _ _ EV q0 FD)
theorem CR (hr:aM K β env H a w) {o:Oper} {t:TypeId} {x:Operand} {f:Nat} {fs:Array Field} {fd:Field} {x':O} {m:Option Nat} (ho:o.op= .field t x f)
  (ht:K.P.underlying t=some (.struct fs)) (hf:fs[f]?=some fd) (hm:vL K.P fd.type=some m) (hx:co K.G x=some x') {y:AV}
  (hy:aa (.qg x' fd.offset m) env=some y):aO K β H a w o y:=by
 have h:=hr.ev hx;have EX:=hr.eu hx;simp only[aa] at hy;split at hy
 ·rename_i cs e;rw[e] at h EX;simp only[RV] at h;obtain⟨vs,h1,h2⟩:=h
  have run:∀v,(part fd.type vs.toArray fd.offset).run K.P w= .ok v w→(execOp a.eval o).run K.P w= .ok (.value v) w:=by
   intro v hv;simp[execOp,ho,Instr.field,run_underlying ht,hf,h1,asAgg,hv,Result.andThen]
  cases m with
  |none=>
   simp only at hy;obtain⟨v,k1,k2⟩:=bo.get _ _ _ _ h2 hy
   have Ah:(isAgg fd.type).run K.P w= .ok false w:=by
    unfold vL at hm;split at hm
    ·simp at hm
    ·simp at hm
    ·rename_i d h1 h2 hd;cases d<;>simp[isAgg,run_underlying hd]
     ·exact(h2 _ _ rfl).elim
     ·exact(h1 _ rfl).elim
    ·simp at hm
   refine aO.same (run v ?_) k2 (fun l hl=>EX l (by simpa[AV.ar] using cR _ _ _ hy l hl));simp[part,Ah,k1]
  |some k=>
   simp only at hy;split at hy
   ·rename_i hk;simp only[Option.some.injEq] at hy;subst hy
    have Ah:(isAgg fd.type).run K.P w= .ok true w∧nV K.P fd.type=some k:=by
     unfold vL at hm;split at hm
     ·rename_i fs zU;obtain⟨s,h1,h2⟩:=Option.map_eq_some_iff.1 hm;cases h2;exact⟨by simp[isAgg,run_underlying zU],h1⟩
     ·rename_i n e zU;obtain⟨s,h1,h2⟩:=Option.map_eq_some_iff.1 hm;cases h2;exact⟨by simp[isAgg,run_underlying zU],h1⟩
     ·simp at hm
     ·simp at hm
    refine aO.same (run (.agg ((vs.drop fd.offset).take k).toArray) ?_) ⟨_,rfl,bo.take _ _ _ (bo.drop _ _ _ h2)⟩ ?_
    ·simp[part,Ah.1,cy Ah.2,Result.andThen,List.extract]
    ·intro l hl;simp only[AV.ar] at hl EX;refine EX l ?_
     have lI:∀(l m:List AV),ah (l++m)=ah l++ah m:=by
      intro l m
      induction l with
      |nil=>rfl
      |cons x r ih=>simp[ah,ih]
     have e1:=lI (cs.take fd.offset) (cs.drop fd.offset);rw[List.take_append_drop] at e1;have e2:=lI ((cs.drop fd.offset).take k) ((cs.drop fd.offset).drop k);rw[List.take_append_drop] at e2;rw[e1,e2];exact List.mem_append.2 (.inr (List.mem_append.2 (.inl hl)))
   ·simp at hy
 ·simp at hy
theorem uW {P:Program}:∀(fs:List Field) (ks:List Kd) (n d:Nat) (xs ys:List AV) (vs us:List Value) (b:Bool),eC P n fs=some ks→eqs ks xs ys=some b →
  bo w β H (Im K β H) xs (vs.drop n)→bo w β H (Im K β H) ys (us.drop n) →
  (Op.eqFields (d+1) vs.toArray us.toArray fs).run P w= .ok b w
 |[],ks,n,d,xs,ys,vs,us,b,hp,he,hx,hy=>by
  simp[eC] at hp;subst hp;cases xs<;>cases ys<;>simp[eqs] at he;subst he;simp[Op.eqFields]
 |f::fs,ks,n,d,xs,ys,vs,us,b,hp,he,hx,hy=>by
  simp only[eC] at hp;split at hp
  ·rename_i hh;simp only[Bool.and_eq_true,bne_iff_ne,ne_eq,beq_iff_eq] at hh;obtain⟨h1,h2⟩:=hh
   obtain⟨k,CS,rfl,xr,hk⟩:∃k CS,ks=k::CS∧eC P (n+1) fs=some CS∧((k= .s∧P.underlying f.type=some .string)∨(k= .b∧P.underlying f.type=some .bool)∨(k= .i∧∃j,P.underlying f.type=some (.int j))):=by
    split at hp
    ·obtain⟨s,q1,q2⟩:=Option.map_eq_some_iff.1 hp;exact⟨_,s,q2.symm,q1,.inl ⟨rfl,by assumption⟩⟩
    ·obtain⟨s,q1,q2⟩:=Option.map_eq_some_iff.1 hp;exact⟨_,s,q2.symm,q1,.inr (.inl ⟨rfl,by assumption⟩)⟩
    ·obtain⟨s,q1,q2⟩:=Option.map_eq_some_iff.1 hp;exact⟨_,s,q2.symm,q1,.inr (.inr ⟨rfl,_,by assumption⟩)⟩
    ·simp at hp
   cases xs with
   |nil=>simp[eqs] at he
   |cons x xs=>
   cases ys with
   |nil=>simp[eqs] at he
   |cons y ys=>
   simp only[eqs,Option.bind_eq_some_iff,Option.map_eq_some_iff] at he;obtain⟨b1,e1,b2,e2,rfl⟩:=he;simp only[bo] at hx hy;obtain⟨v,Hb,hv,rx,xb⟩:=hx;obtain⟨u,Kc,hu,ry,nE⟩:=hy;have gv:vs[n]?=some v:=by rw[←List.head?_drop,hv];rfl
   have gu:us[n]?=some u:=by rw[←List.head?_drop,hu];rfl
   have dv:vs.drop (n+1)=Hb:=by rw[←List.tail_drop,hv];rfl
   have du:us.drop (n+1)=Kc:=by rw[←List.tail_drop,hu];rfl
   have ih:=uW (P:=P) fs CS (n+1) d xs ys vs us b2 xr e2 (by rw[dv];exact xb) (by rw[du];exact nE)
   have Ah:(isAgg f.type).run P w= .ok false w:=by
    rcases hk with⟨_,hk⟩|⟨_,hk⟩|⟨_,j,hk⟩<;>simp[isAgg,run_underlying hk]
   have pv:(part f.type vs.toArray f.offset).run P w= .ok v w:=by simp[part,Ah,h2,gv]
   have pu:(part f.type us.toArray f.offset).run P w= .ok u w:=by simp[part,Ah,h2,gu]
   have heq:(Op.equalIn (d+1) f.type v u).run P w= .ok b1 w:=by
    rcases hk with⟨rfl,hk⟩|⟨rfl,hk⟩|⟨rfl,j,hk⟩<;>cases x<;>cases y<;>simp[Ha] at e1<;>simp only[RV] at rx ry<;>subst rx<;>subst ry
    ·rw[run_equalIn_string w d f.type _ _ hk];simp[ByteArray.toList_mk,←e1]
    ·rw[run_equalIn_bool' w d f.type _ _ hk];simp[←e1]
    ·obtain⟨rfl,e1⟩:=e1;rw[run_equalIn_int w d f.type _ _ _ _ hk];simp[←e1]
   simp only[Op.eqFields,ne_eq,h1,not_false_eq_true,if_true,Sem.run_bind,pv,pu,heq,Result.andThen_ok,Sem.run_ite,ih];cases b1<;>simp
  ·simp at hp
theorem ja {op:BinOp} {n:Bool} (h:jM op=some n):(op= .eql∧n=false)∨(op= .neq∧n=true):=by
 cases op<;>simp[jM] at h<;>subst h<;>simp
theorem CT (hr:aM K β env H a w) {o:Oper} {op:BinOp} {t t2:TypeId} {x y:Operand} {x' y':O} {ks:List Kd} {n:Bool} (ho:o.op= .binOp op t x y t2) (hn:jM op=some n)
  (xu:j3 K.P t=some ks) (hx:co K.G x=some x') (hy:co K.G y=some y') {z:AV} (hz:aa (.ny n ks x' y') env=some z):aO K β H a w o z:=by
 have h:=hr.ev hx;have h2:=hr.ev hy;unfold j3 at xu;split at xu
 ·rename_i fs zU;split at xu
  ·rename_i hc;simp only[Bool.and_eq_true,Bool.not_eq_true'] at hc;simp only[aa] at hz;split at hz
   ·rename_i xs ys e1 e2;rw[e1] at h;rw[e2] at h2;simp only[RV] at h h2;obtain⟨vs,h3,h4⟩:=h;obtain⟨us,h5,h6⟩:=h2;obtain⟨b,hb,rfl⟩:=Option.map_eq_some_iff.1 hz;have Ke:K.P.underlying t=some (.struct (K.P.fieldsOf t)):=by simp[Program.fieldsOf,zU]
    have Kf:(K.P.fieldsOf t).toList=fs.toList:=by simp[Program.fieldsOf,zU]
    have hq:(Op.equalIn 10000 t (.agg vs.toArray) (.agg us.toArray)).run K.P w= .ok b w:=by
     rw[show(10000:Nat)=9998+1+1 from rfl,run_equalIn_struct w _ t _ _ Ke hc.1,Kf];exact uW fs.toList ks 0 9998 xs ys vs us b xu hb (by simpa using h4) (by simpa using h6)
    refine aO.same (v:= .bool (n ^^ b)) ?_ (by simp[RV]) (by simp[AV.ar]);rcases ja hn with⟨rfl,rfl⟩|⟨rfl,rfl⟩
    ·simp only[execOp,ho,h3,h5,Sem.run_bind,run_eqGuard_agg w _ t x y _ _ hc.2,Result.andThen_ok,run_eql_struct,hq];simp
    ·simp only[execOp,ho,h3,h5,Sem.run_bind,run_eqGuard_agg w _ t x y _ _ hc.2,Result.andThen_ok,run_neq_struct,hq];simp
   ·simp at hz
  ·simp at xu
 ·simp at xu
theorem FE (hr:aM K β env H a w) {o:Oper} {op:BinOp} {t t2:TypeId} {x y:Operand} {x' y':O} {n:Bool} (ho:o.op= .binOp op t x y t2) (hn:jM op=some n)
  (ht:K.P.underlying t=some .bool) (hx:co K.G x=some x') (hy:co K.G y=some y') {z:AV} (hz:aa (.xa n x' y') env=some z):aO K β H a w o z:=by
 have h:=hr.ev hx;have h2:=hr.ev hy;simp only[aa] at hz;split at hz
 ·rename_i p q e1 e2;rw[e1] at h;rw[e2] at h2;simp only[RV,Option.some.injEq] at h h2 hz;subst hz;refine aO.same (v:= .bool (n ^^ (p==q))) ?_ (by simp[RV]) (by simp[AV.ar]);have hq:(Op.equal t (.bool p) (.bool q)).run K.P w= .ok (p==q) w:=run_equalIn_bool' w 9999 t p q ht;rcases ja hn with⟨rfl,rfl⟩|⟨rfl,rfl⟩
  ·simp[execOp,ho,h,h2,eqGuard,binOp,hq]
  ·simp[execOp,ho,h,h2,eqGuard,binOp,hq]
 ·simp at hz
theorem th (d:Nat) {P:Program} {t e:TypeId} (ht:P.underlying t=some (.pointer e)) (q:Option Addr):(Op.equalIn (d+1) t (.pointer none) (.pointer q)).run P w= .ok q.isNone w:=by
 simp[Op.equalIn,run_underlying ht]
theorem tj (d:Nat) {P:Program} {t e:TypeId} (ht:P.underlying t=some (.pointer e)) (q:Addr):(Op.equalIn (d+1) t (.pointer (some q)) (.pointer none)).run P w= .ok false w:=by
 simp[Op.equalIn,run_underlying ht]
theorem tk (d:Nat) {P:Program} {t:TypeId} {ms:Array (String×TypeId)} (ht:P.underlying t=some (.interface ms)):(Op.equalIn (d+1) t .nilIface .nilIface).run P w= .ok true w:=by
 simp[Op.equalIn,run_underlying ht]
theorem tl (d:Nat) {P:Program} {t u:TypeId} {v:Value} {ms:Array (String×TypeId)} (ht:P.underlying t=some (.interface ms)):(Op.equalIn (d+1) t (.iface u v) .nilIface).run P w= .ok false w:=by
 simp[Op.equalIn,run_underlying ht]
theorem FF (hr:aM K β env H a w) {o:Oper} {op:BinOp} {t t2 e:TypeId} {x y:Operand} {x' y':O} {n:Bool} (ho:o.op= .binOp op t x y t2) (hn:jM op=some n)
  (ht:K.P.underlying t=some (.pointer e)) (hx:co K.G x=some x') (hy:co K.G y=some y') {z:AV} (hz:aa (.z7 n x' y') env=some z):aO K β H a w o z:=by
 have h:=hr.ev hx;have h2:=hr.ev hy;simp only[aa,Option.map_eq_some_iff] at hz;obtain⟨b,hb,rfl⟩:=hz
 have key:∀p q,a.eval x= .pointer p→a.eval y= .pointer q→(Op.equal t (.pointer p) (.pointer q)).run K.P w= .ok b w→aO K β H a w o (.bool (n ^^ b)):=by
  intro p q h3 h4 h5;refine aO.same (v:= .bool (n ^^ b)) ?_ (by simp[RV]) (by simp[AV.ar]);rcases ja hn with⟨rfl,rfl⟩|⟨rfl,rfl⟩
  ·simp[execOp,ho,h3,h4,eqGuard,binOp,h5]
  ·simp[execOp,ho,h3,h4,eqGuard,binOp,h5]
 have HN:∀q,(Op.equal t (.pointer none) (.pointer q)).run K.P w= .ok q.isNone w:=by
  intro q;exact th 9999 ht q
 have tm:∀q,(Op.equal t (.pointer (some q)) (.pointer none)).run K.P w= .ok false w:=by
  intro q;exact tj 9999 ht q
 cases e1:ev env x'<;>cases e2:ev env y'<;>rw[e1] at h<;>rw[e2] at h2<;>rw[e1,e2] at hb<;>simp[Jo] at hb<;>simp only[RV] at h h2<;>subst hb
 ·exact key _ _ h h2 (HN _)
 ·obtain⟨q,h2,_⟩:=h2;exact key _ _ h h2 (HN _)
 ·obtain⟨q,q2,h2,_⟩:=h2;exact key _ _ h h2 (HN _)
 ·obtain⟨q,h,_⟩:=h;exact key _ _ h h2 (tm _)
 ·obtain⟨q,q2,h,_⟩:=h;exact key _ _ h h2 (tm _)
theorem FG (hr:aM K β env H a w) {o:Oper} {op:BinOp} {t t2:TypeId} {ms:Array (String×TypeId)} {x y:Operand} {x' y':O} {n:Bool} (ho:o.op= .binOp op t x y t2) (hn:jM op=some n)
  (ht:K.P.underlying t=some (.interface ms)) (hc:ta y=true) (hx:co K.G x=some x') {z:AV} (hz:aa (.zP n x' y') env=some z):aO K β H a w o z:=by
 have h:=hr.ev hx
 have hy:y= .const .nilIface:=by
  cases y<;>simp[ta] at hc;rename_i v;cases v<;>simp at hc;rfl
 subst hy;simp only[aa] at hz;split at hz
 ·rename_i e1;rw[e1] at h;simp only[RV,Option.some.injEq] at h hz;subst hz;refine aO.same (v:= .bool (n ^^ true)) ?_ (by simp[RV]) (by simp[AV.ar]);have hq:(Op.equal t .nilIface .nilIface).run K.P w= .ok true w:=tk 9999 ht;rcases ja hn with⟨rfl,rfl⟩|⟨rfl,rfl⟩
  ·simp[execOp,ho,h,show a.eval (.const .nilIface)= .nilIface from rfl,eqGuard,binOp,hq]
  ·simp[execOp,ho,h,show a.eval (.const .nilIface)= .nilIface from rfl,eqGuard,binOp,hq]
 ·rename_i t' x0 e1;rw[e1] at h;simp only[RV,Option.some.injEq] at h hz;subst hz;obtain⟨u,h,_⟩:=h;refine aO.same (v:= .bool (n ^^ false)) ?_ (by simp[RV]) (by simp[AV.ar]);have hq:(Op.equal t (.iface t' u) .nilIface).run K.P w= .ok false w:=tl 9999 ht;rcases ja hn with⟨rfl,rfl⟩|⟨rfl,rfl⟩
  ·simp[execOp,ho,h,show a.eval (.const .nilIface)= .nilIface from rfl,eqGuard,binOp,hq]
  ·simp[execOp,ho,h,show a.eval (.const .nilIface)= .nilIface from rfl,eqGuard,binOp,hq]
 ·simp at hz
end
end Go.Am
