import Derived.Test.YtfinkeaikbmpgaaGreatDoorKAm1
set_option linter.unusedSimpArgs false
set_option linter.unusedVariables false
set_option linter.unnecessarySimpa false
set_option linter.defProp false
/- THE ABSTRACT MACHINE, part 5: cuts, comparisons, structs: the rest of the instructions that leave the rows alone. -/
namespace Go.Am
open Go Go.RowKit
section
variable {K:Kx} {β:Lb→Option Nat} {env:Env} {H:Hp} {a:Act} {w:World}
theorem aY (hr:aj K β env H a w) {lo:Option Operand} {gm:Option O} {d m n:Nat} (hc:br K.G lo=some gm) (h:gH env gm d m=some n) :
  (lo=none∧gm=none∧n=d)∨∃x k v,lo=some x∧gm.isSome=true∧a.eval x= .int k v∧0≤v∧v.toNat≤m∧n=v.toNat:=by
 cases lo with
 |none=>
  simp[br] at hc;subst hc;simp[gH] at h;exact .inl ⟨rfl,rfl,h.symm⟩
 |some x=>
  simp only[br,Option.map_eq_some_iff] at hc;obtain⟨y,h1,rfl⟩:=hc;have h2:=hr.ev h1;simp only[gH] at h;split at h
  ·rename_i k v e;rw[e] at h2;simp only[RV] at h2;split at h
   ·rename_i hv;simp only[Option.some.injEq] at h;exact .inr ⟨x,k,v,rfl,rfl,h2,hv.1,hv.2,h.symm⟩
   ·simp at h
  ·simp at h
theorem run_sliceBound {P:Program} {w:World} {k:IntKind} {v:Int} {y:Nat} (code:BoundsCode) (h0:0≤v) (h1:v.toNat≤y):(Instr.sliceBound (.int k v) y code).run P w= .ok v.toNat w:=by
 have:v≤(y:Int):=by omega
 simp[Instr.sliceBound,asIntOf,h0,this,Result.andThen]
theorem dY (hr:aj K β env H a w) {lo hi mx:Option Operand} {gm a7 mx':Option O} {n c l h:Nat} {m:Option Nat} (iu:br K.G lo=some gm) (jJ:br K.G hi=some a7)
  (iD:br K.G mx=some mx') (n8:n≤c) (hb:e7 env gm a7 mx' n=some (l,h,m)) :
  (Instr.sliceBounds true n c (lo.map a.eval) (hi.map a.eval) (mx.map a.eval)).run K.P w= .ok (l,h,m.getD c) w∧l≤h∧h≤n∧h≤m.getD c∧m.getD c≤c:=by
 unfold e7 at hb;cases mx' with
 |none=>
  simp only[Option.bind_eq_some_iff,Option.map_eq_some_iff,Prod.mk.injEq] at hb;obtain⟨h',h1,l',h2,rfl,rfl,rfl⟩:=hb
  have oG:mx=none:=by cases mx with
   |none=>rfl
   |some x=>simp[br] at iD
  subst oG;rcases aY hr jJ h1 with⟨rfl,rfl,rfl⟩|⟨x,k,v,rfl,_,e1,e2,e3,rfl⟩
  ·rcases aY hr iu h2 with⟨rfl,rfl,rfl⟩|⟨y,k,u,rfl,_,e4,e5,e6,rfl⟩
   ·exact⟨by simp[Instr.sliceBounds],by omega,by omega,by simpa using n8,by simp⟩
   ·exact⟨by simp[Instr.sliceBounds,e4,run_sliceBound _ e5 e6],by omega,by omega,by simpa using n8,by simp⟩
  ·rcases aY hr iu h2 with⟨rfl,rfl,rfl⟩|⟨y,k',u,rfl,_,e4,e5,e6,rfl⟩
   ·exact⟨by simp[Instr.sliceBounds,e1,run_sliceBound _ e2 (show v.toNat≤c by omega)],by omega,e3,by simp;omega,by simp⟩
   ·exact⟨by simp[Instr.sliceBounds,e1,e4,run_sliceBound _ e2 (show v.toNat≤c by omega),run_sliceBound _ e5 e6],e6,e3,by simp;omega,by simp⟩
 |some m0=>
  simp only at hb;split at hb
  ·simp at hb
  ·rename_i mq;simp only[Option.bind_eq_some_iff,Option.map_eq_some_iff,Prod.mk.injEq] at hb;obtain⟨m',h0,h',h1,l',h2,rfl,rfl,rfl⟩:=hb;rcases aY hr iD h0 with⟨rfl,h9,rfl⟩|⟨x1,k1,v1,rfl,_,e1,e2,e3,rfl⟩
   ·simp at h9
   ·rcases aY hr jJ h1 with⟨rfl,rfl,rfl⟩|⟨x2,k2,v2,rfl,_,f1,f2,f3,rfl⟩
    ·simp at mq
    ·have q1:v1.toNat≤c:=by omega
     rcases aY hr iu h2 with⟨rfl,rfl,rfl⟩|⟨x3,k3,v3,rfl,_,g1,g2,g3,rfl⟩
     ·exact⟨by simp[Instr.sliceBounds,e1,f1,run_sliceBound _ e2 q1,run_sliceBound _ f2 f3],by omega,by omega,f3,q1⟩
     ·exact⟨by simp[Instr.sliceBounds,e1,f1,g1,run_sliceBound _ e2 q1,run_sliceBound _ f2 f3,run_sliceBound _ g2 g3],g3,by omega,f3,q1⟩
theorem kz (hr:aj K β env H a w) {lo hi mx:Option Operand} {gm a7 mx':Option O} {n c l h:Nat} {m:Option Nat} (iu:br K.G lo=some gm) (jJ:br K.G hi=some a7)
  (iD:br K.G mx=some mx') (n8:n≤c) (hb:iC env gm a7 mx' n c=some (l,h,m)) :
  (Instr.sliceBounds true n c (lo.map a.eval) (hi.map a.eval) (mx.map a.eval)).run K.P w= .ok (l,h,m.getD c) w∧l≤h∧h≤c∧h≤m.getD c∧m.getD c≤c:=by
 unfold iC at hb;cases mx' with
 |none=>
  simp only[Option.bind_eq_some_iff,Option.map_eq_some_iff,Prod.mk.injEq] at hb;obtain⟨h',h1,l',h2,rfl,rfl,rfl⟩:=hb
  have oG:mx=none:=by cases mx with
   |none=>rfl
   |some x=>simp[br] at iD
  subst oG;rcases aY hr jJ h1 with⟨rfl,rfl,rfl⟩|⟨x,k,v,rfl,_,e1,e2,e3,rfl⟩
  ·rcases aY hr iu h2 with⟨rfl,rfl,rfl⟩|⟨y,k,u,rfl,_,e4,e5,e6,rfl⟩
   ·exact⟨by simp[Instr.sliceBounds],by omega,by omega,by simpa using n8,by simp⟩
   ·exact⟨by simp[Instr.sliceBounds,e4,run_sliceBound _ e5 e6],by omega,by omega,by simpa using n8,by simp⟩
  ·rcases aY hr iu h2 with⟨rfl,rfl,rfl⟩|⟨y,k',u,rfl,_,e4,e5,e6,rfl⟩
   ·exact⟨by simp[Instr.sliceBounds,e1,run_sliceBound _ e2 (show v.toNat≤c by omega)],by omega,e3,by simp;omega,by simp⟩
   ·exact⟨by simp[Instr.sliceBounds,e1,e4,run_sliceBound _ e2 (show v.toNat≤c by omega),run_sliceBound _ e5 e6],e6,e3,by simp;omega,by simp⟩
 |some m0=>
  simp only at hb;split at hb
  ·simp at hb
  ·rename_i mq;simp only[Option.bind_eq_some_iff,Option.map_eq_some_iff,Prod.mk.injEq] at hb;obtain⟨m',h0,h',h1,l',h2,rfl,rfl,rfl⟩:=hb;rcases aY hr iD h0 with⟨rfl,h9,rfl⟩|⟨x1,k1,v1,rfl,_,e1,e2,e3,rfl⟩
   ·simp at h9
   ·rcases aY hr jJ h1 with⟨rfl,rfl,rfl⟩|⟨x2,k2,v2,rfl,_,f1,f2,f3,rfl⟩
    ·simp at mq
    ·have q1:v1.toNat≤c:=by omega
     rcases aY hr iu h2 with⟨rfl,rfl,rfl⟩|⟨x3,k3,v3,rfl,_,g1,g2,g3,rfl⟩
     ·exact⟨by simp[Instr.sliceBounds,e1,f1,run_sliceBound _ e2 q1,run_sliceBound _ f2 f3],by omega,by omega,f3,q1⟩
     ·exact⟨by simp[Instr.sliceBounds,e1,f1,g1,run_sliceBound _ e2 q1,run_sliceBound _ f2 f3,run_sliceBound _ g2 g3],g3,by omega,f3,q1⟩
theorem eG {w:World} {I:Nat→Prop} {sz:Nat}:∀(n:Nat) (xs:List IV) (b o:Nat),ax w I xs b o sz→ax w I (xs.take n) b o sz
 |0,_,_,_,_=>by simp[ax]
 |n+1,[],_,_,_=>by simp[ax]
 |n+1,x::r,b,o,h=>by
  simp only[ax] at h;simp only[List.take_succ_cons,ax];exact⟨h.1,eG n r b (o+sz) h.2⟩
theorem eH {w:World} {I:Nat→Prop} {sz:Nat}:∀(n:Nat) (xs:List IV) (b o:Nat),ax w I xs b o sz→ax w I (xs.drop n) b (o+n*sz) sz
 |0,_,_,_,h=>by simpa using h
 |n+1,[],_,_,_=>by simp[ax]
 |n+1,x::r,b,o,h=>by
  simp only[ax] at h;simp only[List.drop_succ_cons];have:=eH n r b (o+sz) h.2
  rwa[show o+sz+n*sz=o+(n+1)*sz by rw[Nat.add_mul];omega] at this
theorem fO {w:World} {I:Nat→Prop} {sz s:Nat} {xs:List IV} {b o:Nat} (h:ax w I xs b o sz) (hs:iB s xs) (hn:0<xs.length):sz=s:=by
 cases xs with
 |nil=>simp at hn
 |cons x r=>
  simp only[ax] at h;have:=(bx w I x b o sz).1 h.1;rw[this.1];exact hs x (by simp)
theorem mr {xs:List IV} {I:Nat→Prop} {ad:Option Addr} {c s l h m:Nat} (fM:iB s xs) (hl:l≤h) (hh:h≤xs.length) (hm:h≤m) (wY:m≤c) (hc:c≤maxLen)
  (hx:xs.length=0∨∃b o sz,ad=some ⟨b,o,none⟩∧I b∧b<w.heap.size∧0<sz∧ax w I xs b o sz) :
  bA w I (.list ((xs.take h).drop l)) (.slice (if m=l then ad else ad.map (·.add (l*s))) (h - l) (m - l)):=by
 simp only[bA];have hlen:((xs.take h).drop l).length=h - l:=by simp;omega
 refine⟨_,m - l,by rw[hlen],by omega,by omega,?_⟩;rw[hlen];by_cases e:h - l=0
 ·exact .inl e
 ·right;rcases hx with hx|⟨b,o,sz,rfl,e1,e2,e3,e4⟩
  ·omega
  ·have cV:sz=s:=fO e4 fM (by omega);subst cV;refine⟨b,o+l*sz,sz,?_,e1,e2,e3,eH _ _ _ _ (eG _ _ _ _ e4)⟩;rw[if_neg (by omega)];simp[addr_add]
theorem rn (hr : aj K β env H a w) {o : Oper} {t e : TypeId} {x : Operand} {lo hi mx : Option Operand} {s : Nat} {x' : O} {gm a7 mx' : Option O} (ho : o.op = .slice t x lo hi mx)
   (ht:K.P.underlying t=some (.slice e)) (hs:eZ K.P e=some s) (hx:co K.G x=some x') (iu:br K.G lo=some gm) (jJ:br K.G hi=some a7) (iD:br K.G mx=some mx') {y:AV}
   (hy:aa (.mb x' gm a7 mx' s) env=some y):ai K β H a w o y:=by
 have hv:=hr.ev hx
 have hm:=hr.bd hx
 have run:∀(ad:Option Addr) (n c l h m:Nat),a.eval x= .slice ad n c→(Instr.sliceBounds true n c (lo.map a.eval) (hi.map a.eval) (mx.map a.eval)).run K.P w= .ok (l,h,m) w →
     (execOp a.eval o).run K.P w= .ok (.value (.slice (if m=l then ad else ad.map (·.add (l*s))) (h - l) (m - l))) w:=by
   intro ad n c l h m e1 e2
   simp[execOp,ho,Instr.sliceAt,run_underlying ht,Instr.slice,e1,e2,aC hs,Result.andThen]
 simp only[aa,oB] at hy
 split at hy
 · rename_i e1
   rw[e1] at hv
   simp only[RV] at hv
   obtain⟨ad,hv⟩:=hv
   simp only[Option.map_eq_some_iff] at hy
   obtain⟨⟨l,h,m⟩,h1,rfl⟩:=hy
   obtain⟨r1,r2,r3,r4,r5⟩:=dY hr iu jJ iD (Nat.le_refl 0) h1
   refine ai.same (run ad 0 0 l h _ hv r1) ?_ (by simp[AV.aw])
   have z1:h - l=0:=by omega
   have z2:m.getD 0 - l=0:=by omega
   rw[z1,z2]
   exact⟨_,rfl⟩
 · rename_i xs e1
   rw[e1] at hv
   simp only[RV,bA] at hv
   split at hy
   · rename_i fM
     obtain⟨ad,c,h3,h4,h5,h6⟩:=hv
     simp only[Option.map_eq_some_iff] at hy
     obtain⟨⟨l,h,m⟩,h1,rfl⟩:=hy
     obtain⟨r1,r2,r3,r4,r5⟩:=dY hr iu jJ iD h4 h1
     refine ai.same (run ad _ c l h _ h3 r1) ?_ (by split<;>simp[AV.aw])
     split
     · rename_i uX
       simp only at uX
       subst uX
       simp only[Option.getD_some] at r4 ⊢
       have z1:h - l=0:=by omega
       rw[z1]
       simp only[Nat.sub_self,if_true]
       exact⟨_,rfl⟩
     · simp only[RV]
       exact mr fM r2 r3 r4 r5 h5 h6
   · simp at hy
 · rename_i lb s' i n e1
   rw[e1] at hv hm
   simp only[RV] at hv
   split at hy
   · rename_i tj
     subst tj
     obtain⟨ad,c,h3,h4,h5,h6,h7⟩:=hv
     simp only[Option.bind_eq_some_iff] at hy
     obtain⟨⟨l,h,m⟩,h1,h2⟩:=hy
     obtain⟨r1,r2,r3,r4,r5⟩:=dY hr iu jJ iD h4 h1
     cases m with
     |some m=>simp at h2
     |none=>
       simp only[Option.isSome_none,Bool.false_eq_true,if_false,Option.some.injEq] at h2
       subst h2
       simp only[Option.getD_none] at r1 r4 r5
       refine ai.same (run ad _ c l h _ h3 r1) ?_ (by simpa[AV.aw] using hm)
       refine⟨_,_,rfl,by omega,by omega,fun hn=> ?_,fun hl=> ?_⟩
       · obtain⟨q,rfl⟩:=Option.isSome_iff_exists.1 (h6 (by omega))
         split<;>simp
       · by_cases hc : c = l
         · exact .inl (by omega)
         · right
           rcases h7 hl with h8|⟨g,S,k1,k2,k3,k4⟩
           · omega
           · subst k2
             refine⟨g,S,k1,?_,k3,?_⟩
             · rw[if_neg hc];simp[addr_add,Nat.add_mul]
             · rw[←k4];congr 1;omega
   · simp at hy
 · rename_i lb s' i n c0 e1
   rw[e1] at hv hm
   simp only[RV] at hv
   split at hy
   · rename_i tj
     subst tj
     obtain⟨ad,h3,h4,h5,h6,h7⟩:=hv
     simp only[Option.bind_eq_some_iff] at hy
     obtain⟨⟨l,h,m⟩,h1,h2⟩:=hy
     obtain⟨r1,r2,r3,r4,r5⟩:=kz hr iu jJ iD h4 h1
     cases m with
     |some m=>
       simp only[Option.isSome_some,if_true,Option.some.injEq] at h2
       subst h2
       exact ai.same (run ad _ c0 l h _ h3 r1) (by simp[RV]) (by simp[AV.aw])
     |none=>
       simp only[Option.isSome_none,Bool.false_eq_true,if_false,Option.some.injEq] at h2
       subst h2
       simp only[Option.getD_none] at r1 r4 r5
       refine ai.same (run ad _ c0 l h _ h3 r1) ?_ (by simpa[AV.aw] using hm)
       refine⟨_,rfl,by omega,by omega,fun hn=> ?_,fun hl=> ?_⟩
       · obtain⟨q,rfl⟩:=Option.isSome_iff_exists.1 (h6 (by omega))
         split<;>simp
       · by_cases hc : c0 = l
         · exact .inl (by omega)
         · right
           rcases h7 hl with h8|⟨g,S,k1,k2,k3,k4⟩
           · omega
           · subst k2
             refine⟨g,S,k1,?_,k3,?_⟩
             · rw[if_neg hc];simp[addr_add,Nat.add_mul]
             · rw[←k4];congr 1;omega
   · simp at hy
 · simp at hy
theorem oH (hr:aj K β env H a w) {o:Oper} {t:TypeId} {x:Operand} {lo hi:Option Operand} {x':O} {gm a7:Option O} (ho:o.op= .slice t x lo hi none)
  (ht:K.P.underlying t=some .string) (hx:co K.G x=some x') (iu:br K.G lo=some gm) (jJ:br K.G hi=some a7) {y:AV}
  (hy:aa (.gg x' gm a7) env=some y):ai K β H a w o y:=by
 have hv:=hr.ev hx;simp only[aa] at hy;split at hy
 ·rename_i s e1;rw[e1] at hv;simp only[RV] at hv;simp only[Option.bind_eq_some_iff,Option.map_eq_some_iff] at hy;obtain⟨h,h1,l,h2,rfl⟩:=hy;have hb:e7 env gm a7 none s.length=some (l,h,none):=by simp[e7,h1,h2]
  have tk:∀uY,(Instr.sliceBounds uY s.length s.length (lo.map a.eval) (hi.map a.eval) none).run K.P w= .ok (l,h,s.length) w:=by
   intro uY;rcases aY hr jJ h1 with⟨rfl,rfl,rfl⟩|⟨x,k,v,rfl,_,e1,e2,e3,rfl⟩
   ·rcases aY hr iu h2 with⟨rfl,rfl,rfl⟩|⟨y,k,u,rfl,_,e4,e5,e6,rfl⟩
    ·simp[Instr.sliceBounds]
    ·simp[Instr.sliceBounds,e4,run_sliceBound _ e5 e6]
   ·rcases aY hr iu h2 with⟨rfl,rfl,rfl⟩|⟨y,k',u,rfl,_,e4,e5,e6,rfl⟩
    ·simp[Instr.sliceBounds,e1,run_sliceBound _ e2 e3]
    ·simp[Instr.sliceBounds,e1,e4,run_sliceBound _ e2 e3,run_sliceBound _ e5 e6]
  obtain⟨_,r2,r3,_,_⟩:=dY hr iu jJ (mx:=none) (mx':=none) (by simp[br]) (Nat.le_refl _) hb;refine ai.same (v:= .string ((⟨s.toArray⟩:ByteArray).extract l h)) ?_ ?_ (by simp[AV.aw])
  ·simp[execOp,ho,Instr.sliceAt,run_underlying ht,Instr.slice,hv,dc,tk,Result.andThen]
  ·simp only[RV]
   congr 1
   apply ByteArray.ext;show((⟨s.toArray⟩:ByteArray).extract l h).data=((s.take h).drop l).toArray;rw[ByteArray.data_extract];simp only[List.extract_toArray]
   congr 1
   simp[List.extract,List.drop_take]
 ·simp at hy
end
end Go.Am

/- THE ABSTRACT MACHINE, part 6: comparisons, structs and new memory that nobody writes. -/
namespace Go.Am
open Go Go.RowKit
section
variable {w:World} {β:Lb→Option Nat} {H:Hp} {I:Nat→Prop}
theorem au.len:∀(cs:List AV) (vs:List Value),au w β H I cs vs→vs.length=cs.length
 |[],vs,h=>by simp[au] at h;simp[h]
 |x::r,vs,h=>by
  simp only[au] at h;obtain⟨v,us,rfl,_,h2⟩:=h;simp[au.len r us h2]
theorem au.get:∀(cs:List AV) (vs:List Value) (i:Nat) (x:AV),au w β H I cs vs→cs[i]?=some x→∃v,vs[i]?=some v∧RV w β H I x v
 |[],vs,i,x,h,hx=>by simp at hx
 |y::r,vs,0,x,h,hx=>by
  simp only[au] at h;obtain⟨v,us,rfl,h1,h2⟩:=h;simp at hx;subst hx;exact⟨v,by simp,h1⟩
 |y::r,vs,i+1,x,h,hx=>by
  simp only[au] at h;obtain⟨v,us,rfl,h1,h2⟩:=h;obtain⟨u,k1,k2⟩:=au.get r us i x h2 (by simpa using hx);exact⟨u,by simpa using k1,k2⟩
theorem au.drop:∀(n:Nat) (cs:List AV) (vs:List Value),au w β H I cs vs→au w β H I (cs.drop n) (vs.drop n)
 |0,_,_,h=>by simpa using h
 |n+1,[],vs,h=>by simp[au] at h;simp[h,au]
 |n+1,x::r,vs,h=>by
  simp only[au] at h;obtain⟨v,us,rfl,h1,h2⟩:=h;simpa using au.drop n r us h2
theorem au.take:∀(n:Nat) (cs:List AV) (vs:List Value),au w β H I cs vs→au w β H I (cs.take n) (vs.take n)
 |0,_,_,_=>by simp[au]
 |n+1,[],vs,h=>by simp[au] at h;simp[h,au]
 |n+1,x::r,vs,h=>by
  simp only[au] at h;obtain⟨v,us,rfl,h1,h2⟩:=h;simp only[List.take_succ_cons,au];exact⟨v,us.take n,rfl,h1,au.take n r us h2⟩
theorem au.append:∀(cs:List AV) (vs:List Value) (ds:List AV) (us:List Value),au w β H I cs vs→au w β H I ds us→au w β H I (cs++ds) (vs++us)
 |[],vs,ds,us,h,h2=>by simp[au] at h;subst h;simpa using h2
 |x::r,vs,ds,us,h,h2=>by
  simp only[au] at h;obtain⟨v,sL,rfl,h1,h3⟩:=h;simp only[List.cons_append,au];exact⟨v,sL++us,rfl,h1,au.append r sL ds us h3 h2⟩
theorem au.gn:∀(cs:List IV) (b o:Nat),ay w I cs b o→∃vs:List Value,au w β H I (cs.map IV.bV) vs∧vs.length=cs.length∧∀j v,vs[j]?=some v→w.cell? ⟨b,o+j,none⟩=some v
 |[],b,o,h=>⟨[],by simp[au],rfl,by simp⟩
 |x::r,b,o,h=>by
  simp only[ay] at h;obtain⟨⟨v,h1,h2⟩,h3⟩:=h;obtain⟨vs,k1,k2,k3⟩:=au.gn r b (o+1) h3;refine⟨v::vs,?_,by simp[k2],?_⟩
  ·simp only[List.map_cons,au];refine⟨v,vs,rfl,?_,k1⟩;cases x<;>simp[bA] at h2<;>simp[IV.bV,RV,h2];simpa[bA] using h2
  ·intro j u hj;cases j with
   |zero=>simp at hj;subst hj;exact h1
   |succ j=>
    have:=k3 j u (by simpa using hj)
    rwa[show o+1+j=o+(j+1) by omega] at this
theorem RV.iv:∀{x:AV} {y:IV} {v:Value},x.iv=some y→RV w β H I x v→bA w I y v:=by
 intro x y v h hv;cases x<;>simp[AV.iv] at h<;>subst h<;>simp only[RV] at hv<;>simp only[bA]
 case nil0=>
  obtain⟨a,rfl⟩:=hv;exact⟨a,0,rfl,by simp,by simp[maxLen],.inl (by simp)⟩
 case ifc=>
  obtain⟨u,rfl,_⟩:=hv;exact⟨u,rfl⟩
 all_goals first|exact hv|simpa[bA] using hv
theorem kA {x:AV} {y:IV} (h:x.iv=some y):y.cells=[y]:=by
 cases x<;>simp[AV.iv] at h<;>subst h<;>rfl
theorem ct:∀(cs:List AV) (ys:List IV) (vs:List Value) (b o:Nat),iy cs=some ys→au w β H I cs vs→(∀j v,vs[j]?=some v→w.cell? ⟨b,o+j,none⟩=some v)→ay w I ys b o
 |[],ys,vs,b,o,h,_,_=>by simp[iy] at h;subst h;simp[ay]
 |x::r,ys,vs,b,o,h,hv,hc=>by
  simp only[iy,Option.bind_eq_some_iff,Option.map_eq_some_iff] at h;obtain⟨y,h1,s,h2,rfl⟩:=h;simp only[au] at hv;obtain⟨v,us,rfl,k1,k2⟩:=hv;simp only[ay];refine⟨⟨v,by simpa using hc 0 v (by simp),RV.iv h1 k1⟩,ct r s us b (o+1) h2 k2 (fun j u hj=> ?_)⟩;have:=hc (j+1) u (by simpa using hj)
  rwa[show o+(j+1)=o+1+j by omega] at this
theorem jf:∀(cs:List AV) (ys:List IV),iy cs=some ys→ys.length=cs.length
 |[],ys,h=>by simp[iy] at h;subst h;rfl
 |x::r,ys,h=>by
  simp only[iy,Option.bind_eq_some_iff,Option.map_eq_some_iff] at h;obtain⟨y,h1,s,h2,rfl⟩:=h;simp[jf r s h2]
theorem RV.cells {x:AV} {v:Value} (h:RV w β H I x v) (hx:∀cs,x= .agg cs→True) (ha:(∃cs,x= .agg cs)∨v.oneCell'=true):au w β H I x.cells v.cells.toList:=by
 cases x
 case agg cs=>
  simp only[RV] at h;obtain⟨vs,rfl,h1⟩:=h;simpa[AV.cells,Value.cells] using h1
 all_goals
  rcases ha with⟨cs,hc⟩|ha
  ·cases hc
  ·have:v.cells=#[v]:=by cases v<;>simp_all[Value.cells,Value.oneCell']
   simp only[AV.cells,au,this];exact⟨v,[],by simp,h,rfl⟩
theorem RV.dZ {x:AV} {v:Value} (h:RV w β H I x v) (hx:x.one=true):v.oneCell'=true:=by
 cases x<;>simp[AV.one] at hx<;>simp only[RV,bA] at h
 case list=>obtain⟨a,c,rfl,_⟩:=h;rfl
 case nil0=>obtain⟨a,rfl⟩:=h;rfl
 case sl=>obtain⟨a,c,rfl,_⟩:=h;rfl
 case slk=>obtain⟨a,rfl,_⟩:=h;rfl
 case ptr=>obtain⟨a,rfl,_⟩:=h;rfl
 case lptr=>obtain⟨b,o,rfl,_⟩:=h;rfl
 case fn=>obtain⟨vs,us,rfl,_⟩:=h;rfl
 case ifc=>obtain⟨u,rfl,_⟩:=h;rfl
 all_goals (subst h;rfl)
end
section
variable {K:Kx} {β:Lb→Option Nat} {env:Env} {H:Hp} {a:Act} {w:World}
theorem rp (hr:aj K β env H a w) {o:Oper} {t:TypeId} {x:Operand} {x':O} (ho:o.op= .unOp .not t x) (hx:co K.G x=some x') {y:AV}
  (hy:aa (.not x') env=some y):ai K β H a w o y:=by
 have h:=hr.ev hx;simp only[aa] at hy;split at hy
 ·rename_i b e;rw[e] at h;simp only[RV,Option.some.injEq] at h hy;subst hy;exact ai.same (v:= .bool !b) (by simp[execOp,ho,h,Op.unary]) (by simp[RV]) (by simp[AV.aw])
 ·simp at hy
theorem rq (hr:aj K β env H a w) {o:Oper} {t:TypeId} {x:Operand} {x':O} (ho:o.op= .unOp .neg t x) (hx:co K.G x=some x') {y:AV}
  (hy:aa (.neg x') env=some y):ai K β H a w o y:=by
 have h:=hr.ev hx;simp only[aa] at hy;split at hy
 ·rename_i k n e;rw[e] at h;simp only[RV,Option.some.injEq] at h hy;subst hy;exact ai.same (v:= .int k (k.wrap (0 - n))) (by simp[execOp,ho,h,Op.unary,Op.intArith]) (by simp[RV]) (by simp[AV.aw])
 ·simp at hy
theorem rr (hr:aj K β env H a w) {o:Oper} {c:Call} {x y:Operand} {x' y':O} (ho:o.op= .call c) (hc:c.callee= .builtin .max) (ha:c.args.toList=[x,y])
  (hx:co K.G x=some x') (hy:co K.G y=some y') {z:AV} (hz:aa (.max x' y') env=some z):ai K β H a w o z:=by
 have h:=hr.ev hx;have h2:=hr.ev hy;have gl:c.args=#[x,y]:=by cases hh:c.args;simp_all
 simp only[aa] at hz;split at hz
 ·rename_i k m k' n e1 e2;rw[e1] at h;rw[e2] at h2;simp only[RV] at h h2;split at hz
  ·simp only[Option.some.injEq] at hz;subst hz;refine ai.same (v:= .int k (if n>m then n else m)) ?_ (by simp[RV]) (by simp[AV.aw]);simp[execOp,ho,resolve,hc,gl,h,h2,invoke,builtin,Builtin.max_,Builtin.max2,List.foldlM]
  ·simp at hz
 ·simp at hz
theorem ru (hr:aj K β env H a w) {o:Oper} {c:Call} {x y:Operand} {x' y':O} (ho:o.op= .call c) (hc:c.callee= .builtin .min) (ha:c.args.toList=[x,y])
  (hx:co K.G x=some x') (hy:co K.G y=some y') {z:AV} (hz:aa (.min x' y') env=some z):ai K β H a w o z:=by
 have h:=hr.ev hx;have h2:=hr.ev hy;have gl:c.args=#[x,y]:=by cases hh:c.args;simp_all
 simp only[aa] at hz;split at hz
 ·rename_i k m k' n e1 e2;rw[e1] at h;rw[e2] at h2;simp only[RV] at h h2;split at hz
  ·simp only[Option.some.injEq] at hz;subst hz;refine ai.same (v:= .int k (if n<m then n else m)) ?_ (by simp[RV]) (by simp[AV.aw]);simp[execOp,ho,resolve,hc,gl,h,h2,invoke,builtin,Builtin.min_,Builtin.min2,List.foldlM]
  ·simp at hz
 ·simp at hz
theorem aL:∀(cs:List AV) (i:Nat) (x:AV),cs[i]?=some x→∀l∈x.aw,l∈ak cs
 |[],i,x,h=>by simp at h
 |y::r,0,x,h=>by simp at h;subst h;intro l hl;simp[ak,hl]
 |y::r,i+1,x,h=>by
  intro l hl;have:=aL r i x (by simpa using h) l hl;simp[ak,this]
theorem rz (hr:aj K β env H a w) {o:Oper} {x:Operand} {i:Nat} {x':O} (ho:o.op= .extract x i) (hx:co K.G x=some x') {y:AV}
  (hy:aa (.ext x' i) env=some y):ai K β H a w o y:=by
 have h:=hr.ev hx;have hm:=hr.bd hx;simp only[aa] at hy;split at hy
 ·rename_i cs e;rw[e] at h hm;simp only[RV] at h;obtain⟨vs,h1,h2⟩:=h;obtain⟨v,k1,k2⟩:=au.get _ _ _ _ h2 hy;refine ai.same (v:=v) ?_ k2 (fun l hl=>hm l (by simpa[AV.aw] using aL _ _ _ hy l hl));simp[execOp,ho,h1,Instr.extract,k1]
 ·simp at hy
theorem oI (hr:aj K β env H a w) {o:Oper} {x:Operand} {x':O} (ho:o.op= .nilCheck x) (hx:co K.G x=some x') {y:AV}
  (hy:aa (.c_ x') env=some y):ai K β H a w o y:=by
 have h:=hr.ev hx;have hm:=hr.bd hx;simp only[aa] at hy;split at hy
 ·rename_i l sz i j e;simp only[Option.some.injEq] at hy;subst hy;rw[e] at h hm;have h':=h;simp only[RV] at h;obtain⟨ad,h1,h2⟩:=h;exact ai.same (v:=a.eval x) (by simp[execOp,ho,h1]) h' hm
 ·rename_i cs e;simp only[Option.some.injEq] at hy;subst hy;rw[e] at h hm;have h':=h;simp only[RV] at h;obtain⟨b,o',h1,h2⟩:=h;exact ai.same (v:=a.eval x) (by simp[execOp,ho,h1]) h' hm
 ·rename_i f p q e;simp only[Option.some.injEq] at hy;subst hy;rw[e] at h hm;have h':=h;simp only[RV] at h;obtain⟨vs,us,h1,h2⟩:=h;exact ai.same (v:=a.eval x) (by simp[execOp,ho,h1]) h' hm
 ·simp at hy
theorem cu (hr:aj K β env H a w):∀(xs:List Operand) (ys:List O),cos K.G xs=some ys→au w β H (Im K β H) (ys.map (ev env)) (xs.map a.eval)
 |[],ys,h=>by simp[cos] at h;subst h;simp[au]
 |x::r,ys,h=>by
  simp only[cos,Option.bind_eq_some_iff,Option.map_eq_some_iff] at h;obtain⟨y,h1,s,h2,rfl⟩:=h;simp only[List.map_cons,au];exact⟨_,_,rfl,hr.ev h1,cu hr r s h2⟩
theorem cy (hr:aj K β env H a w):∀(xs:List Operand) (ys:List O),cos K.G xs=some ys→∀l∈ak (ys.map (ev env)),H l≠ .unused
 |[],ys,h=>by simp[cos] at h;subst h;simp[ak]
 |x::r,ys,h=>by
  simp only[cos,Option.bind_eq_some_iff,Option.map_eq_some_iff] at h;obtain⟨y,h1,s,h2,rfl⟩:=h;intro l hl;simp only[List.map_cons,ak,List.mem_append] at hl;exact hl.elim (hr.bd h1 l) (cy hr r s h2 l)
theorem rA (hr:aj K β env H a w) {o:Oper} {f:Nat} {first cap:Array Operand} {cs:List O} (ho:o.op= .makeFunc (.func f) first cap) (hf:first.isEmpty=true)
  (hc:cos K.G cap.toList=some cs) {y:AV} (hy:aa (.mf f cs) env=some y):ai K β H a w o y:=by
 simp only[aa,Option.some.injEq] at hy;subst hy;have sM:first=#[]:=by simpa using hf
 refine ai.same (v:= .func (.func f) #[] (cap.toList.map a.eval).toArray) ?_ ?_ ?_
 ·simp[execOp,ho,Instr.makeFunc,sM];cases cap;simp
 ·simp only[RV,au];exact⟨[],_,by simp,rfl,cu hr _ _ hc⟩
 ·simpa[AV.aw,ak] using cy hr _ _ hc
theorem rB (hr:aj K β env H a w) {o:Oper} {f:Nat} {first cap:Array Operand} {qs cs:List O} (ho:o.op= .makeFunc (.func f) first cap) (hq:cos K.G first.toList=some qs)
  (hc:cos K.G cap.toList=some cs) {y:AV} (hy:aa (.ml f qs cs) env=some y):ai K β H a w o y:=by
 simp only[aa,Option.some.injEq] at hy;subst hy;refine ai.same (v:= .func (.func f) (first.toList.map a.eval).toArray (cap.toList.map a.eval).toArray) ?_ ?_ ?_
 ·simp[execOp,ho,Instr.makeFunc];cases cap;cases first
  simp
 ·simp only[RV];exact⟨_,_,rfl,cu hr _ _ hq,cu hr _ _ hc⟩
 ·intro l hl;simp only[AV.aw,List.mem_append] at hl;rcases hl with hl|hl
  ·exact cy hr _ _ hq l hl
  ·exact cy hr _ _ hc l hl
theorem rC (hr:aj K β env H a w) {o:Oper} {s d:TypeId} {x:Operand} {x':O} {k k':IntKind} (ho:o.op= .convert s d x) (hs:K.P.underlying s=some (.int k')) (hd:K.P.underlying d=some (.int k))
  (hx:co K.G x=some x') {y:AV} (hy:aa (.mg k x') env=some y):ai K β H a w o y:=by
 have h:=hr.ev hx;simp only[aa] at hy;split at hy
 ·rename_i j n e;rw[e] at h;simp only[RV,Option.some.injEq] at h hy;subst hy;exact ai.same (v:= .int k (k.wrap n)) (by simp[execOp,ho,h,convert,run_underlying hs,run_underlying hd,Conv.intToInt]) (by simp[RV]) (by simp[AV.aw])
 ·simp at hy
theorem rD (hr:aj K β env H a w) {o:Oper} {s d:TypeId} {x:Operand} {x':O} (ho:o.op= .convert s d x) (hs:K.P.underlying s=some .string) (hd:K.P.underlying d=some .string)
  (hx:co K.G x=some x') {y:AV} (hy:aa (.dr x') env=some y):ai K β H a w o y:=by
 have h:=hr.ev hx;simp only[aa] at hy;split at hy
 ·rename_i t e;rw[e] at h;simp only[RV,Option.some.injEq] at h hy;subst hy;exact ai.same (v:=a.eval x) (by simp[execOp,ho,h,convert,run_underlying hs,run_underlying hd]) (by simpa[RV] using h) (by simp[AV.aw])
 ·simp at hy
theorem oJ (hr:aj K β env H a w) {o:Oper} {t:TypeId} {x:Operand} {x':O} {d:TypeDesc} (ho:o.op= .makeInterface t x) (ht:K.P.underlying t=some d) (hd:∀ms,d≠ .interface ms)
  (hx:co K.G x=some x') {y:AV} (hy:aa (.gi t x') env=some y):ai K β H a w o y:=by
 have h:=hr.ev hx;simp only[aa,Option.some.injEq] at hy;subst hy;refine ai.same (v:= .iface t (a.eval x)) ?_ ⟨_,rfl,h⟩ (by simpa[AV.aw] using hr.bd hx);cases d<;>simp[execOp,ho,Instr.makeInterface,run_underlying ht];exact absurd rfl (hd _)
end
end Go.Am

/- THE ABSTRACT MACHINE, part 7: structs made, boxed, loaded from memory that nobody writes. -/
namespace Go.Am
open Go Go.RowKit
theorem d_ (off:Nat):∀(l:List Value) (k:Nat) (arr:Array Value),off+k+l.length≤arr.size →
  ((l.zipIdx k).foldl (fun cs (p:Value×Nat)=>cs.setIfInBounds (off+p.2) p.1) arr).toList=arr.toList.take (off+k)++l++arr.toList.drop (off+k+l.length)
 |[],k,arr,h=>by simp
 |v::r,k,arr,h=>by
  simp only[List.length_cons] at h;simp only[List.zipIdx_cons,List.foldl_cons];rw[d_ off r (k+1) (arr.setIfInBounds (off+k) v) (by simp;omega)];simp only[Array.toList_setIfInBounds,List.length_cons];rw[show off+(k+1)+r.length=off+k+(r.length+1) by omega,show off+(k+1)=off+k+1 by omega];have dI:off+k<arr.toList.length:=by simp;omega
  have h1:(arr.toList.set (off+k) v).take (off+k+1)=arr.toList.take (off+k)++[v]:=by
   have hl:(arr.toList.take (off+k)).length=off+k:=by rw[List.length_take];omega
   rw[List.take_set,List.take_succ_eq_append_getElem dI,List.set_append_right _ _ (by omega),hl,Nat.sub_self];rfl
  have h2:(arr.toList.set (off+k) v).drop (off+k+(r.length+1))=arr.toList.drop (off+k+(r.length+1)):=by
   rw[List.drop_set_of_lt (by omega)]
  rw[h1,h2];simp
section
variable {w:World} {β:Lb→Option Nat} {H:Hp} {I:Nat→Prop}
theorem au.dk {x:AV} {v:Value} (h:RV w β H I x v) (hx:(∃cs,x= .agg cs)∨x.one=true):v.cells.size=x.cells.length∧au w β H I x.cells v.cells.toList:=by
 have h2:au w β H I x.cells v.cells.toList:=RV.cells h (fun _ _=>trivial) (by
  rcases hx with hx|hx
  ·exact .inl hx
  ·exact .inr (RV.dZ h hx))
 exact⟨by rw[←au.len _ _ h2];simp,h2⟩
theorem AV.iE {x:AV} (h:x.jH=true):(∃cs,x= .agg cs)∨x.one=true:=by
 cases x<;>first|exact .inl ⟨_,rfl⟩|exact .inr (by simpa[AV.jH] using h)
inductive cz {α γ:Type} (R:α→γ→Prop):List α→List γ→Prop
 |nil:cz R [] []
 |cons {a:α} {b:γ} {l:List α} {m:List γ}:R a b→cz R l m→cz R (a::l) (b::m)
theorem ea (place:Nat→Option (Nat×Nat)):∀(ps:List (Nat×Value)) (qs:List (Nat×Nat×AV)) (cs kl:List AV) (cur:Array Value),
  au w β H I cs cur.toList→bI cs qs=some kl →
  cz (fun(p:Nat×Value) (q:Nat×Nat×AV)=>place p.1=some (q.1,q.2.1)∧RV w β H I q.2.2 p.2) ps qs →
  ∃cur',Instr.fill place cur ps=some cur'∧au w β H I kl cur'.toList
 |[],qs,cs,kl,cur,h,hf,ha=>by
  cases ha;simp only[bI,Option.some.injEq] at hf;subst hf;exact⟨cur,rfl,h⟩
 |p::ps,qs,cs,kl,cur,h,hf,ha=>by
  cases ha with
  |@cons _ q _ qs hq qM=>
   obtain⟨off,sz,x⟩:=q;obtain⟨i,v⟩:=p;obtain⟨h1,h2⟩:=hq;simp only at h1 h2;simp only[bI] at hf;split at hf
   ·rename_i cV;obtain⟨h3,cV⟩:=cV;obtain⟨k1,k2⟩:=au.dk h2 (AV.iE h3);have hlen:cur.size=cs.length:=by rw[←au.len _ _ h];simp
    have vC:¬(v.cells.size≠sz||decide (off+v.cells.size>cur.size))=true:=by
     simp only[Bool.or_eq_true,decide_eq_true_eq,not_or];omega
    have uZ:=d_ off v.cells.toList 0 cur (by simp;omega);simp only[Nat.add_zero] at uZ
    obtain⟨cur',e1,e2⟩:=ea place ps qs _ kl (v.cells.zipIdx.foldl (fun cs (p:Value×Nat)=>cs.setIfInBounds (off+p.2) p.1) cur) (by
     rw[←Array.foldl_toList,Array.toList_zipIdx,uZ];have:v.cells.toList.length=sz:=by simp;omega
     rw[this];exact au.append _ _ _ _ (au.append _ _ _ _ (au.take _ _ _ h) k2) (au.drop _ _ _ h)) hf qM
    refine⟨cur',?_,e2⟩;simp only[Instr.fill,h1];rw[if_neg vC];exact e1
   ·simp at hf
end
section
variable {K:Kx} {β:Lb→Option Nat} {env:Env} {H:Hp} {a:Act} {w:World}
theorem cW {P:Program} {t:TypeId} {m:Nat} (hm:jG P t=some (some m)) (ad:Addr) (cs:List Value) (hl:cs.length=m)
  (h:∀j v,cs[j]?=some v→w.cell? (ad.add j)=some v):(loadVar t ad).run P w= .ok (.agg cs.toArray) w:=by
 have hu:(isAgg t).run P w= .ok true w∧eZ P t=some m:=by
  unfold jG at hm;split at hm
  ·rename_i fs l4;obtain⟨s,h1,h2⟩:=Option.map_eq_some_iff.1 hm;cases h2;exact⟨by simp[isAgg,run_underlying l4],h1⟩
  ·rename_i n e l4;obtain⟨s,h1,h2⟩:=Option.map_eq_some_iff.1 hm;cases h2;exact⟨by simp[isAgg,run_underlying l4],h1⟩
  ·simp at hm
  ·simp at hm
 subst hl;simp[loadVar,hu.1,aC hu.2,run_loadCells_list (P:=P) w ad cs h,Result.andThen]
theorem cX {P:Program} {t:TypeId} (hm:jG P t=some none) (ad:Addr) (v:Value) (h:w.cell? ad=some v):(loadVar t ad).run P w= .ok v w:=by
 have hu:(isAgg t).run P w= .ok false w:=by
  unfold jG at hm;split at hm
  ·simp at hm
  ·simp at hm
  ·rename_i d h1 h2 hd;have vD:∀f,d≠ .struct f:=fun f e=>h1 f e
   have vE:∀n e,d≠ .array n e:=fun n e q=>h2 n e q
   cases d<;>simp[isAgg,run_underlying hd]
   ·exact(vE _ _ rfl).elim
   ·exact(vD _ rfl).elim
  ·simp at hm
 simp[loadVar,hu,h]
theorem cH:∀(cs:List IV),ak (cs.map IV.bV)=[]
 |[]=>by simp[ak]
 |x::r=>by
  simp only[List.map_cons,ak,cH r,List.append_nil];cases x<;>simp[IV.bV,AV.aw]
theorem eI {w:World} {I:Nat→Prop}:∀(n:Nat) (cs:List IV) (b o:Nat),ay w I cs b o→ay w I (cs.take n) b o
 |0,_,_,_,_=>by simp[ay]
 |n+1,[],_,_,_=>by simp[ay]
 |n+1,x::r,b,o,h=>by
  simp only[ay] at h;simp only[List.take_succ_cons,ay];exact⟨h.1,eI n r b (o+1) h.2⟩
theorem mu (hr:aj K β env H a w) {o:Oper} {t:TypeId} {x:Operand} {x':O} {m:Option Nat} (ho:o.op= .load t x) (hm:jG K.P t=some m) (hx:co K.G x=some x') {y:AV}
  (hy:aa (.load m x') env=some y):ai K β H a w o y:=by
 have h:=hr.ev hx;simp only[aa] at hy;split at hy
 ·rename_i cs e;rw[e] at h;simp only[RV] at h;obtain⟨b,of,h1,h2,h3,h4⟩:=h;obtain⟨vs,k1,k2,k3⟩:=au.gn (β:=β) (H:=H) cs b of h4
  have run:∀v,(loadVar t ⟨b,of,none⟩).run K.P w= .ok v w→(execOp a.eval o).run K.P w= .ok (.value v) w:=by
   intro v hv;simp[execOp,ho,h1,Instr.loadAt,Instr.sureAddr,hv]
  cases m with
  |none=>
   simp only[Option.map_eq_some_iff] at hy;obtain⟨z,hz,rfl⟩:=hy;obtain⟨v,e1,e2⟩:=au.get _ _ 0 (z.bV) k1 (by simp[hz]);refine ai.same (run v (cX hm _ _ (by simpa using k3 0 v e1))) e2 ?_;cases z<;>simp[IV.bV,AV.aw]
  |some k=>
   simp only at hy;split at hy
   ·rename_i hk;simp only[Option.some.injEq] at hy;subst hy;refine ai.same (run (.agg (vs.take k).toArray) (cW hm _ _ (by simp;omega) (fun j v hj=> ?_))) ?_ ?_
    ·rw[List.getElem?_take] at hj;split at hj
     ·rw[addr_add];exact k3 j v hj
     ·simp at hj
    ·simp only[RV];exact⟨_,rfl,by rw[List.map_take];exact au.take _ _ _ k1⟩
    ·intro l hl;simp only[AV.aw,cH] at hl;simp at hl
   ·simp at hy
 ·simp at hy
theorem aj.fresh (hr:aj K β env H a w):Im K β H w.heap.size:=by
 refine⟨.inr hr.frame.size,fun l hl hb=> ?_⟩;obtain⟨r,jK⟩:=hl;obtain⟨_,_,h3⟩:=hr.rows l r jK;simp only[hb] at h3;obtain⟨cur,e,cap,h4,_⟩:=h3;have:=(Array.getElem?_eq_some_iff.1 h4).1;omega
theorem aZ (w:World) (o:Obj):cZ w (w.alloc o):=(Below.refl _ _).alloc (Nat.le_refl _) o
theorem er (w:World):cZ w w.drew:=(Below.refl _ _).drew
theorem e8 (w:World) (c:Array Value) (e:TypeId) (j:Nat):(w.alloc (.cells c e)).cell? ⟨w.heap.size,j,none⟩=c[j]?:=by
 simp
theorem oK (hr:aj K β env H a w) {o:Oper} {t:TypeId} {x:Operand} {x':O} (ho:o.op= .box t x) (hx:co K.G x=some x') {y:AV}
  (hy:aa (.fz x') env=some y):ai K β H a w o y:=by
 have h:=hr.ev hx;simp only[aa,Option.map_eq_some_iff] at hy;obtain⟨ys,h1,rfl⟩:=hy
 have bE:(∃cs,ev env x'= .agg cs)∨(ev env x').one=true:=by
  cases hc:ev env x'<;>simp[hc,AV.cells,iy,AV.iv] at h1<;>first|exact .inl ⟨_,rfl⟩|exact .inr rfl
 obtain⟨k1,k2⟩:=au.dk h bE;have hg:=aZ w (.cells (a.eval x).cells t);refine⟨.pointer (some ⟨w.heap.size,0,none⟩),w.alloc (.cells (a.eval x).cells t),?_,hg,?_,by simp[AV.aw]⟩
 ·simp[execOp,ho,Instr.box,newVar,newRow]
 ·simp only[RV];refine⟨_,0,rfl,hr.fresh,by simp,?_⟩;refine ct _ _ _ _ _ h1 (au.mono _ _ (hg.fK β H _ _) k2) (fun j v hj=> ?_);rw[Nat.zero_add,e8];simpa using hj
theorem b7:∀(l:List Value) (xs:List AV),dr l=some xs→∀(w:World) (β:Lb→Option Nat) (H:Hp) (I:Nat→Prop),au w β H I xs l
 |[],xs,h,w,β,H,I=>by simp[dr] at h;subst h;simp[au]
 |v::r,xs,h,w,β,H,I=>by
  simp only[dr,Option.bind_eq_some_iff,Option.map_eq_some_iff] at h;obtain⟨x,h1,s,h2,rfl⟩:=h;simp only[au];exact⟨v,r,rfl,n3 h1 _ _ _ _,b7 r s h2 w β H I⟩
theorem e9 (z:Array Value) (zs:List AV) (w:World) (β:Lb→Option Nat) (H:Hp) (I:Nat→Prop) (h:au w β H I zs z.toList) (hz:0<z.size):∀n:Nat,
  au w β H I ((List.replicate n zs).flatten) ((Array.range (n*z.size)).map (fun i=>z[i%z.size]!)).toList
 |0=>by simp[au]
 |n+1=>by
  have ih:=e9 z zs w β H I h hz n
  have e1:(List.replicate (n+1) zs).flatten=(List.replicate n zs).flatten++zs:=by
   rw[List.replicate_succ'];simp
  have e2:((Array.range ((n+1)*z.size)).map (fun i=>z[i%z.size]!)).toList=((Array.range (n*z.size)).map (fun i=>z[i%z.size]!)).toList++z.toList:=by
   simp only[Array.toList_map,Array.toList_range];rw[Nat.add_mul,Nat.one_mul,List.range_add,List.map_append]
   congr 1
   rw[List.map_map];apply List.ext_getElem
   ·simp
   ·intro i h1 h2;simp at h1 h2;simp[Nat.mod_eq_of_lt h1,h1]
  rw[e1,e2];exact au.append _ _ _ _ ih h
theorem dJ (hr:aj K β env H a w) (place:Nat→Option (Nat×Nat)):∀(ps:List (Nat×Operand)) (xs:List O) (qs:List (Nat×Nat×O)),cos K.G (ps.map (·.2))=some xs →
  qs.length=ps.length→(∀(i:Nat) (p:Nat×Operand) (x:O) (q:Nat×Nat×O),ps[i]?=some p→xs[i]?=some x→qs[i]?=some q→q.2.2=x∧place p.1=some (q.1,q.2.1)) →
  cz (fun(p:Nat×Value) (q:Nat×Nat×AV)=>place p.1=some (q.1,q.2.1)∧RV w β H (Im K β H) q.2.2 p.2)
   (ps.map fun p=>(p.1,a.eval p.2)) (qs.map fun q=>(q.1,q.2.1,ev env q.2.2))
 |[],xs,qs,h,hl,hp=>by
  have:qs=[]:=List.eq_nil_of_length_eq_zero (by simpa using hl);subst this;exact .nil
 |p::ps,xs,qs,h,hl,hp=>by
  cases qs with
  |nil=>simp at hl
  |cons q qs=>
   simp only[List.map_cons,cos,Option.bind_eq_some_iff,Option.map_eq_some_iff] at h;obtain⟨y,h1,s,h2,rfl⟩:=h;obtain⟨k1,k2⟩:=hp 0 p y q (by simp) (by simp) (by simp);simp only[List.map_cons]
   refine .cons ⟨k2,?_⟩ (dJ hr place ps s qs h2 (by simpa using hl)
    (fun i p' x' q' g1 g2 g3=>hp (i+1) p' x' q' (by simpa using g1) (by simpa using g2) (by simpa using g3)))
   simp only;rw[k1];exact hr.ev h1
theorem jL (ys:List IV) (h:∀y∈ys,y.cells=[y]) (hn:ys≠[]):(oC ys).cells=ys:=by
 cases ys with
 |nil=>exact absurd rfl hn
 |cons y r=>
  cases r with
  |nil=>simpa[oC] using h y (by simp)
  |cons z r=>simp[oC,IV.cells]
theorem fQ:∀(cs:List AV) (ys:List IV),iy cs=some ys→∀y∈ys,y.cells=[y]
 |[],ys,h=>by simp[iy] at h;subst h;simp
 |x::r,ys,h=>by
  simp only[iy,Option.bind_eq_some_iff,Option.map_eq_some_iff] at h;obtain⟨y,h1,s,h2,rfl⟩:=h;intro z hz;simp at hz;rcases hz with rfl|hz
  ·exact kA h1
  ·exact fQ r s h2 z hz
theorem cI {w:World} {I:Nat→Prop} {sz:Nat} (cV:0<sz):∀(n:Nat) (ys:List IV) (b o:Nat),ys.length=n*sz→(∀y∈ys,y.cells=[y])→ay w I ys b o →
  ax w I (chunks sz n ys) b o sz∧(chunks sz n ys).length=n
 |0,ys,b,o,_,_,_=>by simp[chunks,ax]
 |n+1,ys,b,o,hl,hc,h=>by
  have et:ys.length=n*sz+sz:=by rw[hl,Nat.add_mul];omega
  have ih:=cI cV n (ys.drop sz) b (o+sz) (by simp;omega) (fun y hy=>hc y (List.mem_of_mem_drop hy)) (cm _ _ _ _ h);have dI:(ys.take sz).length=sz:=by simp;omega
  have rE:(oC (ys.take sz)).cells=ys.take sz:=jL _ (fun y hy=>hc y (List.mem_of_mem_take hy)) (by intro e;rw[e] at dI;simp at dI;omega);simp only[chunks,ax,List.length_cons];refine⟨⟨?_,ih.1⟩,by rw[ih.2]⟩;rw[bx,rE];exact⟨dI.symm,eI _ _ _ _ h⟩
theorem oL (hr:aj K β env H a w) {o:Oper} {t e:TypeId} {n:Nat} {ps:Array (Nat×Operand)} {i:TypeInfo} {z:Value} {zs:List AV} {xs:List O} (ho:o.op= .buildSlice t n ps)
   (ht:K.P.underlying t=some (.slice e)) (hi:K.P.info? e=some i) (hz:i.zero=some z) (eV:z.cells.size=i.size) (h0:0<i.size) (hn:n*i.size≤2^24)
   (e_:dr z.cells.toList=some zs) (km:cos K.G (ps.toList.map (·.2))=some xs) {y:AV}
   (hy:aa (.lits n i.size zs ((ps.toList.map (·.1)).zip xs)) env=some y):ai K β H a w o y:=by
 simp only[aa] at hy
 split at hy
 · split at hy
   · rename_i kk
     obtain⟨rfl,tl⟩:=kk
     simp only[Option.some.injEq] at hy
     subst hy
     have oM:xs.length=ps.toList.length:=by
       have:=au.len _ _ (cu hr _ _ km)
       simp at this
       simpa using this.symm
     have vF:ps.toList=[]:=by
       have h1:((ps.toList.map (·.1)).zip xs)=[]:=by simpa using tl
       have h2:((ps.toList.map (·.1)).zip xs).length=0:=by rw[h1];rfl
       rw[List.length_zip,List.length_map,oM,Nat.min_self] at h2
       exact List.length_eq_zero_iff.1 h2
     have tm:ps=#[]:=by simpa using vF
     subst tm
     refine⟨.slice (some ⟨w.heap.size,0,none⟩) 0 0,w.alloc (.cells #[] e),?_,aZ w _,by simp[RV],by simp[AV.aw]⟩
     have rF:=aC (P:=K.P) (t:=e) (s:=i.size) (by simp[eZ,hi]) w
     simp[execOp,ho,Instr.buildSlice,run_underlying ht,rF,Instr.fill,newRow,show Array.range 0=#[] from rfl]
   · simp at hy
 · rename_i dm
   simp only[Option.bind_eq_some_iff,Option.map_eq_some_iff] at hy
   obtain⟨cs,h1,ys,h2,rfl⟩:=hy
   have kk:n≠0:=fun e=>dm (by simp[e])
   have qN:=b7 _ _ e_ w β H (Im K β H)
   have hzero:=e9 z.cells zs w β H (Im K β H) qN (by omega) n
   have oM:xs.length=ps.toList.length:=by
     have:=au.len _ _ (cu hr _ _ km)
     simp at this
     simpa using this.symm
   have c6:=dJ hr (fun j=>some (j*i.size,i.size)) ps.toList xs (((ps.toList.map (·.1)).zip xs).map fun p=>(p.1*i.size,i.size,p.2)) km
     (by simp at oM;simp[oM])
     (by
       intro j p x q g1 g2 g3
       simp only[List.getElem?_map,List.getElem?_zip_eq_some,Option.map_eq_some_iff] at g3
       obtain⟨⟨u,v⟩,⟨⟨p',e1,e2⟩,e3⟩,rfl⟩:=g3
       simp only at e1 e2 e3
       rw[g1] at e1;cases e1
       rw[g2] at e3;cases e3
       exact⟨rfl,by simp[e2]⟩)
   obtain⟨cur',f1,f2⟩:=ea (fun j=>some (j*i.size,i.size)) _ _ _ cs _ hzero (by simpa[List.map_map,Function.comp_def] using h1) c6
   have hlen:cs.length=n*i.size:=by
     have e1:=au.len _ _ hzero
     have e2:∀(qs:List (Nat×Nat×AV)) (c c':List AV),bI c qs=some c'→c'.length=c.length:=by
       intro qs
       induction qs with
       |nil=>intro c c' h;simp[bI] at h;rw[h]
       |cons q qs ih=>
         intro c c' h
         obtain⟨off,sz,x⟩:=q
         simp only[bI] at h
         split at h
         · rename_i hh
           obtain⟨_,hh⟩:=hh
           rw[ih _ _ h]
           simp
           omega
         · simp at h
     rw[e2 _ _ _ h1,←e1]
     simp[eV]
   have hg:=aZ w (.cells cur' e)
   have vG:ys.length=n*i.size:=by rw[jf _ _ h2,hlen]
   have dK:ay (w.alloc (.cells cur' e)) (Im K β H) ys w.heap.size 0:=
     ct _ _ _ _ _ h2 (au.mono _ _ (hg.fK β H _ _) f2) (fun j v hj=>by rw[Nat.zero_add,e8];simpa using hj)
   have tn:=cI h0 n ys w.heap.size 0 vG (fQ _ _ h2) dK
   refine⟨.slice (some ⟨w.heap.size,0,none⟩) n n,w.alloc (.cells cur' e),?_,hg,?_,by simp[AV.aw]⟩
   · have gP:Instr.fill (fun j=>some (j*i.size,i.size)) ((Array.range (n*i.size)).map (z.cells[·%z.cells.size]!)) (ps.toList.map fun p=>(p.1,a.eval p.2))=some cur':=by
       rw[←eV]
       rw[←eV] at f1
       exact f1
     have oN:¬n*i.size=0:=by rw[Nat.mul_comm];exact dm
     have rF:=aC (P:=K.P) (t:=e) (s:=i.size) (by simp[eZ,hi]) w
     simp only[execOp,ho,Instr.buildSlice,Sem.run_bind,run_underlying ht,Result.andThen_ok,rF,Sem.run_ite,oN,if_false,zeroValue,typeInfo,run_program,hi,hz,
       Array.toList_map,show ¬n*i.size>2^24 by omega,Sem.run_pure,Result.andThen,gP]
     simp[newRow,gP]
   · simp only[RV,bA]
     refine⟨_,n,by rw[tn.2],by rw[tn.2];exact Nat.le_refl _,?_,.inr ⟨w.heap.size,0,i.size,rfl,hr.fresh,by simp,h0,tn.1⟩⟩
     have:n≤n*i.size:=Nat.le_mul_of_pos_right n h0
     simp only[maxLen];omega
theorem fa (hr:aj K β env H a w) (pl:List (Nat×Nat)):∀(ps:List (Nat×Operand)) (xs:List O) (qs:List (Nat×Nat×O)),cos K.G (ps.map (·.2))=some xs →
  dy pl (ps.map (·.1)) xs=some qs →
  cz (fun(p:Nat×Value) (q:Nat×Nat×AV)=>pl.toArray[p.1]?=some (q.1,q.2.1)∧RV w β H (Im K β H) q.2.2 p.2)
   (ps.map fun p=>(p.1,a.eval p.2)) (qs.map fun q=>(q.1,q.2.1,ev env q.2.2))
 |[],xs,qs,h,hb=>by
  simp[cos] at h;subst h;simp[dy] at hb;subst hb;exact .nil
 |p::ps,xs,qs,h,hb=>by
  simp only[List.map_cons,cos,Option.bind_eq_some_iff,Option.map_eq_some_iff] at h;obtain⟨y,h1,s,h2,rfl⟩:=h;simp only[List.map_cons,dy,Option.bind_eq_some_iff,Option.map_eq_some_iff] at hb;obtain⟨q,e1,r,e2,rfl⟩:=hb;simp only[List.map_cons];exact .cons ⟨by simpa using e1,hr.ev h1⟩ (fa hr pl ps s r h2 e2)
theorem rG (hr:aj K β env H a w) {o:Oper} {t:TypeId} {fs:Array Field} {ps:Array (Nat×Operand)} {i:TypeInfo} {z:Value} {zs:List AV} {xs:List O} {pl:List (Nat×Nat)}
   {qs:List (Nat×Nat×O)} (ho:o.op= .build t ps)
   (ht:K.P.underlying t=some (.struct fs)) (hi:K.P.info? t=some i) (hz:i.zero=some z) (tp:fs.toList.mapM (fun f=>(K.P.info? f.type).map fun i=>(f.offset,i.size))=some pl)
   (e_:dr z.cells.toList=some zs) (km:cos K.G (ps.toList.map (·.2))=some xs) (qM:dy pl (ps.toList.map (·.1)) xs=some qs) {y:AV}
   (hy:aa (.jb zs qs) env=some y):ai K β H a w o y:=by
 simp only[aa,Option.map_eq_some_iff] at hy
 obtain⟨cs,h1,rfl⟩:=hy
 obtain⟨cur',f1,f2⟩:=ea (β:=β) (H:=H) (I:=Im K β H) (w:=w) (fun j=>pl.toArray[j]?) _ _ _ cs z.cells (b7 _ _ e_ w β H _) h1 (fa hr pl _ _ _ km qM)
 refine ai.same (v:= .agg cur') ?_ ⟨cur'.toList,by simp,f2⟩ ?_
 · have hb:K.P.built t (ps.map fun(i,x)=>(i,a.eval x)).toList=some cur':=by
     simp only[Program.built,hi,ht,hz,tp]
     simpa using f1
   simp only[execOp,ho,Sem.run_bind,run_build w t _ cur' hb,Result.andThen_ok,Sem.run_pure]
 · have jg:∀(l:List Value) (xs:List AV),dr l=some xs→ak xs=[]:=by
     intro l
     induction l with
     |nil=>intro xs h;simp[dr] at h;subst h;rfl
     |cons v r ih=>
       intro xs h
       simp only[dr,Option.bind_eq_some_iff,Option.map_eq_some_iff] at h
       obtain⟨x,h1,s,h2,rfl⟩:=h
       simp[ak,ix h1,ih s h2]
   have vH:∀(ids:List Nat) (xs:List O) (qs:List (Nat×Nat×O)),dy pl ids xs=some qs→∀q∈qs,q.2.2∈xs:=by
     intro ids
     induction ids with
     |nil=>intro xs qs h;cases xs<;>simp[dy] at h;subst h;simp
     |cons j js ih=>
       intro xs qs h
       cases xs with
       |nil=>simp[dy] at h
       |cons x xs=>
         simp only[dy,Option.bind_eq_some_iff,Option.map_eq_some_iff] at h
         obtain⟨p,e1,r,e2,rfl⟩:=h
         intro q hq
         simp at hq
         rcases hq with rfl|hq
         · simp
         · exact List.mem_cons_of_mem _ (ih xs r e2 q hq)
   have iD:∀x∈xs,∀l∈(ev env x).aw,H l≠ .unused:=by
     intro x hx l hl
     refine cy hr _ _ km l ?_
     obtain⟨k,hk⟩:=List.getElem?_of_mem hx
     exact aL _ k _ (by simp[hk]) l hl
   have eb:∀(l m:List AV),ak (l++m)=ak l++ak m:=by
     intro l m
     induction l with
     |nil=>rfl
     |cons x r ih=>simp[ak,ih]
   have jM:∀(l:List AV) (n:Nat),(∀q∈ak (l.take n),q∈ak l)∧(∀q∈ak (l.drop n),q∈ak l):=by
     intro l n
     have:=eb (l.take n) (l.drop n)
     rw[List.take_append_drop] at this
     rw[this]
     exact⟨fun q hq=>List.mem_append.2 (.inl hq),fun q hq=>List.mem_append.2 (.inr hq)⟩
   have hf:∀(qs:List (Nat×Nat×AV)) (c c':List AV),bI c qs=some c'→(∀l∈ak c,H l≠ .unused)→(∀q∈qs,∀l∈q.2.2.aw,H l≠ .unused)→∀l∈ak c',H l≠ .unused:=by
     intro qs
     induction qs with
     |nil=>intro c c' h h1 _;simp[bI] at h;subst h;exact h1
     |cons q qs ih=>
       intro c c' h h1 h2
       obtain⟨off,sz,x⟩:=q
       simp only[bI] at h
       split at h
       · refine ih _ _ h ?_ (fun q hq=>h2 q (by simp[hq]))
         intro l hl
         rw[eb,eb,List.mem_append,List.mem_append] at hl
         rcases hl with(hl|hl)|hl
         · exact h1 l ((jM c off).1 l hl)
         · have:=h2 (off,sz,x) (by simp) l
           refine this ?_
           cases x<;>simp[AV.cells,ak] at hl<;>simp[AV.aw] at hl ⊢<;>exact hl
         · exact h1 l ((jM c (off+sz)).2 l hl)
       · simp at h
   simp only[AV.aw]
   refine hf _ _ _ h1 (by rw[jg _ _ e_];simp) ?_
   intro q hq
   simp only[List.mem_map] at hq
   obtain⟨q0,vI,rfl⟩:=hq
   exact iD _ (vH _ _ _ qM q0 vI)
theorem oO (hr:aj K β env H a w) {o:Oper} {t:TypeId} {x:Operand} {f:Nat} {fs:Array Field} {fd:Field} {x':O} {m:Option Nat} (ho:o.op= .field t x f)
  (ht:K.P.underlying t=some (.struct fs)) (hf:fs[f]?=some fd) (hm:jG K.P fd.type=some m) (hx:co K.G x=some x') {y:AV}
  (hy:aa (.fy x' fd.offset m) env=some y):ai K β H a w o y:=by
 have h:=hr.ev hx;have sO:=hr.bd hx;simp only[aa] at hy;split at hy
 ·rename_i cs e;rw[e] at h sO;simp only[RV] at h;obtain⟨vs,h1,h2⟩:=h
  have run:∀v,(part fd.type vs.toArray fd.offset).run K.P w= .ok v w→(execOp a.eval o).run K.P w= .ok (.value v) w:=by
   intro v hv;simp[execOp,ho,Instr.field,run_underlying ht,hf,h1,asAgg,hv,Result.andThen]
  cases m with
  |none=>
   simp only at hy;obtain⟨v,k1,k2⟩:=au.get _ _ _ _ h2 hy
   have mv:(isAgg fd.type).run K.P w= .ok false w:=by
    unfold jG at hm;split at hm
    ·simp at hm
    ·simp at hm
    ·rename_i d h1 h2 hd;cases d<;>simp[isAgg,run_underlying hd]
     ·exact(h2 _ _ rfl).elim
     ·exact(h1 _ rfl).elim
    ·simp at hm
   refine ai.same (run v ?_) k2 (fun l hl=>sO l (by simpa[AV.aw] using aL _ _ _ hy l hl));simp[part,mv,k1]
  |some k=>
   simp only at hy;split at hy
   ·rename_i hk;simp only[Option.some.injEq] at hy;subst hy
    have mv:(isAgg fd.type).run K.P w= .ok true w∧eZ K.P fd.type=some k:=by
     unfold jG at hm;split at hm
     ·rename_i fs l4;obtain⟨s,h1,h2⟩:=Option.map_eq_some_iff.1 hm;cases h2;exact⟨by simp[isAgg,run_underlying l4],h1⟩
     ·rename_i n e l4;obtain⟨s,h1,h2⟩:=Option.map_eq_some_iff.1 hm;cases h2;exact⟨by simp[isAgg,run_underlying l4],h1⟩
     ·simp at hm
     ·simp at hm
    refine ai.same (run (.agg ((vs.drop fd.offset).take k).toArray) ?_) ⟨_,rfl,au.take _ _ _ (au.drop _ _ _ h2)⟩ ?_
    ·simp[part,mv.1,aC mv.2,Result.andThen,List.extract]
    ·intro l hl;simp only[AV.aw] at hl sO;refine sO l ?_
     have eb:∀(l m:List AV),ak (l++m)=ak l++ak m:=by
      intro l m
      induction l with
      |nil=>rfl
      |cons x r ih=>simp[ak,ih]
     have e1:=eb (cs.take fd.offset) (cs.drop fd.offset);rw[List.take_append_drop] at e1;have e2:=eb ((cs.drop fd.offset).take k) ((cs.drop fd.offset).drop k);rw[List.take_append_drop] at e2;rw[e1,e2];exact List.mem_append.2 (.inr (List.mem_append.2 (.inl hl)))
   ·simp at hy
 ·simp at hy
theorem jh {P:Program}:∀(fs:List Field) (ks:List Kd) (n d:Nat) (xs ys:List AV) (vs us:List Value) (b:Bool),bf P n fs=some ks→eqs ks xs ys=some b →
  au w β H (Im K β H) xs (vs.drop n)→au w β H (Im K β H) ys (us.drop n) →
  (Op.eqFields (d+1) vs.toArray us.toArray fs).run P w= .ok b w
 |[],ks,n,d,xs,ys,vs,us,b,hp,he,hx,hy=>by
  simp[bf] at hp;subst hp;cases xs<;>cases ys<;>simp[eqs] at he;subst he;simp[Op.eqFields]
 |f::fs,ks,n,d,xs,ys,vs,us,b,hp,he,hx,hy=>by
  simp only[bf] at hp;split at hp
  ·rename_i hh;simp only[Bool.and_eq_true,bne_iff_ne,ne_eq,beq_iff_eq] at hh;obtain⟨h1,h2⟩:=hh
   obtain⟨k,sQ,rfl,qO,hk⟩:∃k sQ,ks=k::sQ∧bf P (n+1) fs=some sQ∧((k= .s∧P.underlying f.type=some .string)∨(k= .b∧P.underlying f.type=some .bool)∨(k= .i∧∃j,P.underlying f.type=some (.int j))):=by
    split at hp
    ·obtain⟨s,q1,q2⟩:=Option.map_eq_some_iff.1 hp;exact⟨_,s,q2.symm,q1,.inl ⟨rfl,by assumption⟩⟩
    ·obtain⟨s,q1,q2⟩:=Option.map_eq_some_iff.1 hp;exact⟨_,s,q2.symm,q1,.inr (.inl ⟨rfl,by assumption⟩)⟩
    ·obtain⟨s,q1,q2⟩:=Option.map_eq_some_iff.1 hp;exact⟨_,s,q2.symm,q1,.inr (.inr ⟨rfl,_,by assumption⟩)⟩
    ·simp at hp
   cases xs with
   |nil=>simp[eqs] at he
   |cons x xs=>
   cases ys with
   |nil=>simp[eqs] at he
   |cons y ys=>
   simp only[eqs,Option.bind_eq_some_iff,Option.map_eq_some_iff] at he;obtain⟨b1,e1,b2,e2,rfl⟩:=he;simp only[au] at hx hy;obtain⟨v,sL,hv,rx,km⟩:=hx;obtain⟨u,vJ,hu,ry,fE⟩:=hy;have gv:vs[n]?=some v:=by rw[←List.head?_drop,hv];rfl
   have gu:us[n]?=some u:=by rw[←List.head?_drop,hu];rfl
   have dv:vs.drop (n+1)=sL:=by rw[←List.tail_drop,hv];rfl
   have du:us.drop (n+1)=vJ:=by rw[←List.tail_drop,hu];rfl
   have ih:=jh (P:=P) fs sQ (n+1) d xs ys vs us b2 qO e2 (by rw[dv];exact km) (by rw[du];exact fE)
   have mv:(isAgg f.type).run P w= .ok false w:=by
    rcases hk with⟨_,hk⟩|⟨_,hk⟩|⟨_,j,hk⟩<;>simp[isAgg,run_underlying hk]
   have pv:(part f.type vs.toArray f.offset).run P w= .ok v w:=by simp[part,mv,h2,gv]
   have pu:(part f.type us.toArray f.offset).run P w= .ok u w:=by simp[part,mv,h2,gu]
   have heq:(Op.equalIn (d+1) f.type v u).run P w= .ok b1 w:=by
    rcases hk with⟨rfl,hk⟩|⟨rfl,hk⟩|⟨rfl,j,hk⟩<;>cases x<;>cases y<;>simp[uW] at e1<;>simp only[RV] at rx ry<;>subst rx<;>subst ry
    ·rw[run_equalIn_string w d f.type _ _ hk];simp[ByteArray.toList_mk,←e1]
    ·rw[run_equalIn_bool' w d f.type _ _ hk];simp[←e1]
    ·obtain⟨rfl,e1⟩:=e1;rw[run_equalIn_int w d f.type _ _ _ _ hk];simp[←e1]
   simp only[Op.eqFields,ne_eq,h1,not_false_eq_true,if_true,Sem.run_bind,pv,pu,heq,Result.andThen_ok,Sem.run_ite,ih];cases b1<;>simp
  ·simp at hp
theorem cA {op:BinOp} {n:Bool} (h:cU op=some n):(op= .eql∧n=false)∨(op= .neq∧n=true):=by
 cases op<;>simp[cU] at h<;>subst h<;>simp
theorem oP (hr:aj K β env H a w) {o:Oper} {op:BinOp} {t t2:TypeId} {x y:Operand} {x' y':O} {ks:List Kd} {n:Bool} (ho:o.op= .binOp op t x y t2) (hn:cU op=some n)
  (kB:da K.P t=some ks) (hx:co K.G x=some x') (hy:co K.G y=some y') {z:AV} (hz:aa (.fx n ks x' y') env=some z):ai K β H a w o z:=by
 have h:=hr.ev hx;have h2:=hr.ev hy;unfold da at kB;split at kB
 ·rename_i fs l4;split at kB
  ·rename_i hc;simp only[Bool.and_eq_true,Bool.not_eq_true'] at hc;simp only[aa] at hz;split at hz
   ·rename_i xs ys e1 e2;rw[e1] at h;rw[e2] at h2;simp only[RV] at h h2;obtain⟨vs,h3,h4⟩:=h;obtain⟨us,h5,h6⟩:=h2;obtain⟨b,hb,rfl⟩:=Option.map_eq_some_iff.1 hz;have vK:K.P.underlying t=some (.struct (K.P.fieldsOf t)):=by simp[Program.fieldsOf,l4]
    have vL:(K.P.fieldsOf t).toList=fs.toList:=by simp[Program.fieldsOf,l4]
    have hq:(Op.equalIn 10000 t (.agg vs.toArray) (.agg us.toArray)).run K.P w= .ok b w:=by
     rw[show(10000:Nat)=9998+1+1 from rfl,run_equalIn_struct w _ t _ _ vK hc.1,vL];exact jh fs.toList ks 0 9998 xs ys vs us b kB hb (by simpa using h4) (by simpa using h6)
    refine ai.same (v:= .bool (n ^^ b)) ?_ (by simp[RV]) (by simp[AV.aw]);rcases cA hn with⟨rfl,rfl⟩|⟨rfl,rfl⟩
    ·simp only[execOp,ho,h3,h5,Sem.run_bind,run_eqGuard_agg w _ t x y _ _ hc.2,Result.andThen_ok,run_eql_struct,hq];simp
    ·simp only[execOp,ho,h3,h5,Sem.run_bind,run_eqGuard_agg w _ t x y _ _ hc.2,Result.andThen_ok,run_neq_struct,hq];simp
   ·simp at hz
  ·simp at kB
 ·simp at kB
theorem rH (hr:aj K β env H a w) {o:Oper} {op:BinOp} {t t2:TypeId} {x y:Operand} {x' y':O} {n:Bool} (ho:o.op= .binOp op t x y t2) (hn:cU op=some n)
  (ht:K.P.underlying t=some .bool) (hx:co K.G x=some x') (hy:co K.G y=some y') {z:AV} (hz:aa (.mc n x' y') env=some z):ai K β H a w o z:=by
 have h:=hr.ev hx;have h2:=hr.ev hy;simp only[aa] at hz;split at hz
 ·rename_i p q e1 e2;rw[e1] at h;rw[e2] at h2;simp only[RV,Option.some.injEq] at h h2 hz;subst hz;refine ai.same (v:= .bool (n ^^ (p==q))) ?_ (by simp[RV]) (by simp[AV.aw]);have hq:(Op.equal t (.bool p) (.bool q)).run K.P w= .ok (p==q) w:=run_equalIn_bool' w 9999 t p q ht;rcases cA hn with⟨rfl,rfl⟩|⟨rfl,rfl⟩
  ·simp[execOp,ho,h,h2,eqGuard,binOp,hq]
  ·simp[execOp,ho,h,h2,eqGuard,binOp,hq]
 ·simp at hz
theorem iF (d:Nat) {P:Program} {t e:TypeId} (ht:P.underlying t=some (.pointer e)) (q:Option Addr):(Op.equalIn (d+1) t (.pointer none) (.pointer q)).run P w= .ok q.isNone w:=by
 simp[Op.equalIn,run_underlying ht]
theorem iG (d:Nat) {P:Program} {t e:TypeId} (ht:P.underlying t=some (.pointer e)) (q:Addr):(Op.equalIn (d+1) t (.pointer (some q)) (.pointer none)).run P w= .ok false w:=by
 simp[Op.equalIn,run_underlying ht]
theorem iH (d:Nat) {P:Program} {t:TypeId} {ms:Array (String×TypeId)} (ht:P.underlying t=some (.interface ms)):(Op.equalIn (d+1) t .nilIface .nilIface).run P w= .ok true w:=by
 simp[Op.equalIn,run_underlying ht]
theorem iI (d:Nat) {P:Program} {t u:TypeId} {v:Value} {ms:Array (String×TypeId)} (ht:P.underlying t=some (.interface ms)):(Op.equalIn (d+1) t (.iface u v) .nilIface).run P w= .ok false w:=by
 simp[Op.equalIn,run_underlying ht]
theorem rI (hr:aj K β env H a w) {o:Oper} {op:BinOp} {t t2 e:TypeId} {x y:Operand} {x' y':O} {n:Bool} (ho:o.op= .binOp op t x y t2) (hn:cU op=some n)
  (ht:K.P.underlying t=some (.pointer e)) (hx:co K.G x=some x') (hy:co K.G y=some y') {z:AV} (hz:aa (.kt n x' y') env=some z):ai K β H a w o z:=by
 have h:=hr.ev hx;have h2:=hr.ev hy;simp only[aa,Option.map_eq_some_iff] at hz;obtain⟨b,hb,rfl⟩:=hz
 have key:∀p q,a.eval x= .pointer p→a.eval y= .pointer q→(Op.equal t (.pointer p) (.pointer q)).run K.P w= .ok b w→ai K β H a w o (.bool (n ^^ b)):=by
  intro p q h3 h4 h5;refine ai.same (v:= .bool (n ^^ b)) ?_ (by simp[RV]) (by simp[AV.aw]);rcases cA hn with⟨rfl,rfl⟩|⟨rfl,rfl⟩
  ·simp[execOp,ho,h3,h4,eqGuard,binOp,h5]
  ·simp[execOp,ho,h3,h4,eqGuard,binOp,h5]
 have tq:∀q,(Op.equal t (.pointer none) (.pointer q)).run K.P w= .ok q.isNone w:=by
  intro q;exact iF 9999 ht q
 have u0:∀q,(Op.equal t (.pointer (some q)) (.pointer none)).run K.P w= .ok false w:=by
  intro q;exact iG 9999 ht q
 cases e1:ev env x'<;>cases e2:ev env y'<;>rw[e1] at h<;>rw[e2] at h2<;>rw[e1,e2] at hb<;>simp[sK] at hb<;>simp only[RV] at h h2<;>subst hb
 ·exact key _ _ h h2 (tq _)
 ·obtain⟨q,h2,_⟩:=h2;exact key _ _ h h2 (tq _)
 ·obtain⟨q,q2,h2,_⟩:=h2;exact key _ _ h h2 (tq _)
 ·obtain⟨q,h,_⟩:=h;exact key _ _ h h2 (u0 _)
 ·obtain⟨q,q2,h,_⟩:=h;exact key _ _ h h2 (u0 _)
theorem rJ (hr:aj K β env H a w) {o:Oper} {op:BinOp} {t t2:TypeId} {ms:Array (String×TypeId)} {x y:Operand} {x' y':O} {n:Bool} (ho:o.op= .binOp op t x y t2) (hn:cU op=some n)
  (ht:K.P.underlying t=some (.interface ms)) (hc:iz y=true) (hx:co K.G x=some x') {z:AV} (hz:aa (.me n x' y') env=some z):ai K β H a w o z:=by
 have h:=hr.ev hx
 have hy:y= .const .nilIface:=by
  cases y<;>simp[iz] at hc;rename_i v;cases v<;>simp at hc;rfl
 subst hy;simp only[aa] at hz;split at hz
 ·rename_i e1;rw[e1] at h;simp only[RV,Option.some.injEq] at h hz;subst hz;refine ai.same (v:= .bool (n ^^ true)) ?_ (by simp[RV]) (by simp[AV.aw]);have hq:(Op.equal t .nilIface .nilIface).run K.P w= .ok true w:=iH 9999 ht;rcases cA hn with⟨rfl,rfl⟩|⟨rfl,rfl⟩
  ·simp[execOp,ho,h,show a.eval (.const .nilIface)= .nilIface from rfl,eqGuard,binOp,hq]
  ·simp[execOp,ho,h,show a.eval (.const .nilIface)= .nilIface from rfl,eqGuard,binOp,hq]
 ·rename_i t' x0 e1;rw[e1] at h;simp only[RV,Option.some.injEq] at h hz;subst hz;obtain⟨u,h,_⟩:=h;refine ai.same (v:= .bool (n ^^ false)) ?_ (by simp[RV]) (by simp[AV.aw]);have hq:(Op.equal t (.iface t' u) .nilIface).run K.P w= .ok false w:=iI 9999 ht;rcases cA hn with⟨rfl,rfl⟩|⟨rfl,rfl⟩
  ·simp[execOp,ho,h,show a.eval (.const .nilIface)= .nilIface from rfl,eqGuard,binOp,hq]
  ·simp[execOp,ho,h,show a.eval (.const .nilIface)= .nilIface from rfl,eqGuard,binOp,hq]
 ·simp at hz
end
end Go.Am
