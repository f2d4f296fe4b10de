import Derived.Test.YtfinkeaikbmpgaaAm38
set_option linter.unusedSimpArgs false
set_option linter.unusedVariables false
set_option linter.unnecessarySimpa false
set_option linter.defProp false
/- THE ABSTRACT MACHINE, part 12: contracts of calls; a region's operations in their order. -/
namespace Go.Am
open Go Go.RowKit
def immE (xs : List IV) : List (List AV) := xs.map fun y => y.cells.map IV.av1
def Flat (xs : List IV) : Prop := ∀ y ∈ xs,∀ z ∈ y.cells,∀ cs,z ≠ .agg cs
def Hp.none : Hp := fun _ => .unused
def Env.any : Env := fun _ => .any
def noAct : Act := { tmps := #[],defers := [] }
def Owned (β : Lb → Option Nat) (H : Hp) (k : Nat) : Prop := ∃ l,live H l ∧ β l = some k
def callK (P : Program) (G : Nat → Option (List IV)) (w : World) (A : Nat → Prop) (β : Lb → Option Nat) (H : Hp) : Kx := ⟨P,G,w,A,Owned β H,0,H,β⟩
def SpecC (P : Program) (G : Nat → Option (List IV)) (f : Nat) (args : List AV) (H : Hp) (Q : AV → Hp → Prop) : Prop :=
 ∀ (w : World) (A : Nat → Prop) (β : Lb → Option Nat) (vs : List Value),RelB (callK P G w A β H) β Env.any H noAct w → RVs w β H (Im (callK P G w A β H) β H) args vs →
   Calls P f vs.toArray w fun e w' => ∃ v x H' β',e = .returned v ∧ Q x H' ∧ RelB (callK P G w A β H) β' Env.any H' noAct w' ∧
     RV w' β' H' (Im (callK P G w A β H) β' H') x v ∧ ∀ l ∈ x.lbs,H' l ≠ .unused
def PureC (P : Program) (G : Nat → Option (List IV)) (f : Nat) (args : List AV) (res : AV) : Prop :=
 lbss args = [] ∧ res.lbs = [] ∧ SpecC P G f args Hp.none fun x _ => x = res
theorem SpecC.mono {P : Program} {G : Nat → Option (List IV)} {f : Nat} {args : List AV} {H : Hp} {Q Q' : AV → Hp → Prop} (h : SpecC P G f args H Q) (hq : ∀ x H,Q x H → Q' x H) : SpecC P G f args H Q' :=
 fun w A β vs hr hv => (h w A β vs hr hv).mono fun e w' ⟨v,x,H',β',h1,h2,h3⟩ => ⟨v,x,H',β',h1,hq _ _ h2,h3⟩
def gW (g : Option (Nat × Bool)) (env : Env) : Option Bool :=
 match g with
 | none => some true
 | some (s,t) => match env s with
   | .bool b => some (b == t)
   | .un => some false
   | _ => none
structure St where
 P : Program
 G : Nat → Option (List IV)
 N : Nat
mutual
def ren (ρ : Lb → Lb) : AV → AV
 | .sl l sz i n => .sl (ρ l) sz i n
 | .slk l sz i n c => .slk (ρ l) sz i n c
 | .ptr l sz i j => .ptr (ρ l) sz i j
 | .agg cs => .agg (rens ρ cs)
 | .tup cs => .tup (rens ρ cs)
 | .fn f fs cs => .fn f (rens ρ fs) (rens ρ cs)
 | .ifc t x => .ifc t (ren ρ x)
 | x => x
def rens (ρ : Lb → Lb) : List AV → List AV
 | [] => []
 | x :: r => ren ρ x :: rens ρ r
end
def renR (ρ : Lb → Lb) (r : Row) : Row := ⟨r.sz,r.els.map (rens ρ)⟩
structure Pass (S : St) (f : Nat) (args : List AV) (H : Hp) (k : AV → Hp → Prop) : Prop where
 h : ∃ (ρ : Lb → Lb) (Hin : Hp) (cargs : List AV) (Q : AV → Hp → Prop),SpecC S.P S.G f cargs Hin Q ∧ args = rens ρ cargs ∧
   (∀ l r,Hin l = .live r → H (ρ l) = .live (renR ρ r)) ∧ (∀ l,Hin l ≠ .unused → live Hin l) ∧
   (∀ l l',live Hin l → live Hin l' → ρ l = ρ l' → l = l') ∧ (∀ l ∈ lbss cargs,Hin l ≠ .unused) ∧ (∀ l,live Hin l → l.fresh = false) ∧ (∀ l r,Hin l = .live r → ∀ cs ∈ r.els,∀ q ∈ lbss cs,Hin q ≠ .unused) ∧
   ∀ x H',Q x H' → ∃ (ρ' : Lb → Lb) (H'' : Hp),(∀ l,live Hin l → live H' l → ρ' l = ρ l) ∧
     (∀ q r,H'' q = .live r → (H q = .live r ∧ ∀ l,live Hin l → ρ l ≠ q) ∨ ∃ l r',H' l = .live r' ∧ ρ' l = q ∧ r = renR ρ' r') ∧
     (∀ l l',live H' l → live H' l' → ρ' l = ρ' l' → l = l') ∧
     (∀ q,H q ≠ .unused → H'' q ≠ .unused) ∧ (∀ l ∈ x.lbs,H'' (ρ' l) ≠ .unused) ∧
     (∀ l r',H' l = .live r' → ∀ cs ∈ r'.els,∀ q ∈ lbss cs,H'' (ρ' q) ≠ .unused) ∧
     (∀ l,live H' l → live Hin l ∨ (H (ρ' l) = .unused ∧ ((ρ' l).fresh = true → l.fresh = true ∨ ∀ z,live Hin z → (ρ z).fresh = true))) ∧
     (∀ l,(l ∈ x.lbs ∨ ∃ l1 r1 cs,H' l1 = .live r1 ∧ cs ∈ r1.els ∧ l ∈ lbss cs) → live H'' (ρ' l) → live H' l) ∧ k (ren ρ' x) H''
mutual
def AV.scalar : AV → Bool
 | .bool _ | .int _ _ | .str _ | .nilp | .nilif => true
 | .tup cs => scalars cs
 | _ => false
def scalars : List AV → Bool
 | [] => true
 | x :: r => x.scalar && scalars r
end
inductive Lent (H : Hp) : AV → AV → Prop where
 | same (x : AV) : Lent H x x
 | row (l : Lb) (sz i n : Nat) (xs : List IV) : H l = .live ⟨sz,immE xs⟩ → i + n ≤ xs.length → Flat xs → Lent H (.sl l sz i n) (.list ((xs.drop i).take n))
structure Lend (S : St) (f : Nat) (args : List AV) (H : Hp) (k : AV → Hp → Prop) : Prop where
 h : ∃ cargs res,All2 (Lent H) args cargs ∧ PureC S.P S.G f cargs res ∧ res.scalar = true ∧ k res H
def CallT (S : St) (f : Nat) (args : List AV) (H : Hp) (k : AV → Hp → Prop) : Prop :=
 (∃ res,PureC S.P S.G f args res ∧ k res H) ∨ Lend S f args H k ∨ Pass S f args H k
def nilV : AV → Option (List Bool)
 | .list [] => some [true,false]
 | .list (_ :: _) => some [false]
 | .nil0 => some [true,false]
 | .sl _ _ _ n => some (if 0 < n then [false] else [true,false])
 | .slk _ _ _ n _ => some (if 0 < n then [false] else [true,false])
 | _ => none
def ExtC (S : St) (f : Nat) (args : List AV) (H : Hp) (res : AV) : Prop :=
 ∀ (K : Kx) (β : Lb → Option Nat) (env : Env) (a : Act) (w : World) (vs : List Value),(⟨K.P,K.G,K.N⟩ : St) = S → RelB K β env H a w → RVs w β H (Im K β H) args vs →
   ∃ v w',(callFunc f vs.toArray).run K.P w = .ok (.value v) w' ∧ Grew w w' ∧ RV w' β H (Im K β H) res v ∧ ∀ l ∈ res.lbs,H l ≠ .unused
def Act1 (S : St) (d : Option Nat) (i : Ins) (env : Env) (H : Hp) (k : AV → Hp → Prop) : Prop :=
 match i with
 | .load m a => (∃ x,stillV (.load m a) env = some x ∧ k x H) ∨ (∃ x,loadV m (ev env a) H = some x ∧ k x H)
 | .box x => ∃ n,d = some n ∧ H (.loc n) = .unused ∧ (ev env x).stb = true ∧ 0 < (ev env x).cells.length ∧ (ev env x).cells.length ≤ maxLen ∧
     k (.ptr (.loc n) (ev env x).cells.length 0 0) (upd H (.loc n) (.live ⟨(ev env x).cells.length,[(ev env x).cells]⟩))
 | .new cs => ∃ n,d = some n ∧ H (.loc n) = .unused ∧ 0 < cs.length ∧ cs.length ≤ maxLen ∧ k (.ptr (.loc n) cs.length 0 0) (upd H (.loc n) (.live ⟨cs.length,[cs]⟩))
 | .store m a x => d = none ∧ ∃ H',storeV m (ev env a) (ev env x) H = some H' ∧ k .un H'
 | .app s x sz bytes => ∃ n,d = some n ∧ ∃ y H',appV sz bytes n (ev env s) (ev env x) H = some (y,H') ∧ k y H'
 | .call f args => CallT S f (args.map (ev env)) H k
 | .callv x args => ∃ f first cap,ev env x = .fn f first cap ∧ goBody S.P f = true ∧ CallT S f (first ++ args.map (ev env) ++ cap) H k
 | .eqn n x => ∃ bs,nilV (ev env x) = some bs ∧ ∀ b ∈ bs,k (.bool (n ^^ b)) H
 | .cap x => ∃ R,capR (ev env x) = some R ∧ ∀ m,R m → m ≤ maxLen → k (.int .i64 (m : Int)) H
 | .cpy s x sz => ∃ y H',cpyV sz (ev env s) (ev env x) H = some (y,H') ∧ k y H'
 | .clr x sz z => ∃ H',clrV sz z (ev env x) H = some H' ∧ k (.tup []) H'
 | .mks n c sz bytes z => ∃ q,d = some q ∧ ∃ y H',mksV sz bytes q z (ev env n) (ev env c) H = some (y,H') ∧ k y H'
 | .callx f args => ∃ res,ExtC S f (args.map (ev env)) H res ∧ k res H
 | .appz s n sz bytes z => ∃ q,d = some q ∧ ∃ y H',appzV sz bytes q z (ev env s) (ev env n) H = some (y,H') ∧ k y H'
 | .litso sz z ps => ∃ q,d = some q ∧ ∃ y H',litV sz q z (ps.map fun p => (p.1,ev env p.2)) H = some (y,H') ∧ k y H'
 | i => ∃ x,stillV i env = some x ∧ k x H
def AO (S : St) : List LIns → Env → Hp → (Env → Hp → Prop) → Prop
 | [],env,H,k => k env H
 | i :: r,env,H,k => (gW i.g env = some true ∧ (∀ n,i.d = some n → n < S.N) ∧ Act1 S i.d i.i env H fun x H' => AO S r (putO env i.d x) H' k) ∨
     (gW i.g env = some false ∧ (∀ n,i.d = some n → n < S.N) ∧ AO S r (putO env i.d .un) H k)
def compL (P : Program) (G : Nat → Option (List IV)) (ops : Array Oper) (o : Oper) : Option LIns :=
 match o.guard with
 | none => (comp P G o).map fun i => ⟨o.dst,none,i⟩
 | some (j,t) => ((ops[j]?).bind (·.dst)).bind fun s => (comp P G o).map fun i => ⟨o.dst,some (s,t),i⟩
def Ins.asIs : Ins → Ins
 | .boxi x => .box x
 | .appi s x sz b => .app s x sz b
 | .litso sz z ps => .lits 1 sz z ps
 | i => i
def LIns.asIs (i : LIns) : LIns := { i with i := i.i.asIs }
section
variable {K : Kx} {β : Lb → Option Nat} {env : Env} {H : Hp} {a : Act} {w : World}
mutual
theorem ren_lbs (ρ : Lb → Lb) : ∀ x : AV,(ren ρ x).lbs = x.lbs.map ρ
 | .sl .. | .slk .. | .ptr .. | .any | .un | .bool _ | .int .. | .str _ | .list _ | .nil0 | .nilp | .nilif | .lptr _ => by simp [ren,AV.lbs]
 | .agg cs => by simp [ren,AV.lbs,rens_lbs ρ cs]
 | .tup cs => by simp [ren,AV.lbs,rens_lbs ρ cs]
 | .fn f fs cs => by simp [ren,AV.lbs,rens_lbs ρ fs,rens_lbs ρ cs]
 | .ifc t x => by simp [ren,AV.lbs,ren_lbs ρ x]
theorem rens_lbs (ρ : Lb → Lb) : ∀ xs : List AV,lbss (rens ρ xs) = (lbss xs).map ρ
 | [] => by simp [rens,lbss]
 | x :: r => by simp [rens,lbss,ren_lbs ρ x,rens_lbs ρ r]
end
theorem rens_get (ρ : Lb → Lb) : ∀ (xs : List AV) (i : Nat),(rens ρ xs)[i]? = xs[i]?.map (ren ρ)
 | [],i => by simp [rens]
 | x :: r,0 => by simp [rens]
 | x :: r,i + 1 => by simp [rens,rens_get ρ r i]
theorem rens_len (ρ : Lb → Lb) : ∀ (xs : List AV),(rens ρ xs).length = xs.length
 | [] => rfl
 | x :: r => by simp [rens,rens_len ρ r]
structure KeepsR (w w' : World) (β β' : Lb → Option Nat) (H H' : Hp) (I I' : Nat → Prop) (ρ : Lb → Lb) (ls : List Lb) : Prop extends Keeps w w' I I' where
 lb : ∀ l ∈ ls,live H' l → live H (ρ l) ∧ β' l = β (ρ l) ∧ ∀ g S,β (ρ l) = some g → bsz w g = some S → bsz w' g = some S
theorem KeepsR.sub {w w' : World} {β β' : Lb → Option Nat} {H H' : Hp} {I I' : Nat → Prop} {ρ : Lb → Lb} {ls ls' : List Lb} (h : KeepsR w w' β β' H H' I I' ρ ls) (hs : ∀ l ∈ ls',l ∈ ls) :
   KeepsR w w' β β' H H' I I' ρ ls' := ⟨h.toKeeps,fun l hl => h.lb l (hs l hl)⟩
mutual
theorem RV.ren {w w' : World} {β β' : Lb → Option Nat} {H H' : Hp} {I I' : Nat → Prop} {ρ : Lb → Lb} : ∀ (x : AV) (v : Value),KeepsR w w' β β' H H' I I' ρ x.lbs → RV w β H I (Am.ren ρ x) v → RV w' β' H' I' x v
 | .any,_,_,_ => by simp [RV]
 | .un,_,_,hv => by simpa [RV,Am.ren] using hv
 | .bool _,_,_,hv => by simpa [RV,Am.ren] using hv
 | .int _ _,_,_,hv => by simpa [RV,Am.ren] using hv
 | .str _,_,_,hv => by simpa [RV,Am.ren] using hv
 | .nil0,_,_,hv => by simpa [RV,Am.ren] using hv
 | .nilp,_,_,hv => by simpa [RV,Am.ren] using hv
 | .nilif,_,_,hv => by simpa [RV,Am.ren] using hv
 | .list xs,v,h,hv => by simp only [RV,Am.ren] at hv ⊢; exact IVR.mono h.toKeeps _ _ hv
 | .agg cs,v,h,hv => by
   simp only [RV,Am.ren] at hv ⊢
   obtain ⟨vs,rfl,h1⟩ := hv
   exact ⟨vs,rfl,RVs.ren cs vs (by simpa [AV.lbs] using h) h1⟩
 | .tup cs,v,h,hv => by
   simp only [RV,Am.ren] at hv ⊢
   obtain ⟨vs,rfl,h1⟩ := hv
   exact ⟨vs,rfl,RVs.ren cs vs (by simpa [AV.lbs] using h) h1⟩
 | .slk l sz i n c,v,h,hv => by
   simp only [RV,Am.ren] at hv ⊢
   obtain ⟨a,h1,h2,h3,h4,h5⟩ := hv
   refine ⟨a,h1,h2,h3,h4,fun hl => ?_⟩
   obtain ⟨k1,k2,k3⟩ := h.lb l (by simp [AV.lbs]) hl
   rcases h5 k1 with h6 | ⟨g,S,e1,e2,e3,e4⟩
   · exact .inl h6
   · exact .inr ⟨g,S,k2.trans e1,e2,k3 g S e1 e3,e4⟩
 | .sl l sz i n,v,h,hv => by
   simp only [RV,Am.ren] at hv ⊢
   obtain ⟨a,c,h1,h2,h3,h4,h5⟩ := hv
   refine ⟨a,c,h1,h2,h3,h4,fun hl => ?_⟩
   obtain ⟨k1,k2,k3⟩ := h.lb l (by simp [AV.lbs]) hl
   rcases h5 k1 with h6 | ⟨g,S,e1,e2,e3,e4⟩
   · exact .inl h6
   · exact .inr ⟨g,S,k2.trans e1,e2,k3 g S e1 e3,e4⟩
 | .ptr l sz i j,v,h,hv => by
   simp only [RV,Am.ren] at hv ⊢
   obtain ⟨a,h1,h2⟩ := hv
   refine ⟨a,h1,fun hl => ?_⟩
   obtain ⟨k1,k2,k3⟩ := h.lb l (by simp [AV.lbs]) hl
   obtain ⟨g,e1,e2⟩ := h2 k1
   exact ⟨g,k2.trans e1,e2⟩
 | .lptr cs,v,h,hv => by
   simp only [RV,Am.ren] at hv ⊢
   obtain ⟨b,o,h1,h2,h3,h4⟩ := hv
   obtain ⟨k1,k2,_⟩ := h.im b h2 h3
   exact ⟨b,o,h1,k1,k2,CellsR.mono h.toKeeps cs b o h2 h3 h4⟩
 | .fn f fs cs,v,h,hv => by
   simp only [RV,Am.ren] at hv ⊢
   obtain ⟨vs,us,rfl,h1,h2⟩ := hv
   exact ⟨vs,us,rfl,RVs.ren fs vs (h.sub (by simp [AV.lbs]; intro l hl; exact .inl hl)) h1,RVs.ren cs us (h.sub (by simp [AV.lbs]; intro l hl; exact .inr hl)) h2⟩
 | .ifc t x,v,h,hv => by
   simp only [RV,Am.ren] at hv ⊢
   obtain ⟨u,rfl,h1⟩ := hv
   exact ⟨u,rfl,RV.ren x u (by simpa [AV.lbs] using h) h1⟩
theorem RVs.ren {w w' : World} {β β' : Lb → Option Nat} {H H' : Hp} {I I' : Nat → Prop} {ρ : Lb → Lb} : ∀ (xs : List AV) (vs : List Value),KeepsR w w' β β' H H' I I' ρ (lbss xs) → RVs w β H I (rens ρ xs) vs → RVs w' β' H' I' xs vs
 | [],_,_,hv => by simpa [RVs,rens] using hv
 | x :: r,vs,h,hv => by
   simp only [RVs,rens] at hv ⊢
   obtain ⟨v,us,rfl,h1,h2⟩ := hv
   exact ⟨v,us,rfl,RV.ren x v (h.sub (by simp [lbss]; intro l hl; exact .inl hl)) h1,RVs.ren r us (h.sub (by simp [lbss]; intro l hl; exact .inr hl)) h2⟩
end
mutual
theorem RV.renB {w w' : World} {β β' : Lb → Option Nat} {H H' : Hp} {I I' : Nat → Prop} {ρ : Lb → Lb} : ∀ (x : AV) (v : Value),Keeps w w' I I' →
   (∀ l ∈ x.lbs,live H' (ρ l) → live H l ∧ β' (ρ l) = β l ∧ ∀ g S,β l = some g → bsz w g = some S → bsz w' g = some S) → RV w β H I x v → RV w' β' H' I' (Am.ren ρ x) v
 | .any,_,_,_,_ => by simp [RV,Am.ren]
 | .un,_,_,_,hv => by simpa [RV,Am.ren] using hv
 | .bool _,_,_,_,hv => by simpa [RV,Am.ren] using hv
 | .int _ _,_,_,_,hv => by simpa [RV,Am.ren] using hv
 | .str _,_,_,_,hv => by simpa [RV,Am.ren] using hv
 | .nil0,_,_,_,hv => by simpa [RV,Am.ren] using hv
 | .nilp,_,_,_,hv => by simpa [RV,Am.ren] using hv
 | .nilif,_,_,_,hv => by simpa [RV,Am.ren] using hv
 | .list xs,v,h,_,hv => by simp only [RV,Am.ren] at hv ⊢; exact IVR.mono h _ _ hv
 | .agg cs,v,h,hl,hv => by
   simp only [RV,Am.ren] at hv ⊢
   obtain ⟨vs,rfl,h1⟩ := hv
   exact ⟨vs,rfl,RVs.renB cs vs h (by simpa [AV.lbs] using hl) h1⟩
 | .tup cs,v,h,hl,hv => by
   simp only [RV,Am.ren] at hv ⊢
   obtain ⟨vs,rfl,h1⟩ := hv
   exact ⟨vs,rfl,RVs.renB cs vs h (by simpa [AV.lbs] using hl) h1⟩
 | .slk l sz i n c,v,h,hl,hv => by
   simp only [RV,Am.ren] at hv ⊢
   obtain ⟨a,h1,h2,h3,h4,h5⟩ := hv
   refine ⟨a,h1,h2,h3,h4,fun hq => ?_⟩
   obtain ⟨k1,k2,k3⟩ := hl l (by simp [AV.lbs]) hq
   rcases h5 k1 with h6 | ⟨g,S,e1,e2,e3,e4⟩
   · exact .inl h6
   · exact .inr ⟨g,S,k2.trans e1,e2,k3 g S e1 e3,e4⟩
 | .sl l sz i n,v,h,hl,hv => by
   simp only [RV,Am.ren] at hv ⊢
   obtain ⟨a,c,h1,h2,h3,h4,h5⟩ := hv
   refine ⟨a,c,h1,h2,h3,h4,fun hq => ?_⟩
   obtain ⟨k1,k2,k3⟩ := hl l (by simp [AV.lbs]) hq
   rcases h5 k1 with h6 | ⟨g,S,e1,e2,e3,e4⟩
   · exact .inl h6
   · exact .inr ⟨g,S,k2.trans e1,e2,k3 g S e1 e3,e4⟩
 | .ptr l sz i j,v,h,hl,hv => by
   simp only [RV,Am.ren] at hv ⊢
   obtain ⟨a,h1,h2⟩ := hv
   refine ⟨a,h1,fun hq => ?_⟩
   obtain ⟨k1,k2,k3⟩ := hl l (by simp [AV.lbs]) hq
   obtain ⟨g,e1,e2⟩ := h2 k1
   exact ⟨g,k2.trans e1,e2⟩
 | .lptr cs,v,h,_,hv => by
   simp only [RV,Am.ren] at hv ⊢
   obtain ⟨b,o,h1,h2,h3,h4⟩ := hv
   obtain ⟨k1,k2,_⟩ := h.im b h2 h3
   exact ⟨b,o,h1,k1,k2,CellsR.mono h cs b o h2 h3 h4⟩
 | .fn f fs cs,v,h,hl,hv => by
   simp only [RV,Am.ren] at hv ⊢
   obtain ⟨vs,us,rfl,h1,h2⟩ := hv
   exact ⟨vs,us,rfl,RVs.renB fs vs h (fun l q => hl l (by simp [AV.lbs,q])) h1,RVs.renB cs us h (fun l q => hl l (by simp [AV.lbs,q])) h2⟩
 | .ifc t x,v,h,hl,hv => by
   simp only [RV,Am.ren] at hv ⊢
   obtain ⟨u,rfl,h1⟩ := hv
   exact ⟨u,rfl,RV.renB x u h (by simpa [AV.lbs] using hl) h1⟩
theorem RVs.renB {w w' : World} {β β' : Lb → Option Nat} {H H' : Hp} {I I' : Nat → Prop} {ρ : Lb → Lb} : ∀ (xs : List AV) (vs : List Value),Keeps w w' I I' →
   (∀ l ∈ lbss xs,live H' (ρ l) → live H l ∧ β' (ρ l) = β l ∧ ∀ g S,β l = some g → bsz w g = some S → bsz w' g = some S) → RVs w β H I xs vs → RVs w' β' H' I' (rens ρ xs) vs
 | [],_,_,_,hv => by simpa [RVs,rens] using hv
 | x :: r,vs,h,hl,hv => by
   simp only [RVs,rens] at hv ⊢
   obtain ⟨v,us,rfl,h1,h2⟩ := hv
   exact ⟨v,us,rfl,RV.renB x v h (fun l q => hl l (by simp [lbss,q])) h1,RVs.renB r us h (fun l q => hl l (by simp [lbss,q])) h2⟩
end
theorem RelB.weak (hr : RelB K β env H a w) (ρ : Lb → Lb) {env2 : Env} {H2 : Hp} (hE : ∀ n,env2 n = .any ∨ env n = ren ρ (env2 n)) (hH : ∀ l r,H2 l = .live r → H (ρ l) = .live (renR ρ r))
   (hinj : ∀ l l',live H2 l → live H2 l' → ρ l = ρ l' → l = l') (hm : ∀ n,∀ l ∈ (env2 n).lbs,H2 l ≠ .unused) (hrm : ∀ l r,H2 l = .live r → ∀ cs ∈ r.els,∀ q ∈ lbss cs,H2 q ≠ .unused)
   (hst : ∀ l,live K.H0 l → H2 l ≠ .unused ∧ (live H2 l → ρ l = l)) (hfr : ∀ l,live H2 l → l.fresh = true → (ρ l).fresh = true) : RelB K (fun l => β (ρ l)) env2 H2 a w := by
 have hlive : ∀ l,live H2 l → live H (ρ l) := fun l ⟨r,h⟩ => ⟨_,hH l r h⟩
 have keep : ∀ ls,KeepsR w w β (fun l => β (ρ l)) H H2 (Im K β H) (Im K (fun l => β (ρ l)) H2) ρ ls := fun ls =>
   { im := fun k hk hs => ⟨⟨hk.1,fun l hl => hk.2 (ρ l) (hlive l hl)⟩,hs,rfl⟩
     lb := fun l _ hl => ⟨hlive l hl,rfl,fun _ _ _ h => h⟩ }
 refine ⟨hr.defers,hr.size,?_,?_,fun l g hl hb => hr.own (ρ l) g (hlive l hl) hb,fun l l' g h1 h2 g1 g2 => hinj l l' h1 h2 (hr.inj _ _ g (hlive l h1) (hlive l' h2) g1 g2),hm,hrm,hr.frame,?_,?_,fun l g hl hf hb => hr.fr (ρ l) g (hlive l hl) (hfr l hl hf) hb⟩
 · intro n
   rcases hE n with h | h
   · rw [h]; simp [RV]
   · exact RV.ren _ _ (keep _) (by rw [← h]; exact hr.regs n)
 · intro l r h
   obtain ⟨h1,h2,h3⟩ := hr.rows (ρ l) _ (hH l r h)
   refine ⟨h1,fun cs hcs => ?_,?_⟩
   · have := h2 (rens ρ cs) (List.mem_map_of_mem hcs)
     rwa [rens_len] at this
   · cases hb : β (ρ l) with
     | none => simp only [hb] at h3 ⊢; simpa [renR] using h3
     | some g =>
       simp only [hb] at h3 ⊢
       obtain ⟨cur,e,cap,e1,e2,e3,e4,e5⟩ := h3
       refine ⟨cur,e,cap,e1,e2,e3,by simpa [renR] using e4,fun i j cs x hi hj => ?_⟩
       obtain ⟨v,k1,k2⟩ := e5 i j (rens ρ cs) (ren ρ x) (by simp [renR,hi]) (by rw [rens_get,hj]; rfl)
       exact ⟨v,k1,RV.ren _ _ (keep _) k2⟩
 · intro g cs hg
   obtain ⟨h1,h2,h3⟩ := hr.glob g cs hg
   exact ⟨((keep []).im g h1 h2).1,h2,CellsR.mono (keep []).toKeeps cs g 0 h1 h2 h3⟩
 · intro l hl
   obtain ⟨h1,h2⟩ := hst l hl
   refine ⟨h1,fun h => ?_⟩
   have e := h2 h
   simp only [e]
   exact (hr.stab l hl).2 (e ▸ hlive l h)
theorem call_pure (hr : RelB K β env H a w) {f : Nat} {args : List AV} {vs : List Value} {res : AV} (hp : PureC K.P K.G f args res) (hv : RVs w β H (Im K β H) args vs)
   (hglob : True) : Calls K.P f vs.toArray w fun e w' => ∃ v,e = .returned v ∧ Grew w w' ∧ RV w' β H (Im K β H) res v := by
 obtain ⟨h1,h2,h3⟩ := hp
 have hrel : RelB (callK K.P K.G w (Im K β H) β Hp.none) β Env.any Hp.none noAct w :=
   { defers := rfl,size := rfl
     regs := fun n => by simp [Env.any,RV]
     rows := fun l r h => by simp [Hp.none] at h
     own := fun l g ⟨r,h⟩ => by simp [Hp.none] at h
     inj := fun l l' g ⟨r,h⟩ => by simp [Hp.none] at h
     ment := fun n => by simp [Env.any,AV.lbs]
     rment := fun l r h => by simp [Hp.none] at h
     frame := ⟨rfl,rfl,rfl,Nat.le_refl _,fun _ _ _ => rfl,fun _ _ h => h⟩
     stab := fun l ⟨r,h⟩ => by simp [callK,Hp.none] at h
     fr := fun l g ⟨r,h⟩ => by simp [Hp.none] at h
     glob := fun g cs hg => by
       obtain ⟨k1,k2,k3⟩ := hr.glob g cs hg
       have kp : Keeps w w (Im K β H) (Im (callK K.P K.G w (Im K β H) β Hp.none) β Hp.none) := ⟨fun k hk hs => ⟨⟨.inl hk,fun l ⟨r,h⟩ => by simp [Hp.none] at h⟩,hs,rfl⟩⟩
       exact ⟨(kp.im g k1 k2).1,k2,CellsR.mono kp cs g 0 k1 k2 k3⟩ }
 have kp : Keeps2 w w β β H Hp.none (Im K β H) (Im (callK K.P K.G w (Im K β H) β Hp.none) β Hp.none) (lbss args) :=
   { im := fun k hk hs => ⟨⟨.inl hk,fun l ⟨r,h⟩ => by simp [Hp.none] at h⟩,hs,rfl⟩
     lb := fun l hl => by rw [h1] at hl; simp at hl }
 refine (h3 w (Im K β H) β vs hrel (RVs.mono _ _ kp hv)).mono ?_
 rintro e w' ⟨v,x,H',β',rfl,rfl,k1,k2,_⟩
 have gw : Grew w w' := by
   refine ⟨k1.frame.os,k1.frame.tape,k1.frame.output,k1.frame.size,fun k hk => k1.frame.block k hk ?_⟩
   rintro ⟨l,⟨r,h⟩,_⟩
   simp [Hp.none] at h
 refine ⟨v,rfl,gw,RV.mono _ _ ?_ k2⟩
 refine { im := fun k hk hs => ⟨?_,hs,rfl⟩,lb := fun l hl => by rw [h2] at hl; simp at hl }
 rcases hk.1 with h | h
 · exact h
 · refine ⟨.inr (Nat.le_trans hr.frame.size h),fun l hl hb => ?_⟩
   have := hr.blk_lt hl hb
   have h' : w.heap.size ≤ k := h
   omega
mutual
theorem RV.scalar {w w' : World} {β β' : Lb → Option Nat} {H H' : Hp} {I I' : Nat → Prop} : ∀ (x : AV) (v : Value),x.scalar = true → RV w β H I x v → RV w' β' H' I' x v
 | .bool _,_,_,h | .int _ _,_,_,h | .str _,_,_,h | .nilp,_,_,h | .nilif,_,_,h => by simpa [RV] using h
 | .tup cs,v,hs,h => by
   simp only [RV] at h ⊢
   obtain ⟨vs,h1,h2⟩ := h
   exact ⟨vs,h1,RVs.scalar cs vs (by simpa [AV.scalar] using hs) h2⟩
 | .any,_,hs,_ | .un,_,hs,_ | .list _,_,hs,_ | .nil0,_,hs,_ | .agg _,_,hs,_ | .sl ..,_,hs,_ | .slk ..,_,hs,_ | .ptr ..,_,hs,_ | .lptr _,_,hs,_ | .fn ..,_,hs,_ | .ifc ..,_,hs,_ => by simp [AV.scalar] at hs
theorem RVs.scalar {w w' : World} {β β' : Lb → Option Nat} {H H' : Hp} {I I' : Nat → Prop} : ∀ (xs : List AV) (vs : List Value),scalars xs = true → RVs w β H I xs vs → RVs w' β' H' I' xs vs
 | [],_,_,h => by simpa [RVs] using h
 | x :: r,vs,hs,h => by
   simp only [scalars,Bool.and_eq_true] at hs
   simp only [RVs] at h ⊢
   obtain ⟨v,us,h1,h2,h3⟩ := h
   exact ⟨v,us,h1,RV.scalar x v hs.1 h2,RVs.scalar r us hs.2 h3⟩
end
theorem lent_rvs (hr : RelB K β env H a w) {I : Nat → Prop} (hI : ∀ k,Im K β H k → I k) (hB : ∀ l g,live H l → β l = some g → I g) : ∀ (args cargs : List AV) (vs : List Value),All2 (Lent H) args cargs → lbss cargs = [] → RVs w β H (Im K β H) args vs → RVs w β Hp.none I cargs vs
 | _,_,vs,.nil,_,hv => by simpa [RVs] using hv
 | _,_,vs,@All2.cons _ _ _ x y args cargs hxy ht,hl,hv => by
   simp only [lbss,List.append_eq_nil_iff] at hl
   simp only [RVs] at hv ⊢
   obtain ⟨v,us,h1,h2,h3⟩ := hv
   refine ⟨v,us,h1,?_,lent_rvs hr hI hB _ _ us ht hl.2 h3⟩
   have hk : Keeps w w (Im K β H) I := ⟨fun k hk hs => ⟨hI k hk,hs,rfl⟩⟩
   cases hxy with
   | same =>
     exact RV.mono x v { im := hk.im,lb := fun l hq => by rw [hl.1] at hq; simp at hq } h2
   | row l sz i n xs hH hin hfl =>
     simp only [RV] at h2
     obtain ⟨ad,c,rfl,g2,g3,g4,g5⟩ := h2
     simp only [RV,IVR]
     have hlen : ((xs.drop i).take n).length = n := by simp; omega
     rw [hlen]
     refine ⟨ad,c,rfl,g2,g3,?_⟩
     by_cases hn : n = 0
     · exact .inl hn
     · right
       rcases g5 ⟨_,hH⟩ with h6 | ⟨g,Sz,e1,e2,e3,e4⟩
       · omega
       · obtain ⟨cur,e0,cap,k1,k2,k3,k4,k5⟩ := (hr.rows l _ hH).block e1
         have hsz : 0 < sz := (hr.rows l _ hH).1
         refine ⟨g,i * sz,sz,e2,hB l g ⟨_,hH⟩ e1,(Array.getElem?_eq_some_iff.1 k1).1,hsz,ElemsR_of _ _ _ (fun k y hy => ?_)⟩
         have hy' : xs[i + k]? = some y := by
           rw [List.getElem?_take] at hy
           split at hy
           · rwa [List.getElem?_drop] at hy
           · simp at hy
         rw [ElemR_iff]
         have hcl : y.cells.length = sz := by
           have := (hr.rows l _ hH).2.1 (y.cells.map IV.av1) (by
             simp only [immE]
             exact List.mem_map_of_mem (f := fun y : IV => y.cells.map IV.av1) (List.mem_of_getElem? hy'))
           simpa using this
         refine ⟨hcl.symm,CellsR_of _ _ _ (fun j z hz => ?_)⟩
         obtain ⟨u,q1,q2⟩ := k5 (i + k) j (y.cells.map IV.av1) z.av1 (by simp [immE,hy']) (by simp [hz])
         refine ⟨u,?_,RV_av1 hk (hfl y (List.mem_of_getElem? hy') z (List.mem_of_getElem? hz)) q2⟩
         rw [cell_of_row w g _ cur e0 (0,0) k1,← q1]
         congr 1
         rw [Nat.add_mul]
theorem call_lend (hr : RelB K β env H a w) {f : Nat} {args cargs : List AV} {vs : List Value} {res : AV} (ha : All2 (Lent H) args cargs) (hp : PureC K.P K.G f cargs res) (hres : res.scalar = true) (hv : RVs w β H (Im K β H) args vs) :
   Calls K.P f vs.toArray w fun e w' => ∃ v,e = .returned v ∧ Grew w w' ∧ RV w' β H (Im K β H) res v := by
 obtain ⟨h1,h2,h3⟩ := hp
 obtain ⟨A,hA⟩ : ∃ A : Nat → Prop,A = fun k => Im K β H k ∨ ∃ l,live H l ∧ β l = some k := ⟨_,rfl⟩
 have hAI : ∀ k,A k → Im (callK K.P K.G w A β Hp.none) β Hp.none k := fun k hk => ⟨.inl hk,fun l ⟨r,h⟩ => by simp [Hp.none] at h⟩
 have hrel : RelB (callK K.P K.G w A β Hp.none) β Env.any Hp.none noAct w :=
   { defers := rfl,size := rfl
     regs := fun n => by simp [Env.any,RV]
     rows := fun l r h => by simp [Hp.none] at h
     own := fun l g ⟨r,h⟩ => by simp [Hp.none] at h
     inj := fun l l' g ⟨r,h⟩ => by simp [Hp.none] at h
     ment := fun n => by simp [Env.any,AV.lbs]
     rment := fun l r h => by simp [Hp.none] at h
     frame := ⟨rfl,rfl,rfl,Nat.le_refl _,fun _ _ _ => rfl,fun _ _ h => h⟩
     stab := fun l ⟨r,h⟩ => by simp [callK,Hp.none] at h
     fr := fun l g ⟨r,h⟩ => by simp [Hp.none] at h
     glob := fun g cs hg => by
       obtain ⟨k1,k2,k3⟩ := hr.glob g cs hg
       have kp : Keeps w w (Im K β H) (Im (callK K.P K.G w A β Hp.none) β Hp.none) := ⟨fun k hk hs => ⟨hAI k (by rw [hA]; exact .inl hk),hs,rfl⟩⟩
       exact ⟨(kp.im g k1 k2).1,k2,CellsR.mono kp cs g 0 k1 k2 k3⟩ }
 have hv' := lent_rvs hr (I := Im (callK K.P K.G w A β Hp.none) β Hp.none) (fun k hk => hAI k (by rw [hA]; exact .inl hk)) (fun l g hl hg => hAI g (by rw [hA]; exact .inr ⟨l,hl,hg⟩)) args cargs vs ha h1 hv
 refine (h3 w A β vs hrel hv').mono ?_
 rintro e w' ⟨v,x,H',β',rfl,rfl,k1,k2,_⟩
 have gw : Grew w w' := by
   refine ⟨k1.frame.os,k1.frame.tape,k1.frame.output,k1.frame.size,fun k hk => k1.frame.block k hk ?_⟩
   rintro ⟨l,⟨r,h⟩,_⟩
   simp [Hp.none] at h
 exact ⟨v,rfl,gw,RV.scalar _ _ hres k2⟩
open Classical in
theorem call_rows (hr : RelB K β env H a w) {f : Nat} {cargs : List AV} {vs : List Value} {Hin : Hp} {Q : AV → Hp → Prop} {ρ : Lb → Lb} (hs : SpecC K.P K.G f cargs Hin Q)
   (hH : ∀ l r,Hin l = .live r → H (ρ l) = .live (renR ρ r)) (hLv : ∀ l,Hin l ≠ .unused → live Hin l)
   (hinj : ∀ l l',live Hin l → live Hin l' → ρ l = ρ l' → l = l') (hcm : ∀ l ∈ lbss cargs,Hin l ≠ .unused) (hnf : ∀ l,live Hin l → l.fresh = false) (hrm : ∀ l r,Hin l = .live r → ∀ cs ∈ r.els,∀ q ∈ lbss cs,Hin q ≠ .unused)
   (hv : RVs w β H (Im K β H) (rens ρ cargs) vs) : Calls K.P f vs.toArray w fun e w' => ∃ v x H',e = .returned v ∧ Q x H' ∧
     ∀ (ρ' : Lb → Lb) (H'' : Hp),(∀ l,live Hin l → live H' l → ρ' l = ρ l) →
     (∀ q r,H'' q = .live r → (H q = .live r ∧ ∀ l,live Hin l → ρ l ≠ q) ∨ ∃ l r',H' l = .live r' ∧ ρ' l = q ∧ r = renR ρ' r') →
     (∀ l l',live H' l → live H' l' → ρ' l = ρ' l' → l = l') →
     (∀ q,H q ≠ .unused → H'' q ≠ .unused) → (∀ l ∈ x.lbs,H'' (ρ' l) ≠ .unused) →
     (∀ l r',H' l = .live r' → ∀ cs ∈ r'.els,∀ q ∈ lbss cs,H'' (ρ' q) ≠ .unused) →
     (∀ l,live H' l → live Hin l ∨ (H (ρ' l) = .unused ∧ ((ρ' l).fresh = true → l.fresh = true ∨ ∀ z,live Hin z → (ρ z).fresh = true))) →
     (∀ l,(l ∈ x.lbs ∨ ∃ l1 r1 cs,H' l1 = .live r1 ∧ cs ∈ r1.els ∧ l ∈ lbss cs) → live H'' (ρ' l) → live H' l) →
     ∃ β'',RelB K β'' env H'' a w' ∧ RV w' β'' H'' (Im K β'' H'') (ren ρ' x) v := by
 have hlive : ∀ l,live Hin l → live H (ρ l) := fun l ⟨r,h⟩ => ⟨_,hH l r h⟩
 have kin : ∀ ls,KeepsR w w β (fun l => β (ρ l)) H Hin (Im K β H) (Im (callK K.P K.G w (Im K β H) (fun l => β (ρ l)) Hin) (fun l => β (ρ l)) Hin) ρ ls := fun ls =>
   { im := fun k hk hs => ⟨⟨.inl hk,fun l hl => hk.2 (ρ l) (hlive l hl)⟩,hs,rfl⟩
     lb := fun l _ hl => ⟨hlive l hl,rfl,fun _ _ _ h => h⟩ }
 have hrel : RelB (callK K.P K.G w (Im K β H) (fun l => β (ρ l)) Hin) (fun l => β (ρ l)) Env.any Hin noAct w :=
   { defers := rfl,size := rfl
     regs := fun n => by simp [Env.any,RV]
     rows := fun l r h => by
       obtain ⟨h1,h2,h3⟩ := hr.rows (ρ l) _ (hH l r h)
       refine ⟨h1,fun cs hcs => ?_,?_⟩
       · have := h2 (rens ρ cs) (List.mem_map_of_mem hcs)
         rwa [rens_len] at this
       · cases hb : β (ρ l) with
         | none => simp only [hb] at h3 ⊢; simpa [renR] using h3
         | some g =>
           simp only [hb] at h3 ⊢
           obtain ⟨cur,e,cap,e1,e2,e3,e4,e5⟩ := h3
           refine ⟨cur,e,cap,e1,e2,e3,by simpa [renR] using e4,fun i j cs x hi hj => ?_⟩
           obtain ⟨v,k1,k2⟩ := e5 i j (rens ρ cs) (ren ρ x) (by simp [renR,hi]) (by rw [rens_get,hj]; rfl)
           exact ⟨v,k1,RV.ren _ _ (kin _) k2⟩
     own := fun l g hl hb => .inl ⟨l,hl,hb⟩
     inj := fun l l' g h1 h2 g1 g2 => hinj l l' h1 h2 (hr.inj _ _ g (hlive l h1) (hlive l' h2) g1 g2)
     ment := fun n => by simp [Env.any,AV.lbs]
     rment := hrm
     frame := ⟨rfl,rfl,rfl,Nat.le_refl _,fun _ _ _ => rfl,fun _ _ h => h⟩
     glob := fun g cs hg => by
       obtain ⟨k1,k2,k3⟩ := hr.glob g cs hg
       exact ⟨((kin []).im g k1 k2).1,k2,CellsR.mono (kin []).toKeeps cs g 0 k1 k2 k3⟩
     stab := fun l hl => ⟨by obtain ⟨r,h⟩ := hl; simp only [callK] at h; simp [h],fun _ => rfl⟩
     fr := fun l g hl hf => by rw [hnf l hl] at hf; cases hf }
 refine (hs w (Im K β H) (fun l => β (ρ l)) vs hrel (RVs.ren _ _ (kin _) hv)).mono ?_
 rintro e w' ⟨v,x,H',β',rfl,hq,hc,hxv,hxm⟩
 refine ⟨v,x,H',rfl,hq,?_⟩
 intro ρ' H'' p1 p2 p3 p4 p5 p6 p7 p8
 let β'' : Lb → Option Nat := fun q => if h : ∃ l,live H' l ∧ ρ' l = q then β' (Classical.choose h) else β q
 have hb1 : ∀ l,live H' l → β'' (ρ' l) = β' l := by
   intro l hl
   have h : ∃ l',live H' l' ∧ ρ' l' = ρ' l := ⟨l,hl,rfl⟩
   have hcs := Classical.choose_spec h
   have e : Classical.choose h = l := p3 _ _ hcs.1 hl hcs.2
   show (if h : ∃ l',live H' l' ∧ ρ' l' = ρ' l then β' (Classical.choose h) else β (ρ' l)) = β' l
   rw [dif_pos h,e]
 have hb2 : ∀ q,live H q → (∀ l,live Hin l → ρ l ≠ q) → β'' q = β q := by
   intro q hq' hno
   have h : ¬ ∃ l,live H' l ∧ ρ' l = q := by
     rintro ⟨l,hl,rfl⟩
     rcases p7 l hl with h | ⟨h,_⟩
     · exact hno l h (p1 l h hl).symm
     · obtain ⟨r,h'⟩ := hq'; rw [h] at h'; cases h'
   show (if h : ∃ l,live H' l ∧ ρ' l = q then β' (Classical.choose h) else β q) = β q
   rw [dif_neg h]
 have hcls : ∀ q,live H'' q → (live H q ∧ (∀ l,live Hin l → ρ l ≠ q) ∧ β'' q = β q) ∨ ∃ l,live H' l ∧ ρ' l = q ∧ β'' q = β' l := by
   rintro q ⟨r,h⟩
   rcases p2 q r h with ⟨h1,h2⟩ | ⟨l,r',h1,rfl,_⟩
   · exact .inl ⟨⟨r,h1⟩,h2,hb2 q ⟨r,h1⟩ h2⟩
   · exact .inr ⟨l,⟨r',h1⟩,rfl,hb1 l ⟨r',h1⟩⟩
 have hown' : ∀ l g,live H' l → β' l = some g → (∃ l0,live Hin l0 ∧ β (ρ l0) = some g) ∨ w.heap.size ≤ g := by
   intro l g hl hg
   rcases hc.own l g hl hg with h | h
   · exact .inl h
   · exact .inr h
 have hstab : ∀ l,live Hin l → live H' l → β' l = β (ρ l) := fun l h1 h2 => (hc.stab l h1).2 h2
 have hsame : ∀ k,k < w.heap.size → (∀ l,live Hin l → β (ρ l) ≠ some k) → w'.heap[k]? = w.heap[k]? := by
   intro k hk hno
   refine hc.frame.block k hk ?_
   rintro ⟨l,hl,hb⟩
   exact hno l hl hb
 have him : ∀ k,Im K β H k → k < w.heap.size → Im K β'' H'' k ∧ k < w'.heap.size ∧ w'.heap[k]? = w.heap[k]? := by
   intro k hk hks
   refine ⟨⟨hk.1,fun q hq' hb => ?_⟩,Nat.lt_of_lt_of_le hks hc.frame.size,hsame k hks (fun l hl => hk.2 _ (hlive l hl))⟩
   rcases hcls q hq' with ⟨h1,h2,h3⟩ | ⟨l,h1,h2,h3⟩
   · rw [h3] at hb; exact hk.2 q h1 hb
   · rw [h3] at hb
     rcases hown' l k h1 hb with ⟨l0,h4,h5⟩ | h4
     · exact hk.2 _ (hlive l0 h4) h5
     · omega
 have hlb : ∀ q,H q ≠ .unused → live H'' q → live H q ∧ β'' q = β q ∧ ∀ g S,β q = some g → bsz w g = some S → bsz w' g = some S := by
   intro q hu hq'
   refine ⟨?_,?_,fun g S _ h => hc.frame.bs g S h⟩
   · rcases hcls q hq' with ⟨h1,h2,h3⟩ | ⟨l,h1,h2,h3⟩
     · exact h1
     · rcases p7 l h1 with h | ⟨h,_⟩
       · have e := p1 l h h1; rw [← h2,e]; exact hlive l h
       · rw [h2] at h; exact absurd h hu
   · rcases hcls q hq' with ⟨h1,h2,h3⟩ | ⟨l,h1,h2,h3⟩
     · exact h3
     · rcases p7 l h1 with h | ⟨h,_⟩
       · rw [h3,hstab l h h1,← h2,p1 l h h1]
       · rw [h2] at h; exact absurd h hu
 have keep : ∀ ls,(∀ q ∈ ls,H q ≠ .unused) → Keeps2 w w' β β'' H H'' (Im K β H) (Im K β'' H'') ls := fun ls hls =>
   { im := him,lb := fun q hq1 hq2 => hlb q (hls q hq1) hq2 }
 have hcim : Keeps w' w' (Im (callK K.P K.G w (Im K β H) (fun l => β (ρ l)) Hin) β' H') (Im K β'' H'') := ⟨by
   intro k hk hks
   refine ⟨⟨?_,fun q hq' hb => ?_⟩,hks,rfl⟩
   · rcases hk.1 with h | h
     · exact h.1
     · exact .inr (Nat.le_trans hr.frame.size h)
   · rcases hcls q hq' with ⟨h1,h2,h3⟩ | ⟨l,h1,h2,h3⟩
     · rw [h3] at hb
       rcases hk.1 with h | h
       · exact h.2 q h1 hb
       · have := hr.blk_lt h1 hb
         have h' : w.heap.size ≤ k := h
         omega
     · rw [h3] at hb
       exact hk.2 l h1 hb⟩
 have hcl : ∀ l,(l ∈ x.lbs ∨ ∃ l1 r1 cs,H' l1 = .live r1 ∧ cs ∈ r1.els ∧ l ∈ lbss cs) → live H'' (ρ' l) → live H' l ∧ β'' (ρ' l) = β' l ∧ ∀ g S,β' l = some g → bsz w' g = some S → bsz w' g = some S := by
   intro l h1 h2
   have h3 := p8 l h1 h2
   exact ⟨h3,hb1 l h3,fun _ _ _ h => h⟩
 refine ⟨β'',⟨hr.defers,hr.size,fun n => RV.mono _ _ (keep _ (hr.ment n)) (hr.regs n),?_,?_,?_,fun n q hq' => p4 q (hr.ment n q hq'),?_,?_,?_,?_,?_⟩,RV.renB x v hcim (fun l hl => hcl l (.inl hl)) hxv⟩
 · intro q r hqr
   rcases p2 q r hqr with ⟨h1,h2⟩ | ⟨l,r',h1,rfl,rfl⟩
   · obtain ⟨e1,e2,e3⟩ := hr.rows q r h1
     refine ⟨e1,e2,?_⟩
     rw [hb2 q ⟨r,h1⟩ h2]
     cases hb : β q with
     | none => simpa only [hb] using e3
     | some g =>
       simp only [hb] at e3 ⊢
       obtain ⟨cur,e,cap,f1,f2,f3,f4,f5⟩ := e3
       have hg : g < w.heap.size := (Array.getElem?_eq_some_iff.1 f1).1
       refine ⟨cur,e,cap,(hsame g hg (fun l hl hbl => h2 l hl (hr.inj _ _ g (hlive l hl) ⟨r,h1⟩ hbl hb))).trans f1,f2,f3,f4,fun i j cs y hi hj => ?_⟩
       obtain ⟨u,k1,k2⟩ := f5 i j cs y hi hj
       exact ⟨u,k1,RV.mono _ _ (keep _ (fun p hp => hr.rment q r h1 cs (List.mem_of_getElem? hi) p (lbss_get _ _ _ hj p hp))) k2⟩
   · obtain ⟨e1,e2,e3⟩ := hc.rows l r' h1
     refine ⟨e1,?_,?_⟩
     · intro cs hcs
       simp only [renR,List.mem_map] at hcs
       obtain ⟨cs0,h0,rfl⟩ := hcs
       rw [rens_len]; exact e2 cs0 h0
     · rw [hb1 l ⟨r',h1⟩]
       cases hb : β' l with
       | none => simp only [hb] at e3; simp [renR,e3]
       | some g =>
         simp only [hb] at e3 ⊢
         obtain ⟨cur,e,cap,f1,f2,f3,f4,f5⟩ := e3
         refine ⟨cur,e,cap,f1,f2,f3,by simpa [renR] using f4,fun i j cs y hi hj => ?_⟩
         simp only [renR,List.getElem?_map,Option.map_eq_some_iff] at hi
         obtain ⟨cs0,hi,rfl⟩ := hi
         rw [rens_get,Option.map_eq_some_iff] at hj
         obtain ⟨y0,hj,rfl⟩ := hj
         obtain ⟨u,k1,k2⟩ := f5 i j cs0 y0 hi hj
         exact ⟨u,k1,RV.renB _ _ hcim (fun p hp => hcl p (.inr ⟨l,r',cs0,h1,List.mem_of_getElem? hi,lbss_get _ _ _ hj p hp⟩)) k2⟩
 · intro q g hq' hb
   rcases hcls q hq' with ⟨h1,h2,h3⟩ | ⟨l,h1,h2,h3⟩
   · rw [h3] at hb; exact hr.own q g h1 hb
   · rw [h3] at hb
     rcases hown' l g h1 hb with ⟨l0,h4,h5⟩ | h4
     · exact hr.own _ g (hlive l0 h4) h5
     · exact .inr (Nat.le_trans hr.frame.size h4)
 · intro q1 q2 g hq1 hq2 g1 g2
   rcases hcls q1 hq1 with ⟨h1,h2,h3⟩ | ⟨l,h1,h2,h3⟩
   · rw [h3] at g1
     rcases hcls q2 hq2 with ⟨k1,k2,k3⟩ | ⟨l',k1,k2,k3⟩
     · rw [k3] at g2; exact hr.inj q1 q2 g h1 k1 g1 g2
     · rw [k3] at g2
       rcases hown' l' g k1 g2 with ⟨l0,h4,h5⟩ | h4
       · exact absurd (hr.inj _ _ g (hlive l0 h4) h1 h5 g1) (h2 l0 h4)
       · have := hr.blk_lt h1 g1; omega
   · rw [h3] at g1
     rcases hcls q2 hq2 with ⟨k1,k2,k3⟩ | ⟨l',k1,k2,k3⟩
     · rw [k3] at g2
       rcases hown' l g h1 g1 with ⟨l0,h4,h5⟩ | h4
       · exact absurd (hr.inj _ _ g (hlive l0 h4) k1 h5 g2) (k2 l0 h4)
       · have := hr.blk_lt k1 g2; omega
     · rw [k3] at g2
       rw [← h2,← k2,hc.inj l l' g h1 k1 g1 g2]
 · intro q r hqr cs hcs p hp
   rcases p2 q r hqr with ⟨h1,h2⟩ | ⟨l,r',h1,rfl,rfl⟩
   · exact p4 p (hr.rment q r h1 cs hcs p hp)
   · simp only [renR,List.mem_map] at hcs
     obtain ⟨cs0,h0,rfl⟩ := hcs
     rw [rens_lbs,List.mem_map] at hp
     obtain ⟨p0,hp0,rfl⟩ := hp
     exact p6 l r' h1 cs0 h0 p0 hp0
 · refine ⟨hc.frame.os.trans hr.frame.os,hc.frame.tape.trans hr.frame.tape,hc.frame.output.trans hr.frame.output,Nat.le_trans hr.frame.size hc.frame.size,fun k hk hd => ?_,fun k S hS => hc.frame.bs k S (hr.frame.bs k S hS)⟩
   refine (hsame k (Nat.lt_of_lt_of_le hk hr.frame.size) (fun l hl hb => ?_)).trans (hr.frame.block k hk hd)
   rcases hr.own _ k (hlive l hl) hb with h | h
   · exact hd h
   · omega
 · intro g cs hg
   obtain ⟨h1,h2,h3⟩ := hr.glob g cs hg
   obtain ⟨k1,k2,k3⟩ := him g h1 h2
   exact ⟨k1,k2,CellsR.mono (keep [] (by simp)).toKeeps cs g 0 h1 h2 h3⟩
 · intro l hl
   obtain ⟨h1,h2⟩ := hr.stab l hl
   refine ⟨p4 l h1,fun h => ?_⟩
   obtain ⟨k1,k2,_⟩ := hlb l h1 h
   rw [k2]; exact h2 k1
 · intro q g hq' hf hb
   rcases hcls q hq' with ⟨h1,h2,h3⟩ | ⟨l,h1,h2,h3⟩
   · rw [h3] at hb; exact hr.fr q g h1 hf hb
   · rw [h3] at hb
     rcases p7 l h1 with h | ⟨h,h'⟩
     · rw [hstab l h h1] at hb
       have e : ρ l = q := by rw [← h2,p1 l h h1]
       rw [e] at hb
       exact hr.fr q g (e ▸ hlive l h) hf hb
     · rcases h' (by rw [h2]; exact hf) with h'' | h''
       · exact Nat.le_trans hr.frame.size (hc.fr l g h1 h'' hb)
       · rcases hown' l g h1 hb with ⟨l0,h4,h5⟩ | h4
         · exact hr.fr _ g (hlive l0 h4) (h'' l0 h4) h5
         · exact Nat.le_trans hr.frame.size h4
end
end Go.Am
