/- THE ABSTRACT MACHINE, part 31: nil slices are empty lists. -/
import Derived.Test.YtfinkeaikbmpgaaAm30
set_option linter.defProp false
set_option linter.unnecessarySimpa false
set_option linter.unusedVariables false
set_option linter.unusedSimpArgs false
namespace Go.Am
open Go Go.RowKit

mutual
/-- An empty slice, whatever it is, is an empty list. -/
def norm : AV → AV
  | .nil0 => .list []
  | .agg cs => .agg (norms cs)
  | .tup cs => .tup (norms cs)
  | x => x
def norms : List AV → List AV
  | [] => []
  | x :: r => norm x :: norms r
end

mutual
theorem norm_lbs : ∀ x : AV, (norm x).lbs = x.lbs
  | .nil0 => rfl
  | .agg cs => by simp [norm, AV.lbs, norms_lbs cs]
  | .tup cs => by simp [norm, AV.lbs, norms_lbs cs]
  | .sl .. | .ptr .. | .any | .un | .bool _ | .int .. | .str _ | .list _ | .nilp | .nilif | .lptr _ | .fn .. | .ifc .. => rfl
theorem norms_lbs : ∀ xs : List AV, lbss (norms xs) = lbss xs
  | [] => rfl
  | x :: r => by simp [norms, lbss, norm_lbs x, norms_lbs r]
end

mutual
theorem RV.norm {w : World} {β : Lb → Option Nat} {H : Hp} {I : Nat → Prop} : ∀ (x : AV) (v : Value), RV w β H I x v → RV w β H I (Am.norm x) v
  | .nil0, v, h => by
    simp only [RV] at h
    obtain ⟨a, rfl⟩ := h
    simp only [Am.norm, RV, IVR]
    exact ⟨a, 0, rfl, Nat.le_refl _, by simp [maxLen], .inl rfl⟩
  | .agg cs, v, h => by
    simp only [RV, Am.norm] at h ⊢
    obtain ⟨vs, h1, h2⟩ := h
    exact ⟨vs, h1, RVs.norm cs vs h2⟩
  | .tup cs, v, h => by
    simp only [RV, Am.norm] at h ⊢
    obtain ⟨vs, h1, h2⟩ := h
    exact ⟨vs, h1, RVs.norm cs vs h2⟩
  | .sl .., v, h | .ptr .., v, h | .any, v, h | .un, v, h | .bool _, v, h | .int .., v, h | .str _, v, h | .list _, v, h | .nilp, v, h | .nilif, v, h | .lptr _, v, h | .fn .., v, h | .ifc .., v, h => h
theorem RVs.norm {w : World} {β : Lb → Option Nat} {H : Hp} {I : Nat → Prop} : ∀ (xs : List AV) (vs : List Value), RVs w β H I xs vs → RVs w β H I (norms xs) vs
  | [], vs, h => h
  | x :: r, vs, h => by
    simp only [RVs, norms] at h ⊢
    obtain ⟨v, us, h1, h2, h3⟩ := h
    exact ⟨v, us, h1, RV.norm x v h2, RVs.norm r us h3⟩
end

theorem SpecC.n {P : Program} {G : Nat → Option (List IV)} {f : Nat} {args : List AV} {H : Hp} {Q : AV → Hp → Prop} (h : SpecC P G f (norms args) H Q) : SpecC P G f args H Q :=
  fun w A β vs hr hv => h w A β vs hr (RVs.norm _ _ hv)
theorem SpecC.res {P : Program} {G : Nat → Option (List IV)} {f : Nat} {args : List AV} {H : Hp} {Q : AV → Hp → Prop} (h : SpecC P G f args H Q) : SpecC P G f args H fun x H' => ∃ y, Q y H' ∧ x = norm y := by
  intro w A β vs hr hv
  refine (h w A β vs hr hv).mono ?_
  rintro e w' ⟨v, x, H', β', rfl, h1, h2, h3, h4⟩
  exact ⟨v, norm x, H', β', rfl, ⟨x, h1, rfl⟩, h2, RV.norm _ _ h3, by rw [norm_lbs]; exact h4⟩

theorem PureC.n {P : Program} {G : Nat → Option (List IV)} {f : Nat} {args : List AV} {res : AV} (h : PureC P G f (norms args) res) : PureC P G f args res :=
  ⟨by have := h.1; rwa [norms_lbs] at this, h.2.1, h.2.2.n⟩
theorem PureC.of {P : Program} {G : Nat → Option (List IV)} {f : Nat} {args args' : List AV} {res : AV} (h : PureC P G f args' res) (e : norms args = args') : PureC P G f args res := PureC.n (by rw [e]; exact h)

/-- A pure function whose result may be a nil slice. -/
theorem pure_of_goN {P : Program} {G : Nat → Option (List IV)} {f : Nat} {n : Nat} {rs : List RO} {ac : AC} {args : List AV} {res : AV}
    (hF : compF P G f = some (n, rs, ac.bare)) (hn : args.length ≤ n) (hl : lbss args = []) (hl2 : res.lbs = [])
    (hg : go ⟨P, G, n⟩ (RetP rs fun x _ => norm x = res) [.code ac] (argE args) Hp.none) : PureC P G f args res :=
  ⟨hl, hl2, ((spec_of_go hF hn (fun l ⟨r, h⟩ => by simp [Hp.none] at h) (by simp [hl]) hg).res).mono fun x H ⟨y, h1, h2⟩ => by rw [h2]; exact h1⟩

theorem immE_get (xs : List IV) (i : Nat) : (immE xs)[i]? = xs[i]?.map fun y => y.cells.map IV.av1 := by simp [immE]
theorem immE_len (xs : List IV) : (immE xs).length = xs.length := by simp [immE]
theorem immE_set (xs : List IV) (i : Nat) (y : IV) : (immE xs).set i (y.cells.map IV.av1) = immE (xs.set i y) := by simp [immE, List.map_set]
theorem immE_app (xs ys : List IV) : immE (xs ++ ys) = immE xs ++ immE ys := by simp [immE]

theorem WR_at {σ : Type} (d sz : Nat) (ps : σ → List (Nat × AV)) (xs : σ → List IV) (env : Env) (H : Hp) (s : σ) :
    WR d sz ps xs env H s = (NF H ∧ EqI env (ps s) ∧ ∃ n els, env d = .sl (.loc n) sz 0 (xs s).length ∧ H (.loc n) = .live ⟨sz, els⟩ ∧ els = immE (xs s)) := rfl

theorem WR_mk {σ : Type} {d sz : Nat} {ps : σ → List (Nat × AV)} {xs : σ → List IV} {env : Env} {H : Hp} {s : σ} (n : Nat) (h1 : NF H) (h2 : EqI env (ps s)) (h3 : env d = .sl (.loc n) sz 0 (xs s).length)
    (h4 : H (.loc n) = .live ⟨sz, immE (xs s)⟩) : WR d sz ps xs env H s := ⟨h1, h2, n, _, h3, h4, rfl⟩

/-- A list that grows by one. -/
theorem app_one {sz b d n : Nat} {l : Lb} {els : List (List AV)} {x : IV} {H : Hp} (hl : H l = .live ⟨sz, els⟩) (hn : els.length = n) (he : x.cells.length = sz) (hf : ∀ z ∈ x.cells, ∀ cs, z ≠ .agg cs) (hb : (n + 1) * b ≤ 140737488355328) (h0 : 0 < b)
    (hd : l ≠ l.app d) (hu : H (l.app d) = .unused) :
    appV sz b d (.sl l sz 0 n) (.list [x]) H = some (.sl (l.app d) sz 0 (n + 1), upd (upd H l .dead) (l.app d) (.live ⟨sz, els ++ immE [x]⟩)) := by
  have := app_sl (xs := [x]) hl (Nat.le_of_eq hn.symm) (by intro y hy; simp only [List.mem_singleton] at hy; subst hy; exact he) (by intro y hy; simp only [List.mem_singleton] at hy; subst hy; exact hf) (by simpa using hb) h0 hd hu
  rw [this]
  simp only [List.length_cons, List.length_nil, Nat.zero_add, Option.some.injEq, Prod.mk.injEq, true_and]
  rw [List.take_of_length_le (Nat.le_of_eq hn)]

/-- The same, of a list that this call has made. -/
theorem app_loc (sz b d k : Nat) (xs : List IV) (x : IV) {n : Nat} {H : Hp} (hl : H (.loc k) = .live ⟨sz, immE xs⟩) (hn : xs.length = n) (he : x.cells.length = sz) (hf : ∀ z ∈ x.cells, ∀ cs, z ≠ .agg cs) (hb : (n + 1) * b ≤ 140737488355328) (h0 : 0 < b)
    (hd : k ≠ d) (hu : H (.loc d) = .unused) :
    appV sz b d (.sl (.loc k) sz 0 n) (.list [x]) H = some (.sl (.loc d) sz 0 (n + 1), upd (upd H (.loc k) .dead) (.loc d) (.live ⟨sz, immE (xs ++ [x])⟩)) := by
  have e : (Lb.loc k).app d = .loc d := rfl
  have := app_one (l := .loc k) (d := d) hl (by rw [immE_len]; exact hn) he hf hb h0 (by rw [e]; simpa using hd) (by rw [e]; exact hu)
  rw [e] at this
  rw [this, immE_app]

end Go.Am
