import Derived.Test.YtfinkeaikbmpgaaDoorKT10
import Derived.Test.YtfinkeaikbmpgaaDoorKT24
import Derived.Test.YtfinkeaikbmpgaaDoorKT18
import Derived.Test.YtfinkeaikbmpgaaDoorKD3
set_option linter.unusedSimpArgs false
set_option linter.unusedVariables false
set_option linter.unnecessarySimpa false
set_option linter.defProp false
/- THE ABSTRACT MACHINE, part 37: many rows become data at once. -/
namespace Go.Am
open Go Go.RowKit
mutual
/-- A value, when the rows of X are data. -/
def fzV (X : Lb → Option (Nat × List IV)) : AV → AV
  | .sl l sz i n => match X l with
    | some (s, xs) => if s = sz ∧ i + n ≤ xs.length then .list ((xs.drop i).take n) else .sl l sz i n
    | none => .sl l sz i n
  | .agg cs => .agg (fzVs X cs)
  | .tup cs => .tup (fzVs X cs)
  | x => x
def fzVs (X : Lb → Option (Nat × List IV)) : List AV → List AV
  | [] => []
  | x :: r => fzV X x :: fzVs X r
end
def fzH (X : Lb → Option (Nat × List IV)) (H : Hp) : Hp := fun l => match X l with
  | some _ => .dead
  | none => match H l with
    | .live r => .live ⟨r.sz, r.els.map (fzVs X)⟩
    | s => s
theorem fzVs_len (X : Lb → Option (Nat × List IV)) : ∀ xs, (fzVs X xs).length = xs.length
  | [] => rfl
  | x :: r => by simp [fzVs, fzVs_len X r]
theorem fzVs_get (X : Lb → Option (Nat × List IV)) : ∀ (xs : List AV) (i : Nat), (fzVs X xs)[i]? = xs[i]?.map (fzV X)
  | [], i => by simp [fzVs]
  | x :: r, 0 => by simp [fzVs]
  | x :: r, i + 1 => by simp [fzVs, fzVs_get X r]
mutual
theorem fzV_lbs (X : Lb → Option (Nat × List IV)) : ∀ (x : AV) (l : Lb), l ∈ (fzV X x).lbs → l ∈ x.lbs
  | .sl q sz i n, l, h => by
    simp only [fzV] at h
    split at h
    · split at h
      · simp [AV.lbs] at h
      · exact h
    · exact h
  | .agg cs, l, h => by simp only [fzV, AV.lbs] at h ⊢; exact fzVs_lbs X cs l h
  | .tup cs, l, h => by simp only [fzV, AV.lbs] at h ⊢; exact fzVs_lbs X cs l h
  | .slk .., l, h | .ptr .., l, h | .any, l, h | .un, l, h | .bool _, l, h | .int .., l, h | .str _, l, h | .list _, l, h | .nilp, l, h | .nil0, l, h | .nilif, l, h | .lptr _, l, h | .fn .., l, h | .ifc .., l, h => h
theorem fzVs_lbs (X : Lb → Option (Nat × List IV)) : ∀ (xs : List AV) (l : Lb), l ∈ lbss (fzVs X xs) → l ∈ lbss xs
  | [], l, h => h
  | x :: r, l, h => by
    simp only [fzVs, lbss, List.mem_append] at h ⊢
    exact h.imp (fzV_lbs X x l) (fzVs_lbs X r l)
end
theorem fzH_live {X : Lb → Option (Nat × List IV)} {H : Hp} {l : Lb} {r : Row} (h : fzH X H l = .live r) : X l = none ∧ ∃ r0, H l = .live r0 ∧ r = ⟨r0.sz, r0.els.map (fzVs X)⟩ := by
  unfold fzH at h
  split at h
  · cases h
  · rename_i e
    split at h
    · rename_i r0 h0
      simp only [Slot.live.injEq] at h
      exact ⟨e, r0, h0, h.symm⟩
    · rename_i hn
      exact absurd h (hn r)
theorem fzH_used {X : Lb → Option (Nat × List IV)} {H : Hp} {l : Lb} (h : H l ≠ .unused) : fzH X H l ≠ .unused := by
  unfold fzH
  split
  · simp
  · split
    · simp
    · exact h
section
variable {K : Kx} {β : Lb → Option Nat} {env : Env} {H : Hp} {a : Act} {w : World} {X : Lb → Option (Nat × List IV)}
theorem fzH_sub (l : Lb) (h : live (fzH X H) l) : live H l := by
  obtain ⟨r, h⟩ := h
  obtain ⟨_, r0, h0, _⟩ := fzH_live h
  exact ⟨r0, h0⟩
theorem fz_keeps (ls : List Lb) : Keeps2 w w β β H (fzH X H) (Im K β H) (Im K β (fzH X H)) ls :=
  ⟨⟨fun k hk hs => ⟨⟨hk.1, fun l hl => hk.2 l (fzH_sub l hl)⟩, hs, rfl⟩⟩, fun l _ hl => ⟨fzH_sub l hl, rfl, fun _ _ _ h => h⟩⟩
mutual
theorem fz_rv (hr : RelB K β env H a w) (hX : ∀ l sz xs, X l = some (sz, xs) → H l = .live ⟨sz, immE xs⟩ ∧ l.fresh = true ∧ Flat xs) : ∀ (x : AV) (v : Value), RV w β H (Im K β H) x v → RV w β (fzH X H) (Im K β (fzH X H)) (fzV X x) v
  | .sl l sz i n, v, h => by
    simp only [fzV]
    split
    · rename_i s xs e
      split
      · rename_i hc
        obtain ⟨rfl, hin⟩ := hc
        obtain ⟨h1, h2, h3⟩ := hX l _ _ e
        have h4 := frz_rv hr h1 h2 hin h3 h
        simp only [RV] at h4 ⊢
        refine IVR.mono ⟨fun k hk hs => ⟨⟨hk.1, fun q hq => hk.2 q ?_⟩, hs, rfl⟩⟩ _ _ h4
        obtain ⟨r, hq⟩ := hq
        obtain ⟨q1, r0, q2, _⟩ := fzH_live hq
        refine ⟨r0, ?_⟩
        rw [upd_ne _ _ (by rintro rfl; rw [e] at q1; cases q1)]
        exact q2
      · exact RV.mono _ _ (fz_keeps _) h
    · exact RV.mono _ _ (fz_keeps _) h
  | .agg cs, v, h => by
    simp only [fzV, RV] at h ⊢
    obtain ⟨vs, rfl, h1⟩ := h
    exact ⟨vs, rfl, fz_rvs hr hX cs vs h1⟩
  | .tup cs, v, h => by
    simp only [fzV, RV] at h ⊢
    obtain ⟨vs, rfl, h1⟩ := h
    exact ⟨vs, rfl, fz_rvs hr hX cs vs h1⟩
  | .slk .., v, h | .ptr .., v, h | .any, v, h | .un, v, h | .bool _, v, h | .int .., v, h | .str _, v, h | .list _, v, h | .nilp, v, h | .nil0, v, h | .nilif, v, h | .lptr _, v, h | .fn .., v, h | .ifc .., v, h => RV.mono _ _ (fz_keeps _) h
theorem fz_rvs (hr : RelB K β env H a w) (hX : ∀ l sz xs, X l = some (sz, xs) → H l = .live ⟨sz, immE xs⟩ ∧ l.fresh = true ∧ Flat xs) : ∀ (xs : List AV) (vs : List Value), RVs w β H (Im K β H) xs vs → RVs w β (fzH X H) (Im K β (fzH X H)) (fzVs X xs) vs
  | [], vs, h => h
  | x :: r, vs, h => by
    simp only [fzVs, RVs] at h ⊢
    obtain ⟨v, us, rfl, h1, h2⟩ := h
    exact ⟨v, us, rfl, fz_rv hr hX x v h1, fz_rvs hr hX r us h2⟩
end
theorem RelB.fz (hr : RelB K β env H a w) (hX : ∀ l sz xs, X l = some (sz, xs) → H l = .live ⟨sz, immE xs⟩ ∧ l.fresh = true ∧ Flat xs) {env2 : Env} (he : ∀ n, env2 n = .any ∨ env2 n = fzV X (env n)) : RelB K β env2 (fzH X H) a w where
  defers := hr.defers
  size := hr.size
  regs n := by
    rcases he n with e | e
    · rw [e]; simp [RV]
    · rw [e]; exact fz_rv hr hX _ _ (hr.regs n)
  rows l r hl := by
    obtain ⟨_, r0, h0, rfl⟩ := fzH_live hl
    obtain ⟨h1, h2, h3⟩ := hr.rows l r0 h0
    refine ⟨h1, ?_, ?_⟩
    · intro cs hcs
      obtain ⟨c0, hc0, rfl⟩ := List.mem_map.1 hcs
      rw [fzVs_len]; exact h2 c0 hc0
    · cases hb : β l with
      | none => rw [hb] at h3; simp only at h3; simp [h3]
      | some g =>
        rw [hb] at h3
        simp only at h3 ⊢
        obtain ⟨cur, e, cap, e1, e2, e3, e4, e5⟩ := h3
        refine ⟨cur, e, cap, e1, e2, e3, by simpa using e4, ?_⟩
        intro i j cs x hi hj
        rw [List.getElem?_map, Option.map_eq_some_iff] at hi
        obtain ⟨c0, hi, rfl⟩ := hi
        rw [fzVs_get, Option.map_eq_some_iff] at hj
        obtain ⟨x0, hj, rfl⟩ := hj
        obtain ⟨v, k1, k2⟩ := e5 i j c0 x0 hi hj
        exact ⟨v, k1, fz_rv hr hX _ _ k2⟩
  own l g hl := hr.own l g (fzH_sub l hl)
  inj l l' g hl hl' := hr.inj l l' g (fzH_sub l hl) (fzH_sub l' hl')
  ment n l hl := by
    rcases he n with e | e
    · rw [e] at hl; simp [AV.lbs] at hl
    · rw [e] at hl; exact fzH_used (hr.ment n l (fzV_lbs X _ l hl))
  rment l r hl cs hcs q hq := by
    obtain ⟨_, r0, h0, rfl⟩ := fzH_live hl
    obtain ⟨c0, hc0, rfl⟩ := List.mem_map.1 hcs
    exact fzH_used (hr.rment l r0 h0 c0 hc0 q (fzVs_lbs X _ q hq))
  frame := hr.frame
  glob g cs hg := by
    obtain ⟨h1, h2, h3⟩ := hr.glob g cs hg
    have hk := (fz_keeps (K := K) (β := β) (H := H) (X := X) (w := w) []).toKeeps
    exact ⟨(hk.im g h1 h2).1, h2, CellsR.mono hk cs g 0 h1 h2 h3⟩
  stab l hl := ⟨fzH_used (hr.stab l hl).1, fun h => (hr.stab l hl).2 (fzH_sub l h)⟩
  fr l g hl := hr.fr l g (fzH_sub l hl)
end
theorem weaker_fz {S : St} {env : Env} {H : Hp} (X : Lb → Option (Nat × List IV)) (hX : ∀ l sz xs, X l = some (sz, xs) → H l = .live ⟨sz, immE xs⟩ ∧ l.fresh = true ∧ Flat xs) {env2 : Env}
    (he : ∀ n, env2 n = .any ∨ env2 n = fzV X (env n)) : Weaker S env H env2 (fzH X H) :=
  fun K β a w _ _ hr => ⟨β, hr.fz hX he⟩
theorem Weaker.trans {S : St} {env env2 env3 : Env} {H H2 H3 : Hp} (h1 : Weaker S env H env2 H2) (h2 : Weaker S env2 H2 env3 H3) : Weaker S env H env3 H3 := fun K β a w e hf hr => by
  obtain ⟨β', hr'⟩ := h1 K β a w e hf hr
  exact h2 K β' a w e hf hr'
theorem Weaker.of_wk {S : St} {ρ : Lb → Lb} {env env2 : Env} {H H2 : Hp} (h : Wk ρ env H env2 H2) : Weaker S env H env2 H2 :=
  fun K β a w e hf hr => ⟨_, h.rel hf hr⟩
/-- Rows become data; what is left is said anew. -/
theorem weaker_fzU {S : St} {env : Env} {H : Hp} (X : Lb → Option (Nat × List IV)) (ps : List (Nat × AV)) (rs : List (Lb × Row)) (m : List (Lb × Lb))
    (hX : ∀ l sz xs, X l = some (sz, xs) → H l = .live ⟨sz, immE xs⟩ ∧ l.fresh = true ∧ Flat xs)
    (hp : ∀ l ∈ lbss (ps.map Prod.snd), l ∈ rs.map Prod.fst) (hr : ∀ q ∈ rs, ∀ cs ∈ q.2.els, ∀ l ∈ lbss cs, l ∈ rs.map Prod.fst)
    (h : WU (rs.map Prod.fst) (fun _ => false) ps rs (fun n => fzV X (env n)) (fzH X H) m) : Weaker S env H (ofL ps) (ofU (fun _ => false) rs) :=
  (weaker_fz X hX (env2 := fun n => fzV X (env n)) (fun _ => .inr rfl)).trans (.of_wk (h.wk rfl hp hr))
theorem fzV_sl {X : Lb → Option (Nat × List IV)} {l : Lb} {sz n : Nat} {xs : List IV} (h : X l = some (sz, xs)) (hn : n = xs.length) : fzV X (.sl l sz 0 n) = .list xs := by
  subst hn
  simp [fzV, h]
mutual
theorem fzV_nolb (X : Lb → Option (Nat × List IV)) : ∀ x : AV, x.lbs = [] → fzV X x = x
  | .sl .., h | .slk .., h | .ptr .., h => by simp [AV.lbs] at h
  | .any, _ | .un, _ | .bool _, _ | .int .., _ | .str _, _ | .list _, _ | .nil0, _ | .nilp, _ | .nilif, _ | .lptr _, _ | .fn .., _ | .ifc .., _ => rfl
  | .agg cs, h => by simp only [AV.lbs] at h; simp [fzV, fzVs_nolb X cs h]
  | .tup cs, h => by simp only [AV.lbs] at h; simp [fzV, fzVs_nolb X cs h]
theorem fzVs_nolb (X : Lb → Option (Nat × List IV)) : ∀ xs : List AV, lbss xs = [] → fzVs X xs = xs
  | [], _ => rfl
  | x :: r, h => by simp only [lbss, List.append_eq_nil_iff] at h; simp [fzVs, fzV_nolb X x h.1, fzVs_nolb X r h.2]
end
theorem fz_imm (X : Lb → Option (Nat × List IV)) (xs : List IV) : (immE xs).map (fzVs X) = immE xs := by
  conv => rhs; rw [← List.map_id (immE xs)]
  exact List.map_congr_left fun cs hcs => fzVs_nolb X cs (lbss_immE hcs)
theorem map_rens (ρ : Lb → Lb) (xs : List IV) : (immE xs).map (rens ρ) = immE xs := congrArg Row.els (renR_immE ρ 1 xs)
def mapH (g : Lb → AV → AV) (H : Hp) : Hp := fun l => match H l with
  | .live r => .live ⟨r.sz, r.els.map fun cs => cs.map (g l)⟩
  | s => s
theorem mapH_live {g : Lb → AV → AV} {H : Hp} {l : Lb} {r : Row} (h : mapH g H l = .live r) : ∃ r0, H l = .live r0 ∧ r = ⟨r0.sz, r0.els.map fun cs => cs.map (g l)⟩ := by
  unfold mapH at h
  split at h
  · rename_i r0 h0
    simp only [Slot.live.injEq] at h
    exact ⟨r0, h0, h.symm⟩
  · rename_i hn
    exact absurd h (hn r)
theorem mapH_used {g : Lb → AV → AV} {H : Hp} {l : Lb} (h : H l ≠ .unused) : mapH g H l ≠ .unused := by
  unfold mapH
  split
  · simp
  · exact h
theorem mapH_liv {g : Lb → AV → AV} {H : Hp} (l : Lb) : live (mapH g H) l ↔ live H l := by
  constructor
  · rintro ⟨r, h⟩
    obtain ⟨r0, h0, _⟩ := mapH_live h
    exact ⟨r0, h0⟩
  · rintro ⟨r, h⟩
    exact ⟨_, by unfold mapH; rw [h]⟩
theorem map_lbss {f : AV → AV} (hf : ∀ x q, q ∈ (f x).lbs → q ∈ x.lbs) : ∀ (cs : List AV) (q : Lb), q ∈ lbss (cs.map f) → q ∈ lbss cs
  | [], q, h => h
  | x :: r, q, h => by
    simp only [List.map_cons, lbss, List.mem_append] at h ⊢
    exact h.imp (hf x q) (map_lbss hf r q)
theorem weaker_map {S : St} {env : Env} {H : Hp} (g : Lb → AV → AV) (hg : ∀ l x (w : World) (β : Lb → Option Nat) (H : Hp) (I : Nat → Prop) v, RV w β H I x v → RV w β H I (g l x) v) (hl : ∀ l x q, q ∈ (g l x).lbs → q ∈ x.lbs) :
    Weaker S env H env (mapH g H) := by
  intro K β a w _ _ hr
  have him : ∀ k, Im K β (mapH g H) k ↔ Im K β H k := by
    intro k
    simp only [Im, mapH_liv]
  have keep : ∀ ls, Keeps2 w w β β H (mapH g H) (Im K β H) (Im K β (mapH g H)) ls := fun ls =>
    ⟨⟨fun k hk hs => ⟨(him k).2 hk, hs, rfl⟩⟩, fun l _ hl => ⟨(mapH_liv l).1 hl, rfl, fun _ _ _ h => h⟩⟩
  refine ⟨β, ⟨hr.defers, hr.size, fun n => RV.mono _ _ (keep _) (hr.regs n), ?_, fun l g0 h => hr.own l g0 ((mapH_liv l).1 h), fun l l' g0 h h' => hr.inj l l' g0 ((mapH_liv l).1 h) ((mapH_liv l').1 h'),
    fun n l h => mapH_used (hr.ment n l h), ?_, hr.frame, ?_, fun l h => ⟨mapH_used (hr.stab l h).1, fun h2 => (hr.stab l h).2 ((mapH_liv l).1 h2)⟩, fun l g0 h => hr.fr l g0 ((mapH_liv l).1 h)⟩⟩
  · intro l r h
    obtain ⟨r0, h0, rfl⟩ := mapH_live h
    obtain ⟨h1, h2, h3⟩ := hr.rows l r0 h0
    refine ⟨h1, ?_, ?_⟩
    · intro cs hcs
      obtain ⟨c0, hc0, rfl⟩ := List.mem_map.1 hcs
      rw [List.length_map]; exact h2 c0 hc0
    · cases hb : β l with
      | none => rw [hb] at h3; simp only at h3; simp [h3]
      | some g0 =>
        rw [hb] at h3
        simp only at h3 ⊢
        obtain ⟨cur, e, cap, e1, e2, e3, e4, e5⟩ := h3
        refine ⟨cur, e, cap, e1, e2, e3, by simpa using e4, ?_⟩
        intro i j cs x hi hj
        rw [List.getElem?_map, Option.map_eq_some_iff] at hi
        obtain ⟨c0, hi, rfl⟩ := hi
        rw [List.getElem?_map, Option.map_eq_some_iff] at hj
        obtain ⟨x0, hj, rfl⟩ := hj
        obtain ⟨v, k1, k2⟩ := e5 i j c0 x0 hi hj
        exact ⟨v, k1, hg l _ _ _ _ _ _ (RV.mono _ _ (keep _) k2)⟩
  · intro l r h cs hcs q hq
    obtain ⟨r0, h0, rfl⟩ := mapH_live h
    obtain ⟨c0, hc0, rfl⟩ := List.mem_map.1 hcs
    exact mapH_used (hr.rment l r0 h0 c0 hc0 q (map_lbss (hl l) _ _ hq))
  · intro g0 cs h
    obtain ⟨h1, h2, h3⟩ := hr.glob g0 cs h
    exact ⟨(him g0).2 h1, h2, CellsR.mono (keep []).toKeeps cs g0 0 h1 h2 h3⟩
/-- In some rows the nil slices are empty lists. -/
def nrm (p : Lb → Bool) (l : Lb) (x : AV) : AV := if p l then norm x else x
theorem weaker_norm {S : St} {env : Env} {H : Hp} (p : Lb → Bool) : Weaker S env H env (mapH (nrm p) H) :=
  weaker_map _ (fun l x w β H I v h => by unfold nrm; split; exact RV.norm x v h; exact h) (fun l x q h => by
    unfold nrm at h
    split at h
    · rwa [norm_lbs] at h
    · exact h)
end Go.Am

/- Documents alike, copied; the tree at a place, by parents. -/
namespace Go.Am
open Go Go.RowKit
def c_topiaryref_SameNumbers : AC :=
(.seq (.reg [⟨(some 4), none, (.mov (.c (.bool false)))⟩]) (.seq (.seq (.reg [⟨(some 6), none, (.mov (.t 0))⟩, ⟨(some 7), none, (.len (.t 6))⟩, ⟨(some 8), none, (.mov (.t 1))⟩, ⟨(some 9), none, (.len (.t 8))⟩, ⟨(some 10), none, (.bin .neq (.t 7) (.t 9))⟩]) (.cond (.t 10) (.seq (.reg [⟨(some 4), none, (.mov (.c (.bool false)))⟩]) .ret) .skip)) (.seq (.seq (.reg [⟨(some 11), none, (.mov (.t 0))⟩, ⟨(some 12), none, (.len (.t 11))⟩, ⟨(some 13), none, (.mov (.c (.int .i64 0)))⟩]) (.block 0 (.loop (.seq (.reg [⟨(some 14), none, (.bin .lss (.t 13) (.t 12))⟩]) (.seq (.cond (.t 14) .skip (.exit 0)) (.seq (.block 1 (.seq (.reg [⟨(some 15), none, (.mov (.t 13))⟩, ⟨(some 5), none, (.mov (.t 15))⟩]) (.seq (.dreg [⟨(some 16), none, (.mov (.t 0))⟩, ⟨(some 17), none, (.mov (.t 5))⟩, ⟨(some 18), none, (.ixa (.t 16) (.t 17) 1)⟩, ⟨(some 19), none, (.load none (.t 18))⟩, ⟨(some 20), none, (.mov (.t 1))⟩, ⟨(some 21), none, (.mov (.t 5))⟩, ⟨(some 22), none, (.ixa (.t 20) (.t 21) 1)⟩, ⟨(some 23), none, (.load none (.t 22))⟩, ⟨(some 24), none, (.bin .neq (.t 19) (.t 23))⟩] [[], [], [0, 1], [2], [], [], [4, 5], [6], [3, 7]] [.no, .no, .no, .no, .no, .no, .no, .no, .no]) (.cond (.t 24) (.seq (.reg [⟨(some 4), none, (.mov (.c (.bool false)))⟩]) .ret) .skip)))) (.reg [⟨(some 25), none, (.bin .add (.t 13) (.c (.int .i64 1)))⟩, ⟨(some 13), none, (.mov (.t 25))⟩]))))))) (.seq (.reg [⟨(some 4), none, (.mov (.c (.bool true)))⟩]) .ret))))
theorem beq_of_ne {x y : Int} (h : x ≠ y) : (x != y) = true := by simpa using h
theorem intIV_cs (n : Int) : (intIV n).cells = [.int .i64 n] := rfl
theorem pSameNumbers {P : Program} {G : Nat → Option (List IV)} {f_topiaryref_SameNumbers : Nat} (hF : compF P G f_topiaryref_SameNumbers = some (26, [(none, 4)], c_topiaryref_SameNumbers.bare)) (xs ys : List Int) (hx : xs.length ≤ B) :
    PureC P G f_topiaryref_SameNumbers [.list (xs.map intIV), .list (ys.map intIV)] (.bool (eqB xs ys)) := by
  refine pure_of_go hF (by simp) (by simp [lbss, AV.lbs]) (by simp [AV.lbs]) ?_
  unfold c_topiaryref_SameNumbers
  simp only [↓aX, evp, evq, evl, boxK, stillV, binV, AV.cells, mP, loadV, storeV, ldV, AV.stb, AV.one, IV.av1, Lb.app, Lb.fresh, reduceCtorEq, ptrL, appL, fillA, chunks, ivs, AV.iv, mkE, if_false, if_true, List.not_mem_nil, forall_eq, beq_self_eq_true, List.isEmpty_nil, Nat.reduceEqDiff, Nat.reduceLT, Nat.reduceLeDiff, Nat.reduceAdd, Nat.reduceMul, Int.reduceToNat, Int.reduceLE, Int.reduceLT, List.length_map]
  by_cases hl : xs.length = ys.length
  · rw [show ((xs.length : Int) != (ys.length : Int)) = false by simp [hl]]
    simp only [↓aX, evp, evq, evl, boxK, stillV, binV, AV.cells, mP, loadV, storeV, ldV, AV.stb, AV.one, IV.av1, Lb.app, Lb.fresh, reduceCtorEq, ptrL, appL, fillA, chunks, ivs, AV.iv, mkE, if_false, if_true, List.not_mem_nil, forall_eq, beq_self_eq_true, List.isEmpty_nil, Nat.reduceEqDiff, Nat.reduceLT, Nat.reduceLeDiff, Nat.reduceAdd, Nat.reduceMul, Int.reduceToNat, Int.reduceLE, Int.reduceLT, List.length_map]
    refine loop_data (σ := { i : Nat // i ≤ xs.length ∧ ∀ j, j < i → xs[j]? = ys[j]? }) (fun q => [(0, .list (xs.map intIV)), (1, .list (ys.map intIV)), (12, .int .i64 xs.length), (13, .int .i64 q.1)]) (fun q => xs.length - q.1) ⟨0, by simp⟩ (fun _ => rfl) ?_ ?_
    · exact ⟨by simp only [↓aX, evp, evq, evl, boxK, stillV, binV, AV.cells, mP, loadV, storeV, ldV, AV.stb, AV.one, IV.av1, Lb.app, Lb.fresh, reduceCtorEq, ptrL, appL, fillA, chunks, ivs, AV.iv, mkE, if_false, if_true, List.not_mem_nil, forall_eq, beq_self_eq_true, List.isEmpty_nil, Nat.reduceEqDiff, Nat.reduceLT, Nat.reduceLeDiff, Nat.reduceAdd, Nat.reduceMul, Int.reduceToNat, Int.reduceLE, Int.reduceLT], by repeat' constructor⟩
    · rintro ⟨i, hi, hs⟩
      simp only [↓aX, evp, evq, evl, boxK, stillV, binV, AV.cells, mP, loadV, storeV, ldV, AV.stb, AV.one, IV.av1, Lb.app, Lb.fresh, reduceCtorEq, ptrL, appL, fillA, chunks, ivs, AV.iv, mkE, if_false, if_true, List.not_mem_nil, forall_eq, beq_self_eq_true, List.isEmpty_nil, Nat.reduceEqDiff, Nat.reduceLT, Nat.reduceLeDiff, Nat.reduceAdd, Nat.reduceMul, Int.reduceToNat, Int.reduceLE, Int.reduceLT, List.length_map]
      by_cases hlt : i < xs.length
      · rw [show decide ((i : Int) < (xs.length : Int)) = true by simpa using hlt]
        obtain ⟨x, hx1⟩ : ∃ x, xs[i]? = some x := ⟨_, List.getElem?_eq_getElem hlt⟩
        obtain ⟨y, hy1⟩ : ∃ y, ys[i]? = some y := ⟨_, List.getElem?_eq_getElem (hl ▸ hlt)⟩
        simp only [↓aX, evp, evq, evl, boxK, stillV, binV, AV.cells, mP, loadV, storeV, ldV, AV.stb, AV.one, IV.av1, Lb.app, Lb.fresh, reduceCtorEq, ptrL, appL, fillA, chunks, ivs, AV.iv, mkE, if_false, if_true, List.not_mem_nil, forall_eq, beq_self_eq_true, List.isEmpty_nil, Nat.reduceEqDiff, Nat.reduceLT, Nat.reduceLeDiff, Nat.reduceAdd, Nat.reduceMul, Int.reduceToNat, Int.reduceLE, Int.reduceLT, intGet, hx1, hy1, Option.map_some, elszI, intIV_cs]
        refine ⟨rfl, ?_⟩
        by_cases hxy : x = y
        · subst hxy
          have hw : IntKind.i64.wrap ((i : Int) + 1) = ((i + 1 : Nat) : Int) := wrap64 (by omega) (by unfold B at hx; omega)
          rw [show (x != x) = false by simp]
          simp only [↓aX, evp, evq, evl, boxK, stillV, binV, AV.cells, mP, loadV, storeV, ldV, AV.stb, AV.one, IV.av1, Lb.app, Lb.fresh, reduceCtorEq, ptrL, appL, fillA, chunks, ivs, AV.iv, mkE, if_false, if_true, List.not_mem_nil, forall_eq, beq_self_eq_true, List.isEmpty_nil, Nat.reduceEqDiff, Nat.reduceLT, Nat.reduceLeDiff, Nat.reduceAdd, Nat.reduceMul, Int.reduceToNat, Int.reduceLE, Int.reduceLT, hw]
          refine ⟨⟨i + 1, hlt, fun j hj => ?_⟩, by simp only; omega, rfl⟩
          by_cases e : j = i
          · rw [e, hx1, hy1]
          · exact hs j (by omega)
        · have hne : xs ≠ ys := fun e => hxy (by rw [e, hy1] at hx1; cases hx1; rfl)
          rw [beq_of_ne hxy]
          simp only [↓aX, evp, evq, evl, boxK, stillV, binV, AV.cells, mP, loadV, storeV, ldV, AV.stb, AV.one, IV.av1, Lb.app, Lb.fresh, reduceCtorEq, ptrL, appL, fillA, chunks, ivs, AV.iv, mkE, if_false, if_true, List.not_mem_nil, forall_eq, beq_self_eq_true, List.isEmpty_nil, Nat.reduceEqDiff, Nat.reduceLT, Nat.reduceLeDiff, Nat.reduceAdd, Nat.reduceMul, Int.reduceToNat, Int.reduceLE, Int.reduceLT, eqB_ne hne]
      · rw [show decide ((i : Int) < (xs.length : Int)) = false by simpa using hlt]
        simp only [↓aX, evp, evq, evl, boxK, stillV, binV, AV.cells, mP, loadV, storeV, ldV, AV.stb, AV.one, IV.av1, Lb.app, Lb.fresh, reduceCtorEq, ptrL, appL, fillA, chunks, ivs, AV.iv, mkE, if_false, if_true, List.not_mem_nil, forall_eq, beq_self_eq_true, List.isEmpty_nil, Nat.reduceEqDiff, Nat.reduceLT, Nat.reduceLeDiff, Nat.reduceAdd, Nat.reduceMul, Int.reduceToNat, Int.reduceLE, Int.reduceLT]
        have : xs = ys := List.ext_getElem? fun j => by
          by_cases hj : j < i
          · exact hs j hj
          · rw [List.getElem?_eq_none (by omega), List.getElem?_eq_none (by omega)]
        rw [this, eqB_self]
  · rw [show ((xs.length : Int) != (ys.length : Int)) = true by simp; omega]
    have : xs ≠ ys := fun e => hl (by rw [e])
    simp only [↓aX, evp, evq, evl, boxK, stillV, binV, AV.cells, mP, loadV, storeV, ldV, AV.stb, AV.one, IV.av1, Lb.app, Lb.fresh, reduceCtorEq, ptrL, appL, fillA, chunks, ivs, AV.iv, mkE, if_false, if_true, List.not_mem_nil, forall_eq, beq_self_eq_true, List.isEmpty_nil, Nat.reduceEqDiff, Nat.reduceLT, Nat.reduceLeDiff, Nat.reduceAdd, Nat.reduceMul, Int.reduceToNat, Int.reduceLE, Int.reduceLT, eqB_ne this]
def c_topiaryref_SameDoc (f_topiaryref_sameAttrs f_topiaryref_SameNumbers : Nat) : AC :=
(.seq (.reg [⟨(some 2), none, (.box (.t 0))⟩, ⟨(some 3), none, (.box (.t 1))⟩, ⟨(some 4), none, (.mov (.c (.bool false)))⟩]) (.seq (.seq (.reg [⟨(some 8), none, (.fld (.t 2) 0)⟩, ⟨(some 9), none, (.load none (.t 8))⟩, ⟨(some 10), none, (.len (.t 9))⟩, ⟨(some 11), none, (.fld (.t 3) 0)⟩, ⟨(some 12), none, (.load none (.t 11))⟩, ⟨(some 13), none, (.len (.t 12))⟩, ⟨(some 14), none, (.bin .neq (.t 10) (.t 13))⟩]) (.cond (.t 14) (.seq (.reg [⟨(some 4), none, (.mov (.c (.bool false)))⟩]) .ret) .skip)) (.seq (.seq (.reg [⟨(some 15), none, (.fld (.t 2) 0)⟩, ⟨(some 16), none, (.load none (.t 15))⟩, ⟨(some 17), none, (.len (.t 16))⟩, ⟨(some 18), none, (.mov (.c (.int .i64 0)))⟩]) (.block 0 (.loop (.seq (.reg [⟨(some 19), none, (.bin .lss (.t 18) (.t 17))⟩]) (.seq (.cond (.t 19) .skip (.exit 0)) (.seq (.block 1 (.seq (.reg [⟨(some 20), none, (.mov (.t 18))⟩, ⟨(some 5), none, (.mov (.t 20))⟩]) (.seq (.dreg [⟨(some 21), none, (.fld (.t 2) 0)⟩, ⟨(some 22), none, (.load none (.t 21))⟩, ⟨(some 23), none, (.mov (.t 5))⟩, ⟨(some 24), none, (.ixa (.t 22) (.t 23) 5)⟩, ⟨(some 25), none, (.load (some 5) (.t 24))⟩, ⟨(some 26), none, (.fld (.t 3) 0)⟩, ⟨(some 27), none, (.load none (.t 26))⟩, ⟨(some 28), none, (.mov (.t 5))⟩, ⟨(some 29), none, (.ixa (.t 27) (.t 28) 5)⟩, ⟨(some 30), none, (.load (some 5) (.t 29))⟩, ⟨(some 6), none, (.new [(.bool false), (.str []), .nil0, (.int .i64 0), .nil0])⟩, ⟨(some 7), none, (.new [(.bool false), (.str []), .nil0, (.int .i64 0), .nil0])⟩, ⟨none, none, (.store 5 (.t 6) (.t 25))⟩, ⟨none, none, (.store 5 (.t 7) (.t 30))⟩] [[], [0], [], [1, 2], [3], [], [5], [], [6, 7], [8], [], [], [10, 4, 0, 1, 2, 3, 4, 10, 11], [11, 9, 12, 0, 1, 2, 3, 4, 5, 6, 7, 8, 9, 10, 11, 12]] [.no, .rw [.loc 2] [], .no, .no, .no, .no, .rw [.loc 3] [], .no, .no, .no, .rw [] [.loc 6], .rw [] [.loc 7], .rw [] [.loc 6], .rw [] [.loc 7]]) (.seq (.reg [⟨(some 31), none, (.fld (.t 6) 0)⟩, ⟨(some 32), none, (.load none (.t 31))⟩, ⟨(some 33), none, (.fld (.t 7) 0)⟩, ⟨(some 34), none, (.load none (.t 33))⟩, ⟨(some 35), none, (.eqb true (.t 32) (.t 34))⟩, ⟨(some 36), none, (.mov (.t 35))⟩, ⟨(some 37), (some (36, false)), (.fld (.t 6) 1)⟩, ⟨(some 38), (some (36, false)), (.load none (.t 37))⟩, ⟨(some 39), (some (36, false)), (.fld (.t 7) 1)⟩, ⟨(some 40), (some (36, false)), (.load none (.t 39))⟩, ⟨(some 41), (some (36, false)), (.bin .neq (.t 38) (.t 40))⟩, ⟨(some 42), none, (.pick (.t 36) (.c (.bool true)) (.t 41))⟩, ⟨(some 43), none, (.mov (.t 42))⟩, ⟨(some 44), (some (43, false)), (.fld (.t 6) 3)⟩, ⟨(some 45), (some (43, false)), (.load none (.t 44))⟩, ⟨(some 46), (some (43, false)), (.fld (.t 7) 3)⟩, ⟨(some 47), (some (43, false)), (.load none (.t 46))⟩, ⟨(some 48), (some (43, false)), (.bin .neq (.t 45) (.t 47))⟩, ⟨(some 49), none, (.pick (.t 43) (.c (.bool true)) (.t 48))⟩, ⟨(some 50), none, (.mov (.t 49))⟩, ⟨(some 51), (some (50, false)), (.fld (.t 6) 2)⟩, ⟨(some 52), (some (50, false)), (.load none (.t 51))⟩, ⟨(some 53), (some (50, false)), (.fld (.t 7) 2)⟩, ⟨(some 54), (some (50, false)), (.load none (.t 53))⟩, ⟨(some 55), (some (50, false)), (.call f_topiaryref_sameAttrs [(.t 52), (.t 54)])⟩, ⟨(some 56), (some (50, false)), (.not (.t 55))⟩, ⟨(some 57), none, (.pick (.t 50) (.c (.bool true)) (.t 56))⟩, ⟨(some 58), none, (.mov (.t 57))⟩, ⟨(some 59), (some (58, false)), (.fld (.t 6) 4)⟩, ⟨(some 60), (some (58, false)), (.load none (.t 59))⟩, ⟨(some 61), (some (58, false)), (.fld (.t 7) 4)⟩, ⟨(some 62), (some (58, false)), (.load none (.t 61))⟩, ⟨(some 63), (some (58, false)), (.call f_topiaryref_SameNumbers [(.t 60), (.t 62)])⟩, ⟨(some 64), (some (58, false)), (.not (.t 63))⟩, ⟨(some 65), none, (.pick (.t 58) (.c (.bool true)) (.t 64))⟩]) (.cond (.t 65) (.seq (.reg [⟨(some 4), none, (.mov (.c (.bool false)))⟩]) .ret) .skip))))) (.reg [⟨(some 66), none, (.bin .add (.t 18) (.c (.int .i64 1)))⟩, ⟨(some 18), none, (.mov (.t 66))⟩]))))))) (.seq (.reg [⟨(some 4), none, (.mov (.c (.bool true)))⟩]) .ret))))
def samePs (d e : Doc) (i : Nat) : List (Nat × AV) := [(2, .ptr (.loc 2) 1 0 0), (3, .ptr (.loc 3) 1 0 0), (17, .int .i64 d.length), (18, .int .i64 i)]
def sameRs (d e : Doc) : List (Lb × Row) := [(.loc 2, ⟨1, [[.list (d.map Node.iv)]]⟩), (.loc 3, ⟨1, [[.list (e.map Node.iv)]]⟩)]
theorem pSameDoc {P : Program} {G : Nat → Option (List IV)} {f_topiaryref_SameDoc f_topiaryref_sameAttrs f_topiaryref_SameNumbers : Nat} (hF : compF P G f_topiaryref_SameDoc = some (67, [(none, 4)], (c_topiaryref_SameDoc f_topiaryref_sameAttrs f_topiaryref_SameNumbers).bare)) (d e : Doc) (hd : wtN d ≤ B)
    (hA : ∀ x ∈ d, ∀ y ∈ e, PureC P G f_topiaryref_sameAttrs [.list (ivA x.attrs), .list (ivA y.attrs)] (.bool (eqB x.attrs y.attrs)))
    (hN : ∀ x ∈ d, ∀ y ∈ e, PureC P G f_topiaryref_SameNumbers [.list (x.kids.map intIV), .list (y.kids.map intIV)] (.bool (eqB x.kids y.kids))) :
    PureC P G f_topiaryref_SameDoc [Doc.av d, Doc.av e] (.bool (eqB d e)) := by
  refine pure_of_go hF (by simp) (by simp [lbss, AV.lbs, Doc.av]) (by simp [AV.lbs]) ?_
  have hdl := wtN_len d
  unfold c_topiaryref_SameDoc
  simp only [↓aX, evp, evq, evl, boxK, stillV, binV, AV.cells, mP, loadV, storeV, ldV, AV.stb, AV.one, IV.av1, Lb.app, Lb.fresh, reduceCtorEq, ptrL, appL, fillA, chunks, ivs, AV.iv, mkE, if_false, if_true, List.not_mem_nil, forall_eq, beq_self_eq_true, List.isEmpty_nil, Nat.reduceEqDiff, Nat.reduceLT, Nat.reduceLeDiff, Nat.reduceAdd, Nat.reduceMul, Int.reduceToNat, Int.reduceLE, Int.reduceLT, Doc.av, List.length_map]
  by_cases hl : d.length = e.length
  · rw [show ((d.length : Int) != (e.length : Int)) = false by simp [hl]]
    simp only [↓aX, evp, evq, evl, boxK, stillV, binV, AV.cells, mP, loadV, storeV, ldV, AV.stb, AV.one, IV.av1, Lb.app, Lb.fresh, reduceCtorEq, ptrL, appL, fillA, chunks, ivs, AV.iv, mkE, if_false, if_true, List.not_mem_nil, forall_eq, beq_self_eq_true, List.isEmpty_nil, Nat.reduceEqDiff, Nat.reduceLT, Nat.reduceLeDiff, Nat.reduceAdd, Nat.reduceMul, Int.reduceToNat, Int.reduceLE, Int.reduceLT, List.length_map]
    refine loop_same (σ := { i : Nat // i ≤ d.length ∧ ∀ j, j < i → d[j]? = e[j]? }) [.loc 2, .loc 3] (fun q => samePs d e q.1) (fun _ => sameRs d e) (fun q => d.length - q.1) ⟨0, by simp⟩
      (fun _ => rfl) (by decide) (by simp [lbss, AV.lbs, samePs]) (by
        intro q r hr cs hcs l hl
        simp only [sameRs, List.mem_cons, List.not_mem_nil, or_false] at hr
        rcases hr with rfl | rfl <;> (simp only [List.mem_singleton] at hcs; subst hcs; simp [lbss, AV.lbs] at hl)) ?_ ?_
    · exact WS_mk (by simp only [NFx_loc, NFx_none]) (by unfold samePs; repeat' constructor) ⟨rfl, rfl, trivial⟩
    · rintro ⟨i, hi, hs⟩
      simp only [↓aX, evp, evq, evl, boxK, stillV, binV, AV.cells, mP, loadV, storeV, ldV, AV.stb, AV.one, IV.av1, Lb.app, Lb.fresh, reduceCtorEq, ptrL, appL, fillA, chunks, ivs, AV.iv, mkE, if_false, if_true, List.not_mem_nil, forall_eq, beq_self_eq_true, List.isEmpty_nil, Nat.reduceEqDiff, Nat.reduceLT, Nat.reduceLeDiff, Nat.reduceAdd, Nat.reduceMul, Int.reduceToNat, Int.reduceLE, Int.reduceLT, samePs, sameRs, ofH_nil, ofH_cons]
      by_cases hlt : i < d.length
      · rw [show decide ((i : Int) < (d.length : Int)) = true by simpa using hlt]
        obtain ⟨x, hx1⟩ : ∃ x, d[i]? = some x := ⟨_, List.getElem?_eq_getElem hlt⟩
        obtain ⟨y, hy1⟩ : ∃ y, e[i]? = some y := ⟨_, List.getElem?_eq_getElem (hl ▸ hlt)⟩
        have hxm := List.mem_of_getElem? hx1
        have hym := List.mem_of_getElem? hy1
        have stop : x ≠ y → eqB d e = false := fun h => eqB_ne fun he => h (by rw [he, hy1] at hx1; cases hx1; rfl)
        have hw : IntKind.i64.wrap ((i : Int) + 1) = ((i + 1 : Nat) : Int) := wrap64 (by omega) (by unfold B at hd; omega)
        simp only [↓aX, evp, evq, evl, boxK, stillV, binV, AV.cells, mP, loadV, storeV, ldV, AV.stb, AV.one, IV.av1, Lb.app, Lb.fresh, reduceCtorEq, ptrL, appL, fillA, chunks, ivs, AV.iv, mkE, if_false, if_true, List.not_mem_nil, forall_eq, beq_self_eq_true, List.isEmpty_nil, Nat.reduceEqDiff, Nat.reduceLT, Nat.reduceLeDiff, Nat.reduceAdd, Nat.reduceMul, Int.reduceToNat, Int.reduceLE, Int.reduceLT, Doc.get_iv hx1, Doc.get_iv hy1, elszN, Node.cells_eq, Node.cs]
        refine ⟨rfl, ?_⟩
        cases h1 : (x.text == y.text) with
        | false =>
          have hne : x ≠ y := by rintro rfl; simp at h1
          simp only [↓aX, evp, evq, evl, boxK, stillV, binV, AV.cells, mP, loadV, storeV, ldV, AV.stb, AV.one, IV.av1, Lb.app, Lb.fresh, reduceCtorEq, ptrL, appL, fillA, chunks, ivs, AV.iv, mkE, if_false, if_true, List.not_mem_nil, forall_eq, beq_self_eq_true, List.isEmpty_nil, Nat.reduceEqDiff, Nat.reduceLT, Nat.reduceLeDiff, Nat.reduceAdd, Nat.reduceMul, Int.reduceToNat, Int.reduceLE, Int.reduceLT, stop hne]
        | true =>
          simp only [↓aX, evp, evq, evl, boxK, stillV, binV, AV.cells, mP, loadV, storeV, ldV, AV.stb, AV.one, IV.av1, Lb.app, Lb.fresh, reduceCtorEq, ptrL, appL, fillA, chunks, ivs, AV.iv, mkE, if_false, if_true, List.not_mem_nil, forall_eq, beq_self_eq_true, List.isEmpty_nil, Nat.reduceEqDiff, Nat.reduceLT, Nat.reduceLeDiff, Nat.reduceAdd, Nat.reduceMul, Int.reduceToNat, Int.reduceLE, Int.reduceLT]
          cases h2 : (x.s == y.s) with
          | false =>
            have hne : x ≠ y := by rintro rfl; simp at h2
            simp only [↓aX, evp, evq, evl, boxK, stillV, binV, AV.cells, mP, loadV, storeV, ldV, AV.stb, AV.one, IV.av1, Lb.app, Lb.fresh, reduceCtorEq, ptrL, appL, fillA, chunks, ivs, AV.iv, mkE, if_false, if_true, List.not_mem_nil, forall_eq, beq_self_eq_true, List.isEmpty_nil, Nat.reduceEqDiff, Nat.reduceLT, Nat.reduceLeDiff, Nat.reduceAdd, Nat.reduceMul, Int.reduceToNat, Int.reduceLE, Int.reduceLT, Bool.not_false, stop hne]
          | true =>
            simp only [↓aX, evp, evq, evl, boxK, stillV, binV, AV.cells, mP, loadV, storeV, ldV, AV.stb, AV.one, IV.av1, Lb.app, Lb.fresh, reduceCtorEq, ptrL, appL, fillA, chunks, ivs, AV.iv, mkE, if_false, if_true, List.not_mem_nil, forall_eq, beq_self_eq_true, List.isEmpty_nil, Nat.reduceEqDiff, Nat.reduceLT, Nat.reduceLeDiff, Nat.reduceAdd, Nat.reduceMul, Int.reduceToNat, Int.reduceLE, Int.reduceLT, Bool.not_true]
            cases h3 : (x.parent != y.parent) with
            | true =>
              have hne : x ≠ y := by rintro rfl; simp at h3
              simp only [↓aX, evp, evq, evl, boxK, stillV, binV, AV.cells, mP, loadV, storeV, ldV, AV.stb, AV.one, IV.av1, Lb.app, Lb.fresh, reduceCtorEq, ptrL, appL, fillA, chunks, ivs, AV.iv, mkE, if_false, if_true, List.not_mem_nil, forall_eq, beq_self_eq_true, List.isEmpty_nil, Nat.reduceEqDiff, Nat.reduceLT, Nat.reduceLeDiff, Nat.reduceAdd, Nat.reduceMul, Int.reduceToNat, Int.reduceLE, Int.reduceLT, stop hne]
            | false =>
              simp only [↓aX, evp, evq, evl, boxK, stillV, binV, AV.cells, mP, loadV, storeV, ldV, AV.stb, AV.one, IV.av1, Lb.app, Lb.fresh, reduceCtorEq, ptrL, appL, fillA, chunks, ivs, AV.iv, mkE, if_false, if_true, List.not_mem_nil, forall_eq, beq_self_eq_true, List.isEmpty_nil, Nat.reduceEqDiff, Nat.reduceLT, Nat.reduceLeDiff, Nat.reduceAdd, Nat.reduceMul, Int.reduceToNat, Int.reduceLE, Int.reduceLT]
              refine callT_pure (hA x hxm y hym) ?_
              by_cases h4 : x.attrs = y.attrs
              · rw [h4, eqB_self]
                simp only [↓aX, evp, evq, evl, boxK, stillV, binV, AV.cells, mP, loadV, storeV, ldV, AV.stb, AV.one, IV.av1, Lb.app, Lb.fresh, reduceCtorEq, ptrL, appL, fillA, chunks, ivs, AV.iv, mkE, if_false, if_true, List.not_mem_nil, forall_eq, beq_self_eq_true, List.isEmpty_nil, Nat.reduceEqDiff, Nat.reduceLT, Nat.reduceLeDiff, Nat.reduceAdd, Nat.reduceMul, Int.reduceToNat, Int.reduceLE, Int.reduceLT, Bool.not_true]
                refine callT_pure (hN x hxm y hym) ?_
                by_cases h5 : x.kids = y.kids
                · rw [h5, eqB_self]
                  simp only [↓aX, evp, evq, evl, boxK, stillV, binV, AV.cells, mP, loadV, storeV, ldV, AV.stb, AV.one, IV.av1, Lb.app, Lb.fresh, reduceCtorEq, ptrL, appL, fillA, chunks, ivs, AV.iv, mkE, if_false, if_true, List.not_mem_nil, forall_eq, beq_self_eq_true, List.isEmpty_nil, Nat.reduceEqDiff, Nat.reduceLT, Nat.reduceLeDiff, Nat.reduceAdd, Nat.reduceMul, Int.reduceToNat, Int.reduceLE, Int.reduceLT, Bool.not_true, hw]
                  refine ⟨⟨i + 1, hlt, fun j hj => ?_⟩, by simp only; omega, WS_mk ?_ ⟨rfl, rfl, rfl, rfl, trivial⟩ ⟨rfl, rfl, trivial⟩⟩
                  · by_cases ej : j = i
                    · rw [ej, hx1, hy1]
                      congr 1
                      exact Node.ext' (by simpa using h1) (by simpa using h2) h4 (by simpa using h3) h5
                    · exact hs j (by omega)
                  · intro l hl2 hu
                    by_cases e0 : l = .loc 2
                    · subst e0; simp
                    · by_cases e1 : l = .loc 3
                      · subst e1; simp
                      · exfalso; apply hu; cases l <;> simp_all [Lb.fresh, upd_at, Hp.none]
                · have hne : x ≠ y := by rintro rfl; exact h5 rfl
                  rw [eqB_ne h5]
                  simp only [↓aX, evp, evq, evl, boxK, stillV, binV, AV.cells, mP, loadV, storeV, ldV, AV.stb, AV.one, IV.av1, Lb.app, Lb.fresh, reduceCtorEq, ptrL, appL, fillA, chunks, ivs, AV.iv, mkE, if_false, if_true, List.not_mem_nil, forall_eq, beq_self_eq_true, List.isEmpty_nil, Nat.reduceEqDiff, Nat.reduceLT, Nat.reduceLeDiff, Nat.reduceAdd, Nat.reduceMul, Int.reduceToNat, Int.reduceLE, Int.reduceLT, Bool.not_false, stop hne]
              · have hne : x ≠ y := by rintro rfl; exact h4 rfl
                rw [eqB_ne h4]
                simp only [↓aX, evp, evq, evl, boxK, stillV, binV, AV.cells, mP, loadV, storeV, ldV, AV.stb, AV.one, IV.av1, Lb.app, Lb.fresh, reduceCtorEq, ptrL, appL, fillA, chunks, ivs, AV.iv, mkE, if_false, if_true, List.not_mem_nil, forall_eq, beq_self_eq_true, List.isEmpty_nil, Nat.reduceEqDiff, Nat.reduceLT, Nat.reduceLeDiff, Nat.reduceAdd, Nat.reduceMul, Int.reduceToNat, Int.reduceLE, Int.reduceLT, Bool.not_false, stop hne]
      · rw [show decide ((i : Int) < (d.length : Int)) = false by simpa using hlt]
        simp only [↓aX, evp, evq, evl, boxK, stillV, binV, AV.cells, mP, loadV, storeV, ldV, AV.stb, AV.one, IV.av1, Lb.app, Lb.fresh, reduceCtorEq, ptrL, appL, fillA, chunks, ivs, AV.iv, mkE, if_false, if_true, List.not_mem_nil, forall_eq, beq_self_eq_true, List.isEmpty_nil, Nat.reduceEqDiff, Nat.reduceLT, Nat.reduceLeDiff, Nat.reduceAdd, Nat.reduceMul, Int.reduceToNat, Int.reduceLE, Int.reduceLT]
        have : d = e := List.ext_getElem? fun j => by
          by_cases hj : j < i
          · exact hs j hj
          · rw [List.getElem?_eq_none (by omega), List.getElem?_eq_none (by omega)]
        rw [this, eqB_self]
  · rw [show ((d.length : Int) != (e.length : Int)) = true by simp; omega]
    have : d ≠ e := fun h => hl (by rw [h])
    simp only [↓aX, evp, evq, evl, boxK, stillV, binV, AV.cells, mP, loadV, storeV, ldV, AV.stb, AV.one, IV.av1, Lb.app, Lb.fresh, reduceCtorEq, ptrL, appL, fillA, chunks, ivs, AV.iv, mkE, if_false, if_true, List.not_mem_nil, forall_eq, beq_self_eq_true, List.isEmpty_nil, Nat.reduceEqDiff, Nat.reduceLT, Nat.reduceLeDiff, Nat.reduceAdd, Nat.reduceMul, Int.reduceToNat, Int.reduceLE, Int.reduceLT, eqB_ne this]
end Go.Am

/- Documents copied; the tree at a place, by parents. -/
namespace Go.Am
open Go Go.RowKit
def c_topiaryref_CopyDoc : AC :=
(.seq (.reg [⟨(some 1), none, (.box (.t 0))⟩, ⟨(some 2), none, (.new [.nil0])⟩]) (.seq (.reg [⟨(some 3), none, (.new [.nil0])⟩]) (.seq (.gh .weak (.seq (.reg [⟨(some 6), none, (.fld (.t 1) 0)⟩, ⟨(some 7), none, (.load none (.t 6))⟩, ⟨(some 8), none, (.len (.t 7))⟩, ⟨(some 9), none, (.mov (.c (.int .i64 0)))⟩]) (.block 0 (.loop (.seq (.reg [⟨(some 10), none, (.bin .lss (.t 9) (.t 8))⟩]) (.seq (.cond (.t 10) .skip (.exit 0)) (.seq (.block 1 (.seq (.reg [⟨(some 11), none, (.ixa (.t 7) (.t 9) 5)⟩, ⟨(some 12), none, (.load (some 5) (.t 11))⟩, ⟨(some 5), none, (.new [(.bool false), (.str []), .nil0, (.int .i64 0), .nil0])⟩, ⟨none, none, (.store 5 (.t 5) (.t 12))⟩]) (.seq (.dreg [⟨(some 13), none, (.fld (.t 5) 2)⟩, ⟨(some 14), none, (.load none (.t 13))⟩, ⟨(some 15), none, (.app (.c .nil0) (.t 14) 2 32)⟩, ⟨(some 16), none, (.fld (.t 5) 4)⟩, ⟨(some 17), none, (.load none (.t 16))⟩, ⟨(some 18), none, (.app (.c .nil0) (.t 17) 1 8)⟩, ⟨(some 19), none, (.fld (.t 5) 2)⟩, ⟨none, none, (.store 1 (.t 19) (.t 15))⟩, ⟨(some 20), none, (.fld (.t 5) 4)⟩, ⟨none, none, (.store 1 (.t 20) (.t 18))⟩] [[], [0], [1], [], [3], [4, 2], [0, 1, 2, 3, 4], [6, 2, 5, 0, 1, 2, 3, 4], [0, 1, 2, 3, 4, 5, 6, 7], [8, 5, 7, 0, 1, 2, 3, 4, 5, 6, 7]] [.no, .rw [.loc 5] [], .rw [] [.loc 15], .no, .rw [.loc 5] [], .rw [] [.loc 18], .no, .rw [] [.loc 5], .no, .rw [] [.loc 5]]) (.gh .weak (.reg [⟨(some 21), none, (.fld (.t 3) 0)⟩, ⟨(some 22), none, (.load none (.t 21))⟩, ⟨(some 23), none, (.load (some 5) (.t 5))⟩, ⟨(some 24), none, (.lits 1 5 [(.bool false), (.str []), .nil0, (.int .i64 0), .nil0] [(0, (.t 23))])⟩, ⟨(some 25), none, (.app (.t 22) (.t 24) 5 80)⟩, ⟨(some 26), none, (.fld (.t 3) 0)⟩, ⟨none, none, (.store 1 (.t 26) (.t 25))⟩]))))) (.reg [⟨(some 27), none, (.bin .add (.t 9) (.c (.int .i64 1)))⟩, ⟨(some 9), none, (.mov (.t 27))⟩])))))))) (.gh (.frzc (.loc 1000) (.loc 3) 0) (.seq (.reg [⟨(some 28), none, (.load (some 1) (.t 3))⟩, ⟨none, none, (.store 1 (.t 2) (.t 28))⟩]) .ret)))))
def frz2 (a b : Lb) (xs : Nat × List IV) (ys : Nat × List IV) : Lb → Option (Nat × List IV) := fun l => if l = a then some xs else if l = b then some ys else none
theorem pCopyDoc {P : Program} {G : Nat → Option (List IV)} {f_topiaryref_CopyDoc : Nat} (hF : compF P G f_topiaryref_CopyDoc = some (29, [((some (some 1)), 2)], c_topiaryref_CopyDoc.bare)) (d : Doc) (hd : wtN d ≤ B) :
    PureC P G f_topiaryref_CopyDoc [Doc.av d] (Doc.av d) := by
  refine pure_of_goN hF (by simp) (by simp [lbss, AV.lbs, Doc.av]) (by simp [AV.lbs, lbss, Doc.av]) ?_
  have hBv : B = 1073741824 := rfl
  have hdl := wtN_len d
  unfold c_topiaryref_CopyDoc
  simp only [↓aX, evp, evq, evl, boxK, stillV, binV, AV.cells, mP, loadV, storeV, ldV, AV.stb, AV.one, IV.av1, Lb.app, Lb.fresh, reduceCtorEq, ptrL, appL, fillA, chunks, ivs, AV.iv, mkE, if_false, if_true, List.not_mem_nil, forall_eq, beq_self_eq_true, List.isEmpty_nil, Nat.reduceEqDiff, Nat.reduceLT, Nat.reduceLeDiff, Nat.reduceAdd, Nat.reduceMul, Int.reduceToNat, Int.reduceLE, Int.reduceLT, Doc.av, List.length_map]
  rw [go_weak]
  refine ⟨_, _, weaker_ownc (q := .loc 3) (cs := [.nil0]) (j := 0) (d := 1000) (sz := 5) rfl rfl (by simp [upd_at, Hp.none]) (by decide), ?_⟩
  simp only [↓aX, evp, evq, evl, boxK, stillV, binV, AV.cells, mP, loadV, storeV, ldV, AV.stb, AV.one, IV.av1, Lb.app, Lb.fresh, reduceCtorEq, ptrL, appL, fillA, chunks, ivs, AV.iv, mkE, if_false, if_true, List.not_mem_nil, forall_eq, beq_self_eq_true, List.isEmpty_nil, Nat.reduceEqDiff, Nat.reduceLT, Nat.reduceLeDiff, Nat.reduceAdd, Nat.reduceMul, Int.reduceToNat, Int.reduceLE, Int.reduceLT]
  refine loop_used (σ := { i : Nat // i ≤ d.length }) (fun _ => [.loc 2, .loc 3, .loc 1000]) (fun _ _ => false)
    (fun q => [(2, .ptr (.loc 2) 1 0 0), (3, .ptr (.loc 3) 1 0 0), (7, .list (d.map Node.iv)), (8, .int .i64 d.length), (9, .int .i64 q.1)])
    (fun q => [(.loc 2, ⟨1, [[.nil0]]⟩), (.loc 3, ⟨1, [[.sl (.loc 1000) 5 0 q.1]]⟩), (.loc 1000, ⟨5, immE ((d.take q.1).map Node.iv)⟩)])
    (fun q => d.length - q.1) ⟨0, Nat.zero_le _⟩ (fun _ => rfl) (fun q => by simp [lbss, AV.lbs]) ?_ ⟨[], ?_⟩ ?_
  · rintro q r hr cs hcs l hl
    simp only [List.mem_cons, List.not_mem_nil, or_false] at hr
    rcases hr with rfl | rfl | rfl
    · simp only [List.mem_singleton] at hcs; subst hcs; simp [lbss, AV.lbs] at hl
    · simp only [List.mem_singleton] at hcs; subst hcs; simp [lbss, AV.lbs] at hl; subst hl; simp
    · rw [lbss_immE hcs] at hl; simp at hl
  · refine ⟨?_, ?_, ?_, by simp [rnF], fun l _ => ⟨id, fun _ => rfl⟩⟩
    · intro l hf hu
      exfalso; apply hu
      cases l <;> simp_all [Lb.fresh, upd_at, Hp.none]
    · simp [EqL, rnF, ren, put]
    · simp [RwL, rnF, upd_at, renR, rens, ren, immE]
  · rintro ⟨i, hi⟩
    rw [ofU_f]
    simp only [↓aX, evp, evq, evl, boxK, stillV, binV, AV.cells, mP, loadV, storeV, ldV, AV.stb, AV.one, IV.av1, Lb.app, Lb.fresh, reduceCtorEq, ptrL, appL, fillA, chunks, ivs, AV.iv, mkE, if_false, if_true, List.not_mem_nil, forall_eq, beq_self_eq_true, List.isEmpty_nil, Nat.reduceEqDiff, Nat.reduceLT, Nat.reduceLeDiff, Nat.reduceAdd, Nat.reduceMul, Int.reduceToNat, Int.reduceLE, Int.reduceLT, ofH_nil, ofH_cons]
    by_cases hlt : i < d.length
    · rw [show decide ((i : Int) < (d.length : Int)) = true by simpa using hlt]
      obtain ⟨x, hx⟩ : ∃ x, d[i]? = some x := ⟨_, List.getElem?_eq_getElem hlt⟩
      have hw : IntKind.i64.wrap ((i : Int) + 1) = ((i + 1 : Nat) : Int) := wrap64 (by omega) (by omega)
      have hxw := wtN_mem (List.mem_of_getElem? hx)
      have hal := wtA_len x.attrs
      simp only [Node.wt] at hxw
      have hsn : (d.take (i + 1)).map Node.iv = (d.take i).map Node.iv ++ [x.iv] := by rw [List.take_add_one, hx]; simp
      have hl5 : ((d.take i).map Node.iv).length = i := by rw [List.length_map, List.length_take]; omega
      simp only [↓aX, evp, evq, evl, boxK, stillV, binV, AV.cells, mP, loadV, storeV, ldV, AV.stb, AV.one, IV.av1, Lb.app, Lb.fresh, reduceCtorEq, ptrL, appL, fillA, chunks, ivs, AV.iv, mkE, if_false, if_true, List.not_mem_nil, forall_eq, beq_self_eq_true, List.isEmpty_nil, Nat.reduceEqDiff, Nat.reduceLT, Nat.reduceLeDiff, Nat.reduceAdd, Nat.reduceMul, Int.reduceToNat, Int.reduceLE, Int.reduceLT, Doc.get_iv hx, elszN, Node.cells_eq, Node.cs]
      rw [app_nil' 2 32 15 (ivA x.attrs) (elszA _) (flatA _) (by rw [ivA_len]; omega) (by decide) (by simp [upd_at, Hp.none])]
      simp only [↓aX, evp, evq, evl, boxK, stillV, binV, AV.cells, mP, loadV, storeV, ldV, AV.stb, AV.one, IV.av1, Lb.app, Lb.fresh, reduceCtorEq, ptrL, appL, fillA, chunks, ivs, AV.iv, mkE, if_false, if_true, List.not_mem_nil, forall_eq, beq_self_eq_true, List.isEmpty_nil, Nat.reduceEqDiff, Nat.reduceLT, Nat.reduceLeDiff, Nat.reduceAdd, Nat.reduceMul, Int.reduceToNat, Int.reduceLE, Int.reduceLT]
      rw [app_nil' 1 8 18 (x.kids.map intIV) (elszI _) (flatI _) (by rw [List.length_map]; omega) (by decide) (by simp [upd_at, Hp.none])]
      simp only [↓aX, evp, evq, evl, boxK, stillV, binV, AV.cells, mP, loadV, storeV, ldV, AV.stb, AV.one, IV.av1, Lb.app, Lb.fresh, reduceCtorEq, ptrL, appL, fillA, chunks, ivs, AV.iv, mkE, if_false, if_true, List.not_mem_nil, forall_eq, beq_self_eq_true, List.isEmpty_nil, Nat.reduceEqDiff, Nat.reduceLT, Nat.reduceLeDiff, Nat.reduceAdd, Nat.reduceMul, Int.reduceToNat, Int.reduceLE, Int.reduceLT]
      refine ⟨rfl, ?_⟩
      rw [go_weak]
      refine ⟨_, _, weaker_fzU (frz2 (.loc 15) (.loc 18) (2, ivA x.attrs) (1, x.kids.map intIV))
        [(2, .ptr (.loc 2) 1 0 0), (3, .ptr (.loc 3) 1 0 0), (5, .ptr (.loc 5) 5 0 0), (7, .list (d.map Node.iv)), (8, .int .i64 d.length), (9, .int .i64 i)]
        [(.loc 2, ⟨1, [[.nil0]]⟩), (.loc 3, ⟨1, [[.sl (.loc 1000) 5 0 i]]⟩), (.loc 1000, ⟨5, immE ((d.take i).map Node.iv)⟩), (.loc 5, ⟨5, [x.iv.cells.map IV.av1]⟩)] [] ?_ ?_ ?_ ?_, ?_⟩
      · intro l sz xs hl
        unfold frz2 at hl
        split at hl
        · rename_i e; subst e
          simp only [Option.some.injEq, Prod.mk.injEq] at hl
          obtain ⟨rfl, rfl⟩ := hl
          exact ⟨by simp [upd_at], rfl, flatA _⟩
        · split at hl
          · rename_i e; subst e
            simp only [Option.some.injEq, Prod.mk.injEq] at hl
            obtain ⟨rfl, rfl⟩ := hl
            exact ⟨by simp [upd_at], rfl, flatI _⟩
          · cases hl
      · simp [lbss, AV.lbs]
      · rintro r hr cs hcs l hl
        simp only [List.mem_cons, List.not_mem_nil, or_false] at hr
        rcases hr with rfl | rfl | rfl | rfl
        · simp only [List.mem_singleton] at hcs; subst hcs; simp [lbss, AV.lbs] at hl
        · simp only [List.mem_singleton] at hcs; subst hcs; simp [lbss, AV.lbs] at hl; subst hl; simp
        · rw [lbss_immE hcs] at hl; simp at hl
        · simp only [List.mem_singleton] at hcs; subst hcs; rw [lbss_map_av1] at hl; simp at hl
      · refine ⟨?_, ?_, ?_, by simp [rnF], fun l hl => ⟨id, fun _ => rfl⟩⟩
        · intro l hf hu
          exfalso; apply hu
          cases l <;> simp_all [Lb.fresh, upd_at, Hp.none, fzH, frz2]
        · simp [EqL, rnF, ren, put, fzV]
        · have e1 : (frz2 (.loc 15) (.loc 18) (2, ivA x.attrs) (1, x.kids.map intIV)) (.loc 15) = some (2, ivA x.attrs) := rfl
          have e2 : (frz2 (.loc 15) (.loc 18) (2, ivA x.attrs) (1, x.kids.map intIV)) (.loc 18) = some (1, x.kids.map intIV) := rfl
          have e3 : (frz2 (.loc 15) (.loc 18) (2, ivA x.attrs) (1, x.kids.map intIV)) (.loc 1000) = none := rfl
          simp [RwL, rnF, fzH, frz2, upd_at, renR, rens, ren, fzVs, fzV, fz_imm, rens_imm, Node.cells_eq, Node.cs, IV.av1, fzV_sl e1 rfl, fzV_sl e2 (List.length_map _).symm]
          exact ⟨(map_rens _ _).symm, List.take_of_length_le (by simp)⟩
      · rw [ofU_f]
        simp only [↓aX, evp, evq, evl, boxK, stillV, binV, AV.cells, mP, loadV, storeV, ldV, AV.stb, AV.one, IV.av1, Lb.app, Lb.fresh, reduceCtorEq, ptrL, appL, fillA, chunks, ivs, AV.iv, mkE, if_false, if_true, List.not_mem_nil, forall_eq, beq_self_eq_true, List.isEmpty_nil, Nat.reduceEqDiff, Nat.reduceLT, Nat.reduceLeDiff, Nat.reduceAdd, Nat.reduceMul, Int.reduceToNat, Int.reduceLE, Int.reduceLT, ofH_nil, ofH_cons, Node.cells_eq, Node.cs]
        rw [app_loc 5 80 25 1000 ((d.take i).map Node.iv) (.agg [.bool x.text, .str x.s, .list (ivA x.attrs), .int .i64 x.parent, .list (x.kids.map intIV)]) (by simp [upd_at]) hl5 rfl x.cs_flat (by omega) (by decide) (by decide) (by simp [upd_at, Hp.none])]
        simp only [↓aX, evp, evq, evl, boxK, stillV, binV, AV.cells, mP, loadV, storeV, ldV, AV.stb, AV.one, IV.av1, Lb.app, Lb.fresh, reduceCtorEq, ptrL, appL, fillA, chunks, ivs, AV.iv, mkE, if_false, if_true, List.not_mem_nil, forall_eq, beq_self_eq_true, List.isEmpty_nil, Nat.reduceEqDiff, Nat.reduceLT, Nat.reduceLeDiff, Nat.reduceAdd, Nat.reduceMul, Int.reduceToNat, Int.reduceLE, Int.reduceLT, hw]
        refine ⟨⟨i + 1, hlt⟩, by simp only; omega, [(.loc 1000, .loc 25)], ?_⟩
        refine ⟨?_, ?_, ?_, by simp [rnF], ?_⟩
        · intro l hf hu
          exfalso; apply hu
          cases l <;> simp_all [Lb.fresh, upd_at, Hp.none]
        · simp [EqL, rnF, ren, put]
        · have hr : ∀ xs : List IV, renR (rnF [(.loc 1000, .loc 25)]) ⟨5, immE xs⟩ = ⟨5, immE xs⟩ := fun xs => renR_immE _ _ _
          simp only [RwL, hr, hsn]
          simp [rnF, upd_at, renR, rens, ren, Node.iv, Node.cs]
        · intro l hl
          simp only [List.mem_cons, List.not_mem_nil, or_false] at hl
          rcases hl with rfl | rfl | rfl
          · exact ⟨fun _ => rfl, fun _ => rfl⟩
          · exact ⟨fun _ => rfl, fun _ => rfl⟩
          · exact ⟨fun _ => rfl, fun h => by simp [Lb.fresh] at h⟩
    · have hil : i = d.length := by omega
      subst hil
      rw [show decide ((d.length : Int) < (d.length : Int)) = false by simp]
      simp only [↓aX, evp, evq, evl, boxK, stillV, binV, AV.cells, mP, loadV, storeV, ldV, AV.stb, AV.one, IV.av1, Lb.app, Lb.fresh, reduceCtorEq, ptrL, appL, fillA, chunks, ivs, AV.iv, mkE, if_false, if_true, List.not_mem_nil, forall_eq, beq_self_eq_true, List.isEmpty_nil, Nat.reduceEqDiff, Nat.reduceLT, Nat.reduceLeDiff, Nat.reduceAdd, Nat.reduceMul, Int.reduceToNat, Int.reduceLE, Int.reduceLT, List.take_length]
      refine ⟨5, d.map Node.iv, 0, d.length, [.sl (.loc 1000) 5 0 d.length], rfl, rfl, rfl, by simp, by simp, flatN _, ?_⟩
      simp only [↓aX, evp, evq, evl, boxK, stillV, binV, AV.cells, mP, loadV, storeV, ldV, AV.stb, AV.one, IV.av1, Lb.app, Lb.fresh, reduceCtorEq, ptrL, appL, fillA, chunks, ivs, AV.iv, mkE, if_false, if_true, List.not_mem_nil, forall_eq, beq_self_eq_true, List.isEmpty_nil, Nat.reduceEqDiff, Nat.reduceLT, Nat.reduceLeDiff, Nat.reduceAdd, Nat.reduceMul, Int.reduceToNat, Int.reduceLE, Int.reduceLT, List.drop_zero, List.take_of_length_le (show (d.map Node.iv).length ≤ d.length by simp)]
      rfl
end Go.Am
