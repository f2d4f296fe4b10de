/- THE ABSTRACT MACHINE, part 24: lists that grow. -/
import Derived.Test.YtfinkeaikbmpgaaAm23
set_option linter.defProp false
set_option linter.unnecessarySimpa false
set_option linter.unusedVariables false
set_option linter.unusedSimpArgs false
namespace Go.Am
open Go Go.RowKit

theorem Flat.one {xs : List IV} (h : Flat xs) : ∀ cs ∈ immE xs, AV.one1 cs := by
  intro cs hcs y hy
  simp only [immE, List.mem_map] at hcs
  obtain ⟨z, hz, rfl⟩ := hcs
  obtain ⟨c, hc, rfl⟩ := List.mem_map.1 hy
  have := h z hz c hc
  cases c <;> simp [IV.av1, AV.one]
  exact absurd rfl (this _)

theorem srcE_list {sz : Nat} {xs : List IV} {H : Hp} (h : Elsz sz xs) : srcE sz (.list xs) H = some (immE xs) := by
  simp [srcE, h, immE]

theorem app_nil {sz b d : Nat} {xs : List IV} {H : Hp} (he : Elsz sz xs) (hf : Flat xs) (hb : xs.length * b ≤ 140737488355328) (h0 : 0 < b) (hu : H (.loc d) = .unused) :
    appV sz b d .nil0 (.list xs) H = some (.sl (.loc d) sz 0 xs.length, upd H (.loc d) (.live ⟨sz, immE xs⟩)) := by
  unfold appV
  rw [srcE_list he, Option.bind_some, if_neg (by simpa using hf.one)]
  have : (immE xs).length = xs.length := by simp [immE]
  simp only
  rw [if_pos ⟨by rw [this]; exact hb, h0, hu⟩, this]

theorem app_sl {sz b d n : Nat} {l : Lb} {els : List (List AV)} {xs : List IV} {H : Hp} (hl : H l = .live ⟨sz, els⟩) (hn : n ≤ els.length) (he : Elsz sz xs) (hf : Flat xs) (hb : (n + xs.length) * b ≤ 140737488355328) (h0 : 0 < b)
    (hd : l ≠ l.app d) (hu : H (l.app d) = .unused) :
    appV sz b d (.sl l sz 0 n) (.list xs) H = some (.sl (l.app d) sz 0 (n + xs.length), upd (upd H l .dead) (l.app d) (.live ⟨sz, els.take n ++ immE xs⟩)) := by
  unfold appV
  rw [srcE_list he, Option.bind_some, if_neg (by simpa using hf.one)]
  have : (immE xs).length = xs.length := by simp [immE]
  simp only [hl]
  rw [if_pos ⟨rfl, rfl, rfl, hn, by rw [this]; exact hb, h0, hd, hu⟩, this]

theorem ivs_av1 : ∀ (ys : List IV), (∀ z ∈ ys, ∀ cs, z ≠ .agg cs) → ivs (ys.map IV.av1) = some ys
  | [], _ => rfl
  | y :: r, h => by
    have h1 := h y (by simp)
    simp only [List.map_cons, ivs, ivs_av1 r (fun z hz => h z (by simp [hz]))]
    cases y <;> simp [IV.av1, AV.iv]
    exact absurd rfl (h1 _)

/-- A list of one element. -/
theorem lits1 {env : Env} {x : O} {ys : List IV} {sz : Nat} {z : List AV} (hx : ev env x = .agg (ys.map IV.av1)) (hf : ∀ z ∈ ys, ∀ cs, z ≠ .agg cs) (hl : ys.length = sz) (h1 : 1 < sz) (hz : z.length = sz) :
    stillV (.lits 1 sz z [(0, x)]) env = some (.list [.agg ys]) := by
  have hne : ¬ sz * 1 = 0 := by omega
  have hstb : (AV.agg (ys.map IV.av1)).stb = true := by
    simp only [AV.stb, List.all_eq_true, List.mem_map]
    rintro y ⟨c, hc, rfl⟩
    have := hf c hc
    cases c <;> simp [IV.av1, AV.one]
    exact absurd rfl (this _)
  simp only [stillV, if_neg hne, List.map_cons, List.map_nil, hx, Nat.zero_mul, List.replicate_one, List.flatten_singleton, fillA]
  rw [if_pos ⟨hstb, by simp [AV.cells, hl], by omega⟩]
  simp only [List.take_zero, List.nil_append, AV.cells, Nat.zero_add, Option.bind_some]
  rw [List.drop_eq_nil_of_le (by omega), List.append_nil, ivs_av1 ys hf]
  simp only [Option.map_some, chunks, List.take_of_length_le (show ys.length ≤ sz by omega)]
  congr 2
  match ys, hl with
  | [], hl => simp at hl; omega
  | [y], hl => simp at hl; omega
  | y :: y' :: r, _ => rfl

theorem ren_av1 (ρ : Lb → Lb) (x : IV) : ren ρ x.av1 = x.av1 := by cases x <;> simp [IV.av1, ren]

theorem rens_imm (ρ : Lb → Lb) : ∀ xs : List IV, rens ρ (xs.map IV.av1) = xs.map IV.av1
  | [] => by simp [rens]
  | x :: r => by simp [rens, ren_av1, rens_imm ρ r]

theorem renR_imm (ρ : Lb → Lb) (sz : Nat) (xs : List IV) : renR ρ ⟨sz, immE xs⟩ = ⟨sz, immE xs⟩ := by
  simp [renR, immE, rens_imm]

theorem lbs_av1 (x : IV) : x.av1.lbs = [] := by cases x <;> simp [IV.av1, AV.lbs]

theorem lbss_imm : ∀ xs : List IV, lbss (xs.map IV.av1) = []
  | [] => rfl
  | x :: r => by simp [lbss, lbs_av1, lbss_imm r]

theorem lbss_immE {xs : List IV} {cs : List AV} (h : cs ∈ immE xs) : lbss cs = [] := by
  simp only [immE, List.mem_map] at h
  obtain ⟨y, _, rfl⟩ := h
  exact lbss_imm _

/-- One row of data, that this call has made: it may have another name now. -/
theorem Wk.one {env env2 : Env} {H : Hp} {l0 l1 : Lb} {sz : Nat} {xs : List IV} (he : ∀ n, env2 n = .any ∨ env n = ren (fun _ => l1) (env2 n)) (hm : ∀ n, ∀ l ∈ (env2 n).lbs, upd Hp.none l0 (.live ⟨sz, immE xs⟩) l ≠ .unused)
    (h1 : H l1 = .live ⟨sz, immE xs⟩) (hf0 : l0.fresh = true) (hf1 : l1.fresh = true) (hn : ∀ l, l.fresh = false → H l = .unused) : Wk (fun _ => l1) env H env2 (upd Hp.none l0 (.live ⟨sz, immE xs⟩)) := by
  have hl : ∀ l r, upd Hp.none l0 (.live ⟨sz, immE xs⟩) l = .live r → l = l0 ∧ r = ⟨sz, immE xs⟩ := by
    intro l r h
    by_cases e : l = l0
    · subst e; simp at h; exact ⟨rfl, h.symm⟩
    · rw [upd_ne _ _ e] at h; simp [Hp.none] at h
  refine ⟨he, fun l r h => ?_, fun l l' ⟨r, h⟩ ⟨r', h'⟩ _ => (hl l r h).1.trans (hl l' r' h').1.symm, hm, fun l r h cs hcs q hq => ?_, fun l hlf => ⟨fun h => absurd (hn l hlf) h, fun ⟨r, h⟩ => ?_⟩, fun _ _ _ => hf1⟩
  · obtain ⟨rfl, rfl⟩ := hl l r h
    rw [renR_imm]; exact h1
  · obtain ⟨rfl, rfl⟩ := hl l r h
    rw [lbss_immE hcs] at hq; simp at hq
  · obtain ⟨rfl, _⟩ := hl l r h
    rw [hf0] at hlf; simp at hlf

theorem nf_none : ∀ l : Lb, l.fresh = false → Hp.none l = .unused := fun _ _ => rfl
theorem nf_upd {H : Hp} {n : Nat} {s : Slot} (h : ∀ l : Lb, l.fresh = false → H l = .unused) : ∀ l : Lb, l.fresh = false → upd H (.loc n) s l = .unused := by
  intro l hl
  have : l ≠ .loc n := by rintro rfl; simp [Lb.fresh] at hl
  rw [upd_ne _ _ this]
  exact h l hl

theorem upd_at (H : Hp) (l q : Lb) (s : Slot) : upd H l s q = if q = l then s else H q := rfl

section
variable {S : St} {env : Env} {H : Hp}
theorem af_load (R W : List Lb) (d : Option Nat) (m : Option Nat) (a : O) (k : AV → Hp → Prop) : Act1f S (.rw R W) d (.load m a) env H k = stK (loadV m (ev env a) H) (fun x => (∀ l ∈ ptrL (ev env a), l ∈ R ∨ l ∈ W) ∧ k x H) .mk := by
  apply propext
  simp only [Act1f, memV, readsL, writesL, stK]
  constructor
  · rintro ⟨x, H', h1, h2, _, h3⟩
    simp only [Option.map_eq_some_iff, Prod.mk.injEq] at h1
    obtain ⟨y, h1, rfl, rfl⟩ := h1
    exact ⟨y, h1, h2, h3⟩
  · rintro ⟨x, h1, h2, h3⟩
    exact ⟨x, H, by simp [h1], h2, by simp, h3⟩
theorem af_store (R W : List Lb) (m : Nat) (a x : O) (k : AV → Hp → Prop) : Act1f S (.rw R W) none (.store m a x) env H k = hK (storeV m (ev env a) (ev env x) H) (fun H' => (∀ l ∈ ptrL (ev env a), l ∈ W) ∧ k .un H') .mk := by
  apply propext
  simp only [Act1f, memV, readsL, writesL, hK, if_true]
  constructor
  · rintro ⟨x, H', h1, _, h2, h3⟩
    simp only [Option.map_eq_some_iff, Prod.mk.injEq] at h1
    obtain ⟨y, h1, rfl, rfl⟩ := h1
    exact ⟨_, h1, h2, h3⟩
  · rintro ⟨x, h1, h2, h3⟩
    exact ⟨.un, x, by simp [h1], by simp, h2, h3⟩
theorem af_new (R W : List Lb) (n : Nat) (cs : List AV) (k : AV → Hp → Prop) : Act1f S (.rw R W) (some n) (.new cs) env H k = (H (.loc n) = .unused ∧ 0 < cs.length ∧ cs.length ≤ maxLen ∧ (Lb.loc n) ∈ W ∧
    k (.ptr (.loc n) cs.length 0 0) (upd H (.loc n) (.live ⟨cs.length, [cs]⟩))) := by
  apply propext
  simp only [Act1f, memV, readsL, writesL, Option.bind_some]
  constructor
  · rintro ⟨x, H', h1, _, h2, h3⟩
    split at h1
    · rename_i hc
      simp only [Option.some.injEq, Prod.mk.injEq] at h1
      obtain ⟨rfl, rfl⟩ := h1
      exact ⟨hc.1, hc.2.1, hc.2.2, h2 _ (by simp), h3⟩
    · simp at h1
  · rintro ⟨h1, h2, h3, h4, h5⟩
    exact ⟨_, _, by rw [if_pos ⟨h1, h2, h3⟩], by simp, by simpa using h4, h5⟩
theorem af_box (R W : List Lb) (n : Nat) (x : O) (k : AV → Hp → Prop) : Act1f S (.rw R W) (some n) (.box x) env H k = (Lb.loc n ∈ W ∧ boxK (ev env x) n H k) := by
  apply propext
  simp only [Act1f, memV, readsL, writesL, Option.bind_some, boxK]
  constructor
  · rintro ⟨y, H', h1, _, h2, h3⟩
    split at h1
    · rename_i hc
      simp only [Option.some.injEq, Prod.mk.injEq] at h1
      obtain ⟨rfl, rfl⟩ := h1
      exact ⟨h2 _ (by simp), hc.1, hc.2.1, hc.2.2.1, hc.2.2.2, h3⟩
    · simp at h1
  · rintro ⟨h4, h1, h2, h3, h6, h5⟩
    exact ⟨_, _, by rw [if_pos ⟨h1, h2, h3, h6⟩], by simp, by simpa using h4, h5⟩

/-- Where an append writes. -/
def appL (n : Nat) (s : AV) : List Lb :=
  match s with
  | .sl l _ _ _ => [l, l.app n]
  | _ => [.loc n]

theorem af_app (R W : List Lb) (n : Nat) (s x : O) (sz b : Nat) (k : AV → Hp → Prop) : Act1f S (.rw R W) (some n) (.app s x sz b) env H k =
    pK (appV sz b n (ev env s) (ev env x) H) (fun y H' => (∀ l ∈ ptrL (ev env x), l ∈ R ∨ l ∈ W) ∧ (∀ l ∈ appL n (ev env s), l ∈ W) ∧ k y H') .mk := by
  apply propext
  have : writesL (some n) (.app s x sz b) env = appL n (ev env s) := by
    simp only [writesL, appL]
    cases ev env s <;> simp
  simp only [Act1f, memV, this, readsL, Option.bind_some, pK]
end

end Go.Am
