import Derived.Test.YtfinkeaikbmpgaaKT9
import Derived.Test.YtfinkeaikbmpgaaKD1
set_option linter.unusedSimpArgs false
set_option linter.unusedVariables false
set_option linter.unnecessarySimpa false
set_option linter.defProp false
/- THE ABSTRACT MACHINE, part 33: slices held against nil; loops of calls with pointers. -/
namespace Go.Am
open Go Go.RowKit

inductive Tb (k : Bool → Prop) : Type
  | mk
/-- Whatever is found of what may be nil. -/
def nK (o : Option (List Bool)) (k : Bool → Prop) (_ : Tb k) : Prop := ∃ bs, o = some bs ∧ ∀ b ∈ bs, k b

theorem a1_eqn {S : St} {env : Env} {H : Hp} (d : Option Nat) (n : Bool) (x : O) (k : AV → Hp → Prop) : Act1 S d (.eqn n x) env H k = nK (nilV (ev env x)) (fun b => k (.bool (n ^^ b)) H) .mk := rfl

theorem nK_list {xs : List IV} {k : Bool → Prop} {u : Tb k} (h1 : xs = [] → k true) (h2 : k false) : nK (nilV (.list xs)) k u := by
  cases xs with
  | nil => exact ⟨_, rfl, fun b _ => by cases b; exact h2; exact h1 rfl⟩
  | cons x r => exact ⟨_, rfl, fun b hb => by simp only [List.mem_singleton] at hb; subst hb; exact h2⟩
theorem nK_nil0 {k : Bool → Prop} {u : Tb k} (h1 : k true) (h2 : k false) : nK (nilV .nil0) k u := ⟨_, rfl, fun b _ => by cases b; exact h2; exact h1⟩

/-- Nothing is put behind nothing: a list of data, of one's own. -/
theorem app_nil' (sz b d : Nat) (xs : List IV) {H : Hp} (he : Elsz sz xs) (hf : Flat xs) (hb : xs.length * b ≤ 140737488355328) (h0 : 0 < b) (hu : H (.loc d) = .unused) :
    appV sz b d .nil0 (.list xs) H = some (.sl (.loc d) sz 0 xs.length, upd H (.loc d) (.live ⟨sz, immE xs⟩)) := app_nil he hf hb h0 hu

end Go.Am

/- Copies of slices. -/
namespace Go.Am
open Go Go.RowKit

def c_slices_Clone_Attr_Attr : AC :=
(.seq (.reg [⟨(some 2), none, (.mov (.c .nil0))⟩]) (.seq (.seq (.reg [⟨(some 3), none, (.mov (.t 0))⟩, ⟨(some 4), none, (.eqn false (.t 3))⟩]) (.cond (.t 4) (.seq (.reg [⟨(some 2), none, (.mov (.c .nil0))⟩]) .ret) .skip)) (.seq (.reg [⟨(some 5), none, (.lits 0 2 [(.str []), (.str [])] [])⟩, ⟨(some 6), none, (.mov (.t 0))⟩, ⟨(some 7), none, (.app (.t 5) (.t 6) 2 32)⟩, ⟨(some 2), none, (.mov (.t 7))⟩]) (.gh (.frz (.loc 7) 2) .ret))))
def c_slices_Clone_int_int : AC :=
(.seq (.reg [⟨(some 2), none, (.mov (.c .nil0))⟩]) (.seq (.seq (.reg [⟨(some 3), none, (.mov (.t 0))⟩, ⟨(some 4), none, (.eqn false (.t 3))⟩]) (.cond (.t 4) (.seq (.reg [⟨(some 2), none, (.mov (.c .nil0))⟩]) .ret) .skip)) (.seq (.reg [⟨(some 5), none, (.lits 0 1 [(.int .i64 0)] [])⟩, ⟨(some 6), none, (.mov (.t 0))⟩, ⟨(some 7), none, (.app (.t 5) (.t 6) 1 8)⟩, ⟨(some 2), none, (.mov (.t 7))⟩]) (.gh (.frz (.loc 7) 2) .ret))))

theorem pCloneA {P : Program} {G : Nat → Option (List IV)} {f_slices_Clone_Attr_Attr : Nat} (hF : compF P G f_slices_Clone_Attr_Attr = some (8, [(none, 2)], c_slices_Clone_Attr_Attr.bare)) (xs : List Attr) (hx : xs.length ≤ B) : PureC P G f_slices_Clone_Attr_Attr [.list (ivA xs)] (.list (ivA xs)) := by
  refine pure_of_goN hF (by simp) (by simp [lbss, AV.lbs]) (by simp [AV.lbs]) ?_
  unfold c_slices_Clone_Attr_Attr
  simp only [↓evs, evp, evq, evl, boxK, ↓a1_still, stillV, ↓af_still, ↓af_load, ↓af_store, ↓af_app, ↓af_new, ↓af_box, binV, AV.cells, Lb.loc.injEq, loadV, storeV, ldV, AV.stb, AV.one, IV.av1, Lb.app, Lb.fresh, reduceCtorEq, Bool.false_eq_true, ptrL, appL, fillA, chunks, ivs, AV.iv, mkE, if_false, if_true, List.not_mem_nil, forall_eq, Nat.reduceEqDiff, Nat.reduceLT, Nat.reduceLeDiff, Nat.reduceAdd, Nat.reduceMul, Int.reduceToNat, Int.reduceLE, Int.reduceLT, Int.le_refl, Int.toNat_zero, beq_self_eq_true, List.isEmpty_nil, a1_eqn]
  refine nK_list (fun h => ?_) ?_
  · simp only [↓evs, evp, evq, evl, boxK, ↓a1_still, stillV, ↓af_still, ↓af_load, ↓af_store, ↓af_app, ↓af_new, ↓af_box, binV, AV.cells, Lb.loc.injEq, loadV, storeV, ldV, AV.stb, AV.one, IV.av1, Lb.app, Lb.fresh, reduceCtorEq, Bool.false_eq_true, ptrL, appL, fillA, chunks, ivs, AV.iv, mkE, if_false, if_true, List.not_mem_nil, forall_eq, Nat.reduceEqDiff, Nat.reduceLT, Nat.reduceLeDiff, Nat.reduceAdd, Nat.reduceMul, Int.reduceToNat, Int.reduceLE, Int.reduceLT, Int.le_refl, Int.toNat_zero, beq_self_eq_true, List.isEmpty_nil, norm, h]
  · simp only [↓evs, evp, evq, evl, boxK, ↓a1_still, stillV, ↓af_still, ↓af_load, ↓af_store, ↓af_app, ↓af_new, ↓af_box, binV, AV.cells, Lb.loc.injEq, loadV, storeV, ldV, AV.stb, AV.one, IV.av1, Lb.app, Lb.fresh, reduceCtorEq, Bool.false_eq_true, ptrL, appL, fillA, chunks, ivs, AV.iv, mkE, if_false, if_true, List.not_mem_nil, forall_eq, Nat.reduceEqDiff, Nat.reduceLT, Nat.reduceLeDiff, Nat.reduceAdd, Nat.reduceMul, Int.reduceToNat, Int.reduceLE, Int.reduceLT, Int.le_refl, Int.toNat_zero, beq_self_eq_true, List.isEmpty_nil, norm]
    rw [app_nil' 2 32 7 (ivA xs) (elszA _) (flatA _) (by rw [ivA_len]; unfold B at hx; omega) (by decide) rfl]
    simp only [↓evs, evp, evq, evl, boxK, ↓a1_still, stillV, ↓af_still, ↓af_load, ↓af_store, ↓af_app, ↓af_new, ↓af_box, binV, AV.cells, Lb.loc.injEq, loadV, storeV, ldV, AV.stb, AV.one, IV.av1, Lb.app, Lb.fresh, reduceCtorEq, Bool.false_eq_true, ptrL, appL, fillA, chunks, ivs, AV.iv, mkE, if_false, if_true, List.not_mem_nil, forall_eq, Nat.reduceEqDiff, Nat.reduceLT, Nat.reduceLeDiff, Nat.reduceAdd, Nat.reduceMul, Int.reduceToNat, Int.reduceLE, Int.reduceLT, Int.le_refl, Int.toNat_zero, beq_self_eq_true, List.isEmpty_nil, norm]
    exact ⟨2, ivA xs, 0, _, rfl, rfl, by simp, flatA _, by simp⟩

theorem pCloneI {P : Program} {G : Nat → Option (List IV)} {f_slices_Clone_int_int : Nat} (hF : compF P G f_slices_Clone_int_int = some (8, [(none, 2)], c_slices_Clone_int_int.bare)) (xs : List Int) (hx : xs.length ≤ B) : PureC P G f_slices_Clone_int_int [.list (xs.map intIV)] (.list (xs.map intIV)) := by
  refine pure_of_goN hF (by simp) (by simp [lbss, AV.lbs]) (by simp [AV.lbs]) ?_
  unfold c_slices_Clone_int_int
  simp only [↓evs, evp, evq, evl, boxK, ↓a1_still, stillV, ↓af_still, ↓af_load, ↓af_store, ↓af_app, ↓af_new, ↓af_box, binV, AV.cells, Lb.loc.injEq, loadV, storeV, ldV, AV.stb, AV.one, IV.av1, Lb.app, Lb.fresh, reduceCtorEq, Bool.false_eq_true, ptrL, appL, fillA, chunks, ivs, AV.iv, mkE, if_false, if_true, List.not_mem_nil, forall_eq, Nat.reduceEqDiff, Nat.reduceLT, Nat.reduceLeDiff, Nat.reduceAdd, Nat.reduceMul, Int.reduceToNat, Int.reduceLE, Int.reduceLT, Int.le_refl, Int.toNat_zero, beq_self_eq_true, List.isEmpty_nil, a1_eqn]
  refine nK_list (fun h => ?_) ?_
  · simp only [↓evs, evp, evq, evl, boxK, ↓a1_still, stillV, ↓af_still, ↓af_load, ↓af_store, ↓af_app, ↓af_new, ↓af_box, binV, AV.cells, Lb.loc.injEq, loadV, storeV, ldV, AV.stb, AV.one, IV.av1, Lb.app, Lb.fresh, reduceCtorEq, Bool.false_eq_true, ptrL, appL, fillA, chunks, ivs, AV.iv, mkE, if_false, if_true, List.not_mem_nil, forall_eq, Nat.reduceEqDiff, Nat.reduceLT, Nat.reduceLeDiff, Nat.reduceAdd, Nat.reduceMul, Int.reduceToNat, Int.reduceLE, Int.reduceLT, Int.le_refl, Int.toNat_zero, beq_self_eq_true, List.isEmpty_nil, norm, h]
  · simp only [↓evs, evp, evq, evl, boxK, ↓a1_still, stillV, ↓af_still, ↓af_load, ↓af_store, ↓af_app, ↓af_new, ↓af_box, binV, AV.cells, Lb.loc.injEq, loadV, storeV, ldV, AV.stb, AV.one, IV.av1, Lb.app, Lb.fresh, reduceCtorEq, Bool.false_eq_true, ptrL, appL, fillA, chunks, ivs, AV.iv, mkE, if_false, if_true, List.not_mem_nil, forall_eq, Nat.reduceEqDiff, Nat.reduceLT, Nat.reduceLeDiff, Nat.reduceAdd, Nat.reduceMul, Int.reduceToNat, Int.reduceLE, Int.reduceLT, Int.le_refl, Int.toNat_zero, beq_self_eq_true, List.isEmpty_nil, norm]
    rw [app_nil' 1 8 7 (xs.map intIV) (elszI _) (flatI _) (by rw [List.length_map]; unfold B at hx; omega) (by decide) rfl]
    simp only [↓evs, evp, evq, evl, boxK, ↓a1_still, stillV, ↓af_still, ↓af_load, ↓af_store, ↓af_app, ↓af_new, ↓af_box, binV, AV.cells, Lb.loc.injEq, loadV, storeV, ldV, AV.stb, AV.one, IV.av1, Lb.app, Lb.fresh, reduceCtorEq, Bool.false_eq_true, ptrL, appL, fillA, chunks, ivs, AV.iv, mkE, if_false, if_true, List.not_mem_nil, forall_eq, Nat.reduceEqDiff, Nat.reduceLT, Nat.reduceLeDiff, Nat.reduceAdd, Nat.reduceMul, Int.reduceToNat, Int.reduceLE, Int.reduceLT, Int.le_refl, Int.toNat_zero, beq_self_eq_true, List.isEmpty_nil, norm]
    exact ⟨1, xs.map intIV, 0, _, rfl, rfl, by simp, flatI _, by rw [List.drop_zero, List.take_of_length_le (by simp)]⟩
end Go.Am

/- THE ABSTRACT MACHINE, part 34: a list of structs behind a pointer. -/
namespace Go.Am
open Go Go.RowKit

/-- A list that grows by one: one that was handed in. -/
theorem app_far (sz b d : Nat) (l : Lb) (xs : List IV) (x : IV) {n : Nat} {H : Hp} (hf : l.fresh = false) (hl : H l = .live ⟨sz, immE xs⟩) (hn : xs.length = n) (he : x.cells.length = sz) (hfl : ∀ z ∈ x.cells, ∀ cs, z ≠ .agg cs) (hb : (n + 1) * b ≤ 140737488355328) (h0 : 0 < b)
    (hd : l ≠ .gen d) (hu : H (.gen d) = .unused) :
    appV sz b d (.sl l sz 0 n) (.list [x]) H = some (.sl (.gen d) sz 0 (n + 1), upd (upd H l .dead) (.gen d) (.live ⟨sz, immE (xs ++ [x])⟩)) := by
  have e : l.app d = .gen d := by unfold Lb.app; rw [hf]; rfl
  have := app_one (l := l) (d := d) hl (by rw [immE_len]; exact hn) he hfl hb h0 (by rw [e]; exact hd) (by rw [e]; exact hu)
  rw [e] at this
  rw [this, immE_app]

/-- Rows as they are listed; some labels more are used up. -/
def ofU (u : Lb → Bool) (rs : List (Lb × Row)) : Hp := fun q => match ofH rs q with
  | .unused => if u q then .dead else .unused
  | s => s

theorem ofU_live {u : Lb → Bool} {rs : List (Lb × Row)} {l : Lb} {r : Row} : ofU u rs l = .live r ↔ ofH rs l = .live r := by
  unfold ofU
  cases h : ofH rs l with
  | unused => by_cases hu : u l = true <;> simp [hu]
  | dead => simp
  | live r' => simp
theorem ofU_used {u : Lb → Bool} {rs : List (Lb × Row)} {l : Lb} (h : l ∈ rs.map Prod.fst ∨ u l = true) : ofU u rs l ≠ .unused := by
  unfold ofU
  rcases h with h | h
  · have := ofH_used h
    cases h2 : ofH rs l with
    | unused => exact absurd h2 this
    | dead => simp
    | live r => simp
  · cases h2 : ofH rs l with
    | unused => simp [h]
    | dead => simp
    | live r => simp
theorem ofU_at {u : Lb → Bool} {rs : List (Lb × Row)} {l : Lb} (h : l ∉ rs.map Prod.fst) : ofU u rs l = if u l then .dead else .unused := by
  have : ofH rs l = .unused := by
    induction rs with
    | nil => rfl
    | cons p t ih =>
      obtain ⟨l0, r0⟩ := p
      simp only [List.map_cons, List.mem_cons, not_or] at h
      simp only [ofH, upd, if_neg h.1]
      exact ih h.2
  unfold ofU; rw [this]

structure WU (ls : List Lb) (u : Lb → Bool) (ps : List (Nat × AV)) (rs : List (Lb × Row)) (env : Env) (H : Hp) (m : List (Lb × Lb)) : Prop where
  nf : ∀ l : Lb, l.fresh = false → H l ≠ .unused → l ∈ ls ∨ u l = true
  e : EqL (rnF m) env ps
  r : RwL (rnF m) H rs
  inj : (ls.map (rnF m)).Nodup
  fr : ∀ l ∈ ls, (l.fresh = true → (rnF m l).fresh = true) ∧ (l.fresh = false → rnF m l = l)

theorem WU.wk {ls : List Lb} {u : Lb → Bool} {ps : List (Nat × AV)} {rs : List (Lb × Row)} {env : Env} {H : Hp} {m : List (Lb × Lb)} (h : WU ls u ps rs env H m) (hls : rs.map Prod.fst = ls) (hp : ∀ l ∈ lbss (ps.map Prod.snd), l ∈ ls)
    (hr : ∀ q ∈ rs, ∀ cs ∈ q.2.els, ∀ l ∈ lbss cs, l ∈ ls) : Wk (rnF m) env H (ofL ps) (ofU u rs) := by
  have hlv : ∀ l, live (ofU u rs) l → l ∈ ls := fun l ⟨r, h⟩ => by rw [← hls]; exact List.mem_map.2 ⟨_, ofH_live (ofU_live.1 h), rfl⟩
  refine ⟨h.e.we, fun l r hl => RwL_mem h.r (ofH_live (ofU_live.1 hl)), fun l l' h1 h2 e => nodup_map_inj h.inj l (hlv l h1) l' (hlv l' h2) e, ofL_wm fun l hl => ofU_used (.inl (by rw [hls]; exact hp l hl)), fun l r hl cs hcs q hq => ?_,
    fun l hf => ⟨fun hu => ?_, fun hl => (h.fr l (hlv l hl)).2 hf⟩, fun l hl hf => (h.fr l (hlv l hl)).1 hf⟩
  · exact ofU_used (.inl (by rw [hls]; exact hr _ (ofH_live (ofU_live.1 hl)) cs hcs q hq))
  · exact ofU_used (by rw [hls]; exact h.nf l hf hu)

theorem loop_used {σ : Type} {S : St} {Q : Post} {c : AC} {k : List It} {env : Env} {H : Hp} (ls : σ → List Lb) (u : σ → Lb → Bool) (ps : σ → List (Nat × AV)) (rs : σ → List (Lb × Row)) (μ : σ → Nat) (s0 : σ)
    (hls : ∀ s, (rs s).map Prod.fst = ls s) (hp : ∀ s, ∀ l ∈ lbss ((ps s).map Prod.snd), l ∈ ls s) (hr : ∀ s, ∀ q ∈ rs s, ∀ cs ∈ q.2.els, ∀ l ∈ lbss cs, l ∈ ls s) (h0 : ∃ m, WU (ls s0) (u s0) (ps s0) (rs s0) env H m)
    (round : ∀ s, go S (LoopX S Q k (fun env H s => ∃ m, WU (ls s) (u s) (ps s) (rs s) env H m) μ (μ s)) [.code c] (ofL (ps s)) (ofU (u s) (rs s))) : LoopG S Q c k env H :=
  loop_gen (fun s => ofL (ps s)) (fun s => ofU (u s) (rs s)) _ (fun _ _ s ⟨m, h⟩ => ⟨_, h.wk (hls s) (hp s) (hr s)⟩) μ s0 h0 round

/-- Behind 'l' lies a struct of one slice, 'xs' its elements, in the row that 'o' names. -/
def LstAt (sz : Nat) (l : Lb) (o : Option Lb) (xs : List IV) (H : Hp) : Prop := match o with
  | none => H l = .live ⟨1, [[.nil0]]⟩ ∧ xs = []
  | some L => L ≠ l ∧ H l = .live ⟨1, [[.sl L sz 0 xs.length]]⟩ ∧ H L = .live ⟨sz, immE xs⟩

/-- The rows that are handed in. -/
def lstIn (sz : Nat) (xs : List IV) : Bool → Hp
  | false => upd Hp.none (.par 0) (.live ⟨1, [[.nil0]]⟩)
  | true => upd (upd Hp.none (.par 1) (.live ⟨sz, immE xs⟩)) (.par 0) (.live ⟨1, [[.sl (.par 1) sz 0 xs.length]]⟩)

/-- A contract of a function that is handed a pointer to such a struct, and puts elements behind those that are there. -/
def LstC (P : Program) (G : Nat → Option (List IV)) (sz f : Nat) (args : List AV) (xs : List IV) (res : AV) (ys : List IV) : Prop :=
  (∀ l ∈ lbss args, l = .par 0) ∧ res.lbs = [] ∧ ∀ b : Bool, (b = false → xs = []) → SpecC P G f args (lstIn sz xs b) fun x H' => x = res ∧ ∃ L, LstAt sz (.par 0) (some L) ys H'

theorem atL_par (l : Lb) : atL l (.par 0) = l := rfl

/-- The caller's names: of the struct, of the row, of a new row. -/
def rn2 (l L N : Lb) (Lc : Lb) : Lb → Lb := fun q => if q = .par 0 then l else if q = .par 1 then L else if q = Lc then N else q

theorem lbss_imm1 {xs : List IV} {cs : List AV} (h : cs ∈ immE xs) : lbss cs = [] := lbss_immE h

theorem renR_immE (ρ : Lb → Lb) (sz : Nat) (xs : List IV) : renR ρ ⟨sz, immE xs⟩ = ⟨sz, immE xs⟩ := renR_imm ρ sz xs

/-- Behind a call only such rows are spoken of: the choice may depend on the rows. -/
theorem SpecC.keepH {P : Program} {G : Nat → Option (List IV)} {f : Nat} {args : List AV} {H : Hp} {Q : AV → Hp → Prop} (h : SpecC P G f args H Q) (kp : Hp → Lb → Prop) :
    SpecC P G f args H fun x H' => ∃ H1, Q x H1 ∧ H' = killE (kp H1) H1 := by
  intro w A β vs hr hv
  refine (h w A β vs hr hv).mono ?_
  rintro e w' ⟨v, x, H1, β', rfl, hq, hr', hx, hm⟩
  exact ⟨v, x, killE (kp H1) H1, β', rfl, ⟨H1, hq, rfl⟩, hr'.killE _, hx.killE _, fun l hl => by rw [Ne, killE_unused]; exact hm l hl⟩

mutual
theorem ren_congr {ρ ρ' : Lb → Lb} : ∀ x : AV, (∀ l ∈ x.lbs, ρ l = ρ' l) → ren ρ x = ren ρ' x
  | .sl l .., h | .ptr l .., h => by simp [ren, h l (by simp [AV.lbs])]
  | .any, _ | .un, _ | .bool _, _ | .int .., _ | .str _, _ | .list _, _ | .nil0, _ | .nilp, _ | .nilif, _ | .lptr _, _ => by simp [ren]
  | .agg cs, h => by simp only [AV.lbs] at h; simp [ren, rens_congr cs h]
  | .tup cs, h => by simp only [AV.lbs] at h; simp [ren, rens_congr cs h]
  | .fn f fs cs, h => by
    simp only [AV.lbs, List.mem_append] at h
    simp [ren, rens_congr fs (fun l hl => h l (.inl hl)), rens_congr cs (fun l hl => h l (.inr hl))]
  | .ifc t x, h => by simp only [AV.lbs] at h; simp [ren, ren_congr x h]
theorem rens_congr {ρ ρ' : Lb → Lb} : ∀ xs : List AV, (∀ l ∈ lbss xs, ρ l = ρ' l) → rens ρ xs = rens ρ' xs
  | [], _ => by simp [rens]
  | x :: r, h => by
    simp only [lbss, List.mem_append] at h
    simp [rens, ren_congr x (fun l hl => h l (.inl hl)), rens_congr r (fun l hl => h l (.inr hl))]
end

theorem lstIn_live {sz : Nat} {xs : List IV} {b : Bool} {q : Lb} {r : Row} (h : lstIn sz xs b q = .live r) :
    (q = .par 0 ∧ r = ⟨1, [[if b then .sl (.par 1) sz 0 xs.length else .nil0]]⟩) ∨ (b = true ∧ q = .par 1 ∧ r = ⟨sz, immE xs⟩) := by
  cases b with
  | false =>
    simp only [lstIn] at h
    by_cases e : q = .par 0
    · subst e; simp at h; exact .inl ⟨rfl, by rw [← h]; rfl⟩
    · rw [upd_ne _ _ e] at h; simp [Hp.none] at h
  | true =>
    simp only [lstIn] at h
    by_cases e : q = .par 0
    · subst e; simp at h; exact .inl ⟨rfl, by rw [← h]; rfl⟩
    · rw [upd_ne _ _ e] at h
      by_cases e1 : q = .par 1
      · subst e1; simp at h; exact .inr ⟨rfl, rfl, h.symm⟩
      · rw [upd_ne _ _ e1] at h; simp [Hp.none] at h

open Classical in
theorem callT_lst {S : St} {sz f : Nat} {args cargs : List AV} {xs ys : List IV} {res : AV} {H : Hp} {k : AV → Hp → Prop} {u : Tw k} {l N : Lb} {o : Option Lb} (h : LstC S.P S.G sz f cargs xs res ys)
    (ha : args = rens (atL l) cargs) (hl : LstAt sz l o xs H) (hN : H N = .unused) (hNf : N.fresh = true → l.fresh = true ∧ ∀ L, o = some L → L.fresh = true)
    (hk : ∀ L' H'', (L' = N ∨ o = some L') → LstAt sz l (some L') ys H'' → (∀ q, q ≠ l → q ≠ N → o ≠ some q → H'' q = H q) → (∀ q, H q ≠ .unused → H'' q ≠ .unused) → k res H'') : clK S f args H k u := by
  obtain ⟨h1, h2, h3⟩ := h
  have hob : o.isSome = false → xs = [] := by
    intro ho
    cases o with
    | none => exact hl.2
    | some L => simp at ho
  have hspec := (h3 o.isSome hob).keepH fun H1 q => q = .par 0 ∨ ∃ n, H1 (.par 0) = .live ⟨1, [[.sl q sz 0 n]]⟩
  let L0 : Lb := o.getD N
  let ρ : Lb → Lb := fun q => if q = .par 0 then l else if q = .par 1 then L0 else q
  have hρ0 : ρ (.par 0) = l := by simp [ρ]
  have hρ1 : ρ (.par 1) = L0 := by simp [ρ]
  have hHl : H l ≠ .unused := by cases o with
    | none => rw [hl.1]; simp
    | some L => rw [hl.2.1]; simp
  have hNl : N ≠ l := by rintro rfl; exact hHl hN
  have hL0l : L0 ≠ l := by cases o with
    | none => exact hNl
    | some L => exact hl.1
  refine .inr ⟨⟨ρ, lstIn sz xs o.isSome, cargs, _, hspec, ?_, ?_, ?_, ?_, ?_, ?_, ?_, ?_⟩⟩
  · rw [ha]
    exact rens_congr _ fun q hq => by rw [h1 q hq]; simp [atL, ρ]
  · intro q r hq
    rcases lstIn_live hq with ⟨rfl, rfl⟩ | ⟨hb, rfl, rfl⟩
    · rw [hρ0]
      cases o with
      | none => rw [hl.1]; simp [renR, rens, ren]
      | some L => rw [hl.2.1]; simp [renR, rens, ren, ρ, L0]
    · rw [hρ1, renR_immE]
      cases o with
      | none => simp at hb
      | some L => exact hl.2.2
  · intro q hq
    cases hb : o.isSome with
    | false =>
      rw [hb] at hq
      simp only [lstIn] at hq
      by_cases e : q = .par 0
      · subst e; exact ⟨_, by simp [lstIn]; rfl⟩
      · rw [upd_ne _ _ e] at hq; simp [Hp.none] at hq
    | true =>
      rw [hb] at hq
      simp only [lstIn] at hq
      by_cases e : q = .par 0
      · subst e; exact ⟨_, by simp [lstIn]; rfl⟩
      · rw [upd_ne _ _ e] at hq
        by_cases e1 : q = .par 1
        · subst e1; exact ⟨_, by simp [lstIn, upd]; rfl⟩
        · rw [upd_ne _ _ e1] at hq; simp [Hp.none] at hq
  · rintro q q' ⟨r, hq⟩ ⟨r', hq'⟩ he
    rcases lstIn_live hq with ⟨rfl, _⟩ | ⟨_, rfl, _⟩ <;> rcases lstIn_live hq' with ⟨rfl, _⟩ | ⟨_, rfl, _⟩
    · rfl
    · rw [hρ0, hρ1] at he; exact absurd he.symm hL0l
    · rw [hρ0, hρ1] at he; exact absurd he hL0l
    · rfl
  · intro q hq
    rw [h1 q hq]
    cases o.isSome <;> simp [lstIn]
  · rintro q ⟨r, hq⟩
    rcases lstIn_live hq with ⟨rfl, _⟩ | ⟨_, rfl, _⟩ <;> rfl
  · intro q r hq cs hcs z hz
    rcases lstIn_live hq with ⟨rfl, rfl⟩ | ⟨hb, rfl, rfl⟩
    · simp only [List.mem_singleton] at hcs
      subst hcs
      cases hb : o.isSome with
      | false => rw [hb] at hz; simp [lbss, AV.lbs] at hz
      | true => rw [hb] at hz; simp [lbss, AV.lbs] at hz; subst hz; simp [lstIn, upd]
    · rw [lbss_immE hcs] at hz; simp at hz
  · rintro x H' ⟨H1, ⟨rfl, L, hLa⟩, rfl⟩
    obtain ⟨hL0, hp, hLr⟩ := hLa
    let L1 : Lb := if L = .par 1 ∧ o.isSome = true then L0 else N
    have hL1 : L1 = N ∨ o = some L1 := by
      by_cases e : L = .par 1 ∧ o.isSome = true
      · right
        simp only [L1, if_pos e, L0]
        cases o with
        | none => simp at e
        | some Lo => rfl
      · left; simp only [L1, if_neg e]
    have hL1l : L1 ≠ l := by
      rcases hL1 with e | e
      · rw [e]; exact hNl
      · intro e2
        rw [e2] at e
        cases o with
        | none => simp at e
        | some Lo => simp only [Option.some.injEq] at e; exact hl.1 e
    let ρ' : Lb → Lb := fun q => if q = .par 0 then l else if q = L then L1 else q
    have hρ0' : ρ' (.par 0) = l := by simp [ρ']
    have hρL' : ρ' L = L1 := by simp [ρ', hL0]
    let Hk : Hp := match o with
      | some Lo => upd H Lo .dead
      | none => H
    have hHk : ∀ q, o ≠ some q → Hk q = H q := by
      intro q hq
      cases o with
      | none => rfl
      | some Lo => exact upd_ne _ _ (fun e => hq (by rw [e]))
    have hHkd : ∀ q, o = some q → Hk q = .dead := by
      intro q hq
      subst hq
      simp [Hk]
    have hlive : ∀ q r, killE (fun q => q = .par 0 ∨ ∃ n, H1 (.par 0) = .live ⟨1, [[.sl q sz 0 n]]⟩) H1 q = .live r → (q = .par 0 ∧ r = ⟨1, [[.sl L sz 0 ys.length]]⟩) ∨ (q = L ∧ r = ⟨sz, immE ys⟩) := by
      intro q r hq
      obtain ⟨g1, g2⟩ := killE_live.1 hq
      rcases g2 with rfl | ⟨n, g2⟩
      · rw [hp] at g1; cases g1; exact .inl ⟨rfl, rfl⟩
      · rw [hp] at g2
        simp only [Slot.live.injEq, Row.mk.injEq, List.cons.injEq, and_true, true_and, AV.sl.injEq] at g2
        obtain ⟨rfl, _⟩ := g2
        rw [hLr] at g1; cases g1; exact .inr ⟨rfl, rfl⟩
    have hlive0 : killE (fun q => q = .par 0 ∨ ∃ n, H1 (.par 0) = .live ⟨1, [[.sl q sz 0 n]]⟩) H1 (.par 0) = .live ⟨1, [[.sl L sz 0 ys.length]]⟩ := killE_live.2 ⟨hp, .inl rfl⟩
    have hliveL : killE (fun q => q = .par 0 ∨ ∃ n, H1 (.par 0) = .live ⟨1, [[.sl q sz 0 n]]⟩) H1 L = .live ⟨sz, immE ys⟩ := killE_live.2 ⟨hLr, .inr ⟨_, hp⟩⟩
    let H'' : Hp := upd (upd Hk l (.live ⟨1, [[.sl L1 sz 0 ys.length]]⟩)) L1 (.live ⟨sz, immE ys⟩)
    have hH1 : H'' L1 = .live ⟨sz, immE ys⟩ := by simp [H'']
    have hHl' : H'' l = .live ⟨1, [[.sl L1 sz 0 ys.length]]⟩ := by
      show upd _ L1 _ l = _
      rw [upd_ne _ _ (Ne.symm hL1l)]; simp
    have hHo : ∀ q, q ≠ L1 → q ≠ l → H'' q = Hk q := by
      intro q e1 e2
      show upd _ L1 _ q = _
      rw [upd_ne _ _ e1, upd_ne _ _ e2]
    have hused : ∀ q, H q ≠ .unused → H'' q ≠ .unused := by
      intro q hq
      by_cases e1 : q = L1
      · rw [e1, hH1]; simp
      · by_cases e2 : q = l
        · rw [e2, hHl']; simp
        · rw [hHo q e1 e2]
          by_cases e3 : o = some q
          · rw [hHkd q e3]; simp
          · rw [hHk q e3]; exact hq
    refine ⟨ρ', H'', ?_, ?_, ?_, hused, ?_, ?_, ?_, ?_, ?_⟩
    · rintro q ⟨r, hq⟩ ⟨r', hq'⟩
      rcases lstIn_live hq with ⟨rfl, _⟩ | ⟨hb, rfl, _⟩
      · rw [hρ0, hρ0']
      · rcases hlive _ _ hq' with ⟨e, _⟩ | ⟨e, _⟩
        · cases e
        · rw [hρ1, e, hρL']
          simp only [L1, if_pos (⟨e.symm, hb⟩ : L = .par 1 ∧ o.isSome = true)]
    · intro q r hq
      by_cases e1 : q = L1
      · subst e1
        rw [hH1] at hq
        simp only [Slot.live.injEq] at hq
        exact .inr ⟨L, _, hliveL, hρL', by rw [renR_immE]; exact hq.symm⟩
      · by_cases e2 : q = l
        · subst e2
          rw [hHl'] at hq
          simp only [Slot.live.injEq] at hq
          refine .inr ⟨.par 0, _, hlive0, hρ0', ?_⟩
          rw [← hq]
          simp [renR, rens, ren, hρL']
        · rw [hHo q e1 e2] at hq
          by_cases e3 : o = some q
          · rw [hHkd q e3] at hq; cases hq
          · rw [hHk q e3] at hq
            refine .inl ⟨hq, ?_⟩
            rintro z ⟨r', hz⟩ hzq
            rcases lstIn_live hz with ⟨rfl, _⟩ | ⟨hb, rfl, _⟩
            · rw [hρ0] at hzq; exact e2 hzq.symm
            · rw [hρ1] at hzq
              apply e3
              cases o with
              | none => simp at hb
              | some Lo => simp only [L0, Option.getD_some] at hzq; rw [hzq]
    · rintro q q' ⟨r, hq⟩ ⟨r', hq'⟩ he
      rcases hlive _ _ hq with ⟨rfl, _⟩ | ⟨rfl, _⟩ <;> rcases hlive _ _ hq' with ⟨rfl, _⟩ | ⟨rfl, _⟩
      · rfl
      · rw [hρ0', hρL'] at he; exact absurd he.symm hL1l
      · rw [hρ0', hρL'] at he; exact absurd he hL1l
      · rfl
    · intro q hq; rw [h2] at hq; simp at hq
    · intro q r hq cs hcs z hz
      rcases hlive _ _ hq with ⟨rfl, rfl⟩ | ⟨rfl, rfl⟩
      · simp only [List.mem_singleton] at hcs
        subst hcs
        simp only [lbss, AV.lbs, List.append_nil, List.mem_singleton] at hz
        subst hz
        rw [hρL', hH1]; simp
      · rw [lbss_immE hcs] at hz; simp at hz
    · rintro q ⟨r, hq⟩
      rcases hlive _ _ hq with ⟨rfl, _⟩ | ⟨rfl, _⟩
      · left
        cases o.isSome <;> exact ⟨_, by simp [lstIn]; rfl⟩
      · by_cases e : q = .par 1 ∧ o.isSome = true
        · left
          rw [e.1, e.2]
          exact ⟨_, by simp [lstIn, upd]; rfl⟩
        · right
          rw [hρL']
          simp only [L1, if_neg e]
          refine ⟨hN, fun hf => .inr ?_⟩
          obtain ⟨g1, g2⟩ := hNf hf
          rintro z ⟨r', hz⟩
          rcases lstIn_live hz with ⟨rfl, _⟩ | ⟨hb, rfl, _⟩
          · rw [hρ0]; exact g1
          · rw [hρ1]
            cases o with
            | none => simp at hb
            | some Lo => exact g2 Lo rfl
    · rintro q (hq | ⟨l1, r1, cs, g1, g2, g3⟩) _
      · rw [h2] at hq; simp at hq
      · rcases hlive _ _ g1 with ⟨rfl, rfl⟩ | ⟨rfl, rfl⟩
        · simp only [List.mem_singleton] at g2
          subst g2
          simp only [lbss, AV.lbs, List.append_nil, List.mem_singleton] at g3
          subst g3
          exact ⟨_, hliveL⟩
        · rw [lbss_immE g2] at g3; simp at g3
    · rw [ren_nolb _ _ h2]
      refine hk L1 H'' hL1 ⟨hL1l, hHl', hH1⟩ ?_ hused
      intro q e1 e2 e3
      have : q ≠ L1 := by
        rintro rfl
        rcases hL1 with e | e
        · exact e2 e
        · exact e3 e
      rw [hHo q this e1, hHk q e3]

end Go.Am
