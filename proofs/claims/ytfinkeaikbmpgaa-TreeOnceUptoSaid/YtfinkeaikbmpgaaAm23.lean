/- THE ABSTRACT MACHINE, part 23: states seen as others. -/
import Derived.Test.YtfinkeaikbmpgaaAm22
import Derived.IntWalk
set_option linter.defProp false
set_option linter.unnecessarySimpa false
set_option linter.unusedVariables false
set_option linter.unusedSimpArgs false
namespace Go.Am
open Go Go.RowKit

theorem we_any (ρ : Lb → Lb) (env : Env) : ∀ n, Env.any n = .any ∨ env n = ren ρ (Env.any n) := fun _ => .inl rfl
theorem we_put {ρ : Lb → Lb} {env e : Env} {d : Nat} {x : AV} (h1 : env d = ren ρ x) (h2 : ∀ n, e n = .any ∨ env n = ren ρ (e n)) : ∀ n, put e d x n = .any ∨ env n = ren ρ (put e d x n) := by
  intro n
  unfold put
  split
  · next h => subst h; exact .inr h1
  · exact h2 n
theorem wm_any (H : Hp) : ∀ n, ∀ l ∈ (Env.any n).lbs, H l ≠ .unused := by simp [Env.any, AV.lbs]
theorem wm_put {H : Hp} {e : Env} {d : Nat} {x : AV} (h1 : ∀ l ∈ x.lbs, H l ≠ .unused) (h2 : ∀ n, ∀ l ∈ (e n).lbs, H l ≠ .unused) : ∀ n, ∀ l ∈ (put e d x n).lbs, H l ≠ .unused := by
  intro n
  unfold put
  split
  · exact h1
  · exact h2 n

mutual
theorem ren_id : ∀ x : AV, ren id x = x
  | .sl .. | .ptr .. | .any | .un | .bool _ | .int .. | .str _ | .list _ | .nil0 | .nilp | .nilif | .lptr _ => by simp [ren]
  | .agg cs => by simp [ren, rens_id cs]
  | .tup cs => by simp [ren, rens_id cs]
  | .fn f fs cs => by simp [ren, rens_id fs, rens_id cs]
  | .ifc t x => by simp [ren, ren_id x]
theorem rens_id : ∀ xs : List AV, rens id xs = xs
  | [] => by simp [rens]
  | x :: r => by simp [rens, ren_id x, rens_id r]
end

theorem renR_id (r : Row) : renR id r = r := by
  obtain ⟨sz, els⟩ := r
  simp only [renR, Row.mk.injEq, true_and]
  rw [show rens id = id from funext rens_id]
  simp

/-- The same rows; less is known of the slots. -/
theorem Wk.same {env : Env} {H : Hp} {env2 : Env} (e : ∀ n, env2 n = .any ∨ env n = ren id (env2 n)) (m : ∀ n, ∀ l ∈ (env2 n).lbs, H l ≠ .unused)
    (rm : ∀ l r, H l = .live r → ∀ cs ∈ r.els, ∀ q ∈ lbss cs, H q ≠ .unused) : Wk id env H env2 H :=
  ⟨e, fun l r h => by rw [renR_id]; exact h, fun _ _ _ _ h => h, m, rm, fun l _ => ⟨id, fun _ => rfl⟩, fun _ _ h => h⟩

theorem Wk.none {env env2 : Env} (e : ∀ n, env2 n = .any ∨ env n = ren id (env2 n)) (m : ∀ n, ∀ l ∈ (env2 n).lbs, Hp.none l ≠ .unused) : Wk id env Hp.none env2 Hp.none :=
  .same e m (by simp [Hp.none])

theorem wrap64 {n : Int} (h1 : -9223372036854775808 ≤ n) (h2 : n ≤ 9223372036854775807) : IntKind.i64.wrap n = n := by rw [IntKind.wrap_i64]; omega

section
variable {σ : Type} {S : St} {Q : Post} {k : List It} {E : σ → Env} {HH : σ → Hp} {μ : σ → Nat} {n : Nat} {env : Env} {H : Hp}
theorem lq_n : LoopQ S Q k E HH μ n .normal env H = ∃ s, μ s < n ∧ ∃ ρ, Wk ρ env H (E s) (HH s) := rfl
theorem lq_x (id : Nat) : LoopQ S Q k E HH μ n (.exit id) env H = match popTo id k with
    | some k' => go S Q k' env H
    | none => Q (.exit id) env H := rfl
theorem lq_r : LoopQ S Q k E HH μ n .ret env H = Q .ret env H := rfl
theorem pop_nil (id : Nat) : popTo id [] = none := rfl
theorem pop_blk (id i : Nat) (r : List It) : popTo id (.blk i :: r) = if i = id then some r else popTo id r := rfl
theorem pop_code (id : Nat) (c : AC) (r : List It) : popTo id (.code c :: r) = popTo id r := rfl
theorem go_dregE (is : List LIns) (es : List (List Nat)) (fs : List Fp) : go S Q (.code (.dreg is es fs) :: k) env H = (ordOK is es fs = true ∧ AOf S (items 0 is fs) env H (go S Q k)) := by rw [go]
theorem go_frzc (l q : Lb) (j : Nat) (c : AC) : go S Q (.code (.gh (.frzc l q j) c) :: k) env H = ∃ sz xs i n cs, H q = .live ⟨cs.length, [cs]⟩ ∧ cs[j]? = some (.sl l sz i n) ∧ H l = .live ⟨sz, immE xs⟩ ∧ l.fresh = true ∧ l ≠ q ∧ i + n ≤ xs.length ∧ Flat xs ∧
        go S Q (.code c :: k) env (upd (upd H l .dead) q (.live ⟨cs.length, [cs.set j (.list ((xs.drop i).take n))]⟩)) := by rw [go]
theorem ret_r (rs : List RO) (R : AV → Hp → Prop) : RetP rs R .ret env H = ∃ xs, resVs env H rs = some xs ∧ R (oneV xs) H := by simp [RetP]
theorem ret_n (rs : List RO) (R : AV → Hp → Prop) : RetP rs R .normal env H = ∃ xs, resVs env H rs = some xs ∧ R (oneV xs) H := by simp [RetP]
theorem ret1_r (t : Nat) (R : AV → Hp → Prop) : RetP [(none, t)] R .ret env H = R (env t) H := by simp [RetP, resVs, resV, oneV]
theorem ret1m_r (m : Option Nat) (t : Nat) (R : AV → Hp → Prop) : RetP [(some m, t)] R .ret env H = stK (loadV m (env t) H) (fun x => R x H) .mk := by
  simp only [RetP, resVs, resV, stK]
  cases loadV m (env t) H <;> simp [oneV]
theorem ret1m_n (m : Option Nat) (t : Nat) (R : AV → Hp → Prop) : RetP [(some m, t)] R .normal env H = stK (loadV m (env t) H) (fun x => R x H) .mk := by
  simp only [RetP, resVs, resV, stK]
  cases loadV m (env t) H <;> simp [oneV]
theorem ret1_n (t : Nat) (R : AV → Hp → Prop) : RetP [(none, t)] R .normal env H = R (env t) H := by simp [RetP, resVs, resV, oneV]
end

/-- The value of an element of a slice that is data. -/
theorem ixa_list {env : Env} {x i : O} {sz : Nat} {xs : List IV} {k : IntKind} {n : Nat} {y : IV} (hx : ev env x = .list xs) (hi : ev env i = .int k n) (hy : xs[n]? = some y) (he : Elsz sz xs) : stillV (.ixa x i sz) env = some (.lptr y.cells) := by
  simp [stillV, hx, hi, hy, he]

section
variable {S : St} {env : Env} {H : Hp}
theorem aoi_nil (j : Nat) (f : List Fp) (k : Env → Hp → Prop) : AOf S (items j [] f) env H k = k env H := rfl
theorem aoi_some (j n : Nat) (i : Ins) (f : Fp) (r : List LIns) (fs : List Fp) (k : Env → Hp → Prop) :
    AOf S (items j (⟨some n, none, i⟩ :: r) (f :: fs)) env H k = (n < S.N ∧ Act1f S f (some n) i env H fun x H' => AOf S (items (j + 1) r fs) (put env n x) H' k) := by rw [items_cons, aof_some]
theorem aoi_none (j : Nat) (i : Ins) (f : Fp) (r : List LIns) (fs : List Fp) (k : Env → Hp → Prop) :
    AOf S (items j (⟨none, none, i⟩ :: r) (f :: fs)) env H k = Act1f S f none i env H fun x H' => AOf S (items (j + 1) r fs) env H' k := by rw [items_cons, aof_none]
theorem aoi_guard (j n s : Nat) (t : Bool) (i : Ins) (f : Fp) (r : List LIns) (fs : List Fp) (k : Env → Hp → Prop) :
    AOf S (items j (⟨some n, some (s, t), i⟩ :: r) (f :: fs)) env H k = (n < S.N ∧ gB (env s) t (Act1f S f (some n) i env H fun x H' => AOf S (items (j + 1) r fs) (put env n x) H' k) (AOf S (items (j + 1) r fs) (put env n .un) H k) .mk) := by rw [items_cons, aof_guard]
end

/-- The equations by which code is walked. -/
def evs := And.intro @go_nil (And.intro @go_blk (And.intro @go_skip (And.intro @go_seq (And.intro @go_block (And.intro @go_loop (And.intro @go_ret (And.intro @go_reg (And.intro @go_keep (And.intro @go_own (And.intro @go_frz (And.intro @go_frzc (And.intro @go_dregE (And.intro @go_cond (And.intro @go_exit (And.intro @ao_nil (And.intro @ao_some (And.intro @ao_none (And.intro @ao_guard (And.intro @ao_guard0 (And.intro @aoi_nil (And.intro @aoi_some (And.intro @aoi_none (And.intro @aoi_guard (And.intro @a1_ld (And.intro @a1_new (And.intro @a1_box (And.intro @a1_store (And.intro @a1_app (And.intro @a1_call (And.intro @af_call (And.intro @ret1_r (And.intro @ret1_n (And.intro @ret1m_r (And.intro @ret1m_n (And.intro @lq_n (And.intro @lq_x (@lq_r)))))))))))))))))))))))))))))))))))))

/-- The equations by which what the walk meets is reckoned. -/
def evp := And.intro @stK_some (And.intro @hK_some (And.intro @pK_some (And.intro @gB_t (And.intro @gB_f (And.intro @gB_t' (And.intro @gB_f' (And.intro @gB_u (And.intro @cK_t (And.intro @cK_f (And.intro @put_at (And.intro @pop_nil (And.intro @pop_blk (@pop_code)))))))))))))

end Go.Am
