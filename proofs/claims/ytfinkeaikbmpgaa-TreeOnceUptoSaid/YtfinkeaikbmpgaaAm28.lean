/- THE ABSTRACT MACHINE, part 28: the walk's equations, in few words. -/
import Derived.Test.YtfinkeaikbmpgaaAm27
set_option linter.defProp false
set_option linter.unnecessarySimpa false
set_option linter.unusedVariables false
set_option linter.unusedSimpArgs false
namespace Go.Am
open Go Go.RowKit

theorem cK_not (b : Bool) (A B : Prop) (u : Tp A B) : cK (.bool (!b)) A B u = cK (.bool b) B A .mk := by cases b <;> simp [cK]
theorem gB_not (b t : Bool) (A B : Prop) (u : Tp A B) : gB (.bool (!b)) t A B u = gB (.bool b) (!t) A B .mk := by cases b <;> cases t <;> simp [gB]
theorem argE_at (args : List AV) (n : Nat) : argE args n = args.getD n .un := rfl
theorem none_at (l : Lb) : Hp.none l = .unused := rfl
theorem any_at (n : Nat) : Env.any n = .any := rfl
theorem WD_at {σ : Type} (ps : σ → List (Nat × AV)) (env : Env) (H : Hp) (s : σ) : WD ps env H s = (NF H ∧ EqI env (ps s)) := rfl
theorem int_inj (k : IntKind) (m n : Int) : (AV.int k m = AV.int k n) = (m = n) := by simp
theorem cells_agg (cs : List IV) : (IV.agg cs).cells = cs := rfl
theorem xor_f (b : Bool) : (false ^^ b) = b := by cases b <;> rfl
theorem xor_t (b : Bool) : (true ^^ b) = !b := by cases b <;> rfl

def evq := And.intro @List.getD_cons_zero.{0} (And.intro @List.getD_cons_succ.{0} (And.intro @List.length_map.{0,0} (And.intro @List.length_cons.{0} (And.intro @List.length_nil.{0} (And.intro @upd_at (And.intro @List.getElem?_cons_zero.{0} (And.intro @List.getElem?_cons_succ.{0} (And.intro @Option.bind_some.{0,0} (And.intro @Option.map_some.{0,0} (And.intro @List.map_cons.{0,0} (And.intro @List.map_nil.{0,0} (And.intro @Int.natCast_nonneg (And.intro @Int.toNat_natCast (And.intro @List.all_cons.{0} (And.intro @List.all_nil.{0} (And.intro @List.take_succ_cons.{0} (And.intro @List.take_zero.{0} (And.intro @List.drop_succ_cons.{0} (And.intro @List.drop_zero.{0} (And.intro @List.cons_append.{0} (And.intro @List.nil_append.{0} (And.intro @List.append_nil.{0} (And.intro @List.set_cons_zero.{0} (And.intro @List.set_cons_succ.{0} (And.intro @List.take_nil.{0} (And.intro @List.drop_nil.{0} (And.intro @List.replicate_one.{0} (And.intro @List.flatten_cons.{0} (And.intro @List.flatten_nil.{0} (And.intro @argE_at (And.intro @none_at (And.intro @any_at (And.intro @ev_t (And.intro @ev_c (And.intro @lx_n (And.intro @lx_x (And.intro @lx_r (And.intro @ofL_nil (And.intro @ofL_cons (And.intro @EqI_nil (And.intro @EqI_cons (And.intro @NF_none (And.intro @NF_upd (And.intro @cK_not (And.intro @gB_not (And.intro @WD_at (And.intro @cells_agg (And.intro @xor_f @xor_t))))))))))))))))))))))))))))))))))))))))))))))))

def evl := And.intro @Nat.zero_mul (And.intro @Nat.zero_add (And.intro @Nat.mul_one (And.intro @Nat.le_refl (And.intro @le_one (And.intro @Bool.and_self (And.intro @Bool.and_true (And.intro @Bool.true_and (And.intro @Bool.not_true (And.intro @Bool.not_false (And.intro @Bool.not_not (And.intro @true_and (And.intro @and_true (And.intro @or_false (And.intro @implies_true.{1} (And.intro @false_implies (@List.mem_cons.{0}))))))))))))))))
end Go.Am
