/- THE ABSTRACT MACHINE, part 32: loops whose rows stay where they are. -/
import Derived.Test.YtfinkeaikbmpgaaAm31
set_option linter.defProp false
set_option linter.unnecessarySimpa false
set_option linter.unusedVariables false
set_option linter.unusedSimpArgs false
namespace Go.Am
open Go Go.RowKit

def RwI (H : Hp) : List (Lb × Row) → Prop
  | [] => True
  | (l, r) :: t => H l = .live r ∧ RwI H t

theorem RwI.rw {H : Hp} : ∀ {rs : List (Lb × Row)}, RwI H rs → RwL (rnF []) H rs
  | [], _ => trivial
  | (l, r) :: t, h => ⟨by show H l = .live (renR id r); rw [renR_id]; exact h.1, RwI.rw h.2⟩

/-- The rows 'rs' are there, by their names; what else there is was made here. -/
def WS {σ : Type} (ls : List Lb) (ps : σ → List (Nat × AV)) (rs : σ → List (Lb × Row)) (env : Env) (H : Hp) (s : σ) : Prop := NFx H ls ∧ EqI env (ps s) ∧ RwI H (rs s)

theorem loop_same {σ : Type} {S : St} {Q : Post} {c : AC} {k : List It} {env : Env} {H : Hp} (ls : List Lb) (ps : σ → List (Nat × AV)) (rs : σ → List (Lb × Row)) (μ : σ → Nat) (s0 : σ)
    (hls : ∀ s, (rs s).map Prod.fst = ls) (hnd : ls.Nodup) (hp : ∀ s, ∀ l ∈ lbss ((ps s).map Prod.snd), l ∈ ls) (hr : ∀ s, ∀ q ∈ rs s, ∀ cs ∈ q.2.els, ∀ l ∈ lbss cs, l ∈ ls) (h0 : WS ls ps rs env H s0)
    (round : ∀ s, go S (LoopX S Q k (WS ls ps rs) μ (μ s)) [.code c] (ofL (ps s)) (ofH (rs s))) : LoopG S Q c k env H := by
  refine loop_gen (fun s => ofL (ps s)) (fun s => ofH (rs s)) (WS ls ps rs) ?_ μ s0 h0 round
  rintro env H s ⟨h1, h2, h3⟩
  refine ⟨rnF [], WRs.wk (m := []) ⟨h1, h2.eql, RwI.rw h3, ?_, fun l _ => ⟨id, fun _ => rfl⟩⟩ (hls s) (hp s) (hr s)⟩
  have : rnF [] = id := rfl
  rw [this, List.map_id]; exact hnd

theorem WS_mk {σ : Type} {ls : List Lb} {ps : σ → List (Nat × AV)} {rs : σ → List (Lb × Row)} {env : Env} {H : Hp} {s : σ} (h1 : NFx H ls) (h2 : EqI env (ps s)) (h3 : RwI H (rs s)) : WS ls ps rs env H s := ⟨h1, h2, h3⟩
theorem ofH_nil : ofH [] = Hp.none := rfl
theorem ofH_cons (l : Lb) (r : Row) (t : List (Lb × Row)) : ofH ((l, r) :: t) = upd (ofH t) l (.live r) := rfl
theorem RwI_nil (H : Hp) : RwI H [] = True := rfl
theorem RwI_cons (H : Hp) (l : Lb) (r : Row) (t : List (Lb × Row)) : RwI H ((l, r) :: t) = (H l = .live r ∧ RwI H t) := rfl

end Go.Am
