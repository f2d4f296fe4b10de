/- THE ABSTRACT MACHINE, part 26: how a law's contract closes its row. -/
import Derived.Test.YtfinkeaikbmpgaaAm25
import Derived.WalkKit
import Derived.ProofKit
import Derived.OpenShut
import Derived.Carry
import Derived.JoinedCond
set_option linter.defProp false
set_option linter.unnecessarySimpa false
set_option linter.unusedVariables false
set_option linter.unusedSimpArgs false
namespace Go.Am
open Go Go.RowKit Go.ChangeShapes

def noG : Nat → Option (List IV) := fun _ => none
def noβ : Lb → Option Nat := fun _ => none

theorem rel_none (P : Program) (W : World) : RelB (callK P noG W (fun _ => True) noβ Hp.none) noβ Env.any Hp.none noAct W :=
  { defers := rfl, size := rfl
    regs := fun n => by simp [Env.any, RV]
    rows := fun l r h => by simp [Hp.none] at h
    own := fun l g ⟨r, h⟩ => by simp [Hp.none] at h
    inj := fun l l' g ⟨r, h⟩ => by simp [Hp.none] at h
    ment := fun n => by simp [Env.any, AV.lbs]
    rment := fun l r h => by simp [Hp.none] at h
    frame := ⟨rfl, rfl, rfl, Nat.le_refl _, fun _ _ _ => rfl, fun _ _ h => h⟩
    stab := fun l ⟨r, h⟩ => by simp [callK, Hp.none] at h
    fr := fun l g ⟨r, h⟩ => by simp [Hp.none] at h
    glob := fun g cs hg => by simp [callK, noG] at hg }

/-- A contract, run. -/
theorem run_pure {P : Program} {f : Nat} {args : List AV} {res : AV} {vs : List Value} {W : World} (hp : PureC P noG f args res) (hv : RVs W noβ Hp.none (fun _ => True) args vs) :
    Calls P f vs.toArray W fun e W' => ∃ v, e = .returned v ∧ Below W.heap.size W W' ∧ RV W' noβ Hp.none (fun _ => True) res v := by
  have hI : ∀ k, Im (callK P noG W (fun _ => True) noβ Hp.none) noβ Hp.none k := fun k => ⟨.inl trivial, fun l ⟨r, h⟩ => by simp [Hp.none] at h⟩
  refine (call_pure (rel_none P W) hp (RVs.mono _ _ ?_ hv) trivial).mono ?_
  · exact { im := fun k _ hs => ⟨hI k, hs, rfl⟩, lb := fun l _ ⟨r, h⟩ => by simp [Hp.none] at h }
  · rintro e W' ⟨v, rfl, h1, h2⟩
    refine ⟨v, rfl, h1, RV.mono _ _ ?_ h2⟩
    exact { im := fun k _ hs => ⟨trivial, hs, rfl⟩, lb := fun l _ ⟨r, h⟩ => by simp [Hp.none] at h }

section
variable {H : Type} {enc : TypeId × Value → H} {P : Program}

def rowedT (P : Program) (t : TypeId) : Bool := P.readableRec t && decide (t < P.types.size)

theorem trodAll_stays (hl : laidOutB P = true) {W W' : World} (hb : Below W.heap.size W W') {sp : Nat → Bool} : ∀ {ts : List TypeId} {vs : List Value} {ds : List (DataW H)} {ps : List MemPlace}, ts.all (rowedT P) = true →
    DataW.TrodAll enc P W 0 (fun _ => true) true ts vs ds ps → (∀ x ∈ ps, x.block < W.heap.size) → (∀ x ∈ ps, sp x.block = true) → DataW.TrodAll enc P W' 0 sp true ts vs ds ps
  | [], _, _, _, _, h, _, _ => by
    obtain ⟨rfl, rfl, rfl⟩ := trodAll_nil h
    rfl
  | t :: ts, _, _, _, hr, h, hlt, hs => by
    obtain ⟨v, vs1, d, ds1, a, b, rfl, rfl, rfl, h1, h2⟩ := trodAll_cons h
    simp only [List.all_cons, Bool.and_eq_true, rowedT, decide_eq_true_eq] at hr
    refine ⟨a, b, WideElems.Trod_stays hl hr.1.1 hr.1.2 h1 (fun x hx => hb.same (hlt x (by simp [hx]))) (fun x hx => hs x (by simp [hx])), ?_, rfl⟩
    exact trodAll_stays hl hb hr.2 h2 (fun x hx => hlt x (by simp [hx])) (fun x hx => hs x (by simp [hx]))

/-- A law that returns true, and leaves all as it was. -/
theorem post_law {f : Func} {s : ChangeSpec} {apart fresh handsOn again : Bool} {W W' : World} {args : Array Value} {ds gs : List (DataW H)} {before : List MemPlace} {tb : TypeId} (hl : laidOutB P = true)
    (hr : f.params.toList.all (rowedT P) = true) (hres : f.resultTypes = #[tb]) (hub : P.underlying tb = some .bool) (hvars : s.vars = []) (hfn : s.fn H ds = { results := [.lit (.bool true)], args := ds })
    (hW : DataW.Whole enc P f.params.toList s.vars apart W args.toList ds gs before) (hb : Below W.heap.size W W') :
    s.post enc P f apart fresh handsOn again W args (.bool true) W' := by
  have hW' := hW
  have hlt := hW.lt
  obtain ⟨p, q, hA, hV, rfl, hz, hn⟩ := hW
  rw [hvars] at hV
  obtain ⟨rfl, rfl⟩ := trodVars_none hV
  simp only [List.append_nil] at hW' hlt hz hn
  have hfn' : s.fn H (ds ++ []) = { results := [.lit (.bool true)], args := ds } := by rw [List.append_nil]; exact hfn
  have hargs : ∀ sp : Nat → Bool, (∀ x ∈ p, sp x.block = true) → DataW.TrodAll enc P W' 0 sp true f.params.toList args.toList ds p := fun sp hs => trodAll_stays hl hb hr hA hlt hs
  have hr1 : ∀ (b : Nat) (sp : Nat → Bool) (hd : Bool), DataW.TrodAll enc P W' b sp hd f.resultTypes.toList ((Value.bool true).resultList f.resultTypes.size) [.lit (.bool true)] [] := by
    intro b sp hd
    rw [hres]
    exact trodAll_cons_mk (shut_bool hub _) trodAll_mk0
  have hv0 : ∀ sp : Nat → Bool, DataW.TrodVars enc P W' sp s.vars (s.fn H (ds ++ [])).vars [] := by
    intro sp; rw [hvars, hfn']; rfl
  refine ⟨ds, [], p, [], p, [], hW', by rw [hfn']; exact hr1 _ _ _, by rw [hfn']; exact hargs _ (fun x hx => by simpa using hlt x hx), hv0 _, hb.frame _, fun _ => ?_⟩
  have hv1 : DataW.TrodVars enc P W' (fun _ => true) s.vars [] [] := by rw [hvars]; rfl
  refine ⟨ok_one hres rfl (okWide_bool_mk hub _), _, _, ([] ++ p) ++ [], ⟨[] ++ p, [], trodAll_append (hargs _ (fun _ _ => rfl)) (hr1 _ _ _), hv1, by simp, ?_, ?_⟩, ?_⟩
  · intro b off hp
    have hp' : MemPlace.cell b off ∈ p := by simpa using hp
    rw [hb.frozen (p := ⟨b, off, none⟩) (hlt _ hp')]
    exact hz b off hp'
  · intro ha
    simpa using hn ha
  · intro x hx _
    simpa using hx
end
end Go.Am
