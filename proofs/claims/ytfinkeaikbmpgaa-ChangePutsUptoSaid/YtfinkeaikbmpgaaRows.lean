/-
  NARROWER THAN 'FOR EVERY INPUT', by the rows' own cells (each row's printed sentence says how): TreeJoins: loops · TreeOnce: loops · DocBack: loops · ChangeOrder: loops · ChangeGood: loops · ChangePuts: loops.
  DERIVED. THE GIVEN ROWS OF THIS SEAT. 10 by the template 'for every input the law returns true; each argument reads behind the call as it read before'; 0 by the template 'total and deterministic' (their statements: YtfinkeaikbmpgaaTotals.lean).
  GIVEN WITH THE SEED: the statements are not yours to turn. If you find one false, say at which input.
  Laid BY PROGRAM, IN A SANDBOX (cutbox-rows.mjs): the forced cells as the released guide's own fill.sh prints them over the translation 6a96ae44fcbef191… (all of the seat's roots in one cut). By AI agents, Wed Nov 11 2026. No macro, syntax, notation, axiom, sorry.
-/
import Derived.Test.YtfinkeaikbmpgaaChecked
import GoSem.Claim
import GoSem.ClaimJoined
import GoSem.ClaimMapViews
import Derived.JoinedTies
import Derived.KernelRfl
namespace Go.Proofs.Ytfinkeaikbmpgaa
/- THE CELL 'sum', in the pinned program and in every row, IS THE sha256 OF THE DUMP (.gsa) THAT YtfinkeaikbmpgaaProg.lean LOADS. Nothing in Lean hashes anything: it is a label: what it is worth is what the hold of that sum in a sandbox is worth. -/
noncomputable def Try.pinned : Pinned := { name := "ytfinkeaikbmpgaa", sum := "6a96ae44fcbef19100b3ef1240fe2e6ab9eb4a5574f88a94de4efea650d58cd4", checked := Try.checked }
namespace Rows
def none {H : Type} : Left H := { results := [], args := [] }

/-- 'topiarylaw.Names': WHATEVER THE INPUT: true; the input reads as it did. -/
def namesSpec : ChangeSpec := { name := "names", fn := fun _ => fun
  | [] => { results := [.lit (.bool true)], args := [] }
  | _ => none }
def namesRow : OpenClaim := { program := "ytfinkeaikbmpgaa", sum := "6a96ae44fcbef19100b3ef1240fe2e6ab9eb4a5574f88a94de4efea650d58cd4", func := "topiary/topiarylaw.Names", spec := "names", apart := false }
def NamesSaid : Prop := namesRow.holds Try.pinned (OpenSpec.ofChange namesSpec)

/-- ITS FALSE NEIGHBOUR: 'it returns false'. Refute it at one input. -/
def namesWrong : ChangeSpec := { name := "names", fn := fun _ => fun
  | [] => { results := [.lit (.bool false)], args := [] }
  | _ => none }
def NamesWrongFalsely : Prop := namesRow.holds Try.pinned (OpenSpec.ofChange namesWrong)

/-- 'topiarylaw.TreeJoins': WHATEVER THE INPUT: true; the input reads as it did. -/
def treeJoinsSpec : ChangeSpec := { name := "treeJoins", fn := fun _ => fun
  | [d] => { results := [.lit (.bool true)], args := [d] }
  | _ => none }
def treeJoinsRow : OpenClaim := { program := "ytfinkeaikbmpgaa", sum := "6a96ae44fcbef19100b3ef1240fe2e6ab9eb4a5574f88a94de4efea650d58cd4", func := "topiary/topiarylaw.TreeJoins", spec := "treeJoins", recurses := true, loops := true, apart := false }
def TreeJoinsSaid : Prop := treeJoinsRow.holds Try.pinned (OpenSpec.ofChange treeJoinsSpec)

/-- ITS FALSE NEIGHBOUR: 'it returns false'. Refute it at one input. -/
def treeJoinsWrong : ChangeSpec := { name := "treeJoins", fn := fun _ => fun
  | [d] => { results := [.lit (.bool false)], args := [d] }
  | _ => none }
def TreeJoinsWrongFalsely : Prop := treeJoinsRow.holds Try.pinned (OpenSpec.ofChange treeJoinsWrong)

/-- 'topiarykeep.TreeOnce': WHATEVER THE INPUT: true; the input reads as it did. -/
def treeOnceSpec : ChangeSpec := { name := "treeOnce", fn := fun _ => fun
  | [d] => { results := [.lit (.bool true)], args := [d] }
  | _ => none }
def treeOnceRow : OpenClaim := { program := "ytfinkeaikbmpgaa", sum := "6a96ae44fcbef19100b3ef1240fe2e6ab9eb4a5574f88a94de4efea650d58cd4", func := "topiary/topiarykeep.TreeOnce", spec := "treeOnce", recurses := true, loops := true, apart := false }
def TreeOnceSaid : Prop := treeOnceRow.holds Try.pinned (OpenSpec.ofChange treeOnceSpec)

/-- ITS FALSE NEIGHBOUR: 'it returns false'. Refute it at one input. -/
def treeOnceWrong : ChangeSpec := { name := "treeOnce", fn := fun _ => fun
  | [d] => { results := [.lit (.bool false)], args := [d] }
  | _ => none }
def TreeOnceWrongFalsely : Prop := treeOnceRow.holds Try.pinned (OpenSpec.ofChange treeOnceWrong)

/-- 'topiarykeep.DocBack': WHATEVER THE INPUT: true; the input reads as it did. -/
def docBackSpec : ChangeSpec := { name := "docBack", fn := fun _ => fun
  | [d] => { results := [.lit (.bool true)], args := [d] }
  | _ => none }
def docBackRow : OpenClaim := { program := "ytfinkeaikbmpgaa", sum := "6a96ae44fcbef19100b3ef1240fe2e6ab9eb4a5574f88a94de4efea650d58cd4", func := "topiary/topiarykeep.DocBack", spec := "docBack", recurses := true, loops := true, apart := false }
def DocBackSaid : Prop := docBackRow.holds Try.pinned (OpenSpec.ofChange docBackSpec)

/-- ITS FALSE NEIGHBOUR: 'it returns false'. Refute it at one input. -/
def docBackWrong : ChangeSpec := { name := "docBack", fn := fun _ => fun
  | [d] => { results := [.lit (.bool false)], args := [d] }
  | _ => none }
def DocBackWrongFalsely : Prop := docBackRow.holds Try.pinned (OpenSpec.ofChange docBackWrong)

/-- 'topiarykeep.DocNests': WHATEVER THE INPUT: true; the input reads as it did. -/
def docNestsSpec : ChangeSpec := { name := "docNests", fn := fun _ => fun
  | [d1, d2, d3] => { results := [.lit (.bool true)], args := [d1, d2, d3] }
  | _ => none }
def docNestsRow : OpenClaim := { program := "ytfinkeaikbmpgaa", sum := "6a96ae44fcbef19100b3ef1240fe2e6ab9eb4a5574f88a94de4efea650d58cd4", func := "topiary/topiarykeep.DocNests", spec := "docNests", recurses := true, apart := false }
def DocNestsSaid : Prop := docNestsRow.holds Try.pinned (OpenSpec.ofChange docNestsSpec)

/-- ITS FALSE NEIGHBOUR: 'it returns false'. Refute it at one input. -/
def docNestsWrong : ChangeSpec := { name := "docNests", fn := fun _ => fun
  | [d1, d2, d3] => { results := [.lit (.bool false)], args := [d1, d2, d3] }
  | _ => none }
def DocNestsWrongFalsely : Prop := docNestsRow.holds Try.pinned (OpenSpec.ofChange docNestsWrong)

/-- 'topiarykeep.ChangeOrder': WHATEVER THE INPUT: true; the input reads as it did. -/
def changeOrderSpec : ChangeSpec := { name := "changeOrder", fn := fun _ => fun
  | [d1, d2, d3] => { results := [.lit (.bool true)], args := [d1, d2, d3] }
  | _ => none }
def changeOrderRow : OpenClaim := { program := "ytfinkeaikbmpgaa", sum := "6a96ae44fcbef19100b3ef1240fe2e6ab9eb4a5574f88a94de4efea650d58cd4", func := "topiary/topiarykeep.ChangeOrder", spec := "changeOrder", inPlace := ["slices.overlaps[int]", "internal/bytealg.abigen_runtime_cmpstring", "slices.overlaps[topiary/api.Attr]"], unfollowed := true, recurses := true, loops := true, apart := false }
def ChangeOrderSaid : Prop := changeOrderRow.holds Try.pinned (OpenSpec.ofChange changeOrderSpec)

/-- ITS FALSE NEIGHBOUR: 'it returns false'. Refute it at one input. -/
def changeOrderWrong : ChangeSpec := { name := "changeOrder", fn := fun _ => fun
  | [d1, d2, d3] => { results := [.lit (.bool false)], args := [d1, d2, d3] }
  | _ => none }
def ChangeOrderWrongFalsely : Prop := changeOrderRow.holds Try.pinned (OpenSpec.ofChange changeOrderWrong)

/-- 'topiarykeep.ChangeGood': WHATEVER THE INPUT: true; the input reads as it did. -/
def changeGoodSpec : ChangeSpec := { name := "changeGood", fn := fun _ => fun
  | [d1, d2] => { results := [.lit (.bool true)], args := [d1, d2] }
  | _ => none }
def changeGoodRow : OpenClaim := { program := "ytfinkeaikbmpgaa", sum := "6a96ae44fcbef19100b3ef1240fe2e6ab9eb4a5574f88a94de4efea650d58cd4", func := "topiary/topiarykeep.ChangeGood", spec := "changeGood", inPlace := ["slices.overlaps[int]", "internal/bytealg.abigen_runtime_cmpstring", "slices.overlaps[topiary/api.Attr]"], unfollowed := true, recurses := true, loops := true, apart := false }
def ChangeGoodSaid : Prop := changeGoodRow.holds Try.pinned (OpenSpec.ofChange changeGoodSpec)

/-- ITS FALSE NEIGHBOUR: 'it returns false'. Refute it at one input. -/
def changeGoodWrong : ChangeSpec := { name := "changeGood", fn := fun _ => fun
  | [d1, d2] => { results := [.lit (.bool false)], args := [d1, d2] }
  | _ => none }
def ChangeGoodWrongFalsely : Prop := changeGoodRow.holds Try.pinned (OpenSpec.ofChange changeGoodWrong)

/-- 'topiarykeep.ChangeBack': WHATEVER THE INPUT: true; the input reads as it did. -/
def changeBackSpec : ChangeSpec := { name := "changeBack", fn := fun _ => fun
  | [d1, d2, d3, d4] => { results := [.lit (.bool true)], args := [d1, d2, d3, d4] }
  | _ => none }
def changeBackRow : OpenClaim := { program := "ytfinkeaikbmpgaa", sum := "6a96ae44fcbef19100b3ef1240fe2e6ab9eb4a5574f88a94de4efea650d58cd4", func := "topiary/topiarykeep.ChangeBack", spec := "changeBack", inPlace := ["slices.overlaps[int]", "internal/bytealg.abigen_runtime_cmpstring", "slices.overlaps[topiary/api.Attr]"], unfollowed := true, recurses := true, apart := false }
def ChangeBackSaid : Prop := changeBackRow.holds Try.pinned (OpenSpec.ofChange changeBackSpec)

/-- ITS FALSE NEIGHBOUR: 'it returns false'. Refute it at one input. -/
def changeBackWrong : ChangeSpec := { name := "changeBack", fn := fun _ => fun
  | [d1, d2, d3, d4] => { results := [.lit (.bool false)], args := [d1, d2, d3, d4] }
  | _ => none }
def ChangeBackWrongFalsely : Prop := changeBackRow.holds Try.pinned (OpenSpec.ofChange changeBackWrong)

/-- 'topiarykeep.ChangePuts': WHATEVER THE INPUT: true; the input reads as it did. -/
def changePutsSpec : ChangeSpec := { name := "changePuts", fn := fun _ => fun
  | [d1, d2, d3] => { results := [.lit (.bool true)], args := [d1, d2, d3] }
  | _ => none }
def changePutsRow : OpenClaim := { program := "ytfinkeaikbmpgaa", sum := "6a96ae44fcbef19100b3ef1240fe2e6ab9eb4a5574f88a94de4efea650d58cd4", func := "topiary/topiarykeep.ChangePuts", spec := "changePuts", inPlace := ["slices.overlaps[int]", "internal/bytealg.abigen_runtime_cmpstring", "slices.overlaps[topiary/api.Attr]"], unfollowed := true, recurses := true, loops := true, apart := false }
def ChangePutsSaid : Prop := changePutsRow.holds Try.pinned (OpenSpec.ofChange changePutsSpec)

/-- ITS FALSE NEIGHBOUR: 'it returns false'. Refute it at one input. -/
def changePutsWrong : ChangeSpec := { name := "changePuts", fn := fun _ => fun
  | [d1, d2, d3] => { results := [.lit (.bool false)], args := [d1, d2, d3] }
  | _ => none }
def ChangePutsWrongFalsely : Prop := changePutsRow.holds Try.pinned (OpenSpec.ofChange changePutsWrong)

/-- 'topiarykeep.ChangeValues': WHATEVER THE INPUT: true; the input reads as it did. -/
def changeValuesSpec : ChangeSpec := { name := "changeValues", fn := fun _ => fun
  | [d1, d2, d3] => { results := [.lit (.bool true)], args := [d1, d2, d3] }
  | _ => none }
def changeValuesRow : OpenClaim := { program := "ytfinkeaikbmpgaa", sum := "6a96ae44fcbef19100b3ef1240fe2e6ab9eb4a5574f88a94de4efea650d58cd4", func := "topiary/topiarykeep.ChangeValues", spec := "changeValues", inPlace := ["slices.overlaps[int]", "internal/bytealg.abigen_runtime_cmpstring", "slices.overlaps[topiary/api.Attr]"], unfollowed := true, recurses := true, apart := false }
def ChangeValuesSaid : Prop := changeValuesRow.holds Try.pinned (OpenSpec.ofChange changeValuesSpec)

/-- ITS FALSE NEIGHBOUR: 'it returns false'. Refute it at one input. -/
def changeValuesWrong : ChangeSpec := { name := "changeValues", fn := fun _ => fun
  | [d1, d2, d3] => { results := [.lit (.bool false)], args := [d1, d2, d3] }
  | _ => none }
def ChangeValuesWrongFalsely : Prop := changeValuesRow.holds Try.pinned (OpenSpec.ofChange changeValuesWrong)

/- THE SECOND FORM. 'bulk': how many values and letters a reading holds, each counted each time it is reached (what is shared counts as often as it is met; a slice's spare places count too). A statement '..UptoSaid' is the law's where the arguments, and the package variables that the reading takes, are together of bulk at most 1048576: NARROWER than '..Said'. Prove '..Said' where nothing that the law and all that it calls make is longer than what came in: it says more and counts as full. Else prove '..UptoSaid'. A law counts once. -/
mutual
def uptoBulk {H : Type} : DataW H → Nat
  | .lit (.string bytes) => bytes.length + 1
  | .lit _ => 1
  | .nil => 1
  | .ptr d => uptoBulk d + 1
  | .slice elems spare => uptoBulkAll elems + uptoBulkAll spare + 1
  | .agg parts => uptoBulkAll parts + 1
  | .iface _ d => uptoBulk d + 1
  | .map entries => uptoBulkEntries entries + 1
  | .held _ => 1
def uptoBulkAll {H : Type} : List (DataW H) → Nat
  | [] => 0
  | d :: r => uptoBulk d + uptoBulkAll r
def uptoBulkEntries {H : Type} : List (Lit × DataW H) → Nat
  | [] => 0
  | x :: r => uptoBulkEntry x + uptoBulkEntries r
def uptoBulkEntry {H : Type} : Lit × DataW H → Nat
  | (.string bytes, d) => bytes.length + uptoBulk d + 1
  | (_, d) => uptoBulk d + 1
 end
def uptoSmall : (H : Type) → List (DataW H) → Bool := fun _ ds => decide (uptoBulkAll ds ≤ 1048576)
def OpenSpec.upto (s : _root_.Go.ChangeSpec) : _root_.Go.OpenSpec := { _root_.Go.OpenSpec.ofChange s with cond := some uptoSmall }

/-- 'topiarylaw.Names', WHERE WHAT IT READS IS OF BULK AT MOST 1048576: true; the input reads as it did. -/
def namesUptoRow : OpenClaim := { program := "ytfinkeaikbmpgaa", sum := "6a96ae44fcbef19100b3ef1240fe2e6ab9eb4a5574f88a94de4efea650d58cd4", func := "topiary/topiarylaw.Names", spec := "names", apart := false, narrowed := true }
def NamesUptoSaid : Prop := namesUptoRow.holds Try.pinned (OpenSpec.upto namesSpec)

/-- 'topiarylaw.TreeJoins', WHERE WHAT IT READS IS OF BULK AT MOST 1048576: true; the input reads as it did. -/
def treeJoinsUptoRow : OpenClaim := { program := "ytfinkeaikbmpgaa", sum := "6a96ae44fcbef19100b3ef1240fe2e6ab9eb4a5574f88a94de4efea650d58cd4", func := "topiary/topiarylaw.TreeJoins", spec := "treeJoins", recurses := true, loops := true, apart := false, narrowed := true }
def TreeJoinsUptoSaid : Prop := treeJoinsUptoRow.holds Try.pinned (OpenSpec.upto treeJoinsSpec)

/-- 'topiarykeep.TreeOnce', WHERE WHAT IT READS IS OF BULK AT MOST 1048576: true; the input reads as it did. -/
def treeOnceUptoRow : OpenClaim := { program := "ytfinkeaikbmpgaa", sum := "6a96ae44fcbef19100b3ef1240fe2e6ab9eb4a5574f88a94de4efea650d58cd4", func := "topiary/topiarykeep.TreeOnce", spec := "treeOnce", recurses := true, loops := true, apart := false, narrowed := true }
def TreeOnceUptoSaid : Prop := treeOnceUptoRow.holds Try.pinned (OpenSpec.upto treeOnceSpec)

/-- 'topiarykeep.DocBack', WHERE WHAT IT READS IS OF BULK AT MOST 1048576: true; the input reads as it did. -/
def docBackUptoRow : OpenClaim := { program := "ytfinkeaikbmpgaa", sum := "6a96ae44fcbef19100b3ef1240fe2e6ab9eb4a5574f88a94de4efea650d58cd4", func := "topiary/topiarykeep.DocBack", spec := "docBack", recurses := true, loops := true, apart := false, narrowed := true }
def DocBackUptoSaid : Prop := docBackUptoRow.holds Try.pinned (OpenSpec.upto docBackSpec)

/-- 'topiarykeep.DocNests', WHERE WHAT IT READS IS OF BULK AT MOST 1048576: true; the input reads as it did. -/
def docNestsUptoRow : OpenClaim := { program := "ytfinkeaikbmpgaa", sum := "6a96ae44fcbef19100b3ef1240fe2e6ab9eb4a5574f88a94de4efea650d58cd4", func := "topiary/topiarykeep.DocNests", spec := "docNests", recurses := true, apart := false, narrowed := true }
def DocNestsUptoSaid : Prop := docNestsUptoRow.holds Try.pinned (OpenSpec.upto docNestsSpec)

/-- 'topiarykeep.ChangeOrder', WHERE WHAT IT READS IS OF BULK AT MOST 1048576: true; the input reads as it did. -/
def changeOrderUptoRow : OpenClaim := { program := "ytfinkeaikbmpgaa", sum := "6a96ae44fcbef19100b3ef1240fe2e6ab9eb4a5574f88a94de4efea650d58cd4", func := "topiary/topiarykeep.ChangeOrder", spec := "changeOrder", inPlace := ["slices.overlaps[int]", "internal/bytealg.abigen_runtime_cmpstring", "slices.overlaps[topiary/api.Attr]"], unfollowed := true, recurses := true, loops := true, apart := false, narrowed := true }
def ChangeOrderUptoSaid : Prop := changeOrderUptoRow.holds Try.pinned (OpenSpec.upto changeOrderSpec)

/-- 'topiarykeep.ChangeGood', WHERE WHAT IT READS IS OF BULK AT MOST 1048576: true; the input reads as it did. -/
def changeGoodUptoRow : OpenClaim := { program := "ytfinkeaikbmpgaa", sum := "6a96ae44fcbef19100b3ef1240fe2e6ab9eb4a5574f88a94de4efea650d58cd4", func := "topiary/topiarykeep.ChangeGood", spec := "changeGood", inPlace := ["slices.overlaps[int]", "internal/bytealg.abigen_runtime_cmpstring", "slices.overlaps[topiary/api.Attr]"], unfollowed := true, recurses := true, loops := true, apart := false, narrowed := true }
def ChangeGoodUptoSaid : Prop := changeGoodUptoRow.holds Try.pinned (OpenSpec.upto changeGoodSpec)

/-- 'topiarykeep.ChangeBack', WHERE WHAT IT READS IS OF BULK AT MOST 1048576: true; the input reads as it did. -/
def changeBackUptoRow : OpenClaim := { program := "ytfinkeaikbmpgaa", sum := "6a96ae44fcbef19100b3ef1240fe2e6ab9eb4a5574f88a94de4efea650d58cd4", func := "topiary/topiarykeep.ChangeBack", spec := "changeBack", inPlace := ["slices.overlaps[int]", "internal/bytealg.abigen_runtime_cmpstring", "slices.overlaps[topiary/api.Attr]"], unfollowed := true, recurses := true, apart := false, narrowed := true }
def ChangeBackUptoSaid : Prop := changeBackUptoRow.holds Try.pinned (OpenSpec.upto changeBackSpec)

/-- 'topiarykeep.ChangePuts', WHERE WHAT IT READS IS OF BULK AT MOST 1048576: true; the input reads as it did. -/
def changePutsUptoRow : OpenClaim := { program := "ytfinkeaikbmpgaa", sum := "6a96ae44fcbef19100b3ef1240fe2e6ab9eb4a5574f88a94de4efea650d58cd4", func := "topiary/topiarykeep.ChangePuts", spec := "changePuts", inPlace := ["slices.overlaps[int]", "internal/bytealg.abigen_runtime_cmpstring", "slices.overlaps[topiary/api.Attr]"], unfollowed := true, recurses := true, loops := true, apart := false, narrowed := true }
def ChangePutsUptoSaid : Prop := changePutsUptoRow.holds Try.pinned (OpenSpec.upto changePutsSpec)

/-- 'topiarykeep.ChangeValues', WHERE WHAT IT READS IS OF BULK AT MOST 1048576: true; the input reads as it did. -/
def changeValuesUptoRow : OpenClaim := { program := "ytfinkeaikbmpgaa", sum := "6a96ae44fcbef19100b3ef1240fe2e6ab9eb4a5574f88a94de4efea650d58cd4", func := "topiary/topiarykeep.ChangeValues", spec := "changeValues", inPlace := ["slices.overlaps[int]", "internal/bytealg.abigen_runtime_cmpstring", "slices.overlaps[topiary/api.Attr]"], unfollowed := true, recurses := true, apart := false, narrowed := true }
def ChangeValuesUptoSaid : Prop := changeValuesUptoRow.holds Try.pinned (OpenSpec.upto changeValuesSpec)

end Rows
end Go.Proofs.Ytfinkeaikbmpgaa
