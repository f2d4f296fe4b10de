/- THE ABSTRACT MACHINE, part 18: code, as it is walked. -/
import Derived.Test.YtfinkeaikbmpgaaAm20
set_option linter.defProp false
set_option linter.unnecessarySimpa false
set_option linter.unusedVariables false
set_option linter.unusedSimpArgs false
namespace Go.Am
open Go Go.RowKit

/-- Code, as it is walked. Ghosts stand where something is said, not done. -/
inductive Gh where
  | keep (ns : List Nat)
  | frz (l : Lb) (d : Nat)
  | frzc (l q : Lb) (j : Nat)
  | own (d sz : Nat)
  | cut (n : Nat)
  | weak

inductive AC where
  | skip
  | seq (a b : AC)
  | cond (x : O) (a b : AC)
  | block (id : Nat) (c : AC)
  | loop (c : AC)
  | exit (id : Nat)
  | ret
  | reg (is : List LIns)
  | dreg (is : List LIns) (es : List (List Nat)) (fs : List Fp)
  | gh (g : Gh) (c : AC)

def AC.sz : AC → Nat
  | .seq a b => a.sz + b.sz + 2
  | .cond _ a b => a.sz + b.sz + 2
  | .block _ c => c.sz + 3
  | .loop c => c.sz + 1
  | .gh _ c => c.sz + 1
  | _ => 1

inductive It where
  | code (c : AC)
  | blk (id : Nat)

def It.sz : It → Nat
  | .code c => c.sz
  | .blk _ => 1

def szs : List It → Nat
  | [] => 0
  | i :: r => i.sz + szs r

/-- Where an exit leads. -/
def popTo (id : Nat) : List It → Option (List It)
  | [] => none
  | .blk i :: r => if i = id then some r else popTo id r
  | _ :: r => popTo id r

theorem popTo_lt {id : Nat} : ∀ {l r : List It}, popTo id l = some r → szs r ≤ szs l
  | [], r, h => by simp [popTo] at h
  | .blk i :: l, r, h => by
    simp only [popTo] at h
    split at h
    · cases h; simp [szs]
    · have := popTo_lt h; simp only [szs]; omega
  | .code c :: l, r, h => by
    simp only [popTo] at h
    have := popTo_lt h; simp only [szs]; omega

theorem AC.sz_pos (c : AC) : 0 < c.sz := by cases c <;> simp [AC.sz]

/-- The list of a row's elements that are data. -/
def immE (xs : List IV) : List (List AV) := xs.map fun y => y.cells.map IV.av1

/-- Cells that are data, none of them a struct. -/
def Flat (xs : List IV) : Prop := ∀ y ∈ xs, ∀ z ∈ y.cells, ∀ cs, z ≠ .agg cs

def keepE (ns : List Nat) (env : Env) : Env := fun n => if n ∈ ns then env n else .any

abbrev Post := Exit → Env → Hp → Prop

end Go.Am
