/- Documents: their values; how a tree lies in one. -/
import Derived.Test.YtfinkeaikbmpgaaT7
set_option linter.defProp false
set_option linter.unnecessarySimpa false
set_option linter.unusedVariables false
set_option linter.unusedSimpArgs false
namespace Go.Am
open Go Go.RowKit

structure Node where
  text : Bool
  s : Bs
  attrs : List Attr
  parent : Int
  kids : List Int

abbrev Doc := List Node

def intIV (n : Int) : IV := .int .i64 n
def Node.cs (x : Node) : List IV := [.bool x.text, .str x.s, .list (ivA x.attrs), .int .i64 x.parent, .list (x.kids.map intIV)]
def Node.iv (x : Node) : IV := .agg x.cs
def Node.av (x : Node) : AV := .agg [.bool x.text, .str x.s, .list (ivA x.attrs), .int .i64 x.parent, .list (x.kids.map intIV)]
theorem Node.cells_eq (x : Node) : x.iv.cells = x.cs := rfl

theorem elsz_map {α : Type} (f : α → IV) (n : Nat) (h : ∀ x, (f x).cells.length = n) (xs : List α) : Elsz n (xs.map f) := by
  intro x hx
  obtain ⟨a, _, rfl⟩ := List.mem_map.1 hx
  exact h a
theorem flat_map {α : Type} (f : α → IV) (h : ∀ x, ∀ z ∈ (f x).cells, ∀ cs, z ≠ .agg cs) (xs : List α) : Flat (xs.map f) := by
  intro x hx
  obtain ⟨a, _, rfl⟩ := List.mem_map.1 hx
  exact h a
theorem elszI (xs : List Int) : Elsz 1 (xs.map intIV) := elsz_map intIV 1 (fun _ => rfl) xs
theorem flatI (xs : List Int) : Flat (xs.map intIV) := flat_map _ (by intro x z hz cs; simp [intIV, IV.cells] at hz; subst hz; simp) _
theorem Node.cs_flat (x : Node) : ∀ z ∈ x.cs, ∀ cs, z ≠ .agg cs := by
  intro z hz cs
  simp only [Node.cs, List.mem_cons, List.not_mem_nil, or_false] at hz
  rcases hz with rfl | rfl | rfl | rfl | rfl <;> simp
theorem elszN (xs : List Node) : Elsz 5 (xs.map Node.iv) := elsz_map Node.iv 5 (fun _ => rfl) xs
theorem flatN (xs : List Node) : Flat (xs.map Node.iv) := flat_map _ (fun x => x.cs_flat) _

theorem Node.ext' {x y : Node} (h1 : x.text = y.text) (h2 : x.s = y.s) (h3 : x.attrs = y.attrs) (h4 : x.parent = y.parent) (h5 : x.kids = y.kids) : x = y := by
  cases x; cases y; simp_all

/-! How a tree lies in a document. -/
def kidsAt (off : Nat) : List Tree → List Int
  | [] => []
  | k :: r => (off : Int) :: kidsAt (off + k.cnt) r

mutual
def Tree.flat (off : Nat) (p : Int) : Tree → List Node
  | .mk t s as ks => ⟨t, s, as, p, kidsAt (off + 1) ks⟩ :: flats (off + 1) off ks
def flats (off : Nat) (p : Nat) : List Tree → List Node
  | [] => []
  | k :: r => k.flat off p ++ flats (off + k.cnt) p r
end

def Tree.node (off : Nat) (p : Int) (x : Tree) : Node := ⟨x.text, x.s, x.attrs, p, kidsAt (off + 1) x.kids⟩
theorem Tree.flat_eq (off : Nat) (p : Int) (x : Tree) : x.flat off p = x.node off p :: flats (off + 1) off x.kids := by
  cases x; simp [Tree.flat, Tree.node, Tree.text, Tree.s, Tree.attrs, Tree.kids]

mutual
theorem Tree.flat_len (off : Nat) (p : Int) : ∀ x : Tree, (x.flat off p).length = x.cnt
  | .mk t s as ks => by simp [Tree.flat, Tree.cnt, flats_len (off + 1) off ks]
theorem flats_len (off : Nat) (p : Nat) : ∀ xs : List Tree, (flats off p xs).length = cntT xs
  | [] => by simp [flats, cntT]
  | k :: r => by simp [flats, cntT, k.flat_len, flats_len _ p r]
end

theorem kidsAt_len : ∀ (off : Nat) (xs : List Tree), (kidsAt off xs).length = xs.length
  | _, [] => rfl
  | off, k :: r => by simp [kidsAt, kidsAt_len _ r]

theorem flats_app : ∀ (off p : Nat) (xs ys : List Tree), flats off p (xs ++ ys) = flats off p xs ++ flats (off + cntT xs) p ys
  | off, p, [], ys => by simp [flats, cntT]
  | off, p, k :: r, ys => by simp [flats, cntT, flats_app _ p r ys, Nat.add_assoc]
theorem kidsAt_app : ∀ (off : Nat) (xs ys : List Tree), kidsAt off (xs ++ ys) = kidsAt off xs ++ kidsAt (off + cntT xs) ys
  | off, [], ys => by simp [kidsAt, cntT]
  | off, k :: r, ys => by simp [kidsAt, cntT, kidsAt_app _ r ys, Nat.add_assoc]

/-- The document of a tree. -/
def docOf (x : Tree) : Doc := x.flat 0 (-1)

theorem Tree.cnt_pos (x : Tree) : 0 < x.cnt := by rw [x.cnt_eq]; omega
end Go.Am
