import Derived.Test.YtfinkeaikbmpgaaKAm40
import Derived.Test.YtfinkeaikbmpgaaKT8
import Derived.Test.YtfinkeaikbmpgaaKAm33
import Derived.Test.YtfinkeaikbmpgaaKAm23
import Derived.Test.YtfinkeaikbmpgaaKS3
import Derived.Lib.Bytealg
import Derived.Test.YtfinkeaikbmpgaaKAm27
import Derived.Test.YtfinkeaikbmpgaaKT4
set_option linter.unusedSimpArgs false
set_option linter.unusedVariables false
set_option linter.unnecessarySimpa false
set_option linter.defProp false
/- The bench: a document's nodes at work, as rows. -/
namespace Go.Am
open Go Go.RowKit
structure Bn where
 n0 : Nat
 nodes : List Node
 fs : List Int
 as : List Int
def Bn.at (b : Bn) (i : Nat) : List Attr := match b.nodes[i]? with | some x => x.attrs | none => []
def Bn.kd (b : Bn) (i : Nat) : List Int := match b.nodes[i]? with | some x => x.kids | none => []
theorem Bn.at_some {b : Bn} {i : Nat} {x : Node} (h : b.nodes[i]? = some x) : b.at i = x.attrs := by simp [Bn.at,h]
theorem Bn.kd_some {b : Bn} {i : Nat} {x : Node} (h : b.nodes[i]? = some x) : b.kd i = x.kids := by simp [Bn.kd,h]
def bNode (n0 : Nat) (lab : Nat → Lb) (i : Nat) (x : Node) : List AV :=
 [.bool x.text,.str x.s,if i < n0 then .sl (lab (4 + 2 * i)) 2 0 x.attrs.length else .list (ivA x.attrs),.int .i64 x.parent,if i < n0 then .sl (lab (5 + 2 * i)) 1 0 x.kids.length else .list (x.kids.map intIV)]
def bRow (b : Bn) (lab : Nat → Lb) (p : Nat) : Option Row :=
 if p = 0 then some ⟨3,[[.sl (lab 1) 5 0 b.nodes.length,.sl (lab 2) 1 0 b.fs.length,.sl (lab 3) 1 0 b.as.length]]⟩
 else if p = 1 then some ⟨5,b.nodes.mapIdx (bNode b.n0 lab)⟩
 else if p = 2 then some ⟨1,immE (b.fs.map intIV)⟩
 else if p = 3 then some ⟨1,immE (b.as.map intIV)⟩
 else if p < 4 + 2 * b.n0 then (if p % 2 = 0 then some ⟨2,immE (ivA (b.at ((p - 4) / 2)))⟩ else some ⟨1,immE ((b.kd ((p - 5) / 2)).map intIV)⟩)
 else none
theorem bNode_ren (n0 : Nat) (lab : Nat → Lb) (ρ : Lb → Lb) (i : Nat) (x : Node) : rens ρ (bNode n0 lab i x) = bNode n0 (fun i => ρ (lab i)) i x := by
 unfold bNode
 by_cases h : i < n0 <;> simp [rens,ren,h]
theorem bNode_lbs {n0 : Nat} {lab : Nat → Lb} {i : Nat} {x : Node} {q : Lb} (h : q ∈ lbss (bNode n0 lab i x)) : i < n0 ∧ (q = lab (4 + 2 * i) ∨ q = lab (5 + 2 * i)) := by
 unfold bNode at h
 by_cases hi : i < n0
 · simpa [lbss,AV.lbs,hi] using h
 · simp [lbss,AV.lbs,hi] at h
theorem bRow_some {b : Bn} {lab : Nat → Lb} {p : Nat} : (bRow b lab p).isSome = true ↔ p < 4 + 2 * b.n0 := by
 unfold bRow
 by_cases h0 : p = 0
 · simp [h0]; omega
 by_cases h1 : p = 1
 · simp [h1]; omega
 by_cases h2 : p = 2
 · simp [h2]; omega
 by_cases h3 : p = 3
 · simp [h3]; omega
 by_cases h4 : p < 4 + 2 * b.n0
 · by_cases h5 : p % 2 = 0 <;> simp [h0,h1,h2,h3,h4,h5]
 · simp [h0,h1,h2,h3,h4]
def bSh (b : Bn) : Shp where
 row := bRow b
 nat lab ρ p := by
   unfold bRow
   by_cases h0 : p = 0
   · simp [h0,renR,rens,ren]
   by_cases h1 : p = 1
   · simp only [h1,if_neg (show ¬ (1 : Nat) = 0 by decide),if_true,Option.map_some,Option.some.injEq,renR,Row.mk.injEq,true_and]
     refine List.ext_getElem? fun i => ?_
     simp only [List.getElem?_map,List.getElem?_mapIdx,Option.map_map]
     congr 1
     funext x
     exact (bNode_ren _ _ _ _ _).symm
   by_cases h2 : p = 2
   · simp [h2,renR_immE]
   by_cases h3 : p = 3
   · simp [h3,renR_immE]
   by_cases h4 : p < 4 + 2 * b.n0
   · by_cases h5 : p % 2 = 0 <;> simp [h0,h1,h2,h3,h4,h5,renR_immE]
   · simp [h0,h1,h2,h3,h4]
 lbs lab p r hr cs hcs q hq := by
   unfold bRow at hr
   by_cases h0 : p = 0
   · simp [h0] at hr; subst hr
     simp only [List.mem_singleton] at hcs; subst hcs
     simp [lbss,AV.lbs] at hq
     rcases hq with rfl | rfl | rfl
     · exact ⟨1,bRow_some.2 (by omega),rfl⟩
     · exact ⟨2,bRow_some.2 (by omega),rfl⟩
     · exact ⟨3,bRow_some.2 (by omega),rfl⟩
   by_cases h1 : p = 1
   · simp [h1] at hr; subst hr
     simp only at hcs
     obtain ⟨i,hi⟩ := List.getElem?_of_mem hcs
     rw [List.getElem?_mapIdx] at hi
     obtain ⟨x,_,rfl⟩ := Option.map_eq_some_iff.1 hi
     obtain ⟨h5,h6⟩ := bNode_lbs hq
     rcases h6 with rfl | rfl
     · exact ⟨4 + 2 * i,bRow_some.2 (by omega),rfl⟩
     · exact ⟨5 + 2 * i,bRow_some.2 (by omega),rfl⟩
   have key : ∀ (sz : Nat) (xs : List IV),r = ⟨sz,immE xs⟩ → False := by
     rintro sz xs rfl
     rw [lbss_immE hcs] at hq; simp at hq
   exfalso
   by_cases h2 : p = 2
   · simp [h2] at hr; exact key _ _ hr.symm
   by_cases h3 : p = 3
   · simp [h3] at hr; exact key _ _ hr.symm
   by_cases h4 : p < 4 + 2 * b.n0
   · by_cases h5 : p % 2 = 0
     · simp [h0,h1,h2,h3,h4,h5] at hr; exact key _ _ hr.symm
     · simp [h0,h1,h2,h3,h4,h5] at hr; exact key _ _ hr.symm
   · simp [h0,h1,h2,h3,h4] at hr
theorem bSh_ok {b : Bn} {p : Nat} : (bSh b).ok p ↔ p < 4 + 2 * b.n0 := bRow_some
theorem bRow_at {b : Bn} {lab : Nat → Lb} {i : Nat} (h : i < b.n0) : bRow b lab (4 + 2 * i) = some ⟨2,immE (ivA (b.at i))⟩ := by
 unfold bRow
 rw [if_neg (by omega),if_neg (by omega),if_neg (by omega),if_neg (by omega),if_pos (by omega),if_pos (by omega),show (4 + 2 * i - 4) / 2 = i by omega]
theorem bRow_kd {b : Bn} {lab : Nat → Lb} {i : Nat} (h : i < b.n0) : bRow b lab (5 + 2 * i) = some ⟨1,immE ((b.kd i).map intIV)⟩ := by
 unfold bRow
 rw [if_neg (by omega),if_neg (by omega),if_neg (by omega),if_neg (by omega),if_pos (by omega),if_neg (by omega),show (5 + 2 * i - 5) / 2 = i by omega]
abbrev BnAt (lab : Nat → Lb) (b : Bn) (H : Hp) : Prop := ShAt lab (bSh b) H
section
variable {lab : Nat → Lb} {b : Bn} {H H2 : Hp}
theorem BnAt.s (h : BnAt lab b H) : H (lab 0) = .live ⟨3,[[.sl (lab 1) 5 0 b.nodes.length,.sl (lab 2) 1 0 b.fs.length,.sl (lab 3) 1 0 b.as.length]]⟩ := h.row 0 _ rfl
theorem BnAt.n (h : BnAt lab b H) : H (lab 1) = .live ⟨5,b.nodes.mapIdx (bNode b.n0 lab)⟩ := h.row 1 _ rfl
theorem BnAt.f (h : BnAt lab b H) : H (lab 2) = .live ⟨1,immE (b.fs.map intIV)⟩ := h.row 2 _ rfl
theorem BnAt.a (h : BnAt lab b H) : H (lab 3) = .live ⟨1,immE (b.as.map intIV)⟩ := h.row 3 _ rfl
theorem BnAt.at' (h : BnAt lab b H) {i : Nat} {x : Node} (hi : i < b.n0) (hx : b.nodes[i]? = some x) : H (lab (4 + 2 * i)) = .live ⟨2,immE (ivA x.attrs)⟩ := by
 have := h.row _ _ (bRow_at hi)
 rwa [Bn.at_some hx] at this
theorem BnAt.kd (h : BnAt lab b H) {i : Nat} {x : Node} (hi : i < b.n0) (hx : b.nodes[i]? = some x) : H (lab (5 + 2 * i)) = .live ⟨1,immE (x.kids.map intIV)⟩ := by
 have := h.row _ _ (bRow_kd hi)
 rwa [Bn.kd_some hx] at this
theorem BnAt.ne (h : BnAt lab b H) {p q : Nat} (hp : p < 4 + 2 * b.n0) (hq : q < 4 + 2 * b.n0) (e : p ≠ q) : lab p ≠ lab q := fun e2 => e (h.inj p q (bSh_ok.2 hp) (bSh_ok.2 hq) e2)
def Bn.set (b : Bn) (i : Nat) (y : Node) : Bn := { b with nodes := b.nodes.set i y }
def Bn.put (b : Bn) (y : Node) : Bn := { b with nodes := b.nodes ++ [y] }
theorem Bn.set_n (b : Bn) (i : Nat) (y : Node) (lab : Nat → Lb) : (b.set i y).nodes.mapIdx (bNode (b.set i y).n0 lab) = (b.nodes.mapIdx (bNode b.n0 lab)).set i (bNode b.n0 lab i y) := by
 refine List.ext_getElem? fun j => ?_
 simp only [Bn.set,List.getElem?_mapIdx,List.getElem?_set,List.length_mapIdx]
 by_cases e : i = j
 · subst e
   by_cases hl : i < b.nodes.length <;> simp [hl]
 · simp [e]
theorem Bn.put_n (b : Bn) (y : Node) (lab : Nat → Lb) : (b.put y).nodes.mapIdx (bNode (b.put y).n0 lab) = b.nodes.mapIdx (bNode b.n0 lab) ++ [bNode b.n0 lab b.nodes.length y] := by
 simp [Bn.put,List.mapIdx_append]
theorem BnAt.lists (h : BnAt lab b H) {p : Nat} (h4 : 4 ≤ p) (hp : p < 4 + 2 * b.n0) : ∃ i,i < b.n0 ∧ (p = 4 + 2 * i ∨ p = 5 + 2 * i) := by
 by_cases e : p % 2 = 0
 · exact ⟨(p - 4) / 2,by omega,by omega⟩
 · exact ⟨(p - 5) / 2,by omega,by omega⟩
theorem BnAt.mk' {lab : Nat → Lb} {b : Bn} {H : Hp} (hi : ∀ p q,p < 4 + 2 * b.n0 → q < 4 + 2 * b.n0 → lab p = lab q → p = q)
   (h0 : H (lab 0) = .live ⟨3,[[.sl (lab 1) 5 0 b.nodes.length,.sl (lab 2) 1 0 b.fs.length,.sl (lab 3) 1 0 b.as.length]]⟩) (h1 : H (lab 1) = .live ⟨5,b.nodes.mapIdx (bNode b.n0 lab)⟩)
   (h2 : H (lab 2) = .live ⟨1,immE (b.fs.map intIV)⟩) (h3 : H (lab 3) = .live ⟨1,immE (b.as.map intIV)⟩)
   (h4 : ∀ i,i < b.n0 → H (lab (4 + 2 * i)) = .live ⟨2,immE (ivA (b.at i))⟩) (h5 : ∀ i,i < b.n0 → H (lab (5 + 2 * i)) = .live ⟨1,immE ((b.kd i).map intIV)⟩) : BnAt lab b H := by
 refine ⟨fun p r hp => ?_,fun p q hp hq => hi p q (bSh_ok.1 hp) (bSh_ok.1 hq)⟩
 have hlt : p < 4 + 2 * b.n0 := bRow_some.1 (show (bRow b lab p).isSome = true by change bRow b lab p = some r at hp; rw [hp]; rfl)
 change bRow b lab p = some r at hp
 by_cases e0 : p = 0
 · subst e0; cases hp; exact h0
 by_cases e1 : p = 1
 · subst e1; cases hp; exact h1
 by_cases e2 : p = 2
 · subst e2; cases hp; exact h2
 by_cases e3 : p = 3
 · subst e3; cases hp; exact h3
 by_cases e : p % 2 = 0
 · obtain ⟨i,rfl⟩ : ∃ i,p = 4 + 2 * i := ⟨(p - 4) / 2,by omega⟩
   rw [bRow_at (by omega)] at hp; cases hp
   exact h4 i (by omega)
 · obtain ⟨i,rfl⟩ : ∃ i,p = 5 + 2 * i := ⟨(p - 5) / 2,by omega⟩
   rw [bRow_kd (by omega)] at hp; cases hp
   exact h5 i (by omega)
theorem Bn.set_at (b : Bn) {i : Nat} {x y : Node} (hx : b.nodes[i]? = some x) (j : Nat) : (b.set i y).at j = if j = i then y.attrs else b.at j := by
 have hl := (List.getElem?_eq_some_iff.1 hx).1
 simp only [Bn.at,Bn.set,List.getElem?_set]
 by_cases e : i = j
 · subst e; simp [hl]
 · simp [e,Ne.symm e]
theorem Bn.set_kd (b : Bn) {i : Nat} {x y : Node} (hx : b.nodes[i]? = some x) (j : Nat) : (b.set i y).kd j = if j = i then y.kids else b.kd j := by
 have hl := (List.getElem?_eq_some_iff.1 hx).1
 simp only [Bn.kd,Bn.set,List.getElem?_set]
 by_cases e : i = j
 · subst e; simp [hl]
 · simp [e,Ne.symm e]
theorem BnAt.setS (h : BnAt lab b H) {i : Nat} {x : Node} {s : Bs} (hx : b.nodes[i]? = some x)
   (h1 : H2 (lab 1) = .live ⟨5,(b.nodes.mapIdx (bNode b.n0 lab)).set i (bNode b.n0 lab i { x with s := s })⟩) (h2 : ∀ q,q ≠ lab 1 → H2 q = H q) : BnAt lab (b.set i { x with s := s }) H2 := by
 have hne : ∀ p,p < 4 + 2 * b.n0 → p ≠ 1 → lab p ≠ lab 1 := fun p hp e => h.ne hp (by omega) e
 refine BnAt.mk' (fun p q hp hq => h.inj p q (bSh_ok.2 hp) (bSh_ok.2 hq)) ?_ ?_ ?_ ?_ ?_ ?_
 · rw [h2 _ (hne 0 (by omega) (by omega)),h.s]; simp [Bn.set]
 · rw [h1,Bn.set_n]
 · rw [h2 _ (hne 2 (by omega) (by omega)),h.f]; rfl
 · rw [h2 _ (hne 3 (by omega) (by omega)),h.a]; rfl
 · intro j hj
   change j < b.n0 at hj
   rw [h2 _ (hne _ (by omega) (by omega)),h.row _ _ (bRow_at hj),b.set_at hx]
   split
   · rename_i e; subst e; rw [Bn.at_some hx]
   · rfl
 · intro j hj
   change j < b.n0 at hj
   rw [h2 _ (hne _ (by omega) (by omega)),h.row _ _ (bRow_kd hj),b.set_kd hx]
   split
   · rename_i e; subst e; rw [Bn.kd_some hx]
   · rfl
theorem BnAt.setK (h : BnAt lab b H) {i : Nat} {x : Node} {ys : List Int} {N : Lb} (hi : i < b.n0) (hx : b.nodes[i]? = some x) (hN : N = lab (5 + 2 * i) ∨ ∀ p,p < 4 + 2 * b.n0 → lab p ≠ N)
   (h1 : H2 (lab 1) = .live ⟨5,(b.nodes.mapIdx (bNode b.n0 lab)).set i [.bool x.text,.str x.s,.sl (lab (4 + 2 * i)) 2 0 x.attrs.length,.int .i64 x.parent,.sl N 1 0 ys.length]⟩)
   (h2 : H2 N = .live ⟨1,immE (ys.map intIV)⟩) (h3 : ∀ q,q ≠ lab 1 → q ≠ N → q ≠ lab (5 + 2 * i) → H2 q = H q) :
   BnAt (fun p => if p = 5 + 2 * i then N else lab p) (b.set i { x with kids := ys }) H2 := by
 have hne : ∀ p,p < 4 + 2 * b.n0 → p ≠ 1 → lab p ≠ lab 1 := fun p hp e => h.ne hp (by omega) e
 have hne2 : ∀ p,p < 4 + 2 * b.n0 → p ≠ 5 + 2 * i → lab p ≠ lab (5 + 2 * i) := fun p hp e => h.ne hp (by omega) e
 have hne3 : ∀ p,p < 4 + 2 * b.n0 → p ≠ 5 + 2 * i → lab p ≠ N := fun p hp e => by
   rcases hN with rfl | hN
   · exact hne2 p hp e
   · exact hN p hp
 have hsame : ∀ p,p < 4 + 2 * b.n0 → p ≠ 1 → p ≠ 5 + 2 * i → H2 (lab p) = H (lab p) := fun p hp e1 e2 => h3 _ (hne p hp e1) (hne3 p hp e2) (hne2 p hp e2)
 have hj : ∀ p,p ≠ 5 + 2 * i → (if p = 5 + 2 * i then N else lab p) = lab p := fun p e => if_neg e
 refine BnAt.mk' ?_ ?_ ?_ ?_ ?_ ?_ ?_
 · intro p q hp hq e
   change p < 4 + 2 * b.n0 at hp
   change q < 4 + 2 * b.n0 at hq
   by_cases e1 : p = 5 + 2 * i <;> by_cases e2 : q = 5 + 2 * i
   · rw [e1,e2]
   · rw [if_pos e1,if_neg e2] at e; exact absurd e.symm (hne3 q hq e2)
   · rw [if_neg e1,if_pos e2] at e; exact absurd e (hne3 p hp e1)
   · rw [if_neg e1,if_neg e2] at e; exact h.inj p q (bSh_ok.2 hp) (bSh_ok.2 hq) e
 · simp only [hj 0 (by omega),hj 1 (by omega),hj 2 (by omega),hj 3 (by omega)]
   rw [hsame 0 (by omega) (by omega) (by omega),h.s]; simp [Bn.set]
 · simp only [hj 1 (by omega)]
   rw [h1,Bn.set_n]
   congr 2
   refine List.ext_getElem? fun j => ?_
   simp only [List.getElem?_set,List.length_mapIdx,List.getElem?_mapIdx]
   by_cases e : i = j
   · subst e
     simp only [if_true]
     congr 1
     simp [bNode,hi,hj (4 + 2 * i) (by omega)]
   · simp only [e,if_false]
     congr 1
     funext z
     simp only [bNode]
     rw [if_neg (show ¬ 4 + 2 * j = 5 + 2 * i by omega),if_neg (show ¬ 5 + 2 * j = 5 + 2 * i by omega)]
 · simp only [hj 2 (by omega)]
   rw [hsame 2 (by omega) (by omega) (by omega),h.f]; rfl
 · simp only [hj 3 (by omega)]
   rw [hsame 3 (by omega) (by omega) (by omega),h.a]; rfl
 · intro j hj2
   change j < b.n0 at hj2
   simp only [hj (4 + 2 * j) (by omega)]
   rw [hsame _ (by omega) (by omega) (by omega),h.row _ _ (bRow_at hj2),b.set_at hx]
   split
   · rename_i e; subst e; rw [Bn.at_some hx]
   · rfl
 · intro j hj2
   change j < b.n0 at hj2
   rw [b.set_kd hx]
   by_cases e : j = i
   · subst e
     simp only [if_true]
     exact h2
   · simp only [hj (5 + 2 * j) (by omega),e,if_false]
     rw [hsame _ (by omega) (by omega) (by omega),h.row _ _ (bRow_kd hj2)]
theorem BnAt.setA (h : BnAt lab b H) {i : Nat} {x : Node} {ys : List Attr} {N : Lb} (hi : i < b.n0) (hx : b.nodes[i]? = some x) (hN : N = lab (4 + 2 * i) ∨ ∀ p,p < 4 + 2 * b.n0 → lab p ≠ N)
   (h1 : H2 (lab 1) = .live ⟨5,(b.nodes.mapIdx (bNode b.n0 lab)).set i [.bool x.text,.str x.s,.sl N 2 0 ys.length,.int .i64 x.parent,.sl (lab (5 + 2 * i)) 1 0 x.kids.length]⟩)
   (h2 : H2 N = .live ⟨2,immE (ivA ys)⟩) (h3 : ∀ q,q ≠ lab 1 → q ≠ N → q ≠ lab (4 + 2 * i) → H2 q = H q) :
   BnAt (fun p => if p = 4 + 2 * i then N else lab p) (b.set i { x with attrs := ys }) H2 := by
 have hne : ∀ p,p < 4 + 2 * b.n0 → p ≠ 1 → lab p ≠ lab 1 := fun p hp e => h.ne hp (by omega) e
 have hne2 : ∀ p,p < 4 + 2 * b.n0 → p ≠ 4 + 2 * i → lab p ≠ lab (4 + 2 * i) := fun p hp e => h.ne hp (by omega) e
 have hne3 : ∀ p,p < 4 + 2 * b.n0 → p ≠ 4 + 2 * i → lab p ≠ N := fun p hp e => by
   rcases hN with rfl | hN
   · exact hne2 p hp e
   · exact hN p hp
 have hsame : ∀ p,p < 4 + 2 * b.n0 → p ≠ 1 → p ≠ 4 + 2 * i → H2 (lab p) = H (lab p) := fun p hp e1 e2 => h3 _ (hne p hp e1) (hne3 p hp e2) (hne2 p hp e2)
 have hj : ∀ p,p ≠ 4 + 2 * i → (if p = 4 + 2 * i then N else lab p) = lab p := fun p e => if_neg e
 refine BnAt.mk' ?_ ?_ ?_ ?_ ?_ ?_ ?_
 · intro p q hp hq e
   change p < 4 + 2 * b.n0 at hp
   change q < 4 + 2 * b.n0 at hq
   by_cases e1 : p = 4 + 2 * i <;> by_cases e2 : q = 4 + 2 * i
   · rw [e1,e2]
   · rw [if_pos e1,if_neg e2] at e; exact absurd e.symm (hne3 q hq e2)
   · rw [if_neg e1,if_pos e2] at e; exact absurd e (hne3 p hp e1)
   · rw [if_neg e1,if_neg e2] at e; exact h.inj p q (bSh_ok.2 hp) (bSh_ok.2 hq) e
 · simp only [hj 0 (by omega),hj 1 (by omega),hj 2 (by omega),hj 3 (by omega)]
   rw [hsame 0 (by omega) (by omega) (by omega),h.s]; simp [Bn.set]
 · simp only [hj 1 (by omega)]
   rw [h1,Bn.set_n]
   congr 2
   refine List.ext_getElem? fun j => ?_
   simp only [List.getElem?_set,List.length_mapIdx,List.getElem?_mapIdx]
   by_cases e : i = j
   · subst e
     simp only [if_true]
     congr 1
     simp [bNode,hi,hj (5 + 2 * i) (by omega)]
   · simp only [e,if_false]
     congr 1
     funext z
     simp only [bNode]
     rw [if_neg (show ¬ 4 + 2 * j = 4 + 2 * i by omega),if_neg (show ¬ 5 + 2 * j = 4 + 2 * i by omega)]
 · simp only [hj 2 (by omega)]
   rw [hsame 2 (by omega) (by omega) (by omega),h.f]; rfl
 · simp only [hj 3 (by omega)]
   rw [hsame 3 (by omega) (by omega) (by omega),h.a]; rfl
 · intro j hj2
   change j < b.n0 at hj2
   rw [b.set_at hx]
   by_cases e : j = i
   · subst e
     simp only [if_true]
     exact h2
   · simp only [hj (4 + 2 * j) (by omega),e,if_false]
     rw [hsame _ (by omega) (by omega) (by omega),h.row _ _ (bRow_at hj2)]
 · intro j hj2
   change j < b.n0 at hj2
   simp only [hj (5 + 2 * j) (by omega)]
   rw [hsame _ (by omega) (by omega) (by omega),h.row _ _ (bRow_kd hj2),b.set_kd hx]
   split
   · rename_i e; subst e; rw [Bn.kd_some hx]
   · rfl
theorem BnAt.push (h : BnAt lab b H) {y : Node} {N : Lb} (hn : b.n0 ≤ b.nodes.length) (hN : N = lab 1 ∨ ∀ p,p < 4 + 2 * b.n0 → lab p ≠ N)
   (h0 : H2 (lab 0) = .live ⟨3,[[.sl N 5 0 (b.nodes.length + 1),.sl (lab 2) 1 0 b.fs.length,.sl (lab 3) 1 0 b.as.length]]⟩)
   (h1 : H2 N = .live ⟨5,b.nodes.mapIdx (bNode b.n0 lab) ++ [[.bool y.text,.str y.s,.list (ivA y.attrs),.int .i64 y.parent,.list (y.kids.map intIV)]]⟩) (h3 : ∀ q,q ≠ lab 0 → q ≠ lab 1 → q ≠ N → H2 q = H q) :
   BnAt (fun p => if p = 1 then N else lab p) (b.put y) H2 := by
 have hne3 : ∀ p,p < 4 + 2 * b.n0 → p ≠ 1 → lab p ≠ N := fun p hp e => by
   rcases hN with rfl | hN
   · exact h.ne hp (by omega) e
   · exact hN p hp
 have hsame : ∀ p,p < 4 + 2 * b.n0 → p ≠ 0 → p ≠ 1 → H2 (lab p) = H (lab p) := fun p hp e0 e1 => h3 _ (h.ne hp (by omega) e0) (h.ne hp (by omega) e1) (hne3 p hp e1)
 have hj : ∀ p,p ≠ 1 → (if p = 1 then N else lab p) = lab p := fun p e => if_neg e
 have hlen : (b.put y).nodes.length = b.nodes.length + 1 := by simp [Bn.put]
 have hatk : ∀ j,j < b.n0 → (b.put y).nodes[j]? = b.nodes[j]? := fun j hj => by simp only [Bn.put]; rw [List.getElem?_append_left (by omega)]
 refine BnAt.mk' ?_ ?_ ?_ ?_ ?_ ?_ ?_
 · intro p q hp hq e
   change p < 4 + 2 * b.n0 at hp
   change q < 4 + 2 * b.n0 at hq
   by_cases e1 : p = 1 <;> by_cases e2 : q = 1
   · rw [e1,e2]
   · rw [if_pos e1,if_neg e2] at e; exact absurd e.symm (hne3 q hq e2)
   · rw [if_neg e1,if_pos e2] at e; exact absurd e (hne3 p hp e1)
   · rw [if_neg e1,if_neg e2] at e; exact h.inj p q (bSh_ok.2 hp) (bSh_ok.2 hq) e
 · simp only [hj 0 (by omega),if_true,hj 2 (by omega),hj 3 (by omega),hlen]
   exact h0
 · show H2 N = _
   rw [h1,Bn.put_n]
   have hfn : bNode b.n0 (fun p => if p = 1 then N else lab p) = bNode b.n0 lab := by
     funext j z
     simp only [bNode]
     rw [if_neg (show ¬ 4 + 2 * j = 1 by omega),if_neg (show ¬ 5 + 2 * j = 1 by omega)]
   rw [hfn]
   simp [bNode,show ¬ b.nodes.length < b.n0 by omega]
 · simp only [hj 2 (by omega)]
   rw [hsame 2 (by omega) (by omega) (by omega),h.f]; rfl
 · simp only [hj 3 (by omega)]
   rw [hsame 3 (by omega) (by omega) (by omega),h.a]; rfl
 · intro j hj2
   change j < b.n0 at hj2
   simp only [hj (4 + 2 * j) (by omega)]
   rw [hsame _ (by omega) (by omega) (by omega),h.row _ _ (bRow_at hj2)]
   simp only [Bn.at,hatk j hj2]
 · intro j hj2
   change j < b.n0 at hj2
   simp only [hj (5 + 2 * j) (by omega)]
   rw [hsame _ (by omega) (by omega) (by omega),h.row _ _ (bRow_kd hj2)]
   simp only [Bn.kd,hatk j hj2]
theorem BnAt.setD (h : BnAt lab b H) {i : Nat} {x : Node} {ys : List Int} (hi : b.n0 ≤ i) (hx : b.nodes[i]? = some x)
   (h1 : H2 (lab 1) = .live ⟨5,(b.nodes.mapIdx (bNode b.n0 lab)).set i [.bool x.text,.str x.s,.list (ivA x.attrs),.int .i64 x.parent,.list (ys.map intIV)]⟩) (h2 : ∀ q,q ≠ lab 1 → H2 q = H q) : BnAt lab (b.set i { x with kids := ys }) H2 := by
 have hne : ∀ p,p < 4 + 2 * b.n0 → p ≠ 1 → lab p ≠ lab 1 := fun p hp e => h.ne hp (by omega) e
 refine BnAt.mk' (fun p q hp hq => h.inj p q (bSh_ok.2 hp) (bSh_ok.2 hq)) ?_ ?_ ?_ ?_ ?_ ?_
 · rw [h2 _ (hne 0 (by omega) (by omega)),h.s]; simp [Bn.set]
 · rw [h1,Bn.set_n]; simp [bNode,show ¬ i < b.n0 by omega]
 · rw [h2 _ (hne 2 (by omega) (by omega)),h.f]; rfl
 · rw [h2 _ (hne 3 (by omega) (by omega)),h.a]; rfl
 · intro j hj
   change j < b.n0 at hj
   rw [h2 _ (hne _ (by omega) (by omega)),h.row _ _ (bRow_at hj),b.set_at hx,if_neg (by omega)]
 · intro j hj
   change j < b.n0 at hj
   rw [h2 _ (hne _ (by omega) (by omega)),h.row _ _ (bRow_kd hj),b.set_kd hx,if_neg (by omega)]
theorem BnAt.setF (h : BnAt lab b H) {fs : List Int} (hl : fs.length = b.fs.length) (h1 : H2 (lab 2) = .live ⟨1,immE (fs.map intIV)⟩) (h2 : ∀ q,q ≠ lab 2 → H2 q = H q) : BnAt lab { b with fs := fs } H2 := by
 have hne : ∀ p,p < 4 + 2 * b.n0 → p ≠ 2 → lab p ≠ lab 2 := fun p hp e => h.ne hp (by omega) e
 refine BnAt.mk' (fun p q hp hq => h.inj p q (bSh_ok.2 hp) (bSh_ok.2 hq)) ?_ ?_ ?_ ?_ ?_ ?_
 · rw [h2 _ (hne 0 (by omega) (by omega)),h.s]; simp [hl]
 · rw [h2 _ (hne 1 (by omega) (by omega)),h.n]
 · exact h1
 · rw [h2 _ (hne 3 (by omega) (by omega)),h.a]
 · intro j hj
   change j < b.n0 at hj
   rw [h2 _ (hne _ (by omega) (by omega)),h.row _ _ (bRow_at hj)]; rfl
 · intro j hj
   change j < b.n0 at hj
   rw [h2 _ (hne _ (by omega) (by omega)),h.row _ _ (bRow_kd hj)]; rfl
theorem BnAt.setAs (h : BnAt lab b H) {as : List Int} (hl : as.length = b.as.length) (h1 : H2 (lab 3) = .live ⟨1,immE (as.map intIV)⟩) (h2 : ∀ q,q ≠ lab 3 → H2 q = H q) : BnAt lab { b with as := as } H2 := by
 have hne : ∀ p,p < 4 + 2 * b.n0 → p ≠ 3 → lab p ≠ lab 3 := fun p hp e => h.ne hp (by omega) e
 refine BnAt.mk' (fun p q hp hq => h.inj p q (bSh_ok.2 hp) (bSh_ok.2 hq)) ?_ ?_ ?_ ?_ ?_ ?_
 · rw [h2 _ (hne 0 (by omega) (by omega)),h.s]; simp [hl]
 · rw [h2 _ (hne 1 (by omega) (by omega)),h.n]
 · rw [h2 _ (hne 2 (by omega) (by omega)),h.f]
 · exact h1
 · intro j hj
   change j < b.n0 at hj
   rw [h2 _ (hne _ (by omega) (by omega)),h.row _ _ (bRow_at hj)]; rfl
 · intro j hj
   change j < b.n0 at hj
   rw [h2 _ (hne _ (by omega) (by omega)),h.row _ _ (bRow_kd hj)]; rfl
theorem BnAt.get (h : BnAt lab b H) {i : Nat} {x : Node} (hx : b.nodes[i]? = some x) : (b.nodes.mapIdx (bNode b.n0 lab))[i]? = some (bNode b.n0 lab i x) := by
 rw [List.getElem?_mapIdx,hx]; rfl
end
end Go.Am

/- The bench: copies of one's own; where a number stands. -/
set_option pp.deepTerms false
set_option pp.deepTerms.threshold 5
namespace Go.Am
open Go Go.RowKit
section
variable {P : Program} {G : Nat → Option (List IV)}
def c_slices_Clone_Attr_AttrO : AC :=
(.seq (.reg [⟨some 2,none,.mov (.c .nil0)⟩]) (.seq (.seq (.reg [⟨some 3,none,.mov (.t 0)⟩,⟨some 4,none,.eqn false (.t 3)⟩]) (.cond (.t 4) (.seq (.reg [⟨some 2,none,.mov (.c .nil0)⟩]) (.gh (.own 2 2) .ret)) .skip)) (.seq (.reg [⟨some 5,none,.lits 0 2 [(.str []),(.str [])] []⟩,⟨some 6,none,.mov (.t 0)⟩,⟨some 7,none,.app (.t 5) (.t 6) 2 32⟩,⟨some 2,none,.mov (.t 7)⟩]) .ret)))
def c_slices_Clone_int_intO : AC :=
(.seq (.reg [⟨some 2,none,.mov (.c .nil0)⟩]) (.seq (.seq (.reg [⟨some 3,none,.mov (.t 0)⟩,⟨some 4,none,.eqn false (.t 3)⟩]) (.cond (.t 4) (.seq (.reg [⟨some 2,none,.mov (.c .nil0)⟩]) (.gh (.own 2 1) .ret)) .skip)) (.seq (.reg [⟨some 5,none,.lits 0 1 [(.int .i64 0)] []⟩,⟨some 6,none,.mov (.t 0)⟩,⟨some 7,none,.app (.t 5) (.t 6) 1 8⟩,⟨some 2,none,.mov (.t 7)⟩]) .ret)))
theorem oCloneA {f_slices_Clone_Attr_Attr : Nat} (hF : compF P G f_slices_Clone_Attr_Attr = some (8,[(none,2)],c_slices_Clone_Attr_Attr.bare)) (xs : List Attr) (hx : xs.length ≤ B) : OwnC P G f_slices_Clone_Attr_Attr [.list (ivA xs)] 2 (ivA xs) := by
 refine own_of_go (ac := c_slices_Clone_Attr_AttrO) hF (by simp) (by simp [lbss,AV.lbs]) ?_
 unfold c_slices_Clone_Attr_AttrO
 simp only [↓aX,mX,reduceCtorEq,Nat.reduceEqDiff,Nat.reduceLT,Nat.reduceLeDiff,Nat.reduceAdd,Nat.reduceMul,Int.reduceToNat,Int.reduceLE,Int.reduceLT,a1_eqn]
 refine nK_list (fun h => ?_) ?_
 · simp only [↓aX,mX,reduceCtorEq,Nat.reduceEqDiff,Nat.reduceLT,Nat.reduceLeDiff,Nat.reduceAdd,Nat.reduceMul,Int.reduceToNat,Int.reduceLE,Int.reduceLT]
   refine ⟨.loc 2,?_,?_⟩
   · rw [h]; rfl
   · rw [h]; rfl
 · simp only [↓aX,mX,reduceCtorEq,Nat.reduceEqDiff,Nat.reduceLT,Nat.reduceLeDiff,Nat.reduceAdd,Nat.reduceMul,Int.reduceToNat,Int.reduceLE,Int.reduceLT]
   rw [app_nil' 2 32 7 (ivA xs) (elszA _) (flatA _) (by rw [ivA_len]; unfold B at hx; omega) (by decide) rfl]
   simp only [↓aX,mX,reduceCtorEq,Nat.reduceEqDiff,Nat.reduceLT,Nat.reduceLeDiff,Nat.reduceAdd,Nat.reduceMul,Int.reduceToNat,Int.reduceLE,Int.reduceLT]
   exact ⟨.loc 7,rfl,by simp [upd_at]⟩
theorem oCloneI {f_slices_Clone_int_int : Nat} (hF : compF P G f_slices_Clone_int_int = some (8,[(none,2)],c_slices_Clone_int_int.bare)) (xs : List Int) (hx : xs.length ≤ B) : OwnC P G f_slices_Clone_int_int [.list (xs.map intIV)] 1 (xs.map intIV) := by
 refine own_of_go (ac := c_slices_Clone_int_intO) hF (by simp) (by simp [lbss,AV.lbs]) ?_
 unfold c_slices_Clone_int_intO
 simp only [↓aX,mX,reduceCtorEq,Nat.reduceEqDiff,Nat.reduceLT,Nat.reduceLeDiff,Nat.reduceAdd,Nat.reduceMul,Int.reduceToNat,Int.reduceLE,Int.reduceLT,a1_eqn]
 refine nK_list (fun h => ?_) ?_
 · simp only [↓aX,mX,reduceCtorEq,Nat.reduceEqDiff,Nat.reduceLT,Nat.reduceLeDiff,Nat.reduceAdd,Nat.reduceMul,Int.reduceToNat,Int.reduceLE,Int.reduceLT]
   refine ⟨.loc 2,?_,?_⟩
   · rw [List.map_eq_nil_iff.1 h]; rfl
   · rw [h]; rfl
 · simp only [↓aX,mX,reduceCtorEq,Nat.reduceEqDiff,Nat.reduceLT,Nat.reduceLeDiff,Nat.reduceAdd,Nat.reduceMul,Int.reduceToNat,Int.reduceLE,Int.reduceLT]
   rw [app_nil' 1 8 7 (xs.map intIV) (elszI _) (flatI _) (by rw [List.length_map]; unfold B at hx; omega) (by decide) rfl]
   simp only [↓aX,mX,reduceCtorEq,Nat.reduceEqDiff,Nat.reduceLT,Nat.reduceLeDiff,Nat.reduceAdd,Nat.reduceMul,Int.reduceToNat,Int.reduceLE,Int.reduceLT]
   exact ⟨.loc 7,rfl,by simp [upd_at]⟩
def idxI (xs : List Int) (v : Int) : Int := match xs.findIdx? (· == v) with | some k => (k : Int) | none => -1
theorem idxI_at {xs : List Int} {v : Int} {k : Nat} (h : xs[k]? = some v) (hb : ∀ j,j < k → xs[j]? ≠ some v) : idxI xs v = k := by
 have : xs.findIdx? (· == v) = some k := by
   rw [List.findIdx?_eq_some_iff_getElem]
   obtain ⟨hk,e⟩ := List.getElem?_eq_some_iff.1 h
   refine ⟨hk,by simp [e],fun j hj => ?_⟩
   have h2 := hb j hj
   rw [List.getElem?_eq_getElem (by omega)] at h2
   simpa using h2
 rw [idxI,this]
theorem idxI_none {xs : List Int} {v : Int} (h : ∀ j,j < xs.length → xs[j]? ≠ some v) : idxI xs v = -1 := by
 have : xs.findIdx? (· == v) = none := by
   rw [List.findIdx?_eq_none_iff]
   intro x hx
   obtain ⟨j,hj⟩ := List.getElem?_of_mem hx
   have h2 := h j (List.getElem?_eq_some_iff.1 hj).1
   rw [hj] at h2
   simpa using h2
 rw [idxI,this]
theorem intGet' (xs : List Int) (i : Nat) : (xs.map intIV)[i]? = (xs[i]?).map intIV := List.getElem?_map ..
theorem intIV_cs' (n : Int) : (intIV n).cells = [.int .i64 n] := rfl
def c_slices_Index_int_int : AC :=
(.seq (.reg [⟨some 4,none,.mov (.c (.int .i64 0))⟩]) (.seq (.seq (.reg [⟨some 6,none,.mov (.t 0)⟩,⟨some 7,none,.len (.t 6)⟩,⟨some 8,none,.mov (.c (.int .i64 0))⟩]) (.block 0 (.loop (.seq (.reg [⟨some 9,none,.bin .lss (.t 8) (.t 7)⟩]) (.seq (.cond (.t 9) .skip (.exit 0)) (.seq (.block 1 (.seq (.reg [⟨some 10,none,.mov (.t 8)⟩,⟨some 5,none,.mov (.t 10)⟩]) (.seq (.reg [⟨some 11,none,.mov (.t 1)⟩,⟨some 12,none,.mov (.t 0)⟩,⟨some 13,none,.mov (.t 5)⟩,⟨some 14,none,.ixa (.t 12) (.t 13) 1⟩,⟨some 15,none,.load none (.t 14)⟩,⟨some 16,none,.bin .eql (.t 11) (.t 15)⟩]) (.cond (.t 16) (.seq (.reg [⟨some 17,none,.mov (.t 5)⟩,⟨some 4,none,.mov (.t 17)⟩]) .ret) .skip)))) (.reg [⟨some 18,none,.bin .add (.t 8) (.c (.int .i64 1))⟩,⟨some 8,none,.mov (.t 18)⟩]))))))) (.seq (.reg [⟨some 4,none,.mov (.c (.int .i64 (-1)))⟩]) .ret)))
theorem pIndexInt {f_slices_Index_int_int : Nat} (hF : compF P G f_slices_Index_int_int = some (19,[(none,4)],c_slices_Index_int_int.bare)) (xs : List Int) (v : Int) (hx : xs.length ≤ B) :
   PureC P G f_slices_Index_int_int [.list (xs.map intIV),.int .i64 v] (.int .i64 (idxI xs v)) := by
 refine pure_of_go hF (by simp) (by simp [lbss,AV.lbs]) (by simp [AV.lbs]) ?_
 unfold c_slices_Index_int_int
 simp only [↓aX,mX,reduceCtorEq,Nat.reduceEqDiff,Nat.reduceLT,Nat.reduceLeDiff,Nat.reduceAdd,Nat.reduceMul,Int.reduceToNat,Int.reduceLE,Int.reduceLT,List.length_map]
 refine loop_data (σ := { i : Nat // i ≤ xs.length ∧ ∀ j,j < i → xs[j]? ≠ some v }) (fun q => [(0,.list (xs.map intIV)),(1,.int .i64 v),(7,.int .i64 xs.length),(8,.int .i64 q.1)]) (fun q => xs.length - q.1) ⟨0,by simp⟩ (fun _ => rfl) ?_ ?_
 · exact ⟨by simp only [↓aX,mX,reduceCtorEq,Nat.reduceEqDiff,Nat.reduceLT,Nat.reduceLeDiff,Nat.reduceAdd,Nat.reduceMul,Int.reduceToNat,Int.reduceLE,Int.reduceLT],by repeat' constructor⟩
 · rintro ⟨i,hi,hs⟩
   simp only [↓aX,mX,reduceCtorEq,Nat.reduceEqDiff,Nat.reduceLT,Nat.reduceLeDiff,Nat.reduceAdd,Nat.reduceMul,Int.reduceToNat,Int.reduceLE,Int.reduceLT,List.length_map]
   by_cases hlt : i < xs.length
   · rw [show decide ((i : Int) < (xs.length : Int)) = true by simpa using hlt]
     obtain ⟨x,hx1⟩ : ∃ x,xs[i]? = some x := ⟨_,List.getElem?_eq_getElem hlt⟩
     have hw : IntKind.i64.wrap ((i : Int) + 1) = ((i + 1 : Nat) : Int) := wrap64 (by omega) (by unfold B at hx; omega)
     simp only [↓aX,mX,reduceCtorEq,Nat.reduceEqDiff,Nat.reduceLT,Nat.reduceLeDiff,Nat.reduceAdd,Nat.reduceMul,Int.reduceToNat,Int.reduceLE,Int.reduceLT,intGet',hx1,Option.map_some,elszI,intIV_cs',hw]
     by_cases hxy : x = v
     · subst hxy
       rw [idxI_at hx1 hs]
       simp only [↓aX,mX,reduceCtorEq,Nat.reduceEqDiff,Nat.reduceLT,Nat.reduceLeDiff,Nat.reduceAdd,Nat.reduceMul,Int.reduceToNat,Int.reduceLE,Int.reduceLT]
     · rw [show (v == x) = false by simpa using fun e => hxy e.symm]
       simp only [↓aX,mX,reduceCtorEq,Nat.reduceEqDiff,Nat.reduceLT,Nat.reduceLeDiff,Nat.reduceAdd,Nat.reduceMul,Int.reduceToNat,Int.reduceLE,Int.reduceLT,hw]
       refine ⟨⟨i + 1,hlt,fun j hj => ?_⟩,by simp only; omega,rfl⟩
       by_cases e : j = i
       · rw [e,hx1]; simpa using hxy
       · exact hs j (by omega)
   · rw [show decide ((i : Int) < (xs.length : Int)) = false by simpa using hlt]
     simp only [↓aX,mX,reduceCtorEq,Nat.reduceEqDiff,Nat.reduceLT,Nat.reduceLeDiff,Nat.reduceAdd,Nat.reduceMul,Int.reduceToNat,Int.reduceLE,Int.reduceLT]
     rw [idxI_none fun j hj => hs j (by omega)]
end
end Go.Am

/- THE ABSTRACT MACHINE, part 46: room that is known: what append and copy do. -/
namespace Go.Am
open Go Go.RowKit
section
variable {H : Hp} {l : Lb} {sz b d n c i m : Nat} {els news : List (List AV)} {xs : List IV}
theorem app_slk_in (hl : H l = .live ⟨sz,els⟩) (hn : n ≤ els.length) (he : Elsz sz xs) (hf : Flat xs) (h0 : 0 < b) (hd : l ≠ .loc d) (hc : n + xs.length ≤ c) (hc2 : n + xs.length ≤ els.length) :
   appV sz b d (.slk l sz 0 n c) (.list xs) H = some (.slk l sz 0 (n + xs.length) c,upd H l (.live ⟨sz,els.take n ++ immE xs ++ els.drop (n + xs.length)⟩)) := by
 unfold appV
 rw [srcE_list he]
 have h1 : (immE xs).length = xs.length := immE_len xs
 simp only [Option.bind_some,hf.one,not_true_eq_false,if_false,hl,true_and,hn,h0,Ne.symm,ne_eq,hd,not_false_eq_true,h1,hc,hc2,if_true]
 simpa using hf.one
theorem app_slk_src {x : AV} (hs : srcE sz x H = some news) (ho : ∀ cs ∈ news,AV.one1 cs) (hl : H l = .live ⟨sz,els⟩) (hn : n ≤ els.length) (h0 : 0 < b) (hd : l ≠ .loc d) (hc : n + news.length ≤ c) (hc2 : n + news.length ≤ els.length) :
   appV sz b d (.slk l sz 0 n c) x H = some (.slk l sz 0 (n + news.length) c,upd H l (.live ⟨sz,els.take n ++ news ++ els.drop (n + news.length)⟩)) := by
 unfold appV
 simp only [hs,Option.bind_some,hl,true_and,hn,h0,ne_eq,hd,not_false_eq_true,hc,hc2,if_true]
 simpa using ho
theorem clr_in {x : AV} {z : List AV} (hz : AV.one1 z) (hp : slP x = some (l,sz,i,n)) (hl : H l = .live ⟨sz,els⟩) (hin : i + n ≤ els.length) :
   clrV sz z x H = some (upd H l (.live ⟨sz,els.take i ++ List.replicate n z ++ els.drop (i + n)⟩)) := by
 unfold clrV
 rw [if_neg (by simpa using hz)]
 simp only [hp,Option.bind_some,hl,true_and,hin,if_true,List.length_replicate]
theorem app_slk_out (hl : H l = .live ⟨sz,els⟩) (hn : n ≤ els.length) (he : Elsz sz xs) (hf : Flat xs) (h0 : 0 < b) (hd : l ≠ .loc d) (hc : c < n + xs.length) (hb : (n + xs.length) * b ≤ 140737488355328) (hu : H (.loc d) = .unused) :
   appV sz b d (.slk l sz 0 n c) (.list xs) H = some (.sl (.loc d) sz 0 (n + xs.length),upd H (.loc d) (.live ⟨sz,els.take n ++ immE xs⟩)) := by
 unfold appV
 rw [srcE_list he]
 have h1 : (immE xs).length = xs.length := immE_len xs
 have hc' : ¬ (n + xs.length ≤ c) := by omega
 simp only [Option.bind_some,hl,true_and,hn,h0,ne_eq,hd,not_false_eq_true,h1,hc',hb,hu,if_true,if_false,and_self]
 simpa using hf.one
theorem appz_out {z : List AV} {k : IntKind} (hl : H l = .live ⟨sz,els⟩) (hn : n ≤ els.length) (hc : c < n + m) (hb : (n + m) * b ≤ 140737488355328) (hu : H (.loc d) = .unused) :
   appzV sz b d z (.slk l sz 0 n c) (.int k (m : Int)) H = some (.sl (.loc d) sz 0 (n + m),upd H (.loc d) (.live ⟨sz,els.take n ++ List.replicate m z⟩)) := by
 unfold appzV
 simp only [hl,true_and,hn,Int.natCast_nonneg,Int.toNat_natCast,hc,hb,hu,and_self,if_true]
theorem cpy_in {x y : AV} (hs : srcE sz x H = some news) (hp : slP y = some (l,sz,i,n)) (hl : H l = .live ⟨sz,els⟩) (hin : i + n ≤ els.length) (hm : m = Nat.min news.length n) (ho : ∀ cs ∈ news.take m,AV.one1 cs) :
   cpyV sz y x H = some (.int .i64 (m : Int),upd H l (.live ⟨sz,els.take i ++ news.take m ++ els.drop (i + m)⟩)) := by
 unfold cpyV
 subst hm
 simp only [hs,Option.bind_some,hp,hl,true_and,hin,if_true]
 rw [if_neg (by simpa using ho)]
 have : (news.take (Nat.min news.length n)).length = Nat.min news.length n := by rw [List.length_take]; exact Nat.min_eq_left (Nat.min_le_left _ _)
 rw [this]
end
theorem imm_part {xs : List IV} {rest : List (List AV)} {i k : Nat} (h : i + k ≤ xs.length) : ((immE xs ++ rest).drop i).take k = immE ((xs.drop i).take k) := by
 have h1 := immE_len xs
 rw [List.drop_append_of_le_length (by omega),List.take_append_of_le_length (by simp; omega)]
 simp [immE,List.map_drop,List.map_take]
theorem imm_take {xs : List IV} {rest : List (List AV)} {k : Nat} (h : k ≤ xs.length) : (immE xs ++ rest).take k = immE (xs.take k) := by
 have h1 := immE_len xs
 rw [List.take_append_of_le_length (by omega)]
 simp [immE,List.map_take]
theorem Flat.part {xs : List IV} (h : Flat xs) (i k : Nat) : Flat ((xs.drop i).take k) := fun y hy => h y (List.mem_of_mem_drop (List.mem_of_mem_take hy))
end Go.Am

/- Trees out of their own text. -/
namespace Go.Am
open Go Go.RowKit
theorem u8_lt_irr (a : UInt8) : ¬ a < a := by rw [UInt8.lt_iff_toNat_lt]; omega
theorem u8_lt_tr {a b c : UInt8} (h : a < b) (h2 : b < c) : a < c := by rw [UInt8.lt_iff_toNat_lt] at *; omega
theorem u8_tri (a b : UInt8) : a < b ∨ a = b ∨ b < a := by
 simp only [UInt8.lt_iff_toNat_lt]
 rcases Nat.lt_trichotomy a.toNat b.toNat with h | h | h
 · exact .inl h
 · exact .inr (.inl (UInt8.toNat.inj h))
 · exact .inr (.inr h)
theorem bl_irr : ∀ x : Bs,Op.bytesLess x x = false
 | [] => rfl
 | a :: x => by simp [Op.bytesLess,u8_lt_irr,bl_irr x]
theorem bl_tr : ∀ {x y z : Bs},Op.bytesLess x y = true → Op.bytesLess y z = true → Op.bytesLess x z = true
 | [],[],_,h,_ => by simp [Op.bytesLess] at h
 | [],_ :: _,[],_,h => by simp [Op.bytesLess] at h
 | [],_ :: _,_ :: _,_,_ => rfl
 | _ :: _,[],_,h,_ => by simp [Op.bytesLess] at h
 | _ :: _,_ :: _,[],_,h => by simp [Op.bytesLess] at h
 | a :: x,b :: y,c :: z,h1,h2 => by
   simp only [Op.bytesLess,Bool.or_eq_true,decide_eq_true_eq,Bool.and_eq_true,beq_iff_eq] at h1 h2 ⊢
   rcases h1 with h1 | ⟨rfl,h1⟩
   · rcases h2 with h2 | ⟨rfl,h2⟩
     · exact .inl (u8_lt_tr h1 h2)
     · exact .inl h1
   · rcases h2 with h2 | ⟨rfl,h2⟩
     · exact .inl h2
     · exact .inr ⟨rfl,bl_tr h1 h2⟩
theorem bl_asym {x y : Bs} (h : Op.bytesLess x y = true) : Op.bytesLess y x = false := by
 cases h2 : Op.bytesLess y x with
 | false => rfl
 | true => have := bl_tr h h2; rw [bl_irr] at this; cases this
theorem bl_tri : ∀ x y : Bs,Op.bytesLess x y = true ∨ x = y ∨ Op.bytesLess y x = true
 | [],[] => .inr (.inl rfl)
 | [],_ :: _ => .inl rfl
 | _ :: _,[] => .inr (.inr rfl)
 | a :: x,b :: y => by
   simp only [Op.bytesLess,Bool.or_eq_true,decide_eq_true_eq,Bool.and_eq_true,beq_iff_eq,List.cons.injEq]
   rcases u8_tri a b with h | rfl | h
   · exact .inl (.inl h)
   · rcases bl_tri x y with h | rfl | h
     · exact .inl (.inr ⟨rfl,h⟩)
     · exact .inr (.inl ⟨rfl,rfl⟩)
     · exact .inr (.inr (.inr ⟨rfl,h⟩))
   · exact .inr (.inr (.inl h))
def risA : List Attr → Bool
 | [] => true
 | [_] => true
 | a :: b :: r => Op.bytesLess a.name b.name && risA (b :: r)
theorem okAttr_cons (a : Attr) (l : List Attr) (i : Nat) : okAttr (a :: l) (i + 1) = (okAttr l i && (if i = 0 then match l[0]? with | some b => Op.bytesLess a.name b.name | none => true else true)) := by
 unfold okAttr
 cases i with
 | zero =>
   simp only [List.getElem?_cons_succ,Nat.zero_add,Nat.add_sub_cancel,List.getElem?_cons_zero,if_true]
   cases l[0]? <;> simp [Bool.and_assoc]
 | succ i =>
   simp only [List.getElem?_cons_succ,Nat.add_sub_cancel]
   cases l[i + 1]? <;> simp
theorem goodAttrs_iff (as : List Attr) : goodAttrs as = true ↔ (∀ a ∈ as,named a.name = true ∧ plain a.val = true) ∧ risA as = true ∧ as.length ≤ 4 := by
 have key : ∀ as : List Attr,(∀ i,i < as.length → okAttr as i = true) ↔ (∀ a ∈ as,named a.name = true ∧ plain a.val = true) ∧ risA as = true := by
   intro as
   induction as with
   | nil => simp [risA]
   | cons a l ih =>
     constructor
     · intro h
       have h0 := h 0 (by simp)
       have ih' := ih.1 fun i hi => by
         have := h (i + 1) (by simpa using hi)
         rw [okAttr_cons,Bool.and_eq_true] at this; exact this.1
       simp only [okAttr,List.getElem?_cons_zero,Bool.and_eq_true] at h0
       refine ⟨fun x hx => ?_,?_⟩
       · simp only [List.mem_cons] at hx
         rcases hx with rfl | hx
         · exact ⟨h0.1,h0.2.1⟩
         · exact ih'.1 x hx
       · cases l with
         | nil => rfl
         | cons b r =>
           have := h 1 (by simp)
           rw [okAttr_cons,Bool.and_eq_true] at this
           simp only [risA,Bool.and_eq_true]
           exact ⟨by simpa using this.2,ih'.2⟩
     · rintro ⟨h1,h2⟩ i hi
       have hl : ∀ i,i < l.length → okAttr l i = true := ih.2 ⟨fun x hx => h1 x (by simp [hx]),by
         cases l with
         | nil => rfl
         | cons b r => simp only [risA,Bool.and_eq_true] at h2; exact h2.2⟩
       cases i with
       | zero => simp [okAttr,(h1 a (by simp)).1,(h1 a (by simp)).2]
       | succ i =>
         rw [okAttr_cons,hl i (by simpa using hi)]
         cases l with
         | nil => simp at hi
         | cons b r =>
           simp only [risA,Bool.and_eq_true] at h2
           by_cases e : i = 0
           · simp [e,h2.1]
           · simp [e]
 unfold goodAttrs
 rw [Bool.and_eq_true,List.all_eq_true,← and_assoc,← key]
 constructor
 · rintro ⟨h1,h2⟩
   simp only [decide_eq_true_eq] at h2
   exact ⟨fun i hi => h1 i (by simpa using hi),by omega⟩
 · rintro ⟨h1,h2⟩
   exact ⟨fun i hi => h1 i (by simpa using hi),by simp only [decide_eq_true_eq]; omega⟩
theorem risA_lt : ∀ {a : Attr} {l : List Attr},risA (a :: l) = true → ∀ b ∈ l,Op.bytesLess a.name b.name = true
 | _,[],_,b,hb => by simp at hb
 | a,c :: r,h,b,hb => by
   simp only [risA,Bool.and_eq_true] at h
   simp only [List.mem_cons] at hb
   rcases hb with rfl | hb
   · exact h.1
   · exact bl_tr h.1 (risA_lt h.2 b hb)
theorem risA_tail {a : Attr} {l : List Attr} (h : risA (a :: l) = true) : risA l = true := by
 cases l with
 | nil => rfl
 | cons b r => simp only [risA,Bool.and_eq_true] at h; exact h.2
end Go.Am

/- Letters: sets of bytes; a string cut at both ends. -/
namespace Go.Am
open Go Go.RowKit
def setA (f : Nat → Bool) : List AV := (List.range 256).map fun i => .bool (f i)
end Go.Am

/- Strings cut and split. -/
namespace Go.Am
open Go Go.RowKit
theorem ext_of {S : St} {f : Nat} {fn : Func} {e : Array Value → Sem Value} {args : List AV} {H : Hp} {res : AV} (hf : S.P.funcs[f]? = some fn) (hname : (fn.name == "runtime.NumGoroutine") = false) (hb : fn.body.isNone = true)
   (hn : Extern.findNext fn = none) (he : Extern.find fn = some e) (hr : ∀ (w : World) (β : Lb → Option Nat) (I : Nat → Prop) (vs : List Value),RVs w β H I args vs → ∃ v,(e vs.toArray).run S.P w = .ok v w ∧ RV w β H I res v) (hl : res.lbs = []) :
   ExtC S f args H res := by
 intro K β env a w vs hS hrel hv
 subst hS
 obtain ⟨v,h1,h2⟩ := hr w β _ vs hv
 refine ⟨v,w,?_,Below.refl _ _,h2,by simp [hl]⟩
 rw [run_callFunc_extern hf hname hb hn he,h1]
 rfl
theorem rvs2 {w : World} {β : Lb → Option Nat} {H : Hp} {I : Nat → Prop} {x y : AV} {vs : List Value} (h : RVs w β H I [x,y] vs) : ∃ u v,vs = [u,v] ∧ RV w β H I x u ∧ RV w β H I y v := by
 match vs,h with
 | [u,v],h =>
   simp only [RVs] at h
   obtain ⟨_,_,h0,h1,_,_,h2,h3,h4⟩ := h
   cases h0; cases h2; cases h4
   exact ⟨u,v,rfl,h1,h3⟩
theorem ext_compare {S : St} {f : Nat} {fn : Func} (hf : S.P.funcs[f]? = some fn) (hname : (fn.name == "runtime.NumGoroutine") = false) (hb : fn.body.isNone = true)
   (hn : Extern.findNext fn = none) (he : Extern.find fn = some Extern.BytealgCompare.compare) (s t : Bs) (H : Hp) : ExtC S f [.str s,.str t] H (.int .i64 (Lib.compareBytes s t)) := by
 refine ext_of hf hname hb hn he (fun w β I vs hv => ?_) rfl
 obtain ⟨u,v,rfl,h1,h2⟩ := rvs2 hv
 simp only [RV] at h1 h2
 subst h1; subst h2
 exact ⟨_,Lib.run_compareString _ _ _,by simp [RV]⟩
def splitC (c : UInt8) : Bs → List Bs
 | [] => [[]]
 | b :: r => if b = c then [] :: splitC c r else match splitC c r with
   | w :: ws => (b :: w) :: ws
   | [] => [[b]]
section
variable {P : Program} {G : Nat → Option (List IV)}
end
end Go.Am

/- THE ABSTRACT MACHINE, part 47: calls of values. -/
namespace Go.Am
open Go Go.RowKit
section
variable {S : St} {env : Env} {H : Hp}
def cvK (S : St) (x : AV) (args : List AV) (H : Hp) (k : AV → Hp → Prop) (_ : Tw k) : Prop := ∃ f first cap,x = .fn f first cap ∧ goBody S.P f = true ∧ CallT S f (first ++ args ++ cap) H k
theorem a1_callv (d : Option Nat) (x : O) (args : List O) (k : AV → Hp → Prop) : Act1 S d (.callv x args) env H k = cvK S (ev env x) (args.map (ev env)) H k .mk := rfl
theorem cvK_fn (f : Nat) (first cap args : List AV) (k : AV → Hp → Prop) (u : Tw k) : cvK S (.fn f first cap) args H k u = (goBody S.P f = true ∧ clK S f (first ++ args ++ cap) H k .mk) := by
 simp only [cvK,clK,AV.fn.injEq,eq_iff_iff]
 constructor
 · rintro ⟨_,_,_,⟨rfl,rfl,rfl⟩,h⟩; exact h
 · intro h; exact ⟨_,_,_,⟨rfl,rfl,rfl⟩,h⟩
end
end Go.Am

/- Reading: attributes. -/
set_option pp.deepTerms false
set_option pp.deepTerms.threshold 5
namespace Go.Am
open Go Go.RowKit
theorem wtA_app : ∀ l m : List Attr,wtA (l ++ m) = wtA l + wtA m
 | [],m => by simp [wtA]
 | a :: r,m => by simp [wtA,wtA_app r m]; omega
section
variable {P : Program} {G : Nat → Option (List IV)}
end
end Go.Am

/- Attributes sorted. -/
set_option pp.deepTerms false
set_option pp.deepTerms.threshold 5
namespace Go.Am
open Go Go.RowKit
def Attr.avA (a : Attr) : AV := .agg [.str a.name,.str a.val]
section
variable {P : Program} {G : Nat → Option (List IV)}
def c_internal_bytealg_CompareString (f_internal_bytealg_abigen_runtime_cmpstring : Nat) : AC :=
(.seq (.reg [⟨some 4,none,.mov (.c (.int .i64 0))⟩]) (.seq (.reg [⟨some 5,none,.mov (.t 0)⟩,⟨some 6,none,.mov (.t 1)⟩,⟨some 7,none,.callx f_internal_bytealg_abigen_runtime_cmpstring [(.t 5),(.t 6)]⟩,⟨some 4,none,.mov (.t 7)⟩]) .ret))
theorem pCmpString {f_internal_bytealg_CompareString f_internal_bytealg_abigen_runtime_cmpstring : Nat} (hF : compF P G f_internal_bytealg_CompareString = some (8,[(none,4)],(c_internal_bytealg_CompareString f_internal_bytealg_abigen_runtime_cmpstring).bare))
   (hX : ∀ (N : Nat) (s t : Bs) (H : Hp),ExtC ⟨P,G,N⟩ f_internal_bytealg_abigen_runtime_cmpstring [.str s,.str t] H (.int .i64 (Lib.compareBytes s t))) (s t : Bs) :
   PureC P G f_internal_bytealg_CompareString [.str s,.str t] (.int .i64 (Lib.compareBytes s t)) := by
 refine pure_of_go hF (by simp) (by simp [lbss,AV.lbs]) (by simp [AV.lbs]) ?_
 unfold c_internal_bytealg_CompareString
 simp only [↓aX,mX,reduceCtorEq,Nat.reduceEqDiff,Nat.reduceLT,Nat.reduceLeDiff,Nat.reduceAdd,Nat.reduceMul,Int.reduceToNat,Int.reduceLE,Int.reduceLT]
 refine exK_in (hX _ _ _ _) ?_
 simp only [↓aX,mX,reduceCtorEq,Nat.reduceEqDiff,Nat.reduceLT,Nat.reduceLeDiff,Nat.reduceAdd,Nat.reduceMul,Int.reduceToNat,Int.reduceLE,Int.reduceLT]
def c_strings_Compare (f_internal_bytealg_CompareString : Nat) : AC :=
(.seq (.reg [⟨some 4,none,.mov (.c (.int .i64 0))⟩]) (.seq (.reg [⟨some 5,none,.mov (.t 0)⟩,⟨some 6,none,.mov (.t 1)⟩,⟨some 7,none,.call f_internal_bytealg_CompareString [(.t 5),(.t 6)]⟩,⟨some 4,none,.mov (.t 7)⟩]) .ret))
theorem pCompare {f_strings_Compare f_internal_bytealg_CompareString : Nat} (hF : compF P G f_strings_Compare = some (8,[(none,4)],(c_strings_Compare f_internal_bytealg_CompareString).bare)) (s t : Bs) (hC : PureC P G f_internal_bytealg_CompareString [.str s,.str t] (.int .i64 (Lib.compareBytes s t))) :
   PureC P G f_strings_Compare [.str s,.str t] (.int .i64 (Lib.compareBytes s t)) := by
 refine pure_of_go hF (by simp) (by simp [lbss,AV.lbs]) (by simp [AV.lbs]) ?_
 unfold c_strings_Compare
 simp only [↓aX,mX,reduceCtorEq,Nat.reduceEqDiff,Nat.reduceLT,Nat.reduceLeDiff,Nat.reduceAdd,Nat.reduceMul,Int.reduceToNat,Int.reduceLE,Int.reduceLT]
 refine callT_pure hC ?_
 simp only [↓aX,mX,reduceCtorEq,Nat.reduceEqDiff,Nat.reduceLT,Nat.reduceLeDiff,Nat.reduceAdd,Nat.reduceMul,Int.reduceToNat,Int.reduceLE,Int.reduceLT]
theorem cmpB_neg : ∀ s t : Bs,decide (Lib.compareBytes s t < 0) = Op.bytesLess s t
 | [],[] => rfl
 | [],_ :: _ => rfl
 | _ :: _,[] => rfl
 | a :: as,b :: bs => by
   have ih := cmpB_neg as bs
   simp only [Lib.compareBytes,Op.bytesLess]
   by_cases h1 : a < b
   · simp [h1]
   · by_cases h2 : b < a
     · simp only [h1,h2,if_true,if_false]
       have : ¬ a = b := fun e => h1 (by rw [e] at h2; exact absurd h2 (u8_lt_irr _))
       simp_all
     · have h3 : a = b := (u8_tri a b).elim (fun h => absurd h h1) (fun h => h.elim id (fun h => absurd h h2))
       subst h3
       simp only [u8_lt_irr,if_false,ih]
       try simp
end
end Go.Am

/- Attributes: where a name stands among sorted ones. -/
set_option pp.deepTerms false
set_option pp.deepTerms.threshold 5
namespace Go.Am
open Go Go.RowKit
def posA (as : List Attr) (key : Bs) : Nat := (as.takeWhile fun a => Op.bytesLess a.name key).length
def hasA (as : List Attr) (key : Bs) : Bool := match as[posA as key]? with | some a => a.name == key | none => false
theorem posA_of {key : Bs} : ∀ {as : List Attr} {k : Nat},k ≤ as.length → (∀ j a,j < k → as[j]? = some a → Op.bytesLess a.name key = true) → (∀ a,as[k]? = some a → Op.bytesLess a.name key = false) → posA as key = k
 | [],k,h,_,_ => by simp at h; subst h; rfl
 | a :: r,0,_,_,h2 => by
   have := h2 a rfl
   simp [posA,List.takeWhile_cons,this]
 | a :: r,k + 1,h,h1,h2 => by
   have ha := h1 0 a (by omega) rfl
   have ih := posA_of (key := key) (as := r) (k := k) (by simpa using h) (fun j b hj hb => h1 (j + 1) b (by omega) (by simpa using hb)) (fun b hb => h2 b (by simpa using hb))
   simp only [posA] at ih
   simp [posA,List.takeWhile_cons,ha,ih]
theorem risA_get {as : List Attr} (h : risA as = true) : ∀ {i j : Nat} {a b : Attr},i < j → as[i]? = some a → as[j]? = some b → Op.bytesLess a.name b.name = true := by
 induction as with
 | nil => intro i j a b _ hi; simp at hi
 | cons x r ih =>
   intro i j a b hij hi hj
   cases j with
   | zero => omega
   | succ j =>
     simp only [List.getElem?_cons_succ] at hj
     cases i with
     | zero =>
       simp only [List.getElem?_cons_zero,Option.some.injEq] at hi
       subst hi
       exact risA_lt h b (List.mem_of_getElem? hj)
     | succ i => exact ih (risA_tail h) (Nat.lt_of_succ_lt_succ hij) (by simpa using hi) hj
section
variable {P : Program} {G : Nat → Option (List IV)}
def c_change_bench_attr_1 (f_strings_Compare : Nat) : AC :=
(.seq (.reg [⟨some 2,none,.box (.t 0)⟩,⟨some 4,none,.mov (.c (.int .i64 0))⟩]) (.seq (.reg [⟨some 5,none,.fld (.t 2) 0⟩,⟨some 6,none,.load none (.t 5)⟩,⟨some 7,none,.mov (.t 1)⟩,⟨some 8,none,.call f_strings_Compare [(.t 6),(.t 7)]⟩,⟨some 4,none,.mov (.t 8)⟩]) .ret))
theorem pCmpK {f_change_bench_attr_1 f_strings_Compare : Nat} (hF : compF P G f_change_bench_attr_1 = some (9,[(none,4)],(c_change_bench_attr_1 f_strings_Compare).bare)) (a : Attr) (s : Bs) (hC : PureC P G f_strings_Compare [.str a.name,.str s] (.int .i64 (Lib.compareBytes a.name s))) :
   PureC P G f_change_bench_attr_1 [a.avA,.str s] (.int .i64 (Lib.compareBytes a.name s)) := by
 refine pure_of_go hF (by simp) (by simp [lbss,AV.lbs,Attr.avA]) (by simp [AV.lbs]) ?_
 unfold c_change_bench_attr_1
 simp only [↓aX,mX,reduceCtorEq,Nat.reduceEqDiff,Nat.reduceLT,Nat.reduceLeDiff,Nat.reduceAdd,Nat.reduceMul,Int.reduceToNat,Int.reduceLE,Int.reduceLT,Attr.avA]
 refine callT_pure hC ?_
 simp only [↓aX,mX,reduceCtorEq,Nat.reduceEqDiff,Nat.reduceLT,Nat.reduceLeDiff,Nat.reduceAdd,Nat.reduceMul,Int.reduceToNat,Int.reduceLE,Int.reduceLT]
theorem cmp_zero : ∀ s t : Bs,(Lib.compareBytes s t == 0) = (s == t)
 | [],[] => rfl
 | [],_ :: _ => rfl
 | _ :: _,[] => rfl
 | a :: as,b :: bs => by
   have ih := cmp_zero as bs
   simp only [Lib.compareBytes]
   by_cases h1 : a < b
   · have : a ≠ b := fun e => by subst e; exact absurd h1 (u8_lt_irr _)
     simp [h1,this]
   · by_cases h2 : b < a
     · have : a ≠ b := fun e => by subst e; exact absurd h2 (u8_lt_irr _)
       simp [h1,h2,this]
     · have h3 : a = b := (u8_tri a b).elim (fun h => absurd h h1) (fun h => h.elim id (fun h => absurd h h2))
       subst h3
       simp [u8_lt_irr,ih]
def c_slices_BinarySearchFunc_Attr_Attr_string : AC :=
(.seq (.reg [⟨some 6,none,.mov (.c (.int .i64 0))⟩,⟨some 7,none,.mov (.c (.bool false))⟩]) (.seq (.reg [⟨some 12,none,.mov (.t 0)⟩,⟨some 13,none,.len (.t 12)⟩,⟨some 8,none,.mov (.t 13)⟩]) (.seq (.reg [⟨some 14,none,.mov (.t 8)⟩,⟨some 9,none,.mov (.c (.int .i64 0))⟩,⟨some 10,none,.mov (.t 14)⟩]) (.seq (.block 0 (.loop (.seq (.seq (.reg [⟨some 15,none,.mov (.t 9)⟩,⟨some 16,none,.mov (.t 10)⟩,⟨some 17,none,.bin .lss (.t 15) (.t 16)⟩]) (.cond (.t 17) .skip (.exit 0))) (.block 1 (.seq (.reg [⟨some 18,none,.mov (.t 9)⟩,⟨some 19,none,.mov (.t 10)⟩,⟨some 20,none,.bin .add (.t 18) (.t 19)⟩,⟨some 21,none,.cvi .u64 (.t 20)⟩,⟨some 22,none,.bin .shr (.t 21) (.c (.int .u64 1))⟩,⟨some 23,none,.cvi .i64 (.t 22)⟩,⟨some 11,none,.mov (.t 23)⟩]) (.seq (.reg [⟨some 24,none,.mov (.t 2)⟩,⟨some 25,none,.mov (.t 0)⟩,⟨some 26,none,.mov (.t 11)⟩,⟨some 27,none,.ixa (.t 25) (.t 26) 2⟩,⟨some 28,none,.load (some 2) (.t 27)⟩,⟨some 29,none,.mov (.t 1)⟩,⟨some 30,none,.callv (.t 24) [(.t 28),(.t 29)]⟩,⟨some 31,none,.bin .lss (.t 30) (.c (.int .i64 0))⟩]) (.cond (.t 31) (.reg [⟨some 32,none,.mov (.t 11)⟩,⟨some 33,none,.bin .add (.t 32) (.c (.int .i64 1))⟩,⟨some 9,none,.mov (.t 33)⟩]) (.reg [⟨some 34,none,.mov (.t 11)⟩,⟨some 10,none,.mov (.t 34)⟩])))))))) (.seq (.reg [⟨some 35,none,.mov (.t 9)⟩,⟨some 36,none,.mov (.t 9)⟩,⟨some 37,none,.mov (.t 8)⟩,⟨some 38,none,.bin .lss (.t 36) (.t 37)⟩,⟨some 39,none,.mov (.t 38)⟩,⟨some 40,(some (39,true)),(.mov (.t 2))⟩,⟨some 41,(some (39,true)),(.mov (.t 0))⟩,⟨some 42,(some (39,true)),(.mov (.t 9))⟩,⟨some 43,(some (39,true)),(.ixa (.t 41) (.t 42) 2)⟩,⟨some 44,(some (39,true)),(.load (some 2) (.t 43))⟩,⟨some 45,(some (39,true)),(.mov (.t 1))⟩,⟨some 46,(some (39,true)),(.callv (.t 40) [(.t 44),(.t 45)])⟩,⟨some 47,(some (39,true)),(.bin .eql (.t 46) (.c (.int .i64 0)))⟩,⟨some 48,none,.pick (.t 39) (.t 47) (.c (.bool false))⟩,⟨some 6,none,.mov (.t 35)⟩,⟨some 7,none,.mov (.t 48)⟩]) .ret)))))
structure BsS (as : List Attr) (key : Bs) where
 lo : Nat
 hi : Nat
 h1 : lo ≤ hi
 h2 : hi ≤ as.length
 h3 : ∀ j a,j < lo → as[j]? = some a → Op.bytesLess a.name key = true
 h4 : ∀ j a,hi ≤ j → as[j]? = some a → Op.bytesLess a.name key = false
theorem pBinSearch {f_slices_BinarySearchFunc_Attr_Attr_string fc : Nat} (hF : compF P G f_slices_BinarySearchFunc_Attr_Attr_string = some (49,[(none,6),(none,7)],c_slices_BinarySearchFunc_Attr_Attr_string.bare)) (as : List Attr) (key : Bs) (hx : as.length ≤ B) (hr : risA as = true) (hb : goBody P fc = true)
   (hC : ∀ a ∈ as,PureC P G fc [a.avA,.str key] (.int .i64 (Lib.compareBytes a.name key))) :
   PureC P G f_slices_BinarySearchFunc_Attr_Attr_string [.list (ivA as),.str key,.fn fc [] []] (.tup [.int .i64 (posA as key),.bool (hasA as key)]) := by
 refine pure_of_go hF (by simp) (by simp [lbss,AV.lbs]) (by simp [AV.lbs,lbss]) ?_
 unfold c_slices_BinarySearchFunc_Attr_Attr_string
 have hBv : B = 1073741824 := rfl
 simp only [↓aX,mX,reduceCtorEq,Nat.reduceEqDiff,Nat.reduceLT,Nat.reduceLeDiff,Nat.reduceAdd,Nat.reduceMul,Int.reduceToNat,Int.reduceLE,Int.reduceLT,ivA_len]
 refine loop_data (σ := BsS as key) (fun q => [(0,.list (ivA as)),(1,.str key),(2,.fn fc [] []),(8,.int .i64 as.length),(9,.int .i64 q.lo),(10,.int .i64 q.hi)]) (fun q => q.hi - q.lo)
   ⟨0,as.length,by omega,by omega,fun j a h => by omega,fun j a h ha => by rw [List.getElem?_eq_none (by omega)] at ha; cases ha⟩ (fun _ => rfl) ?_ ?_
 · exact ⟨by simp only [↓aX,mX,reduceCtorEq,Nat.reduceEqDiff,Nat.reduceLT,Nat.reduceLeDiff,Nat.reduceAdd,Nat.reduceMul,Int.reduceToNat,Int.reduceLE,Int.reduceLT],by repeat' constructor⟩
 · rintro ⟨lo,hi,h1,h2,h3,h4⟩
   simp only [↓aX,mX,reduceCtorEq,Nat.reduceEqDiff,Nat.reduceLT,Nat.reduceLeDiff,Nat.reduceAdd,Nat.reduceMul,Int.reduceToNat,Int.reduceLE,Int.reduceLT,ivA_len]
   by_cases hlt : lo < hi
   · rw [show decide ((lo : Int) < (hi : Int)) = true by simpa using hlt]
     obtain ⟨m,hm⟩ : ∃ m,m = (lo + hi) / 2 := ⟨_,rfl⟩
     have hw : IntKind.i64.wrap (IntKind.u64.wrap (IntKind.i64.wrap ((lo : Int) + (hi : Int))) / 2 ^ min 1 IntKind.u64.bits) = (m : Int) := by
       have h1 : IntKind.i64.wrap ((lo : Int) + (hi : Int)) = ((lo + hi : Nat) : Int) := by rw [wrap64 (by omega) (by omega)]; omega
       rw [h1]
       have h2 : IntKind.u64.wrap ((lo + hi : Nat) : Int) = ((lo + hi : Nat) : Int) := by rw [IntKind.wrap_u64]; omega
       have h3 : min 1 IntKind.u64.bits = 1 := by decide
       rw [h2,h3]
       have h4 : ((lo + hi : Nat) : Int) / 2 ^ 1 = (((lo + hi) / 2 : Nat) : Int) := by omega
       rw [h4,wrap64 (by omega) (by omega),hm]
     have hw5 : IntKind.i64.wrap ((m : Int) + 1) = ((m + 1 : Nat) : Int) := wrap64 (by omega) (by omega)
     obtain ⟨x,hx1⟩ : ∃ x,as[m]? = some x := ⟨_,List.getElem?_eq_getElem (by omega)⟩
     simp only [↓aX,mX,reduceCtorEq,Nat.reduceEqDiff,Nat.reduceLT,Nat.reduceLeDiff,Nat.reduceAdd,Nat.reduceMul,Int.reduceToNat,Int.reduceLE,Int.reduceLT,hw,ivA_get,hx1,Option.map_some,elszA,Attr.cells_eq,Attr.cs,a1_callv,cvK_fn,hb]
     refine callT_pure (hC x (List.mem_of_getElem? hx1)) ?_
     simp only [↓aX,mX,reduceCtorEq,Nat.reduceEqDiff,Nat.reduceLT,Nat.reduceLeDiff,Nat.reduceAdd,Nat.reduceMul,Int.reduceToNat,Int.reduceLE,Int.reduceLT,cmpB_neg]
     refine cK_b (fun h => ?_) (fun h => ?_)
     · simp only [↓aX,mX,reduceCtorEq,Nat.reduceEqDiff,Nat.reduceLT,Nat.reduceLeDiff,Nat.reduceAdd,Nat.reduceMul,Int.reduceToNat,Int.reduceLE,Int.reduceLT,hw5]
       refine ⟨⟨m + 1,hi,by omega,h2,fun j a hj ha => ?_,h4⟩,by simp only; omega,rfl,rfl⟩
       by_cases e : j = m
       · rw [e,hx1] at ha; cases ha; exact h
       · exact bl_tr (risA_get hr (by omega : j < m) ha hx1) h
     · simp only [↓aX,mX,reduceCtorEq,Nat.reduceEqDiff,Nat.reduceLT,Nat.reduceLeDiff,Nat.reduceAdd,Nat.reduceMul,Int.reduceToNat,Int.reduceLE,Int.reduceLT]
       refine ⟨⟨lo,m,by omega,by omega,h3,fun j a hj ha => ?_⟩,by simp only; omega,rfl,rfl⟩
       by_cases e : j = m
       · rw [e,hx1] at ha; cases ha; exact h
       · cases hq : Op.bytesLess a.name key with
         | false => rfl
         | true => rw [bl_tr (risA_get hr (by omega : m < j) hx1 ha) hq] at h; cases h
   · have he : lo = hi := by omega
     subst he
     have hp : posA as key = lo := posA_of h2 h3 (fun a ha => h4 lo a (Nat.le_refl _) ha)
     rw [show decide ((lo : Int) < (lo : Int)) = false by simp]
     simp only [↓aX,mX,reduceCtorEq,Nat.reduceEqDiff,Nat.reduceLT,Nat.reduceLeDiff,Nat.reduceAdd,Nat.reduceMul,Int.reduceToNat,Int.reduceLE,Int.reduceLT]
     refine gB_b (fun h => ?_) (fun h => ?_)
     · have hlt : lo < as.length := by simpa using h
       obtain ⟨x,hx1⟩ : ∃ x,as[lo]? = some x := ⟨_,List.getElem?_eq_getElem hlt⟩
       simp only [↓aX,mX,reduceCtorEq,Nat.reduceEqDiff,Nat.reduceLT,Nat.reduceLeDiff,Nat.reduceAdd,Nat.reduceMul,Int.reduceToNat,Int.reduceLE,Int.reduceLT,h,ivA_get,hx1,Option.map_some,elszA,Attr.cells_eq,Attr.cs,a1_callv,cvK_fn,hb]
       refine callT_pure (hC x (List.mem_of_getElem? hx1)) ?_
       simp only [↓aX,mX,reduceCtorEq,Nat.reduceEqDiff,Nat.reduceLT,Nat.reduceLeDiff,Nat.reduceAdd,Nat.reduceMul,Int.reduceToNat,Int.reduceLE,Int.reduceLT,h,cmp_zero,ret_r,resVs,resV,Option.some.injEq,exists_eq_left',oneV,hp,hasA,hx1]
     · simp only [↓aX,mX,reduceCtorEq,Nat.reduceEqDiff,Nat.reduceLT,Nat.reduceLeDiff,Nat.reduceAdd,Nat.reduceMul,Int.reduceToNat,Int.reduceLE,Int.reduceLT,h,ret_r,resVs,resV,Option.some.injEq,exists_eq_left',oneV,hp,hasA]
       rw [List.getElem?_eq_none (by simp at h; omega)]
end
end Go.Am
