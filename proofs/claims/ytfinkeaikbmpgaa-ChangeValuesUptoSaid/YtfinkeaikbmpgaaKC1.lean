import Derived.Test.YtfinkeaikbmpgaaT88
import Derived.Test.YtfinkeaikbmpgaaKS3
set_option linter.unusedSimpArgs false
set_option linter.unusedVariables false
set_option linter.unnecessarySimpa false
set_option linter.defProp false
/- Changes: what is done to a tree, node by node; the bench that does it. -/
namespace Go.Am
open Go Go.RowKit
def ofK (l : List Op) (k : Int) (n : Nat) : List Op := l.filter fun o => o.kind == k && o.target == (n : Int)
def putIn (l : List Op) (k : Int) (n : Nat) : List Tree := (ofK l k n).flatMap Op.content
def hasK (l : List Op) (k : Int) (n : Nat) : Bool := !(ofK l k n).isEmpty
def valS (l : List Op) (n : Nat) (s : Bs) : Bs := match (ofK l 7 n).getLast? with | some o => o.s | none => s
def namS (l : List Op) (n : Nat) (s : Bs) : Bs := match (ofK l 8 n).getLast? with | some o => o.name | none => s
def attrS (n : Nat) (as : List Attr) (o : Op) : List Attr := if o.target = (n : Int) ∧ (o.kind = 9 ∨ o.kind = 10) then attrB as o else as
def attrsO (l : List Op) (n : Nat) (as : List Attr) : List Attr := l.foldl (attrS n) as
theorem ofK_snoc (l : List Op) (o : Op) (k : Int) (n : Nat) : ofK (l ++ [o]) k n = ofK l k n ++ (if o.kind = k ∧ o.target = (n : Int) then [o] else []) := by
 unfold ofK
 rw [List.filter_append]
 congr 1
 by_cases h : o.kind = k ∧ o.target = (n : Int)
 · simp [h]
 · rw [if_neg h,List.filter_cons_of_neg (by simpa using h)]; rfl
theorem putIn_snoc (l : List Op) (o : Op) (k : Int) (n : Nat) : putIn (l ++ [o]) k n = putIn l k n ++ (if o.kind = k ∧ o.target = (n : Int) then o.content else []) := by
 unfold putIn; rw [ofK_snoc,List.flatMap_append]; congr 1; split <;> simp
theorem hasK_snoc (l : List Op) (o : Op) (k : Int) (n : Nat) : hasK (l ++ [o]) k n = (hasK l k n || decide (o.kind = k ∧ o.target = (n : Int))) := by
 unfold hasK; rw [ofK_snoc]
 by_cases h : o.kind = k ∧ o.target = (n : Int)
 · simp [h]
 · rw [if_neg h]; simp [h]
theorem valS_snoc (l : List Op) (o : Op) (n : Nat) (s : Bs) : valS (l ++ [o]) n s = if o.kind = 7 ∧ o.target = (n : Int) then o.s else valS l n s := by
 unfold valS; rw [ofK_snoc]
 by_cases h : o.kind = 7 ∧ o.target = (n : Int)
 · rw [if_pos h,if_pos h,List.getLast?_concat]
 · rw [if_neg h,if_neg h,List.append_nil]
theorem namS_snoc (l : List Op) (o : Op) (n : Nat) (s : Bs) : namS (l ++ [o]) n s = if o.kind = 8 ∧ o.target = (n : Int) then o.name else namS l n s := by
 unfold namS; rw [ofK_snoc]
 by_cases h : o.kind = 8 ∧ o.target = (n : Int)
 · rw [if_pos h,if_pos h,List.getLast?_concat]
 · rw [if_neg h,if_neg h,List.append_nil]
theorem attrsO_snoc (l : List Op) (o : Op) (n : Nat) (as : List Attr) : attrsO (l ++ [o]) n as = attrS n (attrsO l n as) o := by
 unfold attrsO; rw [List.foldl_append]; rfl
theorem hasK_false {l : List Op} {k : Int} {n : Nat} (h : hasK l k n = false) : putIn l k n = [] := by
 unfold hasK at h; unfold putIn
 have : ofK l k n = [] := by simpa using h
 rw [this]; rfl
theorem hasK_iff {l : List Op} {k : Int} {n : Nat} : hasK l k n = true ↔ ∃ o ∈ l,o.kind = k ∧ o.target = (n : Int) := by
 unfold hasK ofK
 simp only [Bool.not_eq_true',List.isEmpty_eq_false_iff,ne_eq,List.filter_eq_nil_iff,Bool.and_eq_true,beq_iff_eq]
 constructor
 · intro h
   refine Classical.byContradiction fun h2 => h fun a ha hc => h2 ⟨a,ha,hc⟩
 · rintro ⟨o,ho,hc⟩ h
   exact h o ho hc
mutual
def Tree.turn (l : List Op) (off : Nat) : Tree → List Tree
 | .mk t s as ks => putIn l 3 off ++ (if hasK l 6 off then putIn l 6 off else if hasK l 5 off then [] else
     [.mk t (if t then valS l off s else namS l off s) (attrsO l off as) (if t then [] else if hasK l 7 off then [txt (valS l off [])] else putIn l 1 off ++ turns l (off + 1) ks ++ putIn l 2 off)]) ++ putIn l 4 off
def turns (l : List Op) (off : Nat) : List Tree → List Tree
 | [] => []
 | k :: r => k.turn l off ++ turns l (off + k.cnt) r
end
def Tree.turn1 (l : List Op) (off : Nat) (x : Tree) : Tree :=
 .mk x.text (if x.text then valS l off x.s else namS l off x.s) (attrsO l off x.attrs) (if x.text then [] else if hasK l 7 off then [txt (valS l off [])] else putIn l 1 off ++ turns l (off + 1) x.kids ++ putIn l 2 off)
theorem Tree.turn_eq (l : List Op) (off : Nat) (x : Tree) : x.turn l off = putIn l 3 off ++ (if hasK l 6 off then putIn l 6 off else if hasK l 5 off then [] else [x.turn1 l off]) ++ putIn l 4 off := by
 cases x with | mk t s as ks => rw [Tree.turn]; rfl
def doB (b : Bn) (o : Op) : Bn := match b.nodes[o.target.toNat]? with
 | none => b
 | some x =>
   let n := o.target.toNat
   let p := x.parent.toNat
   let k := idxI (b.kd p) n
   if o.kind = 1 then { b.ins n (b.fs.getD n 0).toNat o.content with fs := b.fs.set n (((b.fs.getD n 0).toNat + o.content.length : Nat) : Int) }
   else if o.kind = 2 then b.ins n x.kids.length o.content
   else if o.kind = 3 then b.ins p k.toNat o.content
   else if o.kind = 4 then { b.ins p (k.toNat + 1 + (b.as.getD n 0).toNat) o.content with as := b.as.set n (((b.as.getD n 0).toNat + o.content.length : Nat) : Int) }
   else if o.kind = 5 then (if 0 ≤ k then b.del p k.toNat else b)
   else if o.kind = 6 then (b.del p k.toNat).ins p k.toNat o.content
   else if o.kind = 7 then b.value n o.s
   else if o.kind = 8 then b.name n o.name
   else if o.kind = 9 ∨ o.kind = 10 then b.attr n o else b
inductive Itm where
 | old (k : Nat)
 | new (t : Tree)
def Rp (b : Bn) (k : Int) : Itm → Prop
 | .old j => k = (j : Int)
 | .new t => ∃ m : Nat,k = (m : Int) ∧ b.n0 ≤ m ∧ ∃ q,Lies b.nodes m q t
def news (l : List Tree) : List Itm := l.map .new
def itemK (l : List Op) (k : Nat) : List Itm := news (putIn l 3 k) ++ (if hasK l 6 k then news (putIn l 6 k) else if hasK l 5 k then [] else [.old k]) ++ news (putIn l 4 k)
def itemsO (l : List Op) (i : Nat) (y : Tree) : List Itm :=
 if y.text then [] else if hasK l 7 i then [.new (txt (valS l i []))] else news (putIn l 1 i) ++ (kidsN (i + 1) y.kids).flatMap (itemK l) ++ news (putIn l 2 i)
structure Ben (t : Tree) (l : List Op) (b : Bn) : Prop where
 n0 : b.n0 = t.cnt
 le : b.n0 ≤ b.nodes.length
 nd : ∀ i q y,Sub 0 (-1) t i q y → ∃ ks,b.nodes[i]? = some ⟨y.text,if y.text then valS l i y.s else namS l i y.s,attrsO l i y.attrs,q,ks⟩ ∧ All2 (Rp b) ks (itemsO l i y)
 fs : b.fs.length = t.cnt ∧ ∀ i,i < t.cnt → b.fs[i]? = some ((putIn l 1 i).length : Int)
 as : b.as.length = t.cnt ∧ ∀ i,i < t.cnt → b.as[i]? = some ((putIn l 4 i).length : Int)
def Ext (b b' : Bn) : Prop := b'.n0 = b.n0 ∧ b.nodes.length ≤ b'.nodes.length ∧ ∀ m q tr,b.n0 ≤ m → Lies b.nodes m q tr → Lies b'.nodes m q tr
theorem Rp.ext {b b' : Bn} (h : Ext b b') {k : Int} : ∀ {x : Itm},Rp b k x → Rp b' k x
 | .old j,hx => hx
 | .new t,⟨m,h1,h2,q,h3⟩ => ⟨m,h1,by rw [h.1]; exact h2,q,h.2.2 m q t h2 h3⟩
theorem all2_mono {α γ : Type} {R R' : α → γ → Prop} (h : ∀ a b,R a b → R' a b) : ∀ {l : List α} {m : List γ},All2 R l m → All2 R' l m
 | _,_,.nil => .nil
 | _,_,.cons h1 h2 => .cons (h _ _ h1) (all2_mono h h2)
theorem all2_len {α γ : Type} {R : α → γ → Prop} : ∀ {l : List α} {m : List γ},All2 R l m → l.length = m.length
 | _,_,.nil => rfl
 | _,_,.cons _ h2 => by simp [all2_len h2]
theorem all2_app {α γ : Type} {R : α → γ → Prop} : ∀ {l : List α} {m : List γ} {l' : List α} {m' : List γ},All2 R l m → All2 R l' m' → All2 R (l ++ l') (m ++ m')
 | _,_,_,_,.nil,h => h
 | _,_,_,_,.cons h1 h2,h => .cons h1 (all2_app h2 h)
theorem all2_take {α γ : Type} {R : α → γ → Prop} : ∀ (n : Nat) {l : List α} {m : List γ},All2 R l m → All2 R (l.take n) (m.take n)
 | 0,_,_,_ => by simp; exact .nil
 | n + 1,_,_,.nil => by simp; exact .nil
 | n + 1,_,_,.cons h1 h2 => by simp only [List.take_succ_cons]; exact .cons h1 (all2_take n h2)
theorem all2_drop {α γ : Type} {R : α → γ → Prop} : ∀ (n : Nat) {l : List α} {m : List γ},All2 R l m → All2 R (l.drop n) (m.drop n)
 | 0,_,_,h => by simpa using h
 | n + 1,_,_,.nil => by simp; exact .nil
 | n + 1,_,_,.cons h1 h2 => by simp only [List.drop_succ_cons]; exact all2_drop n h2
theorem a2get {α γ : Type} {R : α → γ → Prop} : ∀ {l : List α} {m : List γ},All2 R l m → ∀ {i : Nat} {a : α} {b : γ},l[i]? = some a → m[i]? = some b → R a b
 | _,_,.nil,i,a,b,h,_ => by simp at h
 | _,_,.cons h1 h2,0,a,b,h,h' => by simp at h h'; subst h; subst h'; exact h1
 | _,_,.cons h1 h2,i + 1,a,b,h,h' => a2get h2 (by simpa using h) (by simpa using h')
theorem news_rep {b : Bn} (hn : b.n0 ≤ b.nodes.length) (p : Nat) (L : List Tree) : ∀ (pre : List Node) (off : Nat) (post : List Node) (L : List Tree),b.nodes = pre ++ flats off p L ++ post → pre.length = off → b.n0 ≤ off → All2 (Rp b) (kidsAt off L) (news L)
 | _,_,_,[],_,_,_ => .nil
 | pre,off,post,x :: r,h,hl,ho => by
   simp only [kidsAt,news,List.map_cons]
   refine .cons ⟨off,rfl,ho,p,flats (off + x.cnt) p r ++ post,?_⟩ ?_
   · rw [h,List.append_assoc,List.drop_append_of_le_length (by omega),List.drop_of_length_le (by omega),List.nil_append]
     simp [flats]
   · refine news_rep hn p L (pre ++ x.flat off p) (off + x.cnt) post r ?_ ?_ (by omega)
     · rw [h]; simp [flats]
     · rw [List.length_append,hl,x.flat_len]
end Go.Am

/- Changes: the bench, step by step. -/
namespace Go.Am
open Go Go.RowKit
theorem Ext.refl (b : Bn) : Ext b b := ⟨rfl,Nat.le_refl _,fun _ _ _ _ h => h⟩
theorem Ext.trans {a b c : Bn} (h1 : Ext a b) (h2 : Ext b c) : Ext a c :=
 ⟨h2.1.trans h1.1,Nat.le_trans h1.2.1 h2.2.1,fun m q tr hm h => h2.2.2 m q tr (by rw [h1.1]; exact hm) (h1.2.2 m q tr hm h)⟩
theorem ext_set (b : Bn) {i : Nat} (hi : i < b.n0) (y : Node) : Ext b (b.set i y) :=
 ⟨rfl,by simp [Bn.set],fun m q tr hm h => by
   obtain ⟨post,h⟩ := h
   refine ⟨post,?_⟩
   show (b.nodes.set i y).drop m = _
   rw [List.drop_set_of_lt (by omega)]; exact h⟩
theorem ext_adds (b : Bn) (p : Nat) (L : List Tree) : Ext b (b.adds p L) :=
 ⟨rfl,by simp [Bn.adds],fun m q tr hm h => by
   have hl := h.len
   obtain ⟨post,h⟩ := h
   refine ⟨post ++ flats b.nodes.length p L,?_⟩
   show (b.nodes ++ flats b.nodes.length p L).drop m = _
   rw [List.drop_append_of_le_length (by omega),h,List.append_assoc]⟩
theorem ext_fs (b : Bn) (fs as : List Int) : Ext b { b with fs := fs,as := as } := ⟨rfl,Nat.le_refl _,fun _ _ _ _ h => h⟩
section
variable {b : Bn} {p : Nat} {x : Node}
theorem ins_eq (hx : b.nodes[p]? = some x) (pl : Nat) (L : List Tree) : b.ins p pl L = (b.adds p L).set p { x with kids := x.kids.take pl ++ kidsAt b.nodes.length L ++ x.kids.drop pl } := by unfold Bn.ins; rw [hx]
theorem ins_ext (hx : b.nodes[p]? = some x) (hp : p < b.n0) (pl : Nat) (L : List Tree) : Ext b (b.ins p pl L) := by
 rw [ins_eq hx]
 exact (ext_adds b p L).trans (ext_set (b.adds p L) (show p < (b.adds p L).n0 from hp) _)
theorem ins_ne (hx : b.nodes[p]? = some x) (pl : Nat) (L : List Tree) {i : Nat} (hi : i < b.nodes.length) (hne : i ≠ p) : (b.ins p pl L).nodes[i]? = b.nodes[i]? := by
 rw [ins_eq hx]
 show ((b.nodes ++ flats b.nodes.length p L).set p _)[i]? = _
 rw [List.getElem?_set_ne (Ne.symm hne),List.getElem?_append_left hi]
theorem ins_at (hx : b.nodes[p]? = some x) (pl : Nat) (L : List Tree) : (b.ins p pl L).nodes[p]? = some { x with kids := x.kids.take pl ++ kidsAt b.nodes.length L ++ x.kids.drop pl } := by
 rw [ins_eq hx]
 have := (List.getElem?_eq_some_iff.1 hx).1
 show ((b.nodes ++ flats b.nodes.length p L).set p _)[p]? = _
 rw [List.getElem?_set_self (by rw [List.length_append]; omega)]
theorem ins_len (hx : b.nodes[p]? = some x) (pl : Nat) (L : List Tree) : (b.ins p pl L).nodes.length = b.nodes.length + cntT L := by
 rw [ins_eq hx]; simp [Bn.set,Bn.adds,flats_len]
theorem ins_rep (hx : b.nodes[p]? = some x) (hp : p < b.n0) (hn : b.n0 ≤ b.nodes.length) (pl : Nat) (L : List Tree) {its : List Itm} (h : All2 (Rp b) x.kids its) :
   All2 (Rp (b.ins p pl L)) (x.kids.take pl ++ kidsAt b.nodes.length L ++ x.kids.drop pl) (its.take pl ++ news L ++ its.drop pl) := by
 have he := ins_ext hx hp pl L
 refine all2_app (all2_app (all2_take pl (all2_mono (fun _ _ => Rp.ext he) h)) ?_) (all2_drop pl (all2_mono (fun _ _ => Rp.ext he) h))
 have h1 : Ext (b.adds p L) (b.ins p pl L) := by rw [ins_eq hx]; exact ext_set (b.adds p L) (show p < (b.adds p L).n0 from hp) _
 exact all2_mono (fun _ _ => Rp.ext h1) (news_rep (b := b.adds p L) (by simp [Bn.adds]; omega) p L b.nodes b.nodes.length [] L (by simp [Bn.adds]) rfl hn)
theorem del_eq (hx : b.nodes[p]? = some x) (k : Nat) : b.del p k = b.set p { x with kids := x.kids.take k ++ x.kids.drop (k + 1) } := by unfold Bn.del; rw [hx]
theorem del_ext (hx : b.nodes[p]? = some x) (hp : p < b.n0) (k : Nat) : Ext b (b.del p k) := by rw [del_eq hx]; exact ext_set _ hp _
theorem del_ne (hx : b.nodes[p]? = some x) (k : Nat) {i : Nat} (hne : i ≠ p) : (b.del p k).nodes[i]? = b.nodes[i]? := by
 rw [del_eq hx]; exact List.getElem?_set_ne (Ne.symm hne)
theorem del_at (hx : b.nodes[p]? = some x) (k : Nat) : (b.del p k).nodes[p]? = some { x with kids := x.kids.take k ++ x.kids.drop (k + 1) } := by
 rw [del_eq hx]; exact List.getElem?_set_self (List.getElem?_eq_some_iff.1 hx).1
theorem del_len (hx : b.nodes[p]? = some x) (k : Nat) : (b.del p k).nodes.length = b.nodes.length := by rw [del_eq hx]; simp [Bn.set]
theorem del_rep (hx : b.nodes[p]? = some x) (hp : p < b.n0) (k : Nat) {its : List Itm} (h : All2 (Rp b) x.kids its) :
   All2 (Rp (b.del p k)) (x.kids.take k ++ x.kids.drop (k + 1)) (its.take k ++ its.drop (k + 1)) := by
 have he := del_ext hx hp k
 exact all2_app (all2_take k (all2_mono (fun _ _ => Rp.ext he) h)) (all2_drop (k + 1) (all2_mono (fun _ _ => Rp.ext he) h))
theorem set_at (hx : b.nodes[p]? = some x) (y : Node) : (b.set p y).nodes[p]? = some y := List.getElem?_set_self (List.getElem?_eq_some_iff.1 hx).1
theorem set_ne (y : Node) {i : Nat} (hne : i ≠ p) : (b.set p y).nodes[i]? = b.nodes[i]? := List.getElem?_set_ne (Ne.symm hne)
end
def isOld (n : Nat) : Itm → Bool
 | .old j => j == n
 | .new _ => false
theorem rp_ne {b : Bn} {n : Nat} (hn : n < b.n0) {k : Int} : ∀ {x : Itm},Rp b k x → isOld n x = false → k ≠ (n : Int)
 | .old j,h,h2 => by simp only [Rp] at h; simp only [isOld,beq_eq_false_iff_ne] at h2; omega
 | .new t,⟨m,h1,h2,_⟩,_ => by omega
theorem idx_old {b : Bn} {n : Nat} (hn : n < b.n0) {ks : List Int} {A C : List Itm} (h : All2 (Rp b) ks (A ++ .old n :: C)) (hA : ∀ x ∈ A,isOld n x = false) : idxI ks n = A.length ∧ A.length < ks.length := by
 have hl := all2_len h
 have hlt : A.length < ks.length := by rw [hl]; simp
 obtain ⟨k,hk⟩ : ∃ k,ks[A.length]? = some k := ⟨_,List.getElem?_eq_getElem hlt⟩
 have h1 : Rp b k (.old n) := a2get h hk (by simp)
 have hk' : ks[A.length]? = some (n : Int) := by rw [hk]; exact congrArg some h1
 refine ⟨idxI_at hk' fun j hj e => ?_,hlt⟩
 obtain ⟨x,hx⟩ : ∃ x,A[j]? = some x := ⟨_,List.getElem?_eq_getElem hj⟩
 have h2 : Rp b (n : Int) x := a2get h e (by rw [List.getElem?_append_left hj]; exact hx)
 exact rp_ne hn h2 (hA x (List.mem_of_getElem? hx)) rfl
theorem idx_no {b : Bn} {n : Nat} (hn : n < b.n0) {ks : List Int} {its : List Itm} (h : All2 (Rp b) ks its) (hA : ∀ x ∈ its,isOld n x = false) : idxI ks n = -1 := by
 have hl := all2_len h
 refine idxI_none fun j hj e => ?_
 obtain ⟨x,hx⟩ : ∃ x,its[j]? = some x := ⟨_,List.getElem?_eq_getElem (by omega)⟩
 exact rp_ne hn (a2get h e hx) (hA x (List.mem_of_getElem? hx)) rfl
theorem news_old (n : Nat) (L : List Tree) : ∀ x ∈ news L,isOld n x = false := by
 intro x hx
 obtain ⟨t,_,rfl⟩ := List.mem_map.1 hx
 rfl
theorem itemK_ne {l : List Op} {o : Op} {k : Nat} (h : o.target ≠ (k : Int) ∨ (o.kind ≠ 3 ∧ o.kind ≠ 4 ∧ o.kind ≠ 5 ∧ o.kind ≠ 6)) : itemK (l ++ [o]) k = itemK l k := by
 unfold itemK
 rw [putIn_snoc,putIn_snoc,putIn_snoc,hasK_snoc,hasK_snoc]
 rcases h with h | ⟨h1,h2,h3,h4⟩
 · simp [h]
 · simp [h1,h2,h3,h4]
theorem itemsO_ne {l : List Op} {o : Op} {i : Nat} {y : Tree} (h1 : o.target ≠ (i : Int) ∨ (o.kind ≠ 1 ∧ o.kind ≠ 2 ∧ o.kind ≠ 7)) (h2 : ∀ k ∈ kidsN (i + 1) y.kids,o.target ≠ (k : Int) ∨ (o.kind ≠ 3 ∧ o.kind ≠ 4 ∧ o.kind ≠ 5 ∧ o.kind ≠ 6)) :
   itemsO (l ++ [o]) i y = itemsO l i y := by
 have hk : (kidsN (i + 1) y.kids).flatMap (itemK (l ++ [o])) = (kidsN (i + 1) y.kids).flatMap (itemK l) := by
   rw [List.flatMap_def,List.flatMap_def]
   congr 1
   exact List.map_congr_left fun k hk => itemK_ne (h2 k hk)
 unfold itemsO
 rw [hk,putIn_snoc,putIn_snoc,hasK_snoc,valS_snoc]
 rcases h1 with h1 | ⟨h3,h4,h5⟩
 · simp [h1]
 · simp [h3,h4,h5]
theorem kidsN_mem : ∀ (off : Nat) (xs : List Tree) (k : Nat),k ∈ kidsN off xs → ∃ a c x,xs = a ++ x :: c ∧ k = off + cntT a
 | off,[],k,h => by simp [kidsN] at h
 | off,x :: r,k,h => by
   simp only [kidsN,List.mem_cons] at h
   rcases h with rfl | h
   · exact ⟨[],r,x,rfl,by simp [cntT]⟩
   · obtain ⟨a,c,z,h1,h2⟩ := kidsN_mem (off + x.cnt) r k h
     exact ⟨x :: a,c,z,by rw [h1]; rfl,by simp only [cntT]; omega⟩
theorem kidsN_cat : ∀ (off : Nat) (a b : List Tree),kidsN off (a ++ b) = kidsN off a ++ kidsN (off + cntT a) b
 | off,[],b => by simp [kidsN,cntT]
 | off,x :: r,b => by simp [kidsN,cntT,kidsN_cat (off + x.cnt) r b,Nat.add_assoc]
theorem kidsN_below : ∀ (off : Nat) (xs : List Tree) (k : Nat),k ∈ kidsN off xs → k < off + cntT xs
 | off,[],k,h => by simp [kidsN] at h
 | off,x :: r,k,h => by
   have := x.cnt_pos
   simp only [kidsN,List.mem_cons] at h
   rcases h with rfl | h
   · simp only [cntT]; omega
   · have := kidsN_below (off + x.cnt) r k h; simp only [cntT]; omega
theorem sub_uniq {t : Tree} {n : Nat} {q q' : Int} {y y' : Tree} (h : Sub 0 (-1) t n q y) (h' : Sub 0 (-1) t n q' y') : y = y' ∧ q = q' :=
 (h.lies (docOf t) ⟨[],by simp [docOf]⟩).uniq (h'.lies (docOf t) ⟨[],by simp [docOf]⟩)
theorem kid_sub {t : Tree} {i : Nat} {q : Int} {y : Tree} (h : Sub 0 (-1) t i q y) {k : Nat} (hk : k ∈ kidsN (i + 1) y.kids) : ∃ z,Sub 0 (-1) t k i z ∧ z ∈ y.kids := by
 obtain ⟨a,c,x,h1,h2⟩ := kidsN_mem _ _ _ hk
 refine ⟨x,h.trans (.kid a c x h1 ?_),by rw [h1]; simp⟩
 rw [h2]; exact .self _ _ _
theorem Sub.parent' {off : Nat} {p : Int} {t : Tree} {n : Nat} {q : Int} {y : Tree} (h : Sub off p t n q y) :
   (n = off ∧ q = p ∧ y = t) ∨ ∃ (m : Nat) (z : Tree) (r : Int) (a c : List Tree),q = (m : Int) ∧ Sub off p t m r z ∧ z.kids = a ++ y :: c ∧ n = m + 1 + cntT a ∧ m < n := by
 induction h with
 | self => exact .inl ⟨rfl,rfl,rfl⟩
 | @kid off p t n q y a b k hk hs ih =>
   right
   rcases ih with ⟨rfl,rfl,rfl⟩ | ⟨m,z,r,a',c',e1,e2,e3,e4,e5⟩
   · exact ⟨off,t,p,a,b,rfl,.self _ _ _,hk,by omega,by omega⟩
   · exact ⟨m,z,r,a',c',e1,.kid a b k hk e2,e3,e4,e5⟩
theorem kidsN_split {t : Tree} {m n : Nat} {r : Int} {z y : Tree} {a c : List Tree} (h1 : z.kids = a ++ y :: c) (h2 : n = m + 1 + cntT a) : kidsN (m + 1) z.kids = kidsN (m + 1) a ++ n :: kidsN (n + y.cnt) c ∧ (∀ k ∈ kidsN (m + 1) a,k < n) ∧ ∀ k ∈ kidsN (n + y.cnt) c,n < k := by
 have := y.cnt_pos
 refine ⟨by rw [h1,kidsN_cat,h2]; simp [kidsN],fun k hk => by have := kidsN_below _ _ _ hk; omega,fun k hk => by have := kidsN_ge _ _ k hk; omega⟩
theorem ben_step {t : Tree} {l : List Op} {o : Op} {b b' : Bn} (h : Ben t l b) (he : Ext b b') (c : Nat) (hc : ∀ i,i < t.cnt → i ≠ c → b'.nodes[i]? = b.nodes[i]?)
   (hs : ∀ i q y,Sub 0 (-1) t i q y → i ≠ c → (y.text = true → valS (l ++ [o]) i y.s = valS l i y.s) ∧ (y.text = false → namS (l ++ [o]) i y.s = namS l i y.s) ∧ attrsO (l ++ [o]) i y.attrs = attrsO l i y.attrs ∧ itemsO (l ++ [o]) i y = itemsO l i y)
   (hn : ∀ q y ks,Sub 0 (-1) t c q y → b.nodes[c]? = some ⟨y.text,if y.text then valS l c y.s else namS l c y.s,attrsO l c y.attrs,q,ks⟩ → All2 (Rp b) ks (itemsO l c y) →
     ∃ ks',b'.nodes[c]? = some ⟨y.text,if y.text then valS (l ++ [o]) c y.s else namS (l ++ [o]) c y.s,attrsO (l ++ [o]) c y.attrs,q,ks'⟩ ∧ All2 (Rp b') ks' (itemsO (l ++ [o]) c y))
   (hf : b'.fs.length = t.cnt ∧ ∀ i,i < t.cnt → b'.fs[i]? = some ((putIn (l ++ [o]) 1 i).length : Int)) (ha : b'.as.length = t.cnt ∧ ∀ i,i < t.cnt → b'.as[i]? = some ((putIn (l ++ [o]) 4 i).length : Int)) : Ben t (l ++ [o]) b' where
 n0 := he.1.trans h.n0
 le := by rw [he.1]; exact Nat.le_trans h.le he.2.1
 nd i q y hy := by
   obtain ⟨ks,h1,h2⟩ := h.nd i q y hy
   by_cases e : i = c
   · subst e; exact hn q y ks hy h1 h2
   · have hr := hy.rng
     have hcp := y.cnt_pos
     obtain ⟨g1,g2,g3,g4⟩ := hs i q y hy e
     refine ⟨ks,?_,by rw [g4]; exact all2_mono (fun _ _ => Rp.ext he) h2⟩
     rw [hc i (by omega) e,h1,g3]
     cases hT : y.text with
     | true => rw [g1 hT]; rfl
     | false => rw [g2 hT]; rfl
 fs := hf
 as := ha
theorem fs_same {t : Tree} {l : List Op} {o : Op} {b : Bn} (h : Ben t l b) (hk : o.kind ≠ 1) : b.fs.length = t.cnt ∧ ∀ i,i < t.cnt → b.fs[i]? = some ((putIn (l ++ [o]) 1 i).length : Int) :=
 ⟨h.fs.1,fun i hi => by rw [putIn_snoc,if_neg (fun e => hk e.1),List.append_nil]; exact h.fs.2 i hi⟩
theorem as_same {t : Tree} {l : List Op} {o : Op} {b : Bn} (h : Ben t l b) (hk : o.kind ≠ 4) : b.as.length = t.cnt ∧ ∀ i,i < t.cnt → b.as[i]? = some ((putIn (l ++ [o]) 4 i).length : Int) :=
 ⟨h.as.1,fun i hi => by rw [putIn_snoc,if_neg (fun e => hk e.1),List.append_nil]; exact h.as.2 i hi⟩
theorem attrsO_same {l : List Op} {o : Op} {i : Nat} (h : o.target ≠ (i : Int) ∨ (o.kind ≠ 9 ∧ o.kind ≠ 10)) (as : List Attr) : attrsO (l ++ [o]) i as = attrsO l i as := by
 rw [attrsO_snoc,attrS,if_neg]
 rintro ⟨e1,e2⟩
 rcases h with h | ⟨h1,h2⟩
 · exact h e1
 · exact e2.elim h1 h2
theorem valS_same {l : List Op} {o : Op} {i : Nat} (h : o.target ≠ (i : Int) ∨ o.kind ≠ 7) (s : Bs) : valS (l ++ [o]) i s = valS l i s := by
 rw [valS_snoc,if_neg]; rintro ⟨e1,e2⟩; exact h.elim (fun h => h e2) (fun h => h e1)
theorem namS_same {l : List Op} {o : Op} {i : Nat} (h : o.target ≠ (i : Int) ∨ o.kind ≠ 8) (s : Bs) : namS (l ++ [o]) i s = namS l i s := by
 rw [namS_snoc,if_neg]; rintro ⟨e1,e2⟩; exact h.elim (fun h => h e2) (fun h => h e1)
section
variable {t : Tree} {l : List Op} {b : Bn} {o : Op} {n : Nat} {q : Int} {y : Tree}
theorem elsewhere (ht : o.target = (n : Int)) (hk : o.kind ≠ 3 ∧ o.kind ≠ 4 ∧ o.kind ≠ 5 ∧ o.kind ≠ 6) : ∀ i q y,Sub 0 (-1) t i q y → i ≠ n →
   (y.text = true → valS (l ++ [o]) i y.s = valS l i y.s) ∧ (y.text = false → namS (l ++ [o]) i y.s = namS l i y.s) ∧ attrsO (l ++ [o]) i y.attrs = attrsO l i y.attrs ∧ itemsO (l ++ [o]) i y = itemsO l i y := by
 intro i q y hy hi
 have hne : o.target ≠ (i : Int) := by omega
 exact ⟨fun _ => valS_same (.inl hne) _,fun _ => namS_same (.inl hne) _,attrsO_same (.inl hne) _,itemsO_ne (.inl hne) fun k _ => .inr hk⟩
theorem step1 (h : Ben t l b) (hy : Sub 0 (-1) t n q y) (ht : o.target = (n : Int)) (hk : o.kind = 1) (hT : y.text = false) (hv : hasK l 7 n = false) : Ben t (l ++ [o]) (doB b o) ∧ (doB b o).nodes.length = b.nodes.length + cntT o.content := by
 obtain ⟨ks,h1,h2⟩ := h.nd n q y hy
 have hr := hy.rng
 have hcp := y.cnt_pos
 have hn : n < b.n0 := by rw [h.n0]; omega
 have hle := h.le
 have hn0 := h.n0
 have hfn := h.fs.2 n (by omega)
 have hf0 : (b.fs.getD n 0).toNat = (putIn l 1 n).length := by rw [List.getD_eq_getElem?_getD,hfn]; simp
 have hd : doB b o = { b.ins n (putIn l 1 n).length o.content with fs := b.fs.set n (((putIn l 1 n).length + o.content.length : Nat) : Int) } := by
   unfold doB; rw [ht,Int.toNat_natCast,h1]; simp only [hk,if_true,hf0]
 rw [hd]
 refine ⟨ben_step h (o := o) ((ins_ext h1 hn _ _).trans (ext_fs _ _ _)) n (fun i hi hne => ins_ne h1 _ _ (by omega) hne) (elsewhere ht (by omega)) ?_ ?_ ?_,?_⟩
 · intro q' y' ks' hy' e1 e2
   obtain ⟨rfl,rfl⟩ := sub_uniq hy hy'
   rw [h1] at e1
   have e1 : ks = ks' := by simp only [Option.some.injEq,Node.mk.injEq] at e1; exact e1.2.2.2.2
   subst e1
   refine ⟨ks.take (putIn l 1 n).length ++ kidsAt b.nodes.length o.content ++ ks.drop (putIn l 1 n).length,(ins_at h1 _ _).trans ?_,?_⟩
   · rw [attrsO_same (.inr (by omega)),valS_same (.inr (by omega)),namS_same (.inr (by omega))]
   · have := ins_rep h1 hn hle (putIn l 1 n).length o.content h2
     refine all2_mono (fun _ _ => Rp.ext (ext_fs _ _ _)) ?_
     refine cast ?_ this
     congr 1
     unfold itemsO
     rw [hT,hv,hasK_snoc,putIn_snoc,putIn_snoc,hv]
     have hkk : (kidsN (n + 1) y.kids).flatMap (itemK (l ++ [o])) = (kidsN (n + 1) y.kids).flatMap (itemK l) := by
       rw [List.flatMap_def,List.flatMap_def]; congr 1
       exact List.map_congr_left fun k hk' => itemK_ne (.inr (by omega))
     rw [hkk]
     simp [hk,ht,news]
 · refine ⟨by simp [h.fs.1],fun i hi => ?_⟩
   rw [putIn_snoc]
   by_cases e : i = n
   · subst e
     rw [List.getElem?_set_self (by rw [h.fs.1]; omega),if_pos ⟨hk,ht⟩,List.length_append]
   · rw [List.getElem?_set_ne (Ne.symm e),if_neg (by omega),List.append_nil]; exact h.fs.2 i hi
 · have := as_same (o := o) h (by omega)
   rw [ins_as]; exact this
 · exact ins_len h1 _ _
theorem step2 (h : Ben t l b) (hy : Sub 0 (-1) t n q y) (ht : o.target = (n : Int)) (hk : o.kind = 2) (hT : y.text = false) (hv : hasK l 7 n = false) : Ben t (l ++ [o]) (doB b o) ∧ (doB b o).nodes.length = b.nodes.length + cntT o.content := by
 obtain ⟨ks,h1,h2⟩ := h.nd n q y hy
 have hr := hy.rng
 have hcp := y.cnt_pos
 have hn : n < b.n0 := by rw [h.n0]; omega
 have hle := h.le
 have hn0 := h.n0
 have hd : doB b o = b.ins n ks.length o.content := by
   unfold doB; rw [ht,Int.toNat_natCast,h1]; simp [hk]
 rw [hd]
 refine ⟨ben_step h (o := o) (ins_ext h1 hn _ _) n (fun i hi hne => ins_ne h1 _ _ (by omega) hne) (elsewhere ht (by omega)) ?_ ?_ ?_,ins_len h1 _ _⟩
 · intro q' y' ks' hy' e1 e2
   obtain ⟨rfl,rfl⟩ := sub_uniq hy hy'
   rw [h1] at e1
   have e1 : ks = ks' := by simp only [Option.some.injEq,Node.mk.injEq] at e1; exact e1.2.2.2.2
   subst e1
   refine ⟨ks.take ks.length ++ kidsAt b.nodes.length o.content ++ ks.drop ks.length,(ins_at h1 _ _).trans ?_,?_⟩
   · rw [attrsO_same (.inr (by omega)),valS_same (.inr (by omega)),namS_same (.inr (by omega))]
   · have := ins_rep h1 hn hle ks.length o.content h2
     have hl := all2_len h2
     refine cast ?_ this
     congr 1
     rw [hl,List.take_length,List.drop_length,List.append_nil]
     unfold itemsO
     rw [hT,hv,hasK_snoc,putIn_snoc,putIn_snoc,hv]
     have hkk : (kidsN (n + 1) y.kids).flatMap (itemK (l ++ [o])) = (kidsN (n + 1) y.kids).flatMap (itemK l) := by
       rw [List.flatMap_def,List.flatMap_def]; congr 1
       exact List.map_congr_left fun k hk' => itemK_ne (.inr (by omega))
     rw [hkk]
     simp [hk,ht,news]
 · have := fs_same (o := o) h (by omega)
   rw [ins_fs]; exact this
 · have := as_same (o := o) h (by omega)
   rw [ins_as]; exact this
theorem sub_self' {off k : Nat} {m : Int} {y : Tree} (h : k = off) : Sub off m y k m y := by subst h; exact .self _ _ _
theorem itemK_old {l : List Op} {k n : Nat} (h : k ≠ n) : ∀ x ∈ itemK l k,isOld n x = false := by
 intro x hx
 unfold itemK at hx
 simp only [List.mem_append] at hx
 rcases hx with (hx | hx) | hx
 · exact news_old n _ x hx
 · split at hx
   · exact news_old n _ x hx
   · split at hx
     · simp at hx
     · simp only [List.mem_singleton] at hx; subst hx; simp [isOld,h]
 · exact news_old n _ x hx
theorem flat_old {l : List Op} {n : Nat} {ks : List Nat} (h : ∀ k ∈ ks,k ≠ n) : ∀ x ∈ ks.flatMap (itemK l),isOld n x = false := by
 intro x hx
 obtain ⟨k,hk,hx⟩ := List.mem_flatMap.1 hx
 exact itemK_old (h k hk) x hx
structure Beside (t : Tree) (l : List Op) (b : Bn) (n : Nat) (y : Tree) where
 m : Nat
 z : Tree
 r : Int
 a : List Tree
 c : List Tree
 ks : List Int
 hz : Sub 0 (-1) t m r z
 hk : z.kids = a ++ y :: c
 hn : n = m + 1 + cntT a
 nd : b.nodes[m]? = some ⟨z.text,if z.text then valS l m z.s else namS l m z.s,attrsO l m z.attrs,r,ks⟩
 rp : All2 (Rp b) ks (itemsO l m z)
 zt : z.text = false
theorem beside (h : Ben t l b) (h0 : ∀ i q y,Sub 0 (-1) t i q y → y.text = true → y.kids = []) (hy : Sub 0 (-1) t n q y) (hq : 0 ≤ q) : ∃ B : Beside t l b n y,q = (B.m : Int) := by
 rcases hy.parent' with ⟨_,rfl,_⟩ | ⟨m,z,r,a,c,e1,e2,e3,e4,e5⟩
 · omega
 · obtain ⟨ks,h1,h2⟩ := h.nd m r z e2
   refine ⟨⟨m,z,r,a,c,ks,e2,e3,e4,h1,h2,?_⟩,e1⟩
   cases hT : z.text with
   | false => rfl
   | true => have := h0 m r z e2 hT; rw [e3] at this; simp at this
variable {n : Nat}
def Beside.A (B : Beside t l b n y) : List Itm := news (putIn l 1 B.m) ++ (kidsN (B.m + 1) B.a).flatMap (itemK l)
def Beside.C (B : Beside t l b n y) : List Itm := (kidsN (n + y.cnt) B.c).flatMap (itemK l) ++ news (putIn l 2 B.m)
theorem Beside.split (B : Beside t l b n y) : kidsN (B.m + 1) B.z.kids = kidsN (B.m + 1) B.a ++ n :: kidsN (n + y.cnt) B.c ∧ (∀ k ∈ kidsN (B.m + 1) B.a,k < n) ∧ ∀ k ∈ kidsN (n + y.cnt) B.c,n < k :=
 kidsN_split (t := t) (r := B.r) B.hk B.hn
theorem Beside.items (B : Beside t l b n y) (hv : hasK l 7 B.m = false) : itemsO l B.m B.z = B.A ++ itemK l n ++ B.C := by
 unfold itemsO
 rw [B.zt,hv,B.split.1]
 simp [Beside.A,Beside.C]
theorem Beside.items' (B : Beside t l b n y) (hv : hasK l 7 B.m = false) (h1 : o.kind ≠ 1) (h2 : o.kind ≠ 2) (h7 : o.kind ≠ 7) (ht : o.target = (n : Int)) : itemsO (l ++ [o]) B.m B.z = B.A ++ itemK (l ++ [o]) n ++ B.C := by
 unfold itemsO
 rw [B.zt,hasK_snoc,hv,B.split.1,putIn_snoc,putIn_snoc]
 have e1 : ∀ ks : List Nat,(∀ k ∈ ks,k ≠ n) → ks.flatMap (itemK (l ++ [o])) = ks.flatMap (itemK l) := fun ks hks => by
   rw [List.flatMap_def,List.flatMap_def]; congr 1
   exact List.map_congr_left fun k hk => itemK_ne (.inl (by have := hks k hk; omega))
 simp only [List.flatMap_append,List.flatMap_cons]
 rw [e1 _ (fun k hk => by have := B.split.2.1 k hk; omega),e1 _ (fun k hk => by have := B.split.2.2 k hk; omega)]
 simp [Beside.A,Beside.C,h1,h2,h7]
theorem Beside.A_old (B : Beside t l b n y) : ∀ x ∈ B.A,isOld n x = false := by
 intro x hx
 simp only [Beside.A,List.mem_append] at hx
 rcases hx with hx | hx
 · exact news_old n _ x hx
 · exact flat_old (fun k hk => by have := B.split.2.1 k hk; omega) x hx
theorem Beside.C_old (B : Beside t l b n y) : ∀ x ∈ B.C,isOld n x = false := by
 intro x hx
 simp only [Beside.C,List.mem_append] at hx
 rcases hx with hx | hx
 · exact flat_old (fun k hk => by have := B.split.2.2 k hk; omega) x hx
 · exact news_old n _ x hx
theorem elsewhere2 (B : Beside t l b n y) (hy : Sub 0 (-1) t n q y) (ht : o.target = (n : Int)) (hk : o.kind = 3 ∨ o.kind = 4 ∨ o.kind = 5 ∨ o.kind = 6) : ∀ i q y,Sub 0 (-1) t i q y → i ≠ B.m →
   (y.text = true → valS (l ++ [o]) i y.s = valS l i y.s) ∧ (y.text = false → namS (l ++ [o]) i y.s = namS l i y.s) ∧ attrsO (l ++ [o]) i y.attrs = attrsO l i y.attrs ∧ itemsO (l ++ [o]) i y = itemsO l i y := by
 intro i q' y' hy' hi
 refine ⟨fun _ => valS_same (.inr (by omega)) _,fun _ => namS_same (.inr (by omega)) _,attrsO_same (.inr (by omega)) _,itemsO_ne (.inr (by omega)) fun k hk' => .inl fun e => ?_⟩
 have e : k = n := by omega
 subst e
 obtain ⟨w,hw,_⟩ := kid_sub hy' hk'
 have h1 : Sub 0 (-1) t k B.m y := B.hz.trans (.kid B.a B.c y B.hk (sub_self' B.hn))
 have := (sub_uniq hw h1).2
 omega
theorem step36 (h : Ben t l b) (h0 : ∀ i q y,Sub 0 (-1) t i q y → y.text = true → y.kids = []) (hy : Sub 0 (-1) t n q y) (hq : 0 ≤ q) (ht : o.target = (n : Int)) (hk : o.kind = 3 ∨ o.kind = 4 ∨ o.kind = 6) (hv : hasK l 7 q.toNat = false) (h6 : hasK l 6 n = false) (h5 : hasK l 5 n = false) :
   Ben t (l ++ [o]) (doB b o) ∧ (doB b o).nodes.length = b.nodes.length + cntT o.content := by
 obtain ⟨B,hqm⟩ := beside h h0 hy hq
 rw [hqm,Int.toNat_natCast] at hv
 obtain ⟨ks,h1,-⟩ := h.nd n q y hy
 have hr := hy.rng
 have hcp := y.cnt_pos
 have hr2 := B.hz.rng
 have hcp2 := B.z.cnt_pos
 have hn : n < b.n0 := by rw [h.n0]; omega
 have hm : B.m < b.n0 := by rw [h.n0]; omega
 have hle := h.le
 have hn0 := h.n0
 have hits := B.items hv
 have hitK : itemK l n = news (putIn l 3 n) ++ .old n :: news (putIn l 4 n) := by unfold itemK; rw [h6,h5]; simp
 have hrp : All2 (Rp b) B.ks ((B.A ++ news (putIn l 3 n)) ++ .old n :: (news (putIn l 4 n) ++ B.C)) := by
   have := B.rp; rw [hits,hitK] at this
   simpa using this
 have hA : ∀ x ∈ B.A ++ news (putIn l 3 n),isOld n x = false := by
   intro x hx
   rcases List.mem_append.1 hx with hx | hx
   · exact B.A_old x hx
   · exact news_old n _ x hx
 obtain ⟨hidx,hlt⟩ := idx_old hn hrp hA
 have hkd : b.kd B.m = B.ks := by rw [Bn.kd_some B.nd]
 have han := h.as.2 n (by omega)
 have ha0 : (b.as.getD n 0).toNat = (putIn l 4 n).length := by rw [List.getD_eq_getElem?_getD,han]; simp
 obtain ⟨L,hL⟩ : ∃ L,L = (B.A ++ news (putIn l 3 n)).length := ⟨_,rfl⟩
 rw [← hL] at hidx hlt
 have hnew := B.items' (o := o) hv (by omega) (by omega) (by omega) ht
 rcases hk with hk | hk | hk
 · have hd : doB b o = b.ins B.m L o.content := by
     unfold doB; rw [ht,Int.toNat_natCast,h1]; simp only [hqm,Int.toNat_natCast,hkd,hidx]; simp [hk]
   rw [hd]
   refine ⟨ben_step h (o := o) (ins_ext B.nd hm _ _) B.m (fun i hi hne => ins_ne B.nd _ _ (by omega) hne) (elsewhere2 B hy ht (by omega)) ?_ ?_ ?_,ins_len B.nd _ _⟩
   · intro q' y' ks' hy' e1 e2
     obtain ⟨rfl,rfl⟩ := sub_uniq B.hz hy'
     rw [B.nd] at e1
     have e1 : B.ks = ks' := by simp only [Option.some.injEq,Node.mk.injEq] at e1; exact e1.2.2.2.2
     subst e1
     refine ⟨B.ks.take L ++ kidsAt b.nodes.length o.content ++ B.ks.drop L,(ins_at B.nd _ _).trans ?_,?_⟩
     · rw [attrsO_same (.inr (by omega)),valS_same (.inr (by omega)),namS_same (.inr (by omega))]
     · have := ins_rep B.nd hm hle L o.content hrp
       refine cast ?_ this
       congr 1
       rw [hnew,hL,List.take_left' rfl,List.drop_left' rfl]
       unfold itemK
       rw [putIn_snoc,putIn_snoc,putIn_snoc,hasK_snoc,hasK_snoc,h6,h5]
       simp [hk,ht,news]
   · have := fs_same (o := o) h (by omega)
     rw [ins_fs]; exact this
   · have := as_same (o := o) h (by omega)
     rw [ins_as]; exact this
 · have hd : doB b o = { b.ins B.m (L + 1 + (putIn l 4 n).length) o.content with as := b.as.set n (((putIn l 4 n).length + o.content.length : Nat) : Int) } := by
     unfold doB; rw [ht,Int.toNat_natCast,h1]; simp only [hqm,Int.toNat_natCast,hkd,hidx,ha0]; simp [hk]
   rw [hd]
   refine ⟨ben_step h (o := o) ((ins_ext B.nd hm _ _).trans (ext_fs _ _ _)) B.m (fun i hi hne => ins_ne B.nd _ _ (by omega) hne) (elsewhere2 B hy ht (by omega)) ?_ ?_ ?_,ins_len B.nd _ _⟩
   · intro q' y' ks' hy' e1 e2
     obtain ⟨rfl,rfl⟩ := sub_uniq B.hz hy'
     rw [B.nd] at e1
     have e1 : B.ks = ks' := by simp only [Option.some.injEq,Node.mk.injEq] at e1; exact e1.2.2.2.2
     subst e1
     refine ⟨B.ks.take (L + 1 + (putIn l 4 n).length) ++ kidsAt b.nodes.length o.content ++ B.ks.drop (L + 1 + (putIn l 4 n).length),(ins_at B.nd _ _).trans ?_,?_⟩
     · rw [attrsO_same (.inr (by omega)),valS_same (.inr (by omega)),namS_same (.inr (by omega))]
     · have hrp2 : All2 (Rp b) B.ks ((B.A ++ news (putIn l 3 n) ++ .old n :: news (putIn l 4 n)) ++ B.C) := by simpa using hrp
       have hL2 : L + 1 + (putIn l 4 n).length = (B.A ++ news (putIn l 3 n) ++ .old n :: news (putIn l 4 n)).length := by rw [hL]; simp [news]; omega
       have := ins_rep B.nd hm hle (L + 1 + (putIn l 4 n).length) o.content hrp2
       refine all2_mono (fun _ _ => Rp.ext (ext_fs _ _ _)) ?_
       refine cast ?_ this
       congr 1
       rw [hnew,hL2,List.take_left' rfl,List.drop_left' rfl]
       unfold itemK
       rw [putIn_snoc,putIn_snoc,putIn_snoc,hasK_snoc,hasK_snoc,h6,h5]
       simp [hk,ht,news]
   · have := fs_same (o := o) h (by omega)
     show (b.ins B.m (L + 1 + (putIn l 4 n).length) o.content).fs.length = _ ∧ _
     rw [ins_fs]; exact this
   · refine ⟨by simp [h.as.1],fun i hi => ?_⟩
     rw [putIn_snoc]
     by_cases e : i = n
     · subst e
       rw [List.getElem?_set_self (by rw [h.as.1]; omega),if_pos ⟨hk,ht⟩,List.length_append]
     · rw [List.getElem?_set_ne (Ne.symm e),if_neg (by omega),List.append_nil]; exact h.as.2 i hi
 · have hd : doB b o = (b.del B.m L).ins B.m L o.content := by
     unfold doB; rw [ht,Int.toNat_natCast,h1]; simp only [hqm,Int.toNat_natCast,hkd,hidx]; simp [hk]
   rw [hd]
   have hdn := del_at B.nd L
   have hdl := del_len B.nd L
   have hd0 : (b.del B.m L).n0 = b.n0 := del_n0 _ _ _
   refine ⟨ben_step h (o := o) ((del_ext B.nd hm _).trans (ins_ext hdn (by rw [hd0]; exact hm) _ _)) B.m (fun i hi hne => (ins_ne hdn _ _ (by omega) hne).trans (del_ne B.nd _ hne)) (elsewhere2 B hy ht (by omega)) ?_ ?_ ?_,by rw [ins_len hdn,hdl]⟩
   · intro q' y' ks' hy' e1 e2
     obtain ⟨rfl,rfl⟩ := sub_uniq B.hz hy'
     rw [B.nd] at e1
     have e1 : B.ks = ks' := by simp only [Option.some.injEq,Node.mk.injEq] at e1; exact e1.2.2.2.2
     subst e1
     refine ⟨(B.ks.take L ++ B.ks.drop (L + 1)).take L ++ kidsAt (b.del B.m L).nodes.length o.content ++ (B.ks.take L ++ B.ks.drop (L + 1)).drop L,(ins_at hdn _ _).trans ?_,?_⟩
     · rw [attrsO_same (.inr (by omega)),valS_same (.inr (by omega)),namS_same (.inr (by omega))]
     · have hr1 := del_rep B.nd hm L hrp
       have ht1 : ((B.A ++ news (putIn l 3 n)) ++ .old n :: (news (putIn l 4 n) ++ B.C)).take L = B.A ++ news (putIn l 3 n) := by rw [hL]; exact List.take_left' rfl
       have ht2 : ((B.A ++ news (putIn l 3 n)) ++ .old n :: (news (putIn l 4 n) ++ B.C)).drop (L + 1) = news (putIn l 4 n) ++ B.C := by
         rw [← List.drop_drop,hL,List.drop_left' rfl]; rfl
       rw [ht1,ht2] at hr1
       have := ins_rep hdn (by rw [hd0]; exact hm) (by rw [hd0,hdl]; exact hle) L o.content (its := (B.A ++ news (putIn l 3 n)) ++ (news (putIn l 4 n) ++ B.C)) hr1
       refine cast ?_ this
       congr 1
       rw [hnew,hL,List.take_left' rfl,List.drop_left' rfl]
       unfold itemK
       rw [putIn_snoc,putIn_snoc,putIn_snoc,hasK_snoc,hasK_snoc,h6,h5,hasK_false h6]
       simp [hk,ht,news]
   · have := fs_same (o := o) h (by omega)
     rw [ins_fs,show (b.del B.m L).fs = b.fs by rw [del_eq B.nd]; rfl]; exact this
   · have := as_same (o := o) h (by omega)
     rw [ins_as,show (b.del B.m L).as = b.as by rw [del_eq B.nd]; rfl]; exact this
end
end Go.Am

/- Changes: the bench, step by step: what is taken away, called otherwise. -/
namespace Go.Am
open Go Go.RowKit
section
variable {t : Tree} {l : List Op} {b : Bn} {o : Op} {n : Nat} {q : Int} {y : Tree}
theorem itemK_no {l : List Op} {n : Nat} (h : hasK l 6 n = true ∨ hasK l 5 n = true) : ∀ x ∈ itemK l n,isOld n x = false := by
 intro x hx
 unfold itemK at hx
 simp only [List.mem_append] at hx
 rcases hx with (hx | hx) | hx
 · exact news_old n _ x hx
 · split at hx
   · exact news_old n _ x hx
   · rename_i h6
     rw [if_pos (h.resolve_left h6)] at hx; simp at hx
 · exact news_old n _ x hx
theorem step5 (h : Ben t l b) (h0 : ∀ i q y,Sub 0 (-1) t i q y → y.text = true → y.kids = []) (hy : Sub 0 (-1) t n q y) (hq : 0 ≤ q) (ht : o.target = (n : Int)) (hk : o.kind = 5) :
   Ben t (l ++ [o]) (doB b o) ∧ (doB b o).nodes.length = b.nodes.length := by
 obtain ⟨B,hqm⟩ := beside h h0 hy hq
 obtain ⟨ks,h1,-⟩ := h.nd n q y hy
 have hr := hy.rng
 have hcp := y.cnt_pos
 have hr2 := B.hz.rng
 have hcp2 := B.z.cnt_pos
 have hn : n < b.n0 := by rw [h.n0]; omega
 have hm : B.m < b.n0 := by rw [h.n0]; omega
 have hle := h.le
 have hn0 := h.n0
 have hkd : b.kd B.m = B.ks := by rw [Bn.kd_some B.nd]
 by_cases hno : hasK l 7 B.m = true ∨ hasK l 6 n = true ∨ hasK l 5 n = true
 · have hold : ∀ x ∈ itemsO l B.m B.z,isOld n x = false := by
     intro x hx
     by_cases h7 : hasK l 7 B.m = true
     · unfold itemsO at hx
       rw [B.zt,h7] at hx
       simp only [Bool.false_eq_true,if_false,if_true,List.mem_singleton] at hx
       subst hx; rfl
     · rw [B.items (by simpa using h7)] at hx
       simp only [List.mem_append] at hx
       rcases hx with (hx | hx) | hx
       · exact B.A_old x hx
       · exact itemK_no (hno.resolve_left h7) x hx
       · exact B.C_old x hx
   have hidx := idx_no hn B.rp hold
   have hd : doB b o = b := by
     unfold doB; rw [ht,Int.toNat_natCast,h1]; simp only [hqm,Int.toNat_natCast,hkd,hidx]; simp [hk]
   rw [hd]
   refine ⟨ben_step h (o := o) (Ext.refl _) B.m (fun _ _ _ => rfl) (elsewhere2 B hy ht (by omega)) ?_ (fs_same h (by omega)) (as_same h (by omega)),rfl⟩
   intro q' y' ks' hy' e1 e2
   obtain ⟨rfl,rfl⟩ := sub_uniq B.hz hy'
   refine ⟨ks',e1.trans ?_,?_⟩
   · rw [attrsO_same (.inr (by omega)),valS_same (.inr (by omega)),namS_same (.inr (by omega))]
   · have : itemsO (l ++ [o]) B.m B.z = itemsO l B.m B.z := by
       by_cases h7 : hasK l 7 B.m = true
       · unfold itemsO
         rw [B.zt,hasK_snoc,h7,valS_same (.inr (by omega))]
         rfl
       · rw [B.items (by simpa using h7),B.items' (by simpa using h7) (by omega) (by omega) (by omega) ht]
         have hno := hno.resolve_left h7
         congr 2
         unfold itemK
         rw [putIn_snoc,putIn_snoc,putIn_snoc,hasK_snoc,hasK_snoc]
         rcases hno with h6 | h5
         · simp [hk,h6]
         · simp [hk,h5]
     rw [this]; exact e2
 · have hv : hasK l 7 B.m = false := by simp at hno; exact hno.1
   have h6 : hasK l 6 n = false := by simp at hno; exact hno.2.1
   have h5 : hasK l 5 n = false := by simp at hno; exact hno.2.2
   have hitK : itemK l n = news (putIn l 3 n) ++ .old n :: news (putIn l 4 n) := by unfold itemK; rw [h6,h5]; simp
   have hrp : All2 (Rp b) B.ks ((B.A ++ news (putIn l 3 n)) ++ .old n :: (news (putIn l 4 n) ++ B.C)) := by
     have := B.rp; rw [B.items hv,hitK] at this
     simpa using this
   have hA : ∀ x ∈ B.A ++ news (putIn l 3 n),isOld n x = false := by
     intro x hx
     rcases List.mem_append.1 hx with hx | hx
     · exact B.A_old x hx
     · exact news_old n _ x hx
   obtain ⟨hidx,hlt⟩ := idx_old hn hrp hA
   obtain ⟨L,hL⟩ : ∃ L,L = (B.A ++ news (putIn l 3 n)).length := ⟨_,rfl⟩
   rw [← hL] at hidx hlt
   have hnew := B.items' (o := o) hv (by omega) (by omega) (by omega) ht
   have hd : doB b o = b.del B.m L := by
     unfold doB; rw [ht,Int.toNat_natCast,h1]; simp only [hqm,Int.toNat_natCast,hkd,hidx]; simp [hk]
   rw [hd]
   refine ⟨ben_step h (o := o) (del_ext B.nd hm _) B.m (fun i hi hne => del_ne B.nd _ hne) (elsewhere2 B hy ht (by omega)) ?_ ?_ ?_,del_len B.nd _⟩
   · intro q' y' ks' hy' e1 e2
     obtain ⟨rfl,rfl⟩ := sub_uniq B.hz hy'
     rw [B.nd] at e1
     have e1 : B.ks = ks' := by simp only [Option.some.injEq,Node.mk.injEq] at e1; exact e1.2.2.2.2
     subst e1
     refine ⟨B.ks.take L ++ B.ks.drop (L + 1),(del_at B.nd _).trans ?_,?_⟩
     · rw [attrsO_same (.inr (by omega)),valS_same (.inr (by omega)),namS_same (.inr (by omega))]
     · have hr1 := del_rep B.nd hm L hrp
       have ht1 : ((B.A ++ news (putIn l 3 n)) ++ .old n :: (news (putIn l 4 n) ++ B.C)).take L = B.A ++ news (putIn l 3 n) := by rw [hL]; exact List.take_left' rfl
       have ht2 : ((B.A ++ news (putIn l 3 n)) ++ .old n :: (news (putIn l 4 n) ++ B.C)).drop (L + 1) = news (putIn l 4 n) ++ B.C := by
         rw [← List.drop_drop,hL,List.drop_left' rfl]; rfl
       rw [ht1,ht2] at hr1
       refine cast ?_ hr1
       congr 1
       rw [hnew]
       unfold itemK
       rw [putIn_snoc,putIn_snoc,putIn_snoc,hasK_snoc,hasK_snoc,h6,h5]
       simp [hk,ht]
   · have := fs_same (o := o) h (by omega)
     rw [show (b.del B.m L).fs = b.fs by rw [del_eq B.nd]; rfl]; exact this
   · have := as_same (o := o) h (by omega)
     rw [show (b.del B.m L).as = b.as by rw [del_eq B.nd]; rfl]; exact this
theorem step7 (h : Ben t l b) (hy : Sub 0 (-1) t n q y) (ht : o.target = (n : Int)) (hk : o.kind = 7) : Ben t (l ++ [o]) (doB b o) ∧ (doB b o).nodes.length ≤ b.nodes.length + 1 := by
 obtain ⟨ks,h1,h2⟩ := h.nd n q y hy
 have hr := hy.rng
 have hcp := y.cnt_pos
 have hn : n < b.n0 := by rw [h.n0]; omega
 have hle := h.le
 have hn0 := h.n0
 have hd : doB b o = b.value n o.s := by
   unfold doB; rw [ht,Int.toNat_natCast,h1]; simp [hk]
 rw [hd]
 unfold Bn.value
 rw [h1]
 cases hT : y.text with
 | true =>
   simp only [if_true]
   refine ⟨ben_step h (o := o) (ext_set _ hn _) n (fun i hi hne => set_ne _ hne) (elsewhere ht (by omega)) ?_ (by exact fs_same (b := b) (o := o) h (by omega)) (by exact as_same (b := b) (o := o) h (by omega)),by simp [Bn.set]⟩
   intro q' y' ks' hy' e1 e2
   obtain ⟨rfl,rfl⟩ := sub_uniq hy hy'
   rw [h1] at e1
   have e1 : ks = ks' := by simp only [Option.some.injEq,Node.mk.injEq] at e1; exact e1.2.2.2.2
   subst e1
   refine ⟨ks,(set_at h1 _).trans ?_,?_⟩
   · rw [attrsO_same (.inr (by omega))]; simp [hT,valS_snoc,hk,ht]
   · refine all2_mono (fun _ _ => Rp.ext (ext_set _ hn _)) ?_
     unfold itemsO at e2 ⊢
     rw [hT] at e2 ⊢
     exact e2
 | false =>
   simp only [Bool.false_eq_true,if_false]
   have hs := set_at h1 (y := ({ text := false,s := namS l n y.s,attrs := attrsO l n y.attrs,parent := q,kids := [] } : Node))
   refine ⟨ben_step h (o := o) ((ext_set _ hn _).trans (ins_ext hs hn _ _)) n (fun i hi hne => (ins_ne hs _ _ (by simp [Bn.set]; omega) hne).trans (set_ne _ hne)) (elsewhere ht (by omega)) ?_ ?_ ?_,?_⟩
   · intro q' y' ks' hy' e1 e2
     obtain ⟨rfl,rfl⟩ := sub_uniq hy hy'
     refine ⟨([] : List Int).take 0 ++ kidsAt (b.set n ({ text := false,s := namS l n y.s,attrs := attrsO l n y.attrs,parent := q,kids := [] } : Node)).nodes.length [txt o.s] ++ ([] : List Int).drop 0,(ins_at hs _ _).trans ?_,?_⟩
     · rw [attrsO_same (.inr (by omega)),hT,namS_same (.inr (by omega))]; rfl
     · have := ins_rep hs hn (by simp [Bn.set]; exact hle) 0 [txt o.s] (its := []) .nil
       refine cast ?_ this
       congr 1
       unfold itemsO
       rw [hT,hasK_snoc,valS_snoc]
       simp [hk,ht,news]
   · have := fs_same (o := o) h (by omega)
     rw [ins_fs]; exact this
   · have := as_same (o := o) h (by omega)
     rw [ins_as]; exact this
   · rw [ins_len hs]; simp [Bn.set,cntT,txt,Tree.cnt]
theorem step8 (h : Ben t l b) (hy : Sub 0 (-1) t n q y) (ht : o.target = (n : Int)) (hk : o.kind = 8) (hT : y.text = false) : Ben t (l ++ [o]) (doB b o) ∧ (doB b o).nodes.length = b.nodes.length := by
 obtain ⟨ks,h1,h2⟩ := h.nd n q y hy
 have hr := hy.rng
 have hcp := y.cnt_pos
 have hn : n < b.n0 := by rw [h.n0]; omega
 have hd : doB b o = b.name n o.name := by
   unfold doB; rw [ht,Int.toNat_natCast,h1]; simp [hk]
 rw [hd]
 unfold Bn.name
 rw [h1]
 refine ⟨ben_step h (o := o) (ext_set _ hn _) n (fun i hi hne => set_ne _ hne) (elsewhere ht (by omega)) ?_ (by exact fs_same (b := b) (o := o) h (by omega)) (by exact as_same (b := b) (o := o) h (by omega)),by simp [Bn.set]⟩
 intro q' y' ks' hy' e1 e2
 obtain ⟨rfl,rfl⟩ := sub_uniq hy hy'
 rw [h1] at e1
 have e1 : ks = ks' := by simp only [Option.some.injEq,Node.mk.injEq] at e1; exact e1.2.2.2.2
 subst e1
 refine ⟨ks,(set_at h1 _).trans ?_,?_⟩
 · rw [attrsO_same (.inr (by omega))]; simp [hT,namS_snoc,hk,ht]
 · rw [itemsO_ne (.inr (by omega)) fun k _ => .inr (by omega)]
   exact all2_mono (fun _ _ => Rp.ext (ext_set _ hn _)) e2
theorem step9 (h : Ben t l b) (hy : Sub 0 (-1) t n q y) (ht : o.target = (n : Int)) (hk : o.kind = 9 ∨ o.kind = 10) : Ben t (l ++ [o]) (doB b o) ∧ (doB b o).nodes.length = b.nodes.length := by
 obtain ⟨ks,h1,h2⟩ := h.nd n q y hy
 have hr := hy.rng
 have hcp := y.cnt_pos
 have hn : n < b.n0 := by rw [h.n0]; omega
 have hd : doB b o = b.attr n o := by
   unfold doB; rw [ht,Int.toNat_natCast,h1]
   rcases hk with hk | hk <;> simp [hk]
 rw [hd]
 unfold Bn.attr
 rw [h1]
 refine ⟨ben_step h (o := o) (ext_set _ hn _) n (fun i hi hne => set_ne _ hne) (elsewhere ht (by omega)) ?_ (by exact fs_same (b := b) (o := o) h (by omega)) (by exact as_same (b := b) (o := o) h (by omega)),by simp [Bn.set]⟩
 intro q' y' ks' hy' e1 e2
 obtain ⟨rfl,rfl⟩ := sub_uniq hy hy'
 rw [h1] at e1
 have e1 : ks = ks' := by simp only [Option.some.injEq,Node.mk.injEq] at e1; exact e1.2.2.2.2
 subst e1
 refine ⟨ks,(set_at h1 _).trans ?_,?_⟩
 · rw [valS_same (.inr (by omega)),namS_same (.inr (by omega)),attrsO_snoc,attrS]; simp [ht,hk]
 · rw [itemsO_ne (.inr (by omega)) fun k _ => .inr (by omega)]
   exact all2_mono (fun _ _ => Rp.ext (ext_set _ hn _)) e2
theorem ben_start (t : Tree) (h0 : ∀ i q y,Sub 0 (-1) t i q y → y.text = true → y.kids = []) : Ben t [] ⟨t.cnt,docOf t,List.replicate t.cnt 0,List.replicate t.cnt 0⟩ where
 n0 := rfl
 le := by rw [docOf_len]; exact Nat.le_refl _
 nd i q y hy := by
   refine ⟨kidsAt (i + 1) y.kids,?_,?_⟩
   · have := (hy.lies (docOf t) ⟨[],by simp [docOf]⟩).node
     simp only at this ⊢
     rw [this]
     simp [Tree.node,valS,namS,ofK,attrsO]
   · have hK : ∀ k,itemK [] k = [.old k] := fun k => by simp [itemK,putIn,hasK,ofK,news]
     unfold itemsO
     cases hT : y.text with
     | true => rw [h0 i q y hy hT]; exact .nil
     | false =>
       simp only [Bool.false_eq_true,if_false,hasK,ofK,List.filter_nil,List.isEmpty_nil,Bool.not_true,putIn,List.flatMap_nil,news,List.map_nil,List.nil_append,List.append_nil]
       have : ∀ (off : Nat) (xs : List Tree) (b : Bn),All2 (Rp b) (kidsAt off xs) ((kidsN off xs).flatMap (itemK [])) := by
         intro off xs b
         induction xs generalizing off with
         | nil => exact .nil
         | cons x r ih => simp only [kidsAt,kidsN,List.flatMap_cons,hK,List.singleton_append]; exact .cons rfl (ih _)
       exact this _ _ _
 fs := by
   refine ⟨by simp,fun i hi => ?_⟩
   simp [hi,putIn,ofK]
 as := by
   refine ⟨by simp,fun i hi => ?_⟩
   simp [hi,putIn,ofK]
end
end Go.Am
