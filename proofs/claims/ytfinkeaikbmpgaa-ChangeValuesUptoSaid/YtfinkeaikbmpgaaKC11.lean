import Derived.Test.YtfinkeaikbmpgaaKC6
import Derived.Test.YtfinkeaikbmpgaaKS3
set_option linter.unusedSimpArgs false
set_option linter.unusedVariables false
set_option linter.unnecessarySimpa false
set_option linter.defProp false
/- Changes: called otherwise and as it was again; an attribute set and dropped. -/
namespace Go.Am
open Go Go.RowKit
abbrev Say := Nat → Bool → Bs → List Attr → Bs × List Attr
def Say.seq (f g : Say) : Say := fun n t s as => g n t (f n t s as).1 (f n t s as).2
def fO (l : List Op) : Say := fun n t s as => (if t then valS l n s else namS l n s,attrsO l n as)
theorem one_ok {t : Tree} (ht : t.good = true) (o : Op) : checkF (docOf t) [o] = 0 ↔ OpOk t o := by
 rw [check_zero ht]
 simp
end Go.Am

/- topiarykeep: called otherwise and as it was again. -/
set_option pp.deepTerms false
set_option pp.deepTerms.threshold 5
set_option maxRecDepth 20000
namespace Go.Am
open Go Go.RowKit
theorem opsB_one (o : Op) (h1 : wtT o.content ≤ 2 ^ 22) (h2 : o.name.length ≤ 2 ^ 22) (h3 : o.s.length ≤ 2 ^ 22) : opsB [o] := by
 refine ⟨by simp,fun x hx => ?_⟩
 simp only [List.mem_singleton] at hx
 subst hx
 exact ⟨h1,h2,h3⟩
theorem applyF_wt {d : Doc} (hd : wtN d ≤ 2 ^ 22) (l : List Op) : wtN (applyF d l).1 ≤ 2 ^ 22 := by
 by_cases he : (applyF d l).2 = 0
 · obtain ⟨t,ht,rfl,hc,hg,h1⟩ := applyF_ok he
   rw [h1]; have := wt_docOf (applyT t l); have := good_wt hg; have h22 : (2 : Nat) ^ 22 = 4194304 := by decide
   omega
 · rw [applyF_bad he]; exact hd
section
variable {P : Program} {G : Nat → Option (List IV)}
end
end Go.Am

/- Changes: a value given to a node. -/
namespace Go.Am
open Go Go.RowKit
mutual
def Tree.sub1 (n : Nat) (g : Tree → Tree) (off : Nat) : Tree → Tree
 | .mk t s as ks => if off = n then g (.mk t s as ks) else .mk t s as (subs1 n g (off + 1) ks)
def subs1 (n : Nat) (g : Tree → Tree) (off : Nat) : List Tree → List Tree
 | [] => []
 | k :: r => k.sub1 n g off :: subs1 n g (off + k.cnt) r
end
theorem sub1_at (n : Nat) (g : Tree → Tree) (x : Tree) : x.sub1 n g n = g x := by cases x; simp [Tree.sub1]
theorem sub1_ne {n off : Nat} (h : off ≠ n) (g : Tree → Tree) (x : Tree) : x.sub1 n g off = .mk x.text x.s x.attrs (subs1 n g (off + 1) x.kids) := by
 cases x; simp [Tree.sub1,h,Tree.text,Tree.s,Tree.attrs,Tree.kids]
mutual
theorem sub1_out (n : Nat) (g : Tree → Tree) : ∀ (x : Tree) (off : Nat),(n < off ∨ off + x.cnt ≤ n) → x.sub1 n g off = x
 | .mk t s as ks,off,h => by
   simp only [Tree.cnt] at h
   rw [Tree.sub1,if_neg (by omega),subs1_out n g ks (off + 1) (by omega)]
theorem subs1_out (n : Nat) (g : Tree → Tree) : ∀ (xs : List Tree) (off : Nat),(n < off ∨ off + cntT xs ≤ n) → subs1 n g off xs = xs
 | [],_,_ => rfl
 | x :: r,off,h => by
   simp only [cntT] at h
   rw [subs1,sub1_out n g x off (by omega),subs1_out n g r (off + x.cnt) (by omega)]
end
theorem subs1_split (n : Nat) (g : Tree → Tree) (k : Tree) (b : List Tree) : ∀ (a : List Tree) (off : Nat),off + cntT a ≤ n → n < off + cntT a + k.cnt → subs1 n g off (a ++ k :: b) = a ++ k.sub1 n g (off + cntT a) :: b
 | [],off,h1,h2 => by
   simp only [cntT,Nat.add_zero] at h1 h2
   simp only [List.nil_append,subs1,cntT,Nat.add_zero]
   rw [subs1_out n g b (off + k.cnt) (by omega)]
 | x :: r,off,h1,h2 => by
   simp only [cntT] at h1 h2
   simp only [List.cons_append,subs1,cntT]
   rw [sub1_out n g x off (by omega),subs1_split n g k b r (off + x.cnt) (by omega) (by omega),Nat.add_assoc]
theorem Sub.sub1 (g : Tree → Tree) {off : Nat} {p : Int} {t : Tree} {n : Nat} {q : Int} {y : Tree} (h : Sub off p t n q y) : Sub off p (t.sub1 n g off) n q (g y) := by
 induction h with
 | self off p t => rw [sub1_at]; exact .self _ _ _
 | @kid off p t n q y a b k e hs ih =>
   have hr := hs.rng
   have hp := y.cnt_pos
   rw [sub1_ne (by omega)]
   refine .kid a b (k.sub1 n g (off + 1 + cntT a)) ?_ ih
   show subs1 n g (off + 1) t.kids = _
   rw [e,subs1_split n g k b a (off + 1) (by omega) (by omega)]
theorem toldT_cat : ∀ a b : List Tree,toldT (a ++ b) = toldT a ++ toldT b
 | [],b => by simp [toldT]
 | x :: r,b => by simp only [List.cons_append,toldT,toldT_cat r b,List.append_assoc]
theorem flats_cat (p : Nat) : ∀ (a b : List Tree) (off : Nat),flats off p (a ++ b) = flats off p a ++ flats (off + cntT a) p b
 | [],b,off => by simp [flats,cntT]
 | x :: r,b,off => by simp only [List.cons_append,flats,flats_cat p r b,cntT,Nat.add_assoc,List.append_assoc]
theorem Sub.told1 (g : Tree → Tree) {off : Nat} {p : Int} {t : Tree} {n : Nat} {q : Int} {y : Tree} (h : Sub off p t n q y) :
   ∃ A C : List Node,t.flat off p = A ++ y.flat n q ++ C ∧ off + A.length = n ∧ (t.sub1 n g off).told = A.flatMap Node.told ++ (g y).told ++ C.flatMap Node.told := by
 induction h with
 | self off p t => exact ⟨[],[],by simp,by simp,by rw [sub1_at]; simp⟩
 | @kid off p t n q y a b k e hs ih =>
   obtain ⟨A,C,h1,h2,h3⟩ := ih
   have hr := hs.rng
   have hp := y.cnt_pos
   refine ⟨t.node off p :: (flats (off + 1) off a ++ A),C ++ flats (off + 1 + cntT a + k.cnt) off b,?_,?_,?_⟩
   · have : t.flat off p = t.node off p :: flats (off + 1) off t.kids := by cases t; rfl
     rw [this,e,flats_cat]
     simp only [flats,h1,List.cons_append,List.append_assoc]
   · have : (flats (off + 1) off a).length = cntT a := flats_len _ _ _
     simp only [List.length_cons,List.length_append,this]; omega
   · rw [sub1_ne (by omega),e,subs1_split n g k b a (off + 1) (by omega) (by omega),Tree.told_eq]
     show (if t.text = true then t.s else []) ++ toldT (a ++ k.sub1 n g (off + 1 + cntT a) :: b) = _
     rw [toldT_cat,toldT,h3,← toldT_flats (off + 1) off a,← toldT_flats (off + 1 + cntT a + k.cnt) off b]
     simp only [List.flatMap_cons,List.flatMap_append,List.append_assoc]
     rfl
mutual
theorem sub1_jd {n : Nat} {g : Tree → Tree} (h1 : ∀ y,(g y).text = y.text) (h2 : ∀ y,(g y).jd = true ∧ ((g y).text = true → (g y).s ≠ [])) : ∀ (x : Tree) (off : Nat),x.jd = true → (x.sub1 n g off).jd = true
 | .mk t s as ks,off,h => by
   rw [Tree.sub1]
   split
   · exact (h2 _).1
   · simp only [Tree.jd] at h ⊢
     exact subs1_jd h1 h2 ks (off + 1) false h
theorem subs1_jd {n : Nat} {g : Tree → Tree} (h1 : ∀ y,(g y).text = y.text) (h2 : ∀ y,(g y).jd = true ∧ ((g y).text = true → (g y).s ≠ [])) : ∀ (ks : List Tree) (off : Nat) (p : Bool),jds p ks = true → jds p (subs1 n g off ks) = true
 | [],_,_,_ => rfl
 | x :: r,off,p,h => by
   simp only [jds,Bool.and_eq_true] at h
   obtain ⟨h3,h4,h5⟩ := h
   have e1 : (x.sub1 n g off).text = x.text := by
     by_cases e : off = n
     · subst e; rw [sub1_at]; exact h1 x
     · rw [sub1_ne e]; rfl
   have e2 : (x.sub1 n g off).s = x.s ∨ ((x.sub1 n g off).text = true → (x.sub1 n g off).s ≠ []) := by
     by_cases e : off = n
     · subst e; rw [sub1_at]; exact .inr (h2 x).2
     · rw [sub1_ne e]; exact .inl rfl
   simp only [subs1,jds,Bool.and_eq_true,e1]
   refine ⟨?_,sub1_jd h1 h2 x off h4,subs1_jd h1 h2 r (off + x.cnt) x.text h5⟩
   cases hT : x.text with
   | false => rfl
   | true =>
     rw [hT] at h3
     rcases e2 with e2 | e2
     · rw [e2]; exact h3
     · have := e2 (by rw [e1,hT])
       have hb : ((x.sub1 n g off).s == []) = false := by simpa using this
       cases p
       · rw [hb]; rfl
       · simp at h3
end
def valG (s : Bs) (y : Tree) : Tree := .mk y.text (if y.text then s else y.s) y.attrs (if y.text then [] else [txt s])
mutual
theorem turn_val (n : Nat) (s : Bs) : ∀ (x : Tree) (off : Nat),x.fine = true → x.turn [⟨7,n,[],[],s⟩] off = [x.sub1 n (valG s) off]
 | .mk t s0 as ks,off,hf => by
   have hk := turns_val n s ks (off + 1) fun x hx => fines_mem (Tree.fine_kids hf) x hx
   have e0 : ∀ k,putIn [(⟨7,n,[],[],s⟩ : Op)] k off = [] := by
     intro k
     unfold putIn ofK
     rw [List.filter_cons]; split <;> simp
   have e5 : hasK [(⟨7,n,[],[],s⟩ : Op)] 5 off = false := by simp [hasK,ofK]
   have e6 : hasK [(⟨7,n,[],[],s⟩ : Op)] 6 off = false := by simp [hasK,ofK]
   have e8 : ∀ z,namS [(⟨7,n,[],[],s⟩ : Op)] off z = z := by intro z; simp [namS,ofK]
   have e9 : attrsO [(⟨7,n,[],[],s⟩ : Op)] off as = as := by simp [attrsO,attrS]
   have ht : t = true → ks = [] := fun h => by
     have := (Tree.fine_text hf (by simpa [Tree.text] using h)).1
     simpa [Tree.kids] using this
   by_cases e : off = n
   · subst e
     have e7 : hasK [(⟨7,off,[],[],s⟩ : Op)] 7 off = true := by simp [hasK,ofK]
     have e10 : ∀ z,valS [(⟨7,off,[],[],s⟩ : Op)] off z = s := by intro z; simp [valS,ofK]
     simp only [Tree.turn,e0,e5,e6,e7,e8,e9,e10,Tree.sub1,valG,Tree.text,Tree.s,Tree.attrs,if_true,Bool.false_eq_true,if_false,List.nil_append,List.append_nil]
     cases t <;> rfl
   · have hne : ¬ (n = off) := fun h => e h.symm
     have e7 : hasK [(⟨7,n,[],[],s⟩ : Op)] 7 off = false := by
       simp only [hasK,ofK,List.filter_cons,List.filter_nil]
       rw [if_neg (by simp; omega)]; rfl
     have e10 : ∀ z,valS [(⟨7,n,[],[],s⟩ : Op)] off z = z := by
       intro z
       simp only [valS,ofK,List.filter_cons,List.filter_nil]
       rw [if_neg (by simp; omega)]; rfl
     simp only [Tree.turn,e0,e5,e6,e7,e8,e9,e10,hk,Tree.sub1,if_neg e,Bool.false_eq_true,if_false,List.nil_append,List.append_nil,ite_self]
     cases t with
     | true => rw [ht rfl]; rfl
     | false => rfl
theorem turns_val (n : Nat) (s : Bs) : ∀ (xs : List Tree) (off : Nat),(∀ x ∈ xs,x.fine = true) → turns [⟨7,n,[],[],s⟩] off xs = subs1 n (valG s) off xs
 | [],_,_ => rfl
 | x :: r,off,hf => by simp [turns,subs1,turn_val n s x off (hf x (by simp)),turns_val n s r (off + x.cnt) fun z hz => hf z (by simp [hz])]
end
theorem applyT_val {t : Tree} (ht : t.good = true) (n : Nat) {s : Bs} (hs : s ≠ []) : applyT t [⟨7,n,[],[],s⟩] = t.sub1 n (valG s) 0 := by
 obtain ⟨_,_,_,hf⟩ := (good_iff t).1 ht
 have h1 : t.turn1 [⟨7,n,[],[],s⟩] 0 = t.sub1 n (valG s) 0 := turn1_of (turn_val n s t 0 hf) (by simp [putIn,ofK]) (by simp [putIn,ofK]) (by simp [hasK,ofK]) (by simp [hasK,ofK])
 unfold applyT
 rw [h1]
 have h2 : jds false (t.sub1 n (valG s) 0).kids = true := by
   rw [← Tree.jd_eq]
   refine sub1_jd (n := n) (g := valG s) (fun _ => rfl) (fun y => ⟨?_,?_⟩) t 0 (Tree.fine_jd t hf).1
   · unfold valG
     cases y.text
     · simp [Tree.jd,jds,txt,Tree.text,Tree.s,hs]
     · simp [Tree.jd,jds]
   · intro h
     have e : (valG s y).s = if y.text = true then s else y.s := rfl
     have h : y.text = true := h
     rw [e,if_pos h]; exact hs
 rw [joined_id h2]
 cases t.sub1 n (valG s) 0; rfl
theorem told_txt (s : Bs) : (txt s).told = s := by rw [Tree.told_eq]; simp [txt,Tree.text,Tree.s,Tree.kids,toldT]
theorem told_val (s : Bs) (y : Tree) : (valG s y).told = s := by
 rw [Tree.told_eq]
 unfold valG
 cases y.text <;> simp [Tree.text,Tree.s,Tree.kids,toldT,told_txt]
theorem value_ok {d : Doc} {n : Int} {s : Bs} (hs : s ≠ []) (h : (applyF d [⟨7,n,[],[],s⟩]).2 = 0) :
   ∃ (t T y : Tree) (m : Nat) (q : Int) (A C : List Node),t.good = true ∧ T.good = true ∧ d = docOf t ∧ n = (m : Int) ∧ Sub 0 (-1) t m q y ∧ (applyF d [⟨7,n,[],[],s⟩]).1 = docOf T ∧ docOf t = A ++ y.flat m q ++ C ∧ A.length = m ∧
     strD (docOf T) m = s ∧ strD (docOf T) 0 = A.flatMap Node.told ++ s ++ C.flatMap Node.told ∧ strD (docOf t) 0 = A.flatMap Node.told ++ y.told ++ C.flatMap Node.told := by
 obtain ⟨t,ht,rfl,hc,hg,h1⟩ := applyF_ok h
 obtain ⟨m,q,y,hy,hm,_⟩ := ((one_ok ht _).1 hc).ex
 simp only at hm
 subst hm
 rw [applyT_val ht m hs] at hg h1
 obtain ⟨A,C,h3,h4,h5⟩ := hy.told1 (valG s)
 have h0 : ∀ {x : Tree},x.good = true → strD (docOf x) 0 = x.told := fun hx => strD_of hx (n := 0) (q := -1) ⟨[],by simp [docOf]⟩
 have h6 := hy.sub1 (valG s)
 refine ⟨t,_,y,m,q,A,C,ht,hg,rfl,rfl,hy,h1,h3,by omega,?_,?_,?_⟩
 · rw [strD_of hg (h6.lies _ ⟨[],by simp [docOf]⟩),told_val]
 · rw [h0 hg,h5,told_val]
 · rw [h0 ht,← Tree.told_flat 0 (-1) t,h3,List.flatMap_append,List.flatMap_append,Tree.told_flat]
def aheadTo (d : Doc) (n i : Nat) : Bs := (d.take (min i n)).flatMap Node.told
def behindTo (d : Doc) (e i : Nat) : Bs := ((d.take i).drop e).flatMap Node.told
theorem ahead_step {d : Doc} {n i : Nat} {x : Node} (hx : d[i]? = some x) : aheadTo d n (i + 1) = aheadTo d n i ++ (if x.text = true ∧ i < n then x.s else []) := by
 unfold aheadTo
 by_cases h : i < n
 · rw [Nat.min_eq_left (by omega),Nat.min_eq_left (by omega),take_snoc' hx,List.flatMap_append]
   simp [Node.told,h]
 · rw [Nat.min_eq_right (by omega),Nat.min_eq_right (by omega)]
   simp [h]
theorem behind_step {d : Doc} {e i : Nat} {x : Node} (hx : d[i]? = some x) : behindTo d e (i + 1) = behindTo d e i ++ (if x.text = true ∧ e ≤ i then x.s else []) := by
 unfold behindTo
 have hl := (List.getElem?_eq_some_iff.1 hx).1
 by_cases h : e ≤ i
 · rw [take_snoc' hx,List.drop_append_of_le_length (by simp; omega),List.flatMap_append]
   simp [Node.told,h]
 · rw [List.drop_of_length_le (by simp; omega),List.drop_of_length_le (by simp; omega)]
   simp [h]
theorem ahead_all {A B C : List Node} : aheadTo (A ++ B ++ C) A.length (A ++ B ++ C).length = A.flatMap Node.told := by
 unfold aheadTo
 rw [Nat.min_eq_right (by simp),List.append_assoc,List.take_left']
 rfl
theorem behind_all {A B C : List Node} : behindTo (A ++ B ++ C) (A.length + B.length) (A ++ B ++ C).length = C.flatMap Node.told := by
 unfold behindTo
 rw [List.take_length,List.drop_left' (by simp)]
end Go.Am

/- topiarykeep: a value given to a node. -/
set_option pp.deepTerms false
set_option pp.deepTerms.threshold 8
set_option maxRecDepth 20000
namespace Go.Am
open Go Go.RowKit
theorem ahead_len (d : Doc) (n i : Nat) : (aheadTo d n i).length ≤ wtN d := by
 have h := told_wt d
 have e : d.flatMap Node.told = (d.take (min i n)).flatMap Node.told ++ (d.drop (min i n)).flatMap Node.told := by rw [← List.flatMap_append,List.take_append_drop]
 rw [e,List.length_append] at h
 unfold aheadTo; omega
theorem behind_len (d : Doc) (n i : Nat) : (behindTo d n i).length ≤ wtN d := by
 have h := told_wt d
 have e : d.flatMap Node.told = (d.take i).flatMap Node.told ++ (d.drop i).flatMap Node.told := by rw [← List.flatMap_append,List.take_append_drop]
 have e2 : (d.take i).flatMap Node.told = ((d.take i).take n).flatMap Node.told ++ ((d.take i).drop n).flatMap Node.told := by rw [← List.flatMap_append,List.take_append_drop]
 rw [e,e2,List.length_append,List.length_append] at h
 unfold behindTo; omega
section
variable {P : Program} {G : Nat → Option (List IV)}
def c_topiarykeep_ChangeValues (f_change_Apply f_topiarykeep_changes f_doc_String f_doc_End : Nat) : AC :=
(.seq (.reg [⟨some 3,none,.box (.t 0)⟩,⟨some 6,none,.mov (.c (.bool false))⟩]) (.seq (.reg [⟨some 16,none,.load (some 1) (.t 3)⟩,⟨some 17,none,.mov (.t 1)⟩,⟨some 18,none,.mov (.t 2)⟩,⟨some 19,none,(.bld [(.int .i64 0),(.int .i64 0),.nil0,(.str []),(.str [])] [(0,(1,(.c (.int .i64 7)))),(1,(1,(.t 17))),(4,(1,(.t 18)))])⟩,⟨some 20,none,.lits 1 5 [(.int .i64 0),(.int .i64 0),.nil0,(.str []),(.str [])] [(0,(.t 19))]⟩,⟨some 21,none,.call f_change_Apply [(.t 16),(.t 20)]⟩,⟨some 15,none,.mov (.t 21)⟩,⟨some 22,none,.ext (.t 15) 0⟩,⟨some 23,none,.ext (.t 15) 1⟩,⟨some 7,none,.new [.nil0]⟩,⟨none,none,.store 1 (.t 7) (.t 22)⟩,⟨some 8,none,.mov (.t 23)⟩]) (.seq (.seq (.reg [⟨some 24,none,.mov (.t 8)⟩,⟨some 25,none,.bin .neq (.t 24) (.c (.int .i64 0))⟩,⟨some 26,none,.mov (.t 25)⟩,⟨some 27,(some (26,false)),(.mov (.t 2))⟩,⟨some 28,(some (26,false)),(.bin .eql (.t 27) (.c (.str [])))⟩,⟨some 29,none,.pick (.t 26) (.c (.bool true)) (.t 28)⟩,⟨some 30,none,.mov (.t 29)⟩,⟨some 31,(some (30,false)),(.call f_topiarykeep_changes [])⟩,⟨some 32,(some (30,false)),(.not (.t 31))⟩,⟨some 33,none,.pick (.t 30) (.c (.bool true)) (.t 32)⟩]) (.cond (.t 33) (.seq (.reg [⟨some 34,none,.call f_topiarykeep_changes []⟩,⟨some 6,none,.mov (.t 34)⟩]) .ret) .skip)) (.seq (.seq (.reg [⟨some 35,none,.load (some 1) (.t 7)⟩,⟨some 36,none,.mov (.t 1)⟩,⟨some 37,none,.call f_doc_String [(.t 35),(.t 36)]⟩,⟨some 38,none,.mov (.t 2)⟩,⟨some 39,none,.bin .neq (.t 37) (.t 38)⟩]) (.cond (.t 39) (.seq (.reg [⟨some 6,none,.mov (.c (.bool false))⟩]) .ret) .skip)) (.seq (.dreg [⟨some 40,none,.load (some 1) (.t 3)⟩,⟨some 41,none,.call f_doc_String [(.t 40),(.c (.int .i64 0))]⟩,⟨some 42,none,.load (some 1) (.t 7)⟩,⟨some 43,none,.call f_doc_String [(.t 42),(.c (.int .i64 0))]⟩,⟨some 9,none,.mov (.t 41)⟩,⟨some 10,none,.mov (.t 43)⟩] [[],[0],[],[2,1],[1,3,0,1],[3,4,0,1,2,3,4]] [.rw [.loc 3] [],.no,.rw [.loc 7] [],.no,.no,.no]) (.seq (.reg [⟨some 11,none,.mov (.c (.str []))⟩,⟨some 12,none,.mov (.c (.str []))⟩]) (.seq (.seq (.reg [⟨some 44,none,.fld (.t 3) 0⟩,⟨some 45,none,.load none (.t 44)⟩,⟨some 46,none,.len (.t 45)⟩,⟨some 47,none,.mov (.c (.int .i64 0))⟩]) (.block 0 (.loop (.seq (.reg [⟨some 48,none,.bin .lss (.t 47) (.t 46)⟩]) (.seq (.cond (.t 48) .skip (.exit 0)) (.seq (.block 1 (.seq (.reg [⟨some 49,none,.mov (.t 47)⟩,⟨some 50,none,.ixa (.t 45) (.t 47) 5⟩,⟨some 51,none,.load (some 5) (.t 50)⟩,⟨some 14,none,.new [(.bool false),(.str []),.nil0,(.int .i64 0),.nil0]⟩,⟨some 13,none,.mov (.t 49)⟩,⟨none,none,.store 5 (.t 14) (.t 51)⟩]) (.seq (.seq (.reg [⟨some 52,none,.fld (.t 14) 0⟩,⟨some 53,none,.load none (.t 52)⟩,⟨some 54,none,.mov (.t 53)⟩,⟨some 55,(some (54,true)),(.mov (.t 13))⟩,⟨some 56,(some (54,true)),(.mov (.t 1))⟩,⟨some 57,(some (54,true)),(.bin .lss (.t 55) (.t 56))⟩,⟨some 58,none,.pick (.t 54) (.t 57) (.c (.bool false))⟩]) (.cond (.t 58) (.reg [⟨some 59,none,.mov (.t 11)⟩,⟨some 60,none,.fld (.t 14) 1⟩,⟨some 61,none,.load none (.t 60)⟩,⟨some 62,none,.bin .add (.t 59) (.t 61)⟩,⟨some 11,none,.mov (.t 62)⟩]) .skip)) (.seq (.reg [⟨some 63,none,.fld (.t 14) 0⟩,⟨some 64,none,.load none (.t 63)⟩,⟨some 65,none,.mov (.t 64)⟩,⟨some 66,(some (65,true)),(.mov (.t 13))⟩,⟨some 67,(some (65,true)),(.load (some 1) (.t 3))⟩,⟨some 68,(some (65,true)),(.mov (.t 1))⟩,⟨some 69,(some (65,true)),(.call f_doc_End [(.t 67),(.t 68)])⟩,⟨some 70,(some (65,true)),(.bin .geq (.t 66) (.t 69))⟩,⟨some 71,none,.pick (.t 65) (.t 70) (.c (.bool false))⟩]) (.cond (.t 71) (.reg [⟨some 72,none,.mov (.t 12)⟩,⟨some 73,none,.fld (.t 14) 1⟩,⟨some 74,none,.load none (.t 73)⟩,⟨some 75,none,.bin .add (.t 72) (.t 74)⟩,⟨some 12,none,.mov (.t 75)⟩]) .skip))))) (.reg [⟨some 76,none,.bin .add (.t 47) (.c (.int .i64 1))⟩,⟨some 47,none,.mov (.t 76)⟩]))))))) (.seq (.reg [⟨some 77,none,.mov (.t 10)⟩,⟨some 78,none,.mov (.t 11)⟩,⟨some 79,none,.mov (.t 2)⟩,⟨some 80,none,.bin .add (.t 78) (.t 79)⟩,⟨some 81,none,.mov (.t 12)⟩,⟨some 82,none,.bin .add (.t 80) (.t 81)⟩,⟨some 83,none,.bin .eql (.t 77) (.t 82)⟩,⟨some 84,none,.mov (.t 83)⟩,⟨some 85,(some (84,true)),(.mov (.t 9))⟩,⟨some 86,(some (84,true)),(.lens (.t 85))⟩,⟨some 87,(some (84,true)),(.mov (.t 11))⟩,⟨some 88,(some (84,true)),(.lens (.t 87))⟩,⟨some 89,(some (84,true)),(.mov (.t 12))⟩,⟨some 90,(some (84,true)),(.lens (.t 89))⟩,⟨some 91,(some (84,true)),(.bin .add (.t 88) (.t 90))⟩,⟨some 92,(some (84,true)),(.bin .geq (.t 86) (.t 91))⟩,⟨some 93,none,.pick (.t 84) (.t 92) (.c (.bool false))⟩,⟨some 6,none,.mov (.t 93)⟩]) .ret))))))))
set_option maxHeartbeats 1600000 in
theorem pLawChangeValues {f_topiarykeep_ChangeValues f_change_Apply f_topiarykeep_changes f_doc_String f_doc_End : Nat} (hF : compF P G f_topiarykeep_ChangeValues = some (94,[(none,6)],(c_topiarykeep_ChangeValues f_change_Apply f_topiarykeep_changes f_doc_String f_doc_End).bare)) (d : Doc) (n : Int) (s : Bs) (hd : wtN d ≤ 2 ^ 22) (hs : s.length ≤ 2 ^ 22)
   (hA : ApplyC P G f_change_Apply) (hC : PureC P G f_topiarykeep_changes [] (.bool true)) (hSt : ∀ (e : Doc) (k : Int),wtN e ≤ B → PureC P G f_doc_String [Doc.av e,.int .i64 k] (.str (strD e k))) (hE : ∀ (e : Doc) (k : Int),wtN e ≤ B → PureC P G f_doc_End [Doc.av e,.int .i64 k] (.int .i64 (endD e k))) :
   PureC P G f_topiarykeep_ChangeValues [Doc.av d,.int .i64 n,.str s] (.bool true) := by
 refine pure_of_go hF (by simp) (by simp [lbss,AV.lbs,Doc.av]) (by simp [AV.lbs]) ?_
 have hBv : B = 1073741824 := rfl
 have h22 : (2 : Nat) ^ 22 = 4194304 := by decide
 have ho : opsB [(⟨7,n,[],[],s⟩ : Op)] := opsB_one _ (by simp [wtT]) (by simp) hs
 unfold c_topiarykeep_ChangeValues
 simp only [↓aX,mX,reduceCtorEq,Nat.reduceEqDiff,Nat.reduceLT,Nat.reduceLeDiff,Nat.reduceAdd,Nat.reduceMul,Int.reduceToNat,Int.reduceLE,Int.reduceLT,Doc.av]
 refine callT_pure ((hA _ _ hd ho).of rfl) ?_
 have hv := @value_ok d n s
 have hw1 := applyF_wt hd [(⟨7,n,[],[],s⟩ : Op)]
 generalize hA1 : applyF d [(⟨7,n,[],[],s⟩ : Op)] = A1 at *
 obtain ⟨D1,r1⟩ := A1
 simp only [] at hv hw1
 simp only [↓aX,mX,reduceCtorEq,Nat.reduceEqDiff,Nat.reduceLT,Nat.reduceLeDiff,Nat.reduceAdd,Nat.reduceMul,Int.reduceToNat,Int.reduceLE,Int.reduceLT,Doc.av]
 by_cases hr : r1 = 0
 case neg =>
   rw [show (r1 != 0) = true by simpa using hr]
   simp only [↓aX,mX,reduceCtorEq,Nat.reduceEqDiff,Nat.reduceLT,Nat.reduceLeDiff,Nat.reduceAdd,Nat.reduceMul,Int.reduceToNat,Int.reduceLE,Int.reduceLT]
   refine callT_pure hC ?_
   simp only [↓aX,mX,reduceCtorEq,Nat.reduceEqDiff,Nat.reduceLT,Nat.reduceLeDiff,Nat.reduceAdd,Nat.reduceMul,Int.reduceToNat,Int.reduceLE,Int.reduceLT]
 subst hr
 simp only [↓aX,mX,reduceCtorEq,Nat.reduceEqDiff,Nat.reduceLT,Nat.reduceLeDiff,Nat.reduceAdd,Nat.reduceMul,Int.reduceToNat,Int.reduceLE,Int.reduceLT,Int.reduceBNe]
 by_cases hse : s = []
 · subst hse
   simp only [↓aX,mX,reduceCtorEq,Nat.reduceEqDiff,Nat.reduceLT,Nat.reduceLeDiff,Nat.reduceAdd,Nat.reduceMul,Int.reduceToNat,Int.reduceLE,Int.reduceLT,show (([] : Bs) == []) = true from rfl]
   refine callT_pure hC ?_
   simp only [↓aX,mX,reduceCtorEq,Nat.reduceEqDiff,Nat.reduceLT,Nat.reduceLeDiff,Nat.reduceAdd,Nat.reduceMul,Int.reduceToNat,Int.reduceLE,Int.reduceLT]
 obtain ⟨t,T,y,m,q,A,C,ht,hT,rfl,rfl,hy,rfl,hdc,hAl,h1,h2,h3⟩ := hv hse rfl
 rw [show (s == []) = false by simpa using hse]
 simp only [↓aX,mX,reduceCtorEq,Nat.reduceEqDiff,Nat.reduceLT,Nat.reduceLeDiff,Nat.reduceAdd,Nat.reduceMul,Int.reduceToNat,Int.reduceLE,Int.reduceLT]
 refine callT_pure hC ?_
 simp only [↓aX,mX,reduceCtorEq,Nat.reduceEqDiff,Nat.reduceLT,Nat.reduceLeDiff,Nat.reduceAdd,Nat.reduceMul,Int.reduceToNat,Int.reduceLE,Int.reduceLT,Bool.not_true]
 refine callT_pure (hSt _ _ (by omega)) ?_
 rw [h1]
 simp only [↓aX,mX,reduceCtorEq,Nat.reduceEqDiff,Nat.reduceLT,Nat.reduceLeDiff,Nat.reduceAdd,Nat.reduceMul,Int.reduceToNat,Int.reduceLE,Int.reduceLT,show (s != s) = false by simp]
 refine ⟨rfl,puK_in (hSt (docOf t) 0 (by omega)) ?_⟩
 simp only [↓aX,mX,reduceCtorEq,Nat.reduceEqDiff,Nat.reduceLT,Nat.reduceLeDiff,Nat.reduceAdd,Nat.reduceMul,Int.reduceToNat,Int.reduceLE,Int.reduceLT]
 refine puK_in (hSt (docOf T) 0 (by omega)) ?_
 have hle : endD (docOf t) m = ((A.length + (y.flat m q).length : Nat) : Int) := by
   rw [endD_of ht (hy.lies _ ⟨[],by simp [docOf]⟩),y.flat_len,hAl]
 have htw := told_wt (docOf t)
 have hdl := wtN_len (docOf t)
 obtain ⟨e,he⟩ : ∃ e,e = A.length + (y.flat m q).length := ⟨_,rfl⟩
 rw [← he] at hle
 simp only [↓aX,mX,reduceCtorEq,Nat.reduceEqDiff,Nat.reduceLT,Nat.reduceLeDiff,Nat.reduceAdd,Nat.reduceMul,Int.reduceToNat,Int.reduceLE,Int.reduceLT,List.length_map]
 refine loop_same (σ := { i : Nat // i ≤ (docOf t).length }) [.loc 3]
   (fun p => [(1,.int .i64 m),(2,.str s),(3,.ptr (.loc 3) 1 0 0),(9,.str (strD (docOf t) 0)),(10,.str (strD (docOf T) 0)),(11,.str (aheadTo (docOf t) m p.1)),(12,.str (behindTo (docOf t) e p.1)),(45,.list ((docOf t).map Node.iv)),(46,.int .i64 (docOf t).length),(47,.int .i64 p.1)])
   (fun _ => [(.loc 3,⟨1,[[.list ((docOf t).map Node.iv)]]⟩)])
   (fun p => (docOf t).length - p.1) ⟨0,by omega⟩ (fun _ => rfl) (by decide) (by simp [lbss,AV.lbs]) (by
     intro p r hr cs hcs l hl
     simp only [List.mem_singleton] at hr
     subst hr
     simp only [List.mem_singleton] at hcs; subst hcs; simp [lbss,AV.lbs] at hl) ?_ ?_
 · have z1 : aheadTo (docOf t) m 0 = [] := by simp [aheadTo]
   have z2 : behindTo (docOf t) e 0 = [] := by simp [behindTo]
   refine WS_mk ?_ (by simp only [z1,z2]; repeat' constructor) ?_
   · intro l hl hu
     exfalso; apply hu
     cases l <;> simp_all [Lb.fresh,upd_at,Hp.none]
   · simp [RwI_cons,RwI_nil,upd_at]
 · rintro ⟨i,hi⟩
   simp only [↓aX,mX,reduceCtorEq,Nat.reduceEqDiff,Nat.reduceLT,Nat.reduceLeDiff,Nat.reduceAdd,Nat.reduceMul,Int.reduceToNat,Int.reduceLE,Int.reduceLT,ofH_nil,ofH_cons]
   by_cases hlt : i < (docOf t).length
   · rw [show decide ((i : Int) < ((docOf t).length : Int)) = true by simpa using hlt]
     obtain ⟨x,hx⟩ : ∃ x,(docOf t)[i]? = some x := ⟨_,List.getElem?_eq_getElem hlt⟩
     have hw3 : IntKind.i64.wrap ((i : Int) + 1) = ((i + 1 : Nat) : Int) := wrap64 (by omega) (by omega)
     have g1 := ahead_step (n := m) hx
     have g2 := behind_step (e := e) hx
     simp only [↓aX,mX,reduceCtorEq,Nat.reduceEqDiff,Nat.reduceLT,Nat.reduceLeDiff,Nat.reduceAdd,Nat.reduceMul,Int.reduceToNat,Int.reduceLE,Int.reduceLT,Doc.get_iv hx,elszN,Node.cells_eq,Node.cs]
     cases hT : x.text with
     | false =>
       rw [hT] at g1 g2
       simp only [Bool.false_eq_true,false_and,if_false,List.append_nil] at g1 g2
       simp only [↓aX,mX,reduceCtorEq,Nat.reduceEqDiff,Nat.reduceLT,Nat.reduceLeDiff,Nat.reduceAdd,Nat.reduceMul,Int.reduceToNat,Int.reduceLE,Int.reduceLT,hw3]
       refine ⟨⟨i + 1,hlt⟩,by simp only; omega,WS_mk ?_ (by simp only [g1,g2]; repeat' constructor) ⟨rfl,trivial⟩⟩
       intro l hl hu
       exfalso; apply hu
       cases l <;> simp_all [Lb.fresh,upd_at,Hp.none]
     | true =>
       rw [hT] at g1 g2
       simp only [true_and] at g1 g2
       have g3 := ahead_len (docOf t) m (i + 1)
       have g4 := behind_len (docOf t) e (i + 1)
       cases h8 : decide ((i : Int) < (m : Int)) with
       | false =>
         rw [if_neg (by simp at h8; omega),List.append_nil] at g1
         simp only [↓aX,mX,reduceCtorEq,Nat.reduceEqDiff,Nat.reduceLT,Nat.reduceLeDiff,Nat.reduceAdd,Nat.reduceMul,Int.reduceToNat,Int.reduceLE,Int.reduceLT,h8]
         refine callT_pure (hE _ _ (by omega)) ?_
         rw [hle]
         cases h9 : decide ((e : Int) ≤ (i : Int)) with
         | false =>
           rw [if_neg (by simp at h9; omega),List.append_nil] at g2
           simp only [↓aX,mX,reduceCtorEq,Nat.reduceEqDiff,Nat.reduceLT,Nat.reduceLeDiff,Nat.reduceAdd,Nat.reduceMul,Int.reduceToNat,Int.reduceLE,Int.reduceLT,ge_iff_le,h9,hw3]
           refine ⟨⟨i + 1,hlt⟩,by simp only; omega,WS_mk ?_ (by simp only [g1,g2]; repeat' constructor) ⟨rfl,trivial⟩⟩
           intro l hl hu
           exfalso; apply hu
           cases l <;> simp_all [Lb.fresh,upd_at,Hp.none]
         | true =>
           rw [if_pos (by simp at h9; omega)] at g2
           rw [g2,List.length_append] at g4
           simp only [↓aX,mX,reduceCtorEq,Nat.reduceEqDiff,Nat.reduceLT,Nat.reduceLeDiff,Nat.reduceAdd,Nat.reduceMul,Int.reduceToNat,Int.reduceLE,Int.reduceLT,ge_iff_le,h9,hw3,show (behindTo (docOf t) e i).length + x.s.length ≤ 9223372036854775807 by omega]
           refine ⟨⟨i + 1,hlt⟩,by simp only; omega,WS_mk ?_ (by simp only [g1,g2]; repeat' constructor) ⟨rfl,trivial⟩⟩
           intro l hl hu
           exfalso; apply hu
           cases l <;> simp_all [Lb.fresh,upd_at,Hp.none]
       | true =>
         rw [if_pos (by simp at h8; omega)] at g1
         rw [g1,List.length_append] at g3
         simp only [↓aX,mX,reduceCtorEq,Nat.reduceEqDiff,Nat.reduceLT,Nat.reduceLeDiff,Nat.reduceAdd,Nat.reduceMul,Int.reduceToNat,Int.reduceLE,Int.reduceLT,h8,show (aheadTo (docOf t) m i).length + x.s.length ≤ 9223372036854775807 by omega]
         refine callT_pure (hE _ _ (by omega)) ?_
         rw [hle]
         cases h9 : decide ((e : Int) ≤ (i : Int)) with
         | false =>
           rw [if_neg (by simp at h9; omega),List.append_nil] at g2
           simp only [↓aX,mX,reduceCtorEq,Nat.reduceEqDiff,Nat.reduceLT,Nat.reduceLeDiff,Nat.reduceAdd,Nat.reduceMul,Int.reduceToNat,Int.reduceLE,Int.reduceLT,ge_iff_le,h9,hw3]
           refine ⟨⟨i + 1,hlt⟩,by simp only; omega,WS_mk ?_ (by simp only [g1,g2]; repeat' constructor) ⟨rfl,trivial⟩⟩
           intro l hl hu
           exfalso; apply hu
           cases l <;> simp_all [Lb.fresh,upd_at,Hp.none]
         | true =>
           rw [if_pos (by simp at h9; omega)] at g2
           rw [g2,List.length_append] at g4
           simp only [↓aX,mX,reduceCtorEq,Nat.reduceEqDiff,Nat.reduceLT,Nat.reduceLeDiff,Nat.reduceAdd,Nat.reduceMul,Int.reduceToNat,Int.reduceLE,Int.reduceLT,ge_iff_le,h9,hw3,show (behindTo (docOf t) e i).length + x.s.length ≤ 9223372036854775807 by omega]
           refine ⟨⟨i + 1,hlt⟩,by simp only; omega,WS_mk ?_ (by simp only [g1,g2]; repeat' constructor) ⟨rfl,trivial⟩⟩
           intro l hl hu
           exfalso; apply hu
           cases l <;> simp_all [Lb.fresh,upd_at,Hp.none]
   · rw [show decide ((i : Int) < ((docOf t).length : Int)) = false by simpa using hlt]
     have hi' : i = (docOf t).length := by omega
     have ga : aheadTo (docOf t) m i = A.flatMap Node.told := by rw [hi',hdc,← hAl]; exact ahead_all
     have gb : behindTo (docOf t) e i = C.flatMap Node.told := by rw [hi',hdc,he]; exact behind_all
     have g3 := ahead_len (docOf t) m i
     have g4 := behind_len (docOf t) e i
     rw [ga] at g3
     rw [gb] at g4
     have g5 : wtN (docOf t) ≤ 4194304 := by omega
     rw [ga,gb,h2,h3]
     have g6 : (A.flatMap Node.told).length ≤ 4194304 := by omega
     have g7 : (C.flatMap Node.told).length ≤ 4194304 := by omega
     clear ga gb hv ho g3 g4
     generalize A.flatMap Node.told = X at *
     generalize C.flatMap Node.told = Y at *
     have hwA : IntKind.i64.wrap ((X.length : Int) + (Y.length : Int)) = ((X.length + Y.length : Nat) : Int) := wrap64 (by omega) (by omega)
     have f1 : X.length + s.length ≤ 9223372036854775807 := by omega
     have f2 : (X ++ s).length + Y.length ≤ 9223372036854775807 := by rw [List.length_append]; omega
     simp only [↓aX,mX,reduceCtorEq,Nat.reduceEqDiff,Nat.reduceLT,Nat.reduceLeDiff,Nat.reduceAdd,Nat.reduceMul,Int.reduceToNat,Int.reduceLE,Int.reduceLT,f1]
     rw [if_pos f2]
     simp only [↓aX,mX,reduceCtorEq,Nat.reduceEqDiff,Nat.reduceLT,Nat.reduceLeDiff,Nat.reduceAdd,Nat.reduceMul,Int.reduceToNat,Int.reduceLE,Int.reduceLT,show ((X ++ s ++ Y) == (X ++ s ++ Y)) = true by simp]
     simp only [↓aX,mX,reduceCtorEq,Nat.reduceEqDiff,Nat.reduceLT,Nat.reduceLeDiff,Nat.reduceAdd,Nat.reduceMul,Int.reduceToNat,Int.reduceLE,Int.reduceLT,hwA,ge_iff_le]
     rw [show decide (((X.length + Y.length : Nat) : Int) ≤ ((X ++ y.told ++ Y).length : Int)) = true by
       rw [decide_eq_true_eq,List.length_append,List.length_append]; omega]
end
end Go.Am
