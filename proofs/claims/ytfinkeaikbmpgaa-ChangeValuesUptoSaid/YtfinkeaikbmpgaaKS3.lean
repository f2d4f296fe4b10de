import Derived.Test.YtfinkeaikbmpgaaKAm33
import Derived.Test.YtfinkeaikbmpgaaKT8
import Derived.Test.YtfinkeaikbmpgaaKAm23
set_option linter.unusedSimpArgs false
set_option linter.unusedVariables false
set_option linter.unnecessarySimpa false
set_option linter.defProp false
/- Documents: what is told of them. -/
namespace Go.Am
open Go Go.RowKit
open Classical in
noncomputable def szAt (d : Doc) (n : Nat) : Nat := if h : ∃ (y : Tree) (q : Int),Lies d n q y then (Classical.choose h).cnt else 0
theorem szAt_of {d : Doc} {n : Nat} {q : Int} {y : Tree} (h : Lies d n q y) : szAt d n = y.cnt := by
 have he : ∃ (y : Tree) (q : Int),Lies d n q y := ⟨y,q,h⟩
 unfold szAt
 rw [dif_pos he]
 obtain ⟨q',h'⟩ := Classical.choose_spec he
 rw [(h'.uniq h).1]
noncomputable def endD (d : Doc) (n : Int) : Int := if isDoc d = true ∧ 0 ≤ n ∧ n < d.length then ((n.toNat + szAt d n.toNat : Nat) : Int) else 0
noncomputable def strD (d : Doc) (n : Int) : Bs := ((d.drop n.toNat).take ((endD d n).toNat - n.toNat)).flatMap Node.told
def makeD (x : Tree) : Doc × Int := if x.good = true then (docOf x,0) else ([],1)
section
variable {t : Tree}
theorem endD_of (ht : t.good = true) {n : Nat} {q : Int} {y : Tree} (h : Lies (docOf t) n q y) : endD (docOf t) n = ((n + y.cnt : Nat) : Int) := by
 unfold endD
 have := h.len
 have := y.cnt_pos
 rw [if_pos ⟨isDoc_of ht,by omega,by omega⟩,Int.toNat_natCast,szAt_of h]
theorem endD_out {d : Doc} {n : Int} (h : ¬ (isDoc d = true ∧ 0 ≤ n ∧ n < d.length)) : endD d n = 0 := by unfold endD; rw [if_neg h]
theorem strD_of (ht : t.good = true) {n : Nat} {q : Int} {y : Tree} (h : Lies (docOf t) n q y) : strD (docOf t) n = y.told := by
 unfold strD
 rw [endD_of ht h,Int.toNat_natCast,Int.toNat_natCast,Nat.add_sub_cancel_left,h.told]
end
end Go.Am

/- Documents: made; walked; the trees in them. -/
namespace Go.Am
open Go Go.RowKit
def Doc.av (d : Doc) : AV := .agg [.list (d.map Node.iv)]
section
variable {P : Program} {G : Nat → Option (List IV)}
theorem wPut {f_doc_put f_slices_Clone_Attr_Attr : Nat} (hF : compF P G f_doc_put = some (58,[(none,6)],(c_doc_put f_slices_Clone_Attr_Attr f_doc_put).bare)) (hC : ∀ xs : List Attr,xs.length ≤ B → PureC P G f_slices_Clone_Attr_Attr [.list (ivA xs)] (.list (ivA xs))) (x : Tree) (d : Doc) (p : Int) (hx : d.length + x.wt ≤ B) :
   LstC P G 5 f_doc_put [.ptr (.par 0) 1 0 0,x.av,.int .i64 p] (d.map Node.iv) (.int .i64 d.length) ((d ++ x.flat d.length p).map Node.iv) := by
 have key := byWt (M := fun l => ∀ x ∈ l,∀ (d : Doc) (p : Int),d.length + x.wt ≤ B → LstC P G 5 f_doc_put [.ptr (.par 0) 1 0 0,x.av,.int .i64 p] (d.map Node.iv) (.int .i64 d.length) ((d ++ x.flat d.length p).map Node.iv))
   (fun l h x hx d p hB => pPut hF x d p hB (hC _ (by have := wt_attrs x; have := wtA_len x.attrs; omega)) fun k hk d' hd' => h x hx k hk d' d.length (by omega))
 exact key [x] x (by simp) d p hx
end
def c_doc_Make (f_tree_Good f_doc_put : Nat) : AC :=
(.seq (.reg [⟨some 1,none,.box (.t 0)⟩,⟨some 2,none,.new [.nil0]⟩,⟨some 3,none,.mov (.c (.int .i64 0))⟩]) (.seq (.seq (.reg [⟨some 5,none,.load (some 4) (.t 1)⟩,⟨some 6,none,.call f_tree_Good [(.t 5)]⟩,⟨some 7,none,.not (.t 6)⟩]) (.cond (.t 7) (.seq (.reg [⟨some 8,none,.bld [.nil0] []⟩,⟨none,none,.store 1 (.t 2) (.t 8)⟩,⟨some 3,none,.mov (.c (.int .i64 1))⟩]) .ret) .skip)) (.seq (.reg [⟨some 4,none,.new [.nil0]⟩]) (.seq (.reg [⟨some 9,none,.load (some 4) (.t 1)⟩,⟨some 10,none,.call f_doc_put [(.t 4),(.t 9),(.c (.int .i64 (-1)))]⟩]) (.seq (.reg [⟨some 11,none,.load (some 1) (.t 4)⟩,⟨none,none,.store 1 (.t 2) (.t 11)⟩,⟨some 3,none,.mov (.c (.int .i64 0))⟩]) (.gh (.frzc (.loc 100) (.loc 2) 0) .ret))))))
theorem pMake {P : Program} {G : Nat → Option (List IV)} {f_doc_Make f_tree_Good f_doc_put : Nat} (hF : compF P G f_doc_Make = some (12,[((some (some 1)),2),(none,3)],(c_doc_Make f_tree_Good f_doc_put).bare)) (x : Tree) (hx : x.wt ≤ B)
   (hG : PureC P G f_tree_Good [x.av] (.bool x.good)) (hP : LstC P G 5 f_doc_put [.ptr (.par 0) 1 0 0,x.av,.int .i64 (-1)] [] (.int .i64 0) ((docOf x).map Node.iv)) :
   PureC P G f_doc_Make [x.av] (.tup [Doc.av (makeD x).1,.int .i64 (makeD x).2]) := by
 refine pure_of_goN hF (by simp) (by simp [lbss,AV.lbs,Tree.av]) (by simp [AV.lbs,lbss,Doc.av]) ?_
 unfold c_doc_Make
 simp only [↓aX,mX,reduceCtorEq,Nat.reduceEqDiff,Nat.reduceLT,Nat.reduceLeDiff,Nat.reduceAdd,Nat.reduceMul,Int.reduceToNat,Int.reduceLE,Int.reduceLT,Tree.av]
 refine callT_pure hG ?_
 cases hg : x.good with
 | false =>
   simp only [↓aX,mX,reduceCtorEq,Nat.reduceEqDiff,Nat.reduceLT,Nat.reduceLeDiff,Nat.reduceAdd,Nat.reduceMul,Int.reduceToNat,Int.reduceLE,Int.reduceLT,retm2_r]
   simp [norm,norms,makeD,hg,Doc.av]
 | true =>
   simp only [↓aX,mX,reduceCtorEq,Nat.reduceEqDiff,Nat.reduceLT,Nat.reduceLeDiff,Nat.reduceAdd,Nat.reduceMul,Int.reduceToNat,Int.reduceLE,Int.reduceLT]
   refine callT_lst (l := .loc 4) (N := .loc 100) (o := none) hP rfl ⟨by simp only [↓aX,mX,reduceCtorEq,Nat.reduceEqDiff,Nat.reduceLT,Nat.reduceLeDiff,Nat.reduceAdd,Nat.reduceMul,Int.reduceToNat,Int.reduceLE,Int.reduceLT],rfl⟩ (by simp only [↓aX,mX,reduceCtorEq,Nat.reduceEqDiff,Nat.reduceLT,Nat.reduceLeDiff,Nat.reduceAdd,Nat.reduceMul,Int.reduceToNat,Int.reduceLE,Int.reduceLT]) (fun _ => ⟨rfl,by simp⟩) ?_
   rintro L' H'' hL' ⟨b1,b2,b3⟩ hsame hused
   have hL : L' = .loc 100 := by simpa using hL'
   subst hL
   have c2 : H'' (.loc 2) = .live ⟨1,[[.nil0]]⟩ := by rw [hsame _ (by simp) (by simp) (by simp)]; simp only [↓aX,mX,reduceCtorEq,Nat.reduceEqDiff,Nat.reduceLT,Nat.reduceLeDiff,Nat.reduceAdd,Nat.reduceMul,Int.reduceToNat,Int.reduceLE,Int.reduceLT]
   simp only [↓aX,mX,reduceCtorEq,Nat.reduceEqDiff,Nat.reduceLT,Nat.reduceLeDiff,Nat.reduceAdd,Nat.reduceMul,Int.reduceToNat,Int.reduceLE,Int.reduceLT,b2,c2,retm2_r]
   refine ⟨5,(docOf x).map Node.iv,0,(docOf x).length,[.sl (.loc 100) 5 0 (docOf x).length],rfl,rfl,b3,by simp,by simp,flatN _,?_⟩
   simp only [↓aX,mX,reduceCtorEq,Nat.reduceEqDiff,Nat.reduceLT,Nat.reduceLeDiff,Nat.reduceAdd,Nat.reduceMul,Int.reduceToNat,Int.reduceLE,Int.reduceLT,retm2_r,norm,norms,makeD,hg,Doc.av,List.length_map]
   simp
   exact List.take_of_length_le (by simp)
def c_doc_walk (f_doc_walk : Nat) : AC :=
(.seq (.reg [⟨some 5,none,.box (.t 0)⟩,⟨some 10,none,.mov (.c (.bool false))⟩]) (.seq (.seq (.reg [⟨some 13,none,.mov (.t 1)⟩,⟨some 14,none,.mov (.t 4)⟩,⟨some 15,none,.nchk (.t 14)⟩,⟨some 16,none,.load none (.t 15)⟩,⟨some 17,none,.bin .neq (.t 13) (.t 16)⟩,⟨some 18,none,.mov (.t 17)⟩,⟨some 19,(some (18,false)),(.mov (.t 1))⟩,⟨some 20,(some (18,false)),(.fld (.t 5) 0)⟩,⟨some 21,(some (18,false)),(.load none (.t 20))⟩,⟨some 22,(some (18,false)),(.len (.t 21))⟩,⟨some 23,(some (18,false)),(.bin .geq (.t 19) (.t 22))⟩,⟨some 24,none,.pick (.t 18) (.c (.bool true)) (.t 23)⟩,⟨some 25,none,.mov (.t 24)⟩,⟨some 26,(some (25,false)),(.fld (.t 5) 0)⟩,⟨some 27,(some (25,false)),(.load none (.t 26))⟩,⟨some 28,(some (25,false)),(.mov (.t 1))⟩,⟨some 29,(some (25,false)),(.ixa (.t 27) (.t 28) 5)⟩,⟨some 30,(some (25,false)),(.fld (.t 29) 3)⟩,⟨some 31,(some (25,false)),(.load none (.t 30))⟩,⟨some 32,(some (25,false)),(.mov (.t 2))⟩,⟨some 33,(some (25,false)),(.bin .neq (.t 31) (.t 32))⟩,⟨some 34,none,.pick (.t 25) (.c (.bool true)) (.t 33)⟩,⟨some 35,none,.mov (.t 34)⟩,⟨some 36,(some (35,false)),(.mov (.t 3))⟩,⟨some 37,(some (35,false)),(.bin .gtr (.t 36) (.c (.int .i64 8)))⟩,⟨some 38,none,.pick (.t 35) (.c (.bool true)) (.t 37)⟩]) (.cond (.t 38) (.seq (.reg [⟨some 10,none,.mov (.c (.bool false))⟩]) .ret) .skip)) (.seq (.reg [⟨some 39,none,.mov (.t 4)⟩,⟨some 40,none,.nchk (.t 39)⟩,⟨some 41,none,.load none (.t 40)⟩,⟨some 42,none,.bin .add (.t 41) (.c (.int .i64 1))⟩,⟨some 43,none,.nchk (.t 39)⟩,⟨none,none,.store 1 (.t 43) (.t 42)⟩]) (.seq (.seq (.reg [⟨some 44,none,.fld (.t 5) 0⟩,⟨some 45,none,.load none (.t 44)⟩,⟨some 46,none,.mov (.t 1)⟩,⟨some 47,none,.ixa (.t 45) (.t 46) 5⟩,⟨some 48,none,.fld (.t 47) 4⟩,⟨some 49,none,.load none (.t 48)⟩,⟨some 50,none,.len (.t 49)⟩,⟨some 51,none,.mov (.c (.int .i64 0))⟩]) (.block 0 (.loop (.seq (.reg [⟨some 52,none,.bin .lss (.t 51) (.t 50)⟩]) (.seq (.cond (.t 52) .skip (.exit 0)) (.seq (.block 1 (.seq (.reg [⟨some 53,none,.ixa (.t 49) (.t 51) 1⟩,⟨some 54,none,.load none (.t 53)⟩,⟨some 12,none,.mov (.t 54)⟩]) (.seq (.reg [⟨some 55,none,.load (some 1) (.t 5)⟩,⟨some 56,none,.mov (.t 12)⟩,⟨some 57,none,.mov (.t 1)⟩,⟨some 58,none,.mov (.t 3)⟩,⟨some 59,none,.bin .add (.t 58) (.c (.int .i64 1))⟩,⟨some 60,none,.mov (.t 4)⟩,⟨some 61,none,.call f_doc_walk [(.t 55),(.t 56),(.t 57),(.t 59),(.t 60)]⟩,⟨some 62,none,.not (.t 61)⟩]) (.cond (.t 62) (.seq (.reg [⟨some 10,none,.mov (.c (.bool false))⟩]) .ret) .skip)))) (.reg [⟨some 63,none,.bin .add (.t 51) (.c (.int .i64 1))⟩,⟨some 51,none,.mov (.t 63)⟩]))))))) (.seq (.reg [⟨some 10,none,.mov (.c (.bool true))⟩]) .ret)))))
theorem wk_step {d : Doc} {f : Nat} {n p nx : Int} {x : Node} (hn : n = nx) (hx : d[n.toNat]? = some x) (hp : x.parent = p) : wk d (f + 1) n p nx = x.kids.foldlM (fun q k => wk d f k n q) (nx + 1) := by
 rw [wk,if_pos hn,hx]; simp [hp]
theorem wk_bound {d : Doc} : ∀ {f : Nat} {n p nx v : Int},0 ≤ nx → wk d f n p nx = some v → nx < v ∧ v ≤ d.length := by
 intro f n p nx v h0 h
 have hn : n = nx := by
   cases f with
   | zero => simp [wk] at h
   | succ f => rw [wk] at h; split at h; assumption; simp at h
 obtain ⟨m,rfl⟩ : ∃ m : Nat,nx = m := ⟨nx.toNat,by omega⟩
 obtain ⟨_,x,_,⟨post,h2⟩,rfl⟩ := wk_some d f m n p v h
 have hc := x.cnt_pos
 have := congrArg List.length h2
 rw [List.length_drop,List.length_append,x.flat_len] at this
 omega
theorem Doc.get_iv {d : Doc} {n : Nat} {x : Node} (h : d[n]? = some x) : (d.map Node.iv)[n]? = some x.iv := by rw [List.getElem?_map,h]; rfl
theorem intGet (l : List Int) (i : Nat) : (l.map intIV)[i]? = (l[i]?).map intIV := List.getElem?_map ..
theorem wk_ne {d : Doc} {f : Nat} {n p nx : Int} (h : n ≠ nx) : wk d f n p nx = none := by
 cases f with
 | zero => rfl
 | succ f => rw [wk,if_neg h]
theorem wk_out {d : Doc} {f : Nat} {n p nx : Int} (h : d[n.toNat]? = none) : wk d f n p nx = none := by
 cases f with
 | zero => rfl
 | succ f => rw [wk,h]; simp
theorem wk_par {d : Doc} {f : Nat} {n p nx : Int} {x : Node} (h : d[n.toNat]? = some x) (hp : x.parent ≠ p) : wk d f n p nx = none := by
 cases f with
 | zero => rfl
 | succ f => rw [wk,h]; simp [hp]
theorem pWalk {P : Program} {G : Nat → Option (List IV)} {f_doc_walk : Nat} (hF : compF P G f_doc_walk = some (64,[(none,10)],(c_doc_walk f_doc_walk).bare)) (d : Doc) (hd : d.length ≤ B) (hk : ∀ x ∈ d,x.kids.length ≤ B) : ∀ (f : Nat) (n p nx : Int),f ≤ 8 → 0 ≤ nx → nx ≤ B →
   MutC P G f_doc_walk [Doc.av d,.int .i64 n,.int .i64 p,.int .i64 (9 - (f : Int)),.ptr (.par 0) 1 0 0] [.int .i64 nx] fun x cs => ∃ v,x = .bool (wk d f n p nx).isSome ∧ cs = [.int .i64 v] ∧ ∀ r,wk d f n p nx = some r → v = r := by
 intro f
 induction f with
 | zero =>
   intro n p nx hf h0 hB
   refine mut_of_go hF (by simp) (by simp [lbss,AV.lbs,Doc.av]) (by simp [lbss,AV.lbs]) ?_
   unfold c_doc_walk
   have hd9 : decide ((9 : Int) - ((0 : Nat) : Int) > 8) = true := by decide
   simp only [↓aX,mX,reduceCtorEq,Nat.reduceEqDiff,Nat.reduceLT,Nat.reduceLeDiff,Nat.reduceAdd,Nat.reduceMul,Int.reduceToNat,Int.reduceLE,Int.reduceLT,Doc.av,row1]
   cases h1 : (n != nx) with
   | true =>
     simp only [↓aX,mX,reduceCtorEq,Nat.reduceEqDiff,Nat.reduceLT,Nat.reduceLeDiff,Nat.reduceAdd,Nat.reduceMul,Int.reduceToNat,Int.reduceLE,Int.reduceLT]
     exact ⟨_,⟨nx,rfl,rfl,by simp [wk]⟩,rfl,rfl,rfl,rfl⟩
   | false =>
     have : n = nx := by simpa using h1
     subst this
     obtain ⟨m,rfl⟩ : ∃ m : Nat,n = m := ⟨n.toNat,by omega⟩
     cases hx : d[m]? with
     | none =>
       have hge : decide ((m : Int) ≥ (d.length : Int)) = true := by
         have := List.getElem?_eq_none_iff.1 hx
         simp; omega
       simp only [↓aX,mX,reduceCtorEq,Nat.reduceEqDiff,Nat.reduceLT,Nat.reduceLeDiff,Nat.reduceAdd,Nat.reduceMul,Int.reduceToNat,Int.reduceLE,Int.reduceLT,List.length_map,hge]
       exact ⟨_,⟨m,rfl,rfl,by simp [wk]⟩,rfl,rfl,rfl,rfl⟩
     | some x =>
       have hlt := (List.getElem?_eq_some_iff.1 hx).1
       have hge : decide ((m : Int) ≥ (d.length : Int)) = false := by simp; omega
       simp only [↓aX,mX,reduceCtorEq,Nat.reduceEqDiff,Nat.reduceLT,Nat.reduceLeDiff,Nat.reduceAdd,Nat.reduceMul,Int.reduceToNat,Int.reduceLE,Int.reduceLT,List.length_map,hge,Doc.get_iv hx,elszN,Node.cells_eq,Node.cs]
       cases h2 : (x.parent != p) with
       | true =>
         simp only [↓aX,mX,reduceCtorEq,Nat.reduceEqDiff,Nat.reduceLT,Nat.reduceLeDiff,Nat.reduceAdd,Nat.reduceMul,Int.reduceToNat,Int.reduceLE,Int.reduceLT]
         exact ⟨_,⟨m,rfl,rfl,by simp [wk]⟩,rfl,rfl,rfl,rfl⟩
       | false =>
         simp only [↓aX,mX,reduceCtorEq,Nat.reduceEqDiff,Nat.reduceLT,Nat.reduceLeDiff,Nat.reduceAdd,Nat.reduceMul,Int.reduceToNat,Int.reduceLE,Int.reduceLT,hd9]
         exact ⟨_,⟨m,rfl,rfl,by simp [wk]⟩,rfl,rfl,rfl,rfl⟩
 | succ f ih =>
   intro n p nx hf h0 hB
   refine mut_of_go hF (by simp) (by simp [lbss,AV.lbs,Doc.av]) (by simp [lbss,AV.lbs]) ?_
   unfold c_doc_walk
   have hd9 : decide ((9 : Int) - ((f + 1 : Nat) : Int) > 8) = false := by simp; omega
   have hw9 : IntKind.i64.wrap ((9 : Int) - ((f + 1 : Nat) : Int) + 1) = 9 - (f : Int) := by rw [wrap64 (by omega) (by omega)]; omega
   simp only [↓aX,mX,reduceCtorEq,Nat.reduceEqDiff,Nat.reduceLT,Nat.reduceLeDiff,Nat.reduceAdd,Nat.reduceMul,Int.reduceToNat,Int.reduceLE,Int.reduceLT,Doc.av,row1]
   cases h1 : (n != nx) with
   | true =>
     have h1' : n ≠ nx := by simpa using h1
     simp only [↓aX,mX,reduceCtorEq,Nat.reduceEqDiff,Nat.reduceLT,Nat.reduceLeDiff,Nat.reduceAdd,Nat.reduceMul,Int.reduceToNat,Int.reduceLE,Int.reduceLT]
     exact ⟨_,⟨nx,by rw [wk_ne h1']; rfl,rfl,by rw [wk_ne h1']; simp⟩,rfl,rfl,rfl,rfl⟩
   | false =>
     have : n = nx := by simpa using h1
     subst this
     obtain ⟨m,rfl⟩ : ∃ m : Nat,n = m := ⟨n.toNat,by omega⟩
     cases hx : d[m]? with
     | none =>
       have hge : decide ((m : Int) ≥ (d.length : Int)) = true := by
         have := List.getElem?_eq_none_iff.1 hx
         simp; omega
       have hwk : wk d (f + 1) (m : Int) p (m : Int) = none := wk_out (by simpa using hx)
       simp only [↓aX,mX,reduceCtorEq,Nat.reduceEqDiff,Nat.reduceLT,Nat.reduceLeDiff,Nat.reduceAdd,Nat.reduceMul,Int.reduceToNat,Int.reduceLE,Int.reduceLT,List.length_map,hge]
       exact ⟨_,⟨m,by rw [hwk]; rfl,rfl,by rw [hwk]; simp⟩,rfl,rfl,rfl,rfl⟩
     | some x =>
       have hlt := (List.getElem?_eq_some_iff.1 hx).1
       have hge : decide ((m : Int) ≥ (d.length : Int)) = false := by simp; omega
       have hxk := hk x (List.mem_of_getElem? hx)
       have hwm : IntKind.i64.wrap ((m : Int) + 1) = (m : Int) + 1 := wrap64 (by omega) (by unfold B at hd; omega)
       simp only [↓aX,mX,reduceCtorEq,Nat.reduceEqDiff,Nat.reduceLT,Nat.reduceLeDiff,Nat.reduceAdd,Nat.reduceMul,Int.reduceToNat,Int.reduceLE,Int.reduceLT,List.length_map,hge,Doc.get_iv hx,elszN,Node.cells_eq,Node.cs]
       cases h2 : (x.parent != p) with
       | true =>
         have hwk : wk d (f + 1) (m : Int) p (m : Int) = none := wk_par (by simpa using hx) (by simpa using h2)
         simp only [↓aX,mX,reduceCtorEq,Nat.reduceEqDiff,Nat.reduceLT,Nat.reduceLeDiff,Nat.reduceAdd,Nat.reduceMul,Int.reduceToNat,Int.reduceLE,Int.reduceLT]
         exact ⟨_,⟨m,by rw [hwk]; rfl,rfl,by rw [hwk]; simp⟩,rfl,rfl,rfl,rfl⟩
       | false =>
         have hp : x.parent = p := by simpa using h2
         have hst := wk_step (d := d) (f := f) (n := m) (nx := m) rfl (by simpa using hx) hp
         simp only [↓aX,mX,reduceCtorEq,Nat.reduceEqDiff,Nat.reduceLT,Nat.reduceLeDiff,Nat.reduceAdd,Nat.reduceMul,Int.reduceToNat,Int.reduceLE,Int.reduceLT,hd9,hwm,List.length_map,Doc.get_iv hx,elszN,Node.cells_eq,Node.cs]
         refine loop_same (σ := { q : Nat × Int // q.1 ≤ x.kids.length ∧ 0 ≤ q.2 ∧ q.2 ≤ d.length ∧ wk d (f + 1) (m : Int) p (m : Int) = (x.kids.drop q.1).foldlM (fun q k => wk d f k (m : Int) q) q.2 }) [.par 0,.loc 5]
           (fun q => [(1,.int .i64 m),(3,.int .i64 (9 - ((f + 1 : Nat) : Int))),(4,.ptr (.par 0) 1 0 0),(5,.ptr (.loc 5) 1 0 0),(49,.list (x.kids.map intIV)),(50,.int .i64 x.kids.length),(51,.int .i64 q.1.1)])
           (fun q => [(.par 0,⟨1,[[.int .i64 q.1.2]]⟩),(.loc 5,⟨1,[[.list (d.map Node.iv)]]⟩)]) (fun q => x.kids.length - q.1.1) ⟨(0,(m : Int) + 1),by simp,by simp only; omega,by simp only; omega,by rw [hst]; rfl⟩
           (fun _ => rfl) (by decide) (by simp [lbss,AV.lbs]) (by simp [lbss,AV.lbs]) ?_ ?_
         · refine WS_mk ?_ (by repeat' constructor) (by repeat' constructor)
           intro l hl hu
           by_cases e : l = .par 0
           · subst e; simp
           · exfalso; apply hu; cases l <;> simp_all [Lb.fresh,upd_at,Hp.none]
         · rintro ⟨⟨i,q⟩,hi,hq0,hqd,hs⟩
           simp only at hi hq0 hqd hs
           simp only [↓aX,mX,reduceCtorEq,Nat.reduceEqDiff,Nat.reduceLT,Nat.reduceLeDiff,Nat.reduceAdd,Nat.reduceMul,Int.reduceToNat,Int.reduceLE,Int.reduceLT,ofH_nil,ofH_cons]
           by_cases hlt : i < x.kids.length
           · obtain ⟨k,hki⟩ : ∃ k,x.kids[i]? = some k := ⟨_,List.getElem?_eq_getElem hlt⟩
             have hw : IntKind.i64.wrap ((i : Int) + 1) = ((i + 1 : Nat) : Int) := wrap64 (by omega) (by unfold B at hxk; omega)
             rw [show decide ((i : Int) < (x.kids.length : Int)) = true by simpa using hlt]
             simp only [↓aX,mX,reduceCtorEq,Nat.reduceEqDiff,Nat.reduceLT,Nat.reduceLeDiff,Nat.reduceAdd,Nat.reduceMul,Int.reduceToNat,Int.reduceLE,Int.reduceLT,intGet,hki,elszI,List.length_map,Option.map_some,intIV,IV.cells,hw9]
             refine callT_mut (l := .par 0) (ih k m q (by omega) hq0 (by unfold B at hd ⊢; omega)) rfl (by simp only [↓aX,mX,reduceCtorEq,Nat.reduceEqDiff,Nat.reduceLT,Nat.reduceLeDiff,Nat.reduceAdd,Nat.reduceMul,Int.reduceToNat,Int.reduceLE,Int.reduceLT]; try rfl) ?_
             rintro x1 cs' ⟨v,rfl,rfl,hv⟩ _ _ _
             have hdr : x.kids.drop i = k :: x.kids.drop (i + 1) := drop_eq hki
             rw [hdr,List.foldlM_cons] at hs
             cases hr : wk d f k m q with
             | none =>
               rw [hr] at hs
               simp only [Option.bind_eq_bind,Option.bind_none] at hs
               simp only [↓aX,mX,reduceCtorEq,Nat.reduceEqDiff,Nat.reduceLT,Nat.reduceLeDiff,Nat.reduceAdd,Nat.reduceMul,Int.reduceToNat,Int.reduceLE,Int.reduceLT,Option.isSome_none,Bool.not_false]
               exact ⟨_,⟨v,by rw [hs]; rfl,rfl,by rw [hs]; simp⟩,rfl,rfl,rfl,rfl⟩
             | some r =>
               have hvr := hv r hr
               subst hvr
               rw [hr] at hs
               simp only [Option.bind_eq_bind,Option.bind_some] at hs
               have hb := wk_bound hq0 hr
               simp only [↓aX,mX,reduceCtorEq,Nat.reduceEqDiff,Nat.reduceLT,Nat.reduceLeDiff,Nat.reduceAdd,Nat.reduceMul,Int.reduceToNat,Int.reduceLE,Int.reduceLT,Option.isSome_some,Bool.not_true,hw]
               refine ⟨⟨(i + 1,v),hlt,by simp only; omega,by simp only; omega,hs⟩,by simp only; omega,WS_mk ?_ (by repeat' constructor) (by repeat' constructor)⟩
               intro l hl hu
               by_cases e : l = .par 0
               · subst e; simp
               · exfalso; apply hu; cases l <;> simp_all [Lb.fresh,upd_at,Hp.none]
           · have hil : i = x.kids.length := by omega
             subst hil
             rw [List.drop_length] at hs
             simp only [List.foldlM_nil] at hs
             rw [show decide ((x.kids.length : Int) < (x.kids.length : Int)) = false by simp]
             simp only [↓aX,mX,reduceCtorEq,Nat.reduceEqDiff,Nat.reduceLT,Nat.reduceLeDiff,Nat.reduceAdd,Nat.reduceMul,Int.reduceToNat,Int.reduceLE,Int.reduceLT]
             exact ⟨_,⟨q,by rw [hs]; rfl,rfl,by rw [hs]; rintro r h; cases h; rfl⟩,rfl,rfl,rfl,rfl⟩
end Go.Am

/- Documents: the tree at a place. -/
namespace Go.Am
open Go Go.RowKit
theorem ofU_f (rs : List (Lb × Row)) : ofU (fun _ => false) rs = ofH rs := by
 funext q
 unfold ofU
 cases ofH rs q <;> rfl
theorem kidsAt_get : ∀ (off : Nat) (xs : List Tree) (i : Nat),i < xs.length → (kidsAt off xs)[i]? = some ((off + cntT (xs.take i) : Nat) : Int)
 | _,[],i,h => by simp at h
 | off,x :: r,0,_ => by simp [kidsAt,cntT]
 | off,x :: r,i + 1,h => by
   simp only [kidsAt,List.getElem?_cons_succ,List.take_succ_cons,cntT]
   rw [kidsAt_get (off + x.cnt) r i (by simpa using h),Nat.add_assoc]
def c_doc_at (f_slices_Clone_Attr_Attr f_doc_at : Nat) : AC :=
(.seq (.reg [⟨some 2,none,.box (.t 0)⟩,⟨some 4,none,.new [(.bool false),(.str []),.nil0,.nil0]⟩]) (.seq (.reg [⟨some 9,none,.fld (.t 2) 0⟩,⟨some 10,none,.load none (.t 9)⟩,⟨some 11,none,.mov (.t 1)⟩,⟨some 12,none,.ixa (.t 10) (.t 11) 5⟩,⟨some 13,none,.load (some 5) (.t 12)⟩,⟨some 5,none,.new [(.bool false),(.str []),.nil0,(.int .i64 0),.nil0]⟩,⟨none,none,.store 5 (.t 5) (.t 13)⟩]) (.seq (.dreg [⟨some 14,none,.fld (.t 5) 0⟩,⟨some 15,none,.load none (.t 14)⟩,⟨some 16,none,.fld (.t 5) 1⟩,⟨some 17,none,.load none (.t 16)⟩,⟨some 18,none,.fld (.t 5) 2⟩,⟨some 19,none,.load none (.t 18)⟩,⟨some 20,none,.call f_slices_Clone_Attr_Attr [(.t 19)]⟩,⟨some 21,none,.bld [(.bool false),(.str []),.nil0,.nil0] [(0,(1,(.t 15))),(1,(1,(.t 17))),(2,(1,(.t 20)))]⟩,⟨some 6,none,.new [(.bool false),(.str []),.nil0,.nil0]⟩,⟨none,none,.store 4 (.t 6) (.t 21)⟩] [[],[0],[],[2],[],[4],[5],[1,3,6],[],[8,7,6,0,1,2,3,4,5,6,7,8]] [.no,.rw [.loc 5] [],.no,.rw [.loc 5] [],.no,.rw [.loc 5] [],.no,.no,.rw [] [.loc 6],.rw [] [.loc 6]]) (.seq (.gh .weak (.seq (.reg [⟨some 22,none,.fld (.t 5) 4⟩,⟨some 23,none,.load none (.t 22)⟩,⟨some 24,none,.len (.t 23)⟩,⟨some 25,none,.mov (.c (.int .i64 0))⟩]) (.block 0 (.loop (.seq (.reg [⟨some 26,none,.bin .lss (.t 25) (.t 24)⟩]) (.seq (.cond (.t 26) .skip (.exit 0)) (.seq (.block 1 (.seq (.reg [⟨some 27,none,.ixa (.t 23) (.t 25) 1⟩,⟨some 28,none,.load none (.t 27)⟩,⟨some 8,none,.mov (.t 28)⟩]) (.dreg [⟨some 29,none,.fld (.t 6) 3⟩,⟨some 30,none,.load none (.t 29)⟩,⟨some 31,none,.load (some 1) (.t 2)⟩,⟨some 32,none,.mov (.t 8)⟩,⟨some 33,none,.call f_doc_at [(.t 31),(.t 32)]⟩,⟨some 34,none,.lits 1 4 [(.bool false),(.str []),.nil0,.nil0] [(0,(.t 33))]⟩,⟨some 35,none,.app (.t 30) (.t 34) 4 72⟩,⟨some 36,none,.fld (.t 6) 3⟩,⟨none,none,.store 1 (.t 36) (.t 35)⟩] [[],[0],[],[],[2,3],[4],[1,5,4],[0,1,2,3,4,5,6],[7,6,6,0,1,2,3,4,5,6]] [.no,.rw [.loc 6] [],.rw [.loc 2] [],.no,.no,.no,(.rw [] [.loc 50,.loc 35]),.no,.rw [] [.loc 6]]))) (.reg [⟨some 37,none,.bin .add (.t 25) (.c (.int .i64 1))⟩,⟨some 25,none,.mov (.t 37)⟩])))))))) (.gh (.frzc (.loc 50) (.loc 6) 3) (.seq (.reg [⟨some 38,none,.load (some 4) (.t 6)⟩,⟨none,none,.store 4 (.t 4) (.t 38)⟩]) .ret))))))
theorem pAt {P : Program} {G : Nat → Option (List IV)} {f_doc_at f_slices_Clone_Attr_Attr : Nat} (hF : compF P G f_doc_at = some (39,[((some (some 4)),4)],(c_doc_at f_slices_Clone_Attr_Attr f_doc_at).bare)) (d : Doc) (hd : d.length ≤ B) (n : Nat) (q : Int) (x : Tree) (hL : Lies d n q x) (hx : x.wt ≤ B)
   (hC : PureC P G f_slices_Clone_Attr_Attr [.list (ivA x.attrs)] (.list (ivA x.attrs)))
   (hK : ∀ k ∈ x.kids,∀ (m : Nat) (p : Int),Lies d m p k → PureC P G f_doc_at [Doc.av d,.int .i64 m] k.av) : PureC P G f_doc_at [Doc.av d,.int .i64 n] x.av := by
 refine pure_of_goN hF (by simp) (by simp [lbss,AV.lbs,Doc.av]) (by simp [AV.lbs,Tree.av,lbss]) ?_
 have hnode := hL.node
 have hlen := hL.len
 have hlt := (List.getElem?_eq_some_iff.1 hnode).1
 have hwx := x.wt_eq
 have hkl := wtT_len x.kids
 have hkn : (kidsAt (n + 1) x.kids).length = x.kids.length := kidsAt_len _ _
 unfold c_doc_at
 simp only [↓aX,mX,reduceCtorEq,Nat.reduceEqDiff,Nat.reduceLT,Nat.reduceLeDiff,Nat.reduceAdd,Nat.reduceMul,Int.reduceToNat,Int.reduceLE,Int.reduceLT,Doc.av,List.length_map,Doc.get_iv hnode,elszN,Node.cells_eq,Node.cs,Tree.node]
 refine ⟨rfl,puK_in hC ?_⟩
 simp only [↓aX,mX,reduceCtorEq,Nat.reduceEqDiff,Nat.reduceLT,Nat.reduceLeDiff,Nat.reduceAdd,Nat.reduceMul,Int.reduceToNat,Int.reduceLE,Int.reduceLT,List.length_map]
 rw [go_weak]
 refine ⟨_,_,weaker_ownc (q := .loc 6) (cs := [.bool x.text,.str x.s,.list (ivA x.attrs),.nil0]) (j := 3) (d := 50) (sz := 4) rfl rfl (by simp [upd_at,Hp.none]) (by decide),?_⟩
 simp only [↓aX,mX,reduceCtorEq,Nat.reduceEqDiff,Nat.reduceLT,Nat.reduceLeDiff,Nat.reduceAdd,Nat.reduceMul,Int.reduceToNat,Int.reduceLE,Int.reduceLT]
 refine loop_used (σ := { i : Nat // i ≤ x.kids.length }) (fun _ => [.loc 2,.loc 4,.loc 6,.loc 50]) (fun _ _ => false)
   (fun q => [(2,.ptr (.loc 2) 1 0 0),(4,.ptr (.loc 4) 4 0 0),(6,.ptr (.loc 6) 4 0 0),(23,.list ((kidsAt (n + 1) x.kids).map intIV)),(24,.int .i64 x.kids.length),(25,.int .i64 q.1)])
   (fun q => [(.loc 2,⟨1,[[.list (d.map Node.iv)]]⟩),(.loc 4,⟨4,[[.bool false,.str [],.nil0,.nil0]]⟩),(.loc 6,⟨4,[[.bool x.text,.str x.s,.list (ivA x.attrs),.sl (.loc 50) 4 0 q.1]]⟩),(.loc 50,⟨4,immE (ivT (x.kids.take q.1))⟩)])
   (fun q => x.kids.length - q.1) ⟨0,Nat.zero_le _⟩ (fun _ => rfl) (fun q => by simp [lbss,AV.lbs]) ?_ ⟨[],?_⟩ ?_
 · rintro q r hr cs hcs l hl
   simp only [List.mem_cons,List.not_mem_nil,or_false] at hr
   rcases hr with rfl | rfl | rfl | rfl
   · simp only [List.mem_singleton] at hcs; subst hcs; simp [lbss,AV.lbs] at hl
   · simp only [List.mem_singleton] at hcs; subst hcs; simp [lbss,AV.lbs] at hl
   · simp only [List.mem_singleton] at hcs; subst hcs; simp [lbss,AV.lbs] at hl; subst hl; simp
   · rw [lbss_immE hcs] at hl; simp at hl
 · refine ⟨?_,?_,?_,by simp [rnF],fun l _ => ⟨id,fun _ => rfl⟩⟩
   · intro l hf hu
     exfalso; apply hu
     cases l <;> simp_all [Lb.fresh,upd_at,Hp.none]
   · simp [EqL,rnF,ren,put,hkn]
   · simp [RwL,rnF,upd_at,renR,rens,ren,immE,ivT]
 · rintro ⟨i,hi⟩
   rw [ofU_f]
   simp only [↓aX,mX,reduceCtorEq,Nat.reduceEqDiff,Nat.reduceLT,Nat.reduceLeDiff,Nat.reduceAdd,Nat.reduceMul,Int.reduceToNat,Int.reduceLE,Int.reduceLT,ofH_nil,ofH_cons]
   by_cases hlt : i < x.kids.length
   · rw [show decide ((i : Int) < (x.kids.length : Int)) = true by simpa using hlt]
     obtain ⟨k,hki⟩ : ∃ k,x.kids[i]? = some k := ⟨_,List.getElem?_eq_getElem hlt⟩
     have hw : IntKind.i64.wrap ((i : Int) + 1) = ((i + 1 : Nat) : Int) := wrap64 (by omega) (by unfold B at hx; omega)
     have hg := kidsAt_get (n + 1) x.kids i hlt
     simp only [↓aX,mX,reduceCtorEq,Nat.reduceEqDiff,Nat.reduceLT,Nat.reduceLeDiff,Nat.reduceAdd,Nat.reduceMul,Int.reduceToNat,Int.reduceLE,Int.reduceLT,intGet,hg,elszI,List.length_map,Option.map_some,intIV,IV.cells]
     have hkm := List.mem_of_getElem? hki
     have hkL : Lies d (n + 1 + cntT (x.kids.take i)) n k := hL.kid (x.kids.take i) (x.kids.drop (i + 1)) k (by rw [← drop_eq hki,List.take_append_drop])
     have hl4 : (ivT (x.kids.take i)).length = i := by rw [ivT_len,List.length_take]; omega
     have hsn : ivT (x.kids.take (i + 1)) = ivT (x.kids.take i) ++ [.agg [.bool k.text,.str k.s,.list (ivA k.attrs),.list (ivT k.kids)]] := by rw [take_snoc' hki,ivT_app]; simp [ivT,Tree.iv_eq,Tree.cs]
     refine ⟨rfl,puK_in (hK k hkm _ _ hkL) ?_⟩
     simp only [↓aX,mX,reduceCtorEq,Nat.reduceEqDiff,Nat.reduceLT,Nat.reduceLeDiff,Nat.reduceAdd,Nat.reduceMul,Int.reduceToNat,Int.reduceLE,Int.reduceLT,Tree.av]
     rw [app_loc 4 72 35 50 (ivT (x.kids.take i)) (.agg [.bool k.text,.str k.s,.list (ivA k.attrs),.list (ivT k.kids)]) (by simp [upd_at]) hl4 rfl (by simp [IV.cells]) (by unfold B at hx; omega) (by decide) (by decide) (by simp [upd_at,Hp.none])]
     simp only [↓aX,mX,reduceCtorEq,Nat.reduceEqDiff,Nat.reduceLT,Nat.reduceLeDiff,Nat.reduceAdd,Nat.reduceMul,Int.reduceToNat,Int.reduceLE,Int.reduceLT,hw]
     refine ⟨by rintro l (rfl | rfl) <;> simp [Lb.fam],?_⟩
     refine ⟨⟨i + 1,hlt⟩,by simp only; omega,[(.loc 50,.loc 35)],?_⟩
     refine ⟨?_,?_,?_,by simp [rnF],?_⟩
     · intro l hf hu
       exfalso; apply hu
       cases l <;> simp_all [Lb.fresh,upd_at,Hp.none]
     · simp [EqL,rnF,ren,put]
     · have hr : ∀ xs : List IV,renR (rnF [(.loc 50,.loc 35)]) ⟨4,immE xs⟩ = ⟨4,immE xs⟩ := fun xs => renR_immE _ _ _
       simp [RwL,rnF,upd_at,renR,rens,ren,hsn]
       simp [immE,rens_imm]
     · intro l hl
       simp only [List.mem_cons,List.not_mem_nil,or_false] at hl
       rcases hl with rfl | rfl | rfl | rfl
       · exact ⟨fun _ => rfl,fun _ => rfl⟩
       · exact ⟨fun _ => rfl,fun _ => rfl⟩
       · exact ⟨fun _ => rfl,fun _ => rfl⟩
       · exact ⟨fun _ => rfl,fun h => by simp [Lb.fresh] at h⟩
   · have hil : i = x.kids.length := by omega
     subst hil
     rw [show decide ((x.kids.length : Int) < (x.kids.length : Int)) = false by simp]
     simp only [↓aX,mX,reduceCtorEq,Nat.reduceEqDiff,Nat.reduceLT,Nat.reduceLeDiff,Nat.reduceAdd,Nat.reduceMul,Int.reduceToNat,Int.reduceLE,Int.reduceLT,List.take_length]
     refine ⟨4,ivT x.kids,0,x.kids.length,[.bool x.text,.str x.s,.list (ivA x.attrs),.sl (.loc 50) 4 0 x.kids.length],rfl,rfl,rfl,by simp,by rw [ivT_len]; omega,flatT _,?_⟩
     simp only [↓aX,mX,reduceCtorEq,Nat.reduceEqDiff,Nat.reduceLT,Nat.reduceLeDiff,Nat.reduceAdd,Nat.reduceMul,Int.reduceToNat,Int.reduceLE,Int.reduceLT,List.drop_zero,List.take_of_length_le (show (ivT x.kids).length ≤ x.kids.length by rw [ivT_len]; exact Nat.le_refl _)]
     rfl
end Go.Am

/- Documents: which are good; what is told of them. -/
namespace Go.Am
open Go Go.RowKit
def Node.wt (x : Node) : Nat := 1 + x.s.length + wtA x.attrs + x.kids.length
def wtN : Doc → Nat
 | [] => 0
 | x :: r => x.wt + wtN r
theorem wtN_app : ∀ a b : Doc,wtN (a ++ b) = wtN a + wtN b
 | [],b => by simp [wtN]
 | x :: r,b => by simp [wtN,wtN_app r b,Nat.add_assoc]
theorem wtN_len : ∀ d : Doc,d.length ≤ wtN d
 | [] => by simp
 | x :: r => by have := wtN_len r; simp only [wtN,Node.wt,List.length_cons]; omega
theorem wtN_mem : ∀ {d : Doc} {x : Node},x ∈ d → x.wt ≤ wtN d
 | [],x,h => by simp at h
 | y :: r,x,h => by
   simp only [List.mem_cons] at h
   rcases h with rfl | h
   · simp [wtN]
   · have := wtN_mem h; simp only [wtN]; omega
mutual
theorem Tree.wt_flat (off : Nat) (p : Int) : ∀ x : Tree,x.wt ≤ wtN (x.flat off p)
 | .mk t s as ks => by
   have := wt_flats (off + 1) off ks
   simp only [Tree.flat,wtN,Node.wt,Tree.wt]; omega
theorem wt_flats (off p : Nat) : ∀ xs : List Tree,wtT xs ≤ wtN (flats off p xs)
 | [] => by simp [wtT]
 | k :: r => by
   have := k.wt_flat off p
   have := wt_flats (off + k.cnt) p r
   simp only [flats,wtN_app,wtT]; omega
end
theorem Lies.wt {d : Doc} {n : Nat} {q : Int} {y : Tree} (h : Lies d n q y) : y.wt ≤ wtN d := by
 obtain ⟨post,h⟩ := h
 have h1 := y.wt_flat n q
 have h2 := wtN_app (d.take n) (d.drop n)
 rw [List.take_append_drop,h,wtN_app] at h2
 omega
section
variable {P : Program} {G : Nat → Option (List IV)}
theorem wAt {f_doc_at f_slices_Clone_Attr_Attr : Nat} (hF : compF P G f_doc_at = some (39,[((some (some 4)),4)],(c_doc_at f_slices_Clone_Attr_Attr f_doc_at).bare)) (hC : ∀ xs : List Attr,xs.length ≤ B → PureC P G f_slices_Clone_Attr_Attr [.list (ivA xs)] (.list (ivA xs))) (d : Doc) (hd : wtN d ≤ B) (n : Nat) (q : Int) (x : Tree) (hL : Lies d n q x) :
   PureC P G f_doc_at [Doc.av d,.int .i64 n] x.av := by
 have key := byWt (M := fun l => ∀ x ∈ l,∀ (n : Nat) (q : Int),Lies d n q x → PureC P G f_doc_at [Doc.av d,.int .i64 n] x.av)
   (fun l h x hx n q hL => pAt hF d (by have := wtN_len d; omega) n q x hL (by have := hL.wt; omega) (hC _ (by have := hL.wt; have := wt_attrs x; have := wtA_len x.attrs; omega)) fun k hk m p hL' => h x hx k hk m p hL')
 exact key [x] x (by simp) n q hL
end
theorem isDoc_docOf (x : Tree) : isDoc (docOf x) = x.good := by
 cases h : x.good with
 | true => exact isDoc_of h
 | false => exact isDoc_not fun ⟨y,h1,h2⟩ => by rw [docOf_inj h2,h1] at h; cases h
theorem IsDoc.len {d : Doc} (h : IsDoc d) : 1 ≤ d.length ∧ d.length ≤ 80 := by
 obtain ⟨x,hx,rfl⟩ := h
 have := (good_iff x).1 hx
 have := x.cnt_pos
 rw [docOf_len]; omega
theorem IsDoc.wk {d : Doc} (h : IsDoc d) : wk d 8 0 (-1) 0 = some (d.length : Int) := by
 obtain ⟨x,hx,rfl⟩ := h
 exact wk_doc' ((good_iff x).1 hx).2.1
def c_doc_Good (f_doc_walk f_doc_at f_tree_Good : Nat) : AC :=
(.seq (.reg [⟨some 1,none,.box (.t 0)⟩,⟨some 2,none,.mov (.c (.bool false))⟩]) (.seq (.seq (.reg [⟨some 4,none,.fld (.t 1) 0⟩,⟨some 5,none,.load none (.t 4)⟩,⟨some 6,none,.len (.t 5)⟩,⟨some 7,none,.bin .lss (.t 6) (.c (.int .i64 1))⟩,⟨some 8,none,.mov (.t 7)⟩,⟨some 9,(some (8,false)),(.fld (.t 1) 0)⟩,⟨some 10,(some (8,false)),(.load none (.t 9))⟩,⟨some 11,(some (8,false)),(.len (.t 10))⟩,⟨some 12,(some (8,false)),(.bin .gtr (.t 11) (.c (.int .i64 80)))⟩,⟨some 13,none,.pick (.t 8) (.c (.bool true)) (.t 12)⟩]) (.cond (.t 13) (.seq (.reg [⟨some 2,none,.mov (.c (.bool false))⟩]) .ret) .skip)) (.seq (.reg [⟨some 3,none,.new [(.int .i64 0)]⟩,⟨none,none,.store 1 (.t 3) (.c (.int .i64 0))⟩]) (.seq (.seq (.reg [⟨some 14,none,.load (some 1) (.t 1)⟩,⟨some 15,none,.call f_doc_walk [(.t 14),(.c (.int .i64 0)),(.c (.int .i64 (-1))),(.c (.int .i64 1)),(.t 3)]⟩,⟨some 16,none,.not (.t 15)⟩,⟨some 17,none,.mov (.t 16)⟩,⟨some 18,(some (17,false)),(.load none (.t 3))⟩,⟨some 19,(some (17,false)),(.fld (.t 1) 0)⟩,⟨some 20,(some (17,false)),(.load none (.t 19))⟩,⟨some 21,(some (17,false)),(.len (.t 20))⟩,⟨some 22,(some (17,false)),(.bin .neq (.t 18) (.t 21))⟩,⟨some 23,none,.pick (.t 17) (.c (.bool true)) (.t 22)⟩]) (.cond (.t 23) (.seq (.reg [⟨some 2,none,.mov (.c (.bool false))⟩]) .ret) .skip)) (.seq (.reg [⟨some 24,none,.load (some 1) (.t 1)⟩,⟨some 25,none,.call f_doc_at [(.t 24),(.c (.int .i64 0))]⟩,⟨some 26,none,.call f_tree_Good [(.t 25)]⟩,⟨some 2,none,.mov (.t 26)⟩]) .ret)))))
theorem pDocGood {P : Program} {G : Nat → Option (List IV)} {f_doc_Good f_doc_walk f_doc_at f_tree_Good : Nat} (hF : compF P G f_doc_Good = some (27,[(none,2)],(c_doc_Good f_doc_walk f_doc_at f_tree_Good).bare)) (d : Doc) (hd : wtN d ≤ B)
   (hW : MutC P G f_doc_walk [Doc.av d,.int .i64 0,.int .i64 (-1),.int .i64 (9 - ((8 : Nat) : Int)),.ptr (.par 0) 1 0 0] [.int .i64 0] fun x cs => ∃ v,x = .bool (wk d 8 0 (-1) 0).isSome ∧ cs = [.int .i64 v] ∧ ∀ r,wk d 8 0 (-1) 0 = some r → v = r)
   (hA : ∀ x,d = docOf x → PureC P G f_doc_at [Doc.av d,.int .i64 0] x.av) (hG : ∀ x,d = docOf x → PureC P G f_tree_Good [x.av] (.bool x.good)) : PureC P G f_doc_Good [Doc.av d] (.bool (isDoc d)) := by
 refine pure_of_go hF (by simp) (by simp [lbss,AV.lbs,Doc.av]) (by simp [AV.lbs]) ?_
 have hlen := wtN_len d
 unfold c_doc_Good
 simp only [↓aX,mX,reduceCtorEq,Nat.reduceEqDiff,Nat.reduceLT,Nat.reduceLeDiff,Nat.reduceAdd,Nat.reduceMul,Int.reduceToNat,Int.reduceLE,Int.reduceLT,Doc.av,List.length_map]
 cases h1 : decide ((d.length : Int) < 1) with
 | true =>
   have : isDoc d = false := isDoc_not fun h => by have := h.len; simp at h1; omega
   simp only [↓aX,mX,reduceCtorEq,Nat.reduceEqDiff,Nat.reduceLT,Nat.reduceLeDiff,Nat.reduceAdd,Nat.reduceMul,Int.reduceToNat,Int.reduceLE,Int.reduceLT,this]
 | false =>
   cases h2 : decide ((d.length : Int) > 80) with
   | true =>
     have : isDoc d = false := isDoc_not fun h => by have := h.len; simp at h2; omega
     simp only [↓aX,mX,reduceCtorEq,Nat.reduceEqDiff,Nat.reduceLT,Nat.reduceLeDiff,Nat.reduceAdd,Nat.reduceMul,Int.reduceToNat,Int.reduceLE,Int.reduceLT,List.length_map,h2,this]
   | false =>
     simp only [↓aX,mX,reduceCtorEq,Nat.reduceEqDiff,Nat.reduceLT,Nat.reduceLeDiff,Nat.reduceAdd,Nat.reduceMul,Int.reduceToNat,Int.reduceLE,Int.reduceLT,List.length_map,h2]
     refine callT_mut (l := .loc 3) hW rfl (by simp only [↓aX,mX,reduceCtorEq,Nat.reduceEqDiff,Nat.reduceLT,Nat.reduceLeDiff,Nat.reduceAdd,Nat.reduceMul,Int.reduceToNat,Int.reduceLE,Int.reduceLT]; try rfl) ?_
     rintro x1 cs' ⟨v,rfl,rfl,hv⟩ _ _ _
     cases hr : wk d 8 0 (-1) 0 with
     | none =>
       have : isDoc d = false := isDoc_not fun h => by have := h.wk; rw [hr] at this; cases this
       simp only [↓aX,mX,reduceCtorEq,Nat.reduceEqDiff,Nat.reduceLT,Nat.reduceLeDiff,Nat.reduceAdd,Nat.reduceMul,Int.reduceToNat,Int.reduceLE,Int.reduceLT,Option.isSome_none,Bool.not_false,this]
     | some r =>
       have := hv r hr
       subst this
       simp only [↓aX,mX,reduceCtorEq,Nat.reduceEqDiff,Nat.reduceLT,Nat.reduceLeDiff,Nat.reduceAdd,Nat.reduceMul,Int.reduceToNat,Int.reduceLE,Int.reduceLT,Option.isSome_some,Bool.not_true,List.length_map]
       cases h3 : (v != (d.length : Int)) with
       | true =>
         have : isDoc d = false := isDoc_not fun h => by have := h.wk; rw [hr] at this; cases this; simp at h3
         simp only [↓aX,mX,reduceCtorEq,Nat.reduceEqDiff,Nat.reduceLT,Nat.reduceLeDiff,Nat.reduceAdd,Nat.reduceMul,Int.reduceToNat,Int.reduceLE,Int.reduceLT,this]
       | false =>
         have hvl : v = d.length := by simpa using h3
         rw [hvl] at hr
         obtain ⟨x,hx1,hx2⟩ := wk_doc hr
         simp only [↓aX,mX,reduceCtorEq,Nat.reduceEqDiff,Nat.reduceLT,Nat.reduceLeDiff,Nat.reduceAdd,Nat.reduceMul,Int.reduceToNat,Int.reduceLE,Int.reduceLT]
         refine callT_pure (hA x hx2) ?_
         simp only [↓aX,mX,reduceCtorEq,Nat.reduceEqDiff,Nat.reduceLT,Nat.reduceLeDiff,Nat.reduceAdd,Nat.reduceMul,Int.reduceToNat,Int.reduceLE,Int.reduceLT]
         refine callT_pure (hG x hx2) ?_
         simp only [↓aX,mX,reduceCtorEq,Nat.reduceEqDiff,Nat.reduceLT,Nat.reduceLeDiff,Nat.reduceAdd,Nat.reduceMul,Int.reduceToNat,Int.reduceLE,Int.reduceLT]
         rw [hx2,isDoc_docOf]
def c_doc_End (f_doc_Good : Nat) : AC :=
(.seq (.reg [⟨some 2,none,.box (.t 0)⟩,⟨some 4,none,.mov (.c (.int .i64 0))⟩]) (.seq (.seq (.reg [⟨some 5,none,.load (some 1) (.t 2)⟩,⟨some 6,none,.call f_doc_Good [(.t 5)]⟩,⟨some 7,none,.not (.t 6)⟩,⟨some 8,none,.mov (.t 7)⟩,⟨some 9,(some (8,false)),(.mov (.t 1))⟩,⟨some 10,(some (8,false)),(.bin .lss (.t 9) (.c (.int .i64 0)))⟩,⟨some 11,none,.pick (.t 8) (.c (.bool true)) (.t 10)⟩,⟨some 12,none,.mov (.t 11)⟩,⟨some 13,(some (12,false)),(.mov (.t 1))⟩,⟨some 14,(some (12,false)),(.fld (.t 2) 0)⟩,⟨some 15,(some (12,false)),(.load none (.t 14))⟩,⟨some 16,(some (12,false)),(.len (.t 15))⟩,⟨some 17,(some (12,false)),(.bin .geq (.t 13) (.t 16))⟩,⟨some 18,none,.pick (.t 12) (.c (.bool true)) (.t 17)⟩]) (.cond (.t 18) (.seq (.reg [⟨some 4,none,.mov (.c (.int .i64 0))⟩]) .ret) .skip)) (.seq (.block 0 (.loop (.seq (.seq (.reg [⟨some 19,none,.fld (.t 2) 0⟩,⟨some 20,none,.load none (.t 19)⟩,⟨some 21,none,.mov (.t 1)⟩,⟨some 22,none,.ixa (.t 20) (.t 21) 5⟩,⟨some 23,none,.fld (.t 22) 4⟩,⟨some 24,none,.load none (.t 23)⟩,⟨some 25,none,.len (.t 24)⟩,⟨some 26,none,.bin .gtr (.t 25) (.c (.int .i64 0))⟩]) (.cond (.t 26) .skip (.exit 0))) (.block 1 (.dreg [⟨some 27,none,.fld (.t 2) 0⟩,⟨some 28,none,.load none (.t 27)⟩,⟨some 29,none,.mov (.t 1)⟩,⟨some 30,none,.ixa (.t 28) (.t 29) 5⟩,⟨some 31,none,.fld (.t 30) 4⟩,⟨some 32,none,.load none (.t 31)⟩,⟨some 33,none,.fld (.t 2) 0⟩,⟨some 34,none,.load none (.t 33)⟩,⟨some 35,none,.mov (.t 1)⟩,⟨some 36,none,.ixa (.t 34) (.t 35) 5⟩,⟨some 37,none,.fld (.t 36) 4⟩,⟨some 38,none,.load none (.t 37)⟩,⟨some 39,none,.len (.t 38)⟩,⟨some 40,none,.bin .sub (.t 39) (.c (.int .i64 1))⟩,⟨some 41,none,.ixa (.t 32) (.t 40) 1⟩,⟨some 42,none,.load none (.t 41)⟩,⟨some 1,none,.mov (.t 42)⟩] [[],[0],[],[1,2],[3],[4],[],[6],[],[7,8],[9],[10],[11],[12],[5,13],[14],[15,0,1,2,3,4,5,6,7,8,9,10,11,12,13,14,15]] [.no,.rw [.loc 2] [],.no,.no,.no,.no,.no,.rw [.loc 2] [],.no,.no,.no,.no,.no,.no,.no,.no,.no]))))) (.seq (.reg [⟨some 43,none,.mov (.t 1)⟩,⟨some 44,none,.bin .add (.t 43) (.c (.int .i64 1))⟩,⟨some 4,none,.mov (.t 44)⟩]) .ret))))
theorem intCells (n : Int) : (intIV n).cells = [.int .i64 n] := rfl
theorem kids_last {d : Doc} {n : Nat} {q : Int} {y : Tree} (h : Lies d n q y) (h0 : 0 < y.kids.length) : ∃ (k : Tree) (m : Nat),(kidsAt (n + 1) y.kids)[y.kids.length - 1]? = some (m : Int) ∧ Lies d m n k ∧ m + k.cnt = n + y.cnt ∧ n < m := by
 have hlt : y.kids.length - 1 < y.kids.length := by omega
 obtain ⟨k,hk⟩ : ∃ k,y.kids[y.kids.length - 1]? = some k := ⟨_,List.getElem?_eq_getElem hlt⟩
 have hsp : y.kids = y.kids.take (y.kids.length - 1) ++ k :: y.kids.drop (y.kids.length - 1 + 1) := by rw [← drop_eq hk,List.take_append_drop]
 have hL := h.kid _ _ k hsp
 refine ⟨k,n + 1 + cntT (y.kids.take (y.kids.length - 1)),kidsAt_get _ _ _ hlt,hL,?_,by omega⟩
 have hc := y.cnt_eq
 have hd : y.kids.drop (y.kids.length - 1 + 1) = [] := List.drop_eq_nil_of_le (by omega)
 rw [hd] at hsp
 have : cntT y.kids = cntT (y.kids.take (y.kids.length - 1)) + k.cnt := by
   have := congrArg cntT hsp
   rw [cntT_app] at this
   simpa [cntT] using this
 omega
theorem pDocEnd {P : Program} {G : Nat → Option (List IV)} {f_doc_End f_doc_Good : Nat} (hF : compF P G f_doc_End = some (45,[(none,4)],(c_doc_End f_doc_Good).bare)) (d : Doc) (hd : wtN d ≤ B) (n : Int)
   (hG : PureC P G f_doc_Good [Doc.av d] (.bool (isDoc d))) : PureC P G f_doc_End [Doc.av d,.int .i64 n] (.int .i64 (endD d n)) := by
 refine pure_of_go hF (by simp) (by simp [lbss,AV.lbs,Doc.av]) (by simp [AV.lbs]) ?_
 have hlen := wtN_len d
 unfold c_doc_End
 simp only [↓aX,mX,reduceCtorEq,Nat.reduceEqDiff,Nat.reduceLT,Nat.reduceLeDiff,Nat.reduceAdd,Nat.reduceMul,Int.reduceToNat,Int.reduceLE,Int.reduceLT,Doc.av,List.length_map]
 refine callT_pure hG ?_
 cases hg : isDoc d with
 | false =>
   have : endD d n = 0 := endD_out (by rw [hg]; simp)
   simp only [↓aX,mX,reduceCtorEq,Nat.reduceEqDiff,Nat.reduceLT,Nat.reduceLeDiff,Nat.reduceAdd,Nat.reduceMul,Int.reduceToNat,Int.reduceLE,Int.reduceLT,this]
 | true =>
   obtain ⟨t,ht,rfl⟩ := isDoc_iff.1 hg
   simp only [↓aX,mX,reduceCtorEq,Nat.reduceEqDiff,Nat.reduceLT,Nat.reduceLeDiff,Nat.reduceAdd,Nat.reduceMul,Int.reduceToNat,Int.reduceLE,Int.reduceLT,List.length_map]
   cases h1 : decide (n < 0) with
   | true =>
     have : endD (docOf t) n = 0 := endD_out (by simp at h1; omega)
     simp only [↓aX,mX,reduceCtorEq,Nat.reduceEqDiff,Nat.reduceLT,Nat.reduceLeDiff,Nat.reduceAdd,Nat.reduceMul,Int.reduceToNat,Int.reduceLE,Int.reduceLT,this]
   | false =>
     obtain ⟨m,rfl⟩ : ∃ m : Nat,n = m := ⟨n.toNat,by simp at h1; omega⟩
     simp only [↓aX,mX,reduceCtorEq,Nat.reduceEqDiff,Nat.reduceLT,Nat.reduceLeDiff,Nat.reduceAdd,Nat.reduceMul,Int.reduceToNat,Int.reduceLE,Int.reduceLT,List.length_map]
     cases h2 : decide ((m : Int) ≥ ((docOf t).length : Int)) with
     | true =>
       have : endD (docOf t) m = 0 := endD_out (by simp at h2; omega)
       simp only [↓aX,mX,reduceCtorEq,Nat.reduceEqDiff,Nat.reduceLT,Nat.reduceLeDiff,Nat.reduceAdd,Nat.reduceMul,Int.reduceToNat,Int.reduceLE,Int.reduceLT,this]
     | false =>
       obtain ⟨q,y,l,s⟩ := lies_doc (t := t) (n := m) (by simp at h2; omega)
       simp only [↓aX,mX,reduceCtorEq,Nat.reduceEqDiff,Nat.reduceLT,Nat.reduceLeDiff,Nat.reduceAdd,Nat.reduceMul,Int.reduceToNat,Int.reduceLE,Int.reduceLT,List.length_map]
       refine loop_same (σ := { z : Nat × Tree // (∃ q,Lies (docOf t) z.1 q z.2) ∧ z.1 + z.2.cnt = m + y.cnt }) [.loc 2]
         (fun z => [(1,.int .i64 z.1.1),(2,.ptr (.loc 2) 1 0 0)]) (fun _ => [(.loc 2,⟨1,[[.list ((docOf t).map Node.iv)]]⟩)]) (fun z => z.1.2.cnt) ⟨(m,y),⟨q,l⟩,rfl⟩
         (fun _ => rfl) (by decide) (by simp [lbss,AV.lbs]) (by simp [lbss,AV.lbs]) ?_ ?_
       · exact WS_mk (by simp only [NFx_loc,NFx_none]) (by repeat' constructor) (by repeat' constructor)
       · rintro ⟨⟨i,z⟩,⟨r,hL⟩,hc⟩
         simp only at hL hc
         have hnode := hL.node
         have hlt := (List.getElem?_eq_some_iff.1 hnode).1
         have hll := hL.len
         have hkn : (kidsAt (i + 1) z.kids).length = z.kids.length := kidsAt_len _ _
         simp only [↓aX,mX,reduceCtorEq,Nat.reduceEqDiff,Nat.reduceLT,Nat.reduceLeDiff,Nat.reduceAdd,Nat.reduceMul,Int.reduceToNat,Int.reduceLE,Int.reduceLT,ofH_nil,ofH_cons,List.length_map,Doc.get_iv hnode,elszN,Node.cells_eq,Node.cs,Tree.node,hkn]
         cases h3 : decide ((z.kids.length : Int) > 0) with
         | false =>
           have hk0 : z.kids = [] := by have := of_decide_eq_false h3; exact List.length_eq_zero_iff.1 (by omega)
           have hcz := z.cnt_eq
           rw [hk0] at hcz
           simp only [cntT] at hcz
           have hw : IntKind.i64.wrap ((i : Int) + 1) = ((i + 1 : Nat) : Int) := wrap64 (by omega) (by unfold B at hd; omega)
           simp only [↓aX,mX,reduceCtorEq,Nat.reduceEqDiff,Nat.reduceLT,Nat.reduceLeDiff,Nat.reduceAdd,Nat.reduceMul,Int.reduceToNat,Int.reduceLE,Int.reduceLT,hw]
           rw [endD_of ht l,← hc,hcz]
         | true =>
           have h3' := of_decide_eq_true h3
           obtain ⟨k,j,hj,hLk,hck,hij⟩ := kids_last hL (by omega)
           have hwk := hL.wt
           have hkl := wtT_len z.kids
           have hwz := z.wt_eq
           have hw : IntKind.i64.wrap ((z.kids.length : Int) - 1) = ((z.kids.length - 1 : Nat) : Int) := by rw [wrap64 (by omega) (by unfold B at hd; omega)]; omega
           have hcz := z.cnt_eq
           have hll2 := hLk.len
           simp only [↓aX,mX,reduceCtorEq,Nat.reduceEqDiff,Nat.reduceLT,Nat.reduceLeDiff,Nat.reduceAdd,Nat.reduceMul,Int.reduceToNat,Int.reduceLE,Int.reduceLT,List.length_map,Doc.get_iv hnode,elszN,Node.cells_eq,Node.cs,Tree.node,hkn,hw,intGet,hj,elszI,Option.map_some,intCells]
           refine ⟨rfl,?_⟩
           refine ⟨⟨(j,k),⟨_,hLk⟩,by simp only; omega⟩,by simp only; omega,WS_mk (by simp only [NFx_loc,NFx_none]) (by repeat' constructor) (by repeat' constructor)⟩
end Go.Am

/- Documents: within; what is said; the laws DocBack and DocNests. -/
namespace Go.Am
open Go Go.RowKit
def c_doc_String (f_doc_End : Nat) : AC :=
(.seq (.reg [⟨some 2,none,.box (.t 0)⟩,⟨some 4,none,.mov (.c (.str []))⟩]) (.seq (.reg [⟨some 5,none,.mov (.c (.str []))⟩]) (.seq (.seq (.reg [⟨some 7,none,.mov (.t 1)⟩,⟨some 8,none,.max (.c (.int .i64 0)) (.t 7)⟩,⟨some 6,none,.mov (.t 8)⟩]) (.block 0 (.loop (.seq (.seq (.reg [⟨some 9,none,.mov (.t 6)⟩,⟨some 10,none,.load (some 1) (.t 2)⟩,⟨some 11,none,.mov (.t 1)⟩,⟨some 12,none,.call f_doc_End [(.t 10),(.t 11)]⟩,⟨some 13,none,.bin .lss (.t 9) (.t 12)⟩]) (.cond (.t 13) .skip (.exit 0))) (.seq (.block 1 (.seq (.reg [⟨some 16,none,.fld (.t 2) 0⟩,⟨some 17,none,.load none (.t 16)⟩,⟨some 18,none,.mov (.t 6)⟩,⟨some 19,none,.ixa (.t 17) (.t 18) 5⟩,⟨some 20,none,.fld (.t 19) 0⟩,⟨some 21,none,.load none (.t 20)⟩]) (.cond (.t 21) (.reg [⟨some 22,none,.mov (.t 5)⟩,⟨some 23,none,.fld (.t 2) 0⟩,⟨some 24,none,.load none (.t 23)⟩,⟨some 25,none,.mov (.t 6)⟩,⟨some 26,none,.ixa (.t 24) (.t 25) 5⟩,⟨some 27,none,.fld (.t 26) 1⟩,⟨some 28,none,.load none (.t 27)⟩,⟨some 29,none,.bin .add (.t 22) (.t 28)⟩,⟨some 5,none,.mov (.t 29)⟩]) .skip))) (.reg [⟨some 14,none,.mov (.t 6)⟩,⟨some 15,none,.bin .add (.t 14) (.c (.int .i64 1))⟩,⟨some 6,none,.mov (.t 15)⟩])))))) (.seq (.reg [⟨some 30,none,.mov (.t 5)⟩,⟨some 4,none,.mov (.t 30)⟩]) .ret))))
theorem endD_le (d : Doc) (n : Int) : 0 ≤ endD d n ∧ endD d n ≤ d.length := by
 by_cases h : isDoc d = true ∧ 0 ≤ n ∧ n < d.length
 · obtain ⟨h1,h2,h3⟩ := h
   obtain ⟨t,ht,rfl⟩ := isDoc_iff.1 h1
   obtain ⟨m,rfl⟩ : ∃ m : Nat,n = m := ⟨n.toNat,by omega⟩
   obtain ⟨q,y,l,s⟩ := lies_doc (t := t) (n := m) (by omega)
   have := l.len
   rw [endD_of ht l]; omega
 · rw [endD_out h]; omega
theorem told_wt : ∀ d : Doc,(d.flatMap Node.told).length ≤ wtN d
 | [] => by simp
 | x :: r => by
   have := told_wt r
   simp only [List.flatMap_cons,List.length_append,wtN,Node.wt,Node.told]
   by_cases h : x.text = true
   · rw [if_pos h]; omega
   · rw [if_neg h]; simp only [List.length_nil]; omega
theorem wtN_sub (d : Doc) (a n : Nat) : wtN ((d.drop a).take n) ≤ wtN d := by
 have h1 := wtN_app (d.take a) (d.drop a)
 have h2 := wtN_app ((d.drop a).take n) ((d.drop a).drop n)
 rw [List.take_append_drop] at h1 h2
 omega
theorem pDocString {P : Program} {G : Nat → Option (List IV)} {f_doc_String f_doc_End : Nat} (hF : compF P G f_doc_String = some (31,[(none,4)],(c_doc_String f_doc_End).bare)) (d : Doc) (hd : wtN d ≤ B) (n : Int)
   (hE : PureC P G f_doc_End [Doc.av d,.int .i64 n] (.int .i64 (endD d n))) : PureC P G f_doc_String [Doc.av d,.int .i64 n] (.str (strD d n)) := by
 refine pure_of_go hF (by simp) (by simp [lbss,AV.lbs,Doc.av]) (by simp [AV.lbs]) ?_
 have hlen := wtN_len d
 obtain ⟨he0,hel⟩ := endD_le d n
 have hmax : (if n > 0 then n else 0) = ((n.toNat : Nat) : Int) := by split <;> omega
 unfold c_doc_String
 simp only [↓aX,mX,reduceCtorEq,Nat.reduceEqDiff,Nat.reduceLT,Nat.reduceLeDiff,Nat.reduceAdd,Nat.reduceMul,Int.reduceToNat,Int.reduceLE,Int.reduceLT,Doc.av,List.length_map,hmax]
 refine loop_same (σ := { i : Nat // n.toNat ≤ i ∧ (i ≤ (endD d n).toNat ∨ i = n.toNat) }) [.loc 2]
   (fun i => [(1,.int .i64 n),(2,.ptr (.loc 2) 1 0 0),(5,.str (((d.drop n.toNat).take (i.1 - n.toNat)).flatMap Node.told)),(6,.int .i64 i.1)])
   (fun _ => [(.loc 2,⟨1,[[.list (d.map Node.iv)]]⟩)]) (fun i => d.length - i.1) ⟨n.toNat,Nat.le_refl _,.inr rfl⟩
   (fun _ => rfl) (by decide) (by simp [lbss,AV.lbs]) (by simp [lbss,AV.lbs]) ?_ ?_
 · refine WS_mk (by simp only [NFx_loc,NFx_none]) ?_ (by repeat' constructor)
   simp only [Nat.sub_self,List.take_zero,List.flatMap_nil]
   repeat' constructor
 · rintro ⟨i,hni,hi⟩
   simp only [↓aX,mX,reduceCtorEq,Nat.reduceEqDiff,Nat.reduceLT,Nat.reduceLeDiff,Nat.reduceAdd,Nat.reduceMul,Int.reduceToNat,Int.reduceLE,Int.reduceLT,ofH_nil,ofH_cons]
   refine callT_pure hE ?_
   simp only [↓aX,mX,reduceCtorEq,Nat.reduceEqDiff,Nat.reduceLT,Nat.reduceLeDiff,Nat.reduceAdd,Nat.reduceMul,Int.reduceToNat,Int.reduceLE,Int.reduceLT]
   cases h1 : decide ((i : Int) < endD d n) with
   | false =>
     have h1' := of_decide_eq_false h1
     have : i - n.toNat = (endD d n).toNat - n.toNat := by rcases hi with h | h <;> omega
     simp only [↓aX,mX,reduceCtorEq,Nat.reduceEqDiff,Nat.reduceLT,Nat.reduceLeDiff,Nat.reduceAdd,Nat.reduceMul,Int.reduceToNat,Int.reduceLE,Int.reduceLT,strD,this]
   | true =>
     have h1' := of_decide_eq_true h1
     have hlt : i < d.length := by omega
     obtain ⟨x,hx⟩ : ∃ x,d[i]? = some x := ⟨_,List.getElem?_eq_getElem hlt⟩
     have hw : IntKind.i64.wrap ((i : Int) + 1) = ((i + 1 : Nat) : Int) := wrap64 (by omega) (by unfold B at hd; omega)
     have hsn : (d.drop n.toNat).take (i + 1 - n.toNat) = (d.drop n.toNat).take (i - n.toNat) ++ [x] := drop_take_snoc hni hx
     have hb : (((d.drop n.toNat).take (i - n.toNat)).flatMap Node.told).length + x.s.length ≤ 9223372036854775807 := by
       have h2 := told_wt ((d.drop n.toNat).take (i - n.toNat))
       have h3 := wtN_sub d n.toNat (i - n.toNat)
       have h4 := wtN_mem (List.mem_of_getElem? hx)
       simp only [Node.wt] at h4
       unfold B at hd; omega
     simp only [↓aX,mX,reduceCtorEq,Nat.reduceEqDiff,Nat.reduceLT,Nat.reduceLeDiff,Nat.reduceAdd,Nat.reduceMul,Int.reduceToNat,Int.reduceLE,Int.reduceLT,List.length_map,Doc.get_iv hx,elszN,Node.cells_eq,Node.cs]
     cases ht : x.text with
     | true =>
       simp only [↓aX,mX,reduceCtorEq,Nat.reduceEqDiff,Nat.reduceLT,Nat.reduceLeDiff,Nat.reduceAdd,Nat.reduceMul,Int.reduceToNat,Int.reduceLE,Int.reduceLT,List.length_map,Doc.get_iv hx,elszN,Node.cells_eq,Node.cs,hb,hw]
       refine ⟨⟨i + 1,by omega,by omega⟩,by simp only; omega,WS_mk (by simp only [NFx_loc,NFx_none]) ?_ (by repeat' constructor)⟩
       simp only [hsn,List.flatMap_append,List.flatMap_cons,List.flatMap_nil,List.append_nil,Node.told,ht,if_true]
       repeat' constructor
     | false =>
       simp only [↓aX,mX,reduceCtorEq,Nat.reduceEqDiff,Nat.reduceLT,Nat.reduceLeDiff,Nat.reduceAdd,Nat.reduceMul,Int.reduceToNat,Int.reduceLE,Int.reduceLT,hw]
       refine ⟨⟨i + 1,by omega,by omega⟩,by simp only; omega,WS_mk (by simp only [NFx_loc,NFx_none]) ?_ (by repeat' constructor)⟩
       simp only [hsn,List.flatMap_append,List.flatMap_cons,List.flatMap_nil,List.append_nil,Node.told,ht,if_false,Bool.false_eq_true]
       repeat' constructor
end Go.Am

/- DocBack and DocNests. -/
namespace Go.Am
open Go Go.RowKit
theorem docOf_lies (x : Tree) : Lies (docOf x) 0 (-1) x := ⟨[],by simp [docOf]⟩
end Go.Am

/- Documents: out of readings. -/
namespace Go.Am
open Go Go.RowKit
mutual
theorem Tree.wt_flat_le (off : Nat) (p : Int) : ∀ x : Tree,wtN (x.flat off p) + 1 ≤ 2 * x.wt
 | .mk t s as ks => by
   have := wt_flats_le (off + 1) off ks
   simp only [Tree.flat,wtN,Node.wt,Tree.wt,kidsAt_len]; omega
theorem wt_flats_le (off p : Nat) : ∀ xs : List Tree,wtN (flats off p xs) + xs.length ≤ 2 * wtT xs
 | [] => by simp [wtT,flats,wtN]
 | k :: r => by
   have := k.wt_flat_le off p
   have := wt_flats_le (off + k.cnt) p r
   simp only [flats,wtN_app,wtT,List.length_cons]; omega
end
theorem wt_docOf (x : Tree) : wtN (docOf x) ≤ 2 * x.wt := by have := x.wt_flat_le 0 (-1); unfold docOf; omega
section
variable {P : Program}
structure TyD (P : Program) (T : TyT P) where
 tI : TypeId
 tIs : TypeId
 tN : TypeId
 tNs : TypeId
 tD : TypeId
 fN : Array Field
 fD : Array Field
 uI : P.underlying tI = some (.int .i64)
 uIs : P.underlying tIs = some (.slice tI)
 uN : P.underlying tN = some (.struct fN)
 uNs : P.underlying tNs = some (.slice tN)
 uD : P.underlying tD = some (.struct fD)
 sN : fN.toList.map (·.type) = [T.tB,T.tS,T.tAs,tI,tIs]
 sD : fD.toList.map (·.type) = [tNs]
theorem Sh.ints {T : TyT P} (D : TyD P T) : ∀ (ys : List IV),(∀ y ∈ ys,Sh P D.tI y) → ∃ xs : List Int,ys = xs.map intIV ∧ xs.length ≤ wtI ys
 | [],_ => ⟨[],rfl,by simp [wtI]⟩
 | y :: r,h => by
   obtain ⟨n,rfl,_⟩ := (h y (by simp)).inv_i D.uI
   obtain ⟨xs,rfl,h2⟩ := Sh.ints D r (fun z hz => h z (by simp [hz]))
   exact ⟨n :: xs,rfl,by simp only [List.length_cons,wtI,IV.wt]; omega⟩
theorem Sh.node {T : TyT P} (D : TyD P T) {y : IV} (h : Sh P D.tN y) : ∃ x : Node,y = x.iv ∧ x.wt ≤ y.wt := by
 obtain ⟨ys,rfl,hl,hys⟩ := h.inv_g D.uN
 have hs : D.fN.size = 5 := by have := congrArg List.length D.sN; simpa using this
 match ys,hl.trans hs,hys with
 | [y0,y1,y2,y3,y4],_,hys =>
   obtain ⟨f0,e0,t0⟩ := field_of D.sN 0 T.tB rfl
   obtain ⟨f1,e1,t1⟩ := field_of D.sN 1 T.tS rfl
   obtain ⟨f2,e2,t2⟩ := field_of D.sN 2 T.tAs rfl
   obtain ⟨f3,e3,t3⟩ := field_of D.sN 3 D.tI rfl
   obtain ⟨f4,e4,t4⟩ := field_of D.sN 4 D.tIs rfl
   have h0 := hys 0 f0 y0 e0 rfl
   have h1 := hys 1 f1 y1 e1 rfl
   have h2 := hys 2 f2 y2 e2 rfl
   have h3 := hys 3 f3 y3 e3 rfl
   have h4 := hys 4 f4 y4 e4 rfl
   rw [t0] at h0; rw [t1] at h1; rw [t2] at h2; rw [t3] at h3; rw [t4] at h4
   obtain ⟨b,rfl⟩ := h0.inv_b T.uB
   obtain ⟨s,rfl⟩ := h1.inv_s T.uS
   obtain ⟨z2,rfl,g2⟩ := h2.inv_l T.uAs
   obtain ⟨p,rfl,_⟩ := h3.inv_i D.uI
   obtain ⟨z4,rfl,g4⟩ := h4.inv_l D.uIs
   obtain ⟨as,rfl,w2⟩ := Sh.attrs T z2 g2
   obtain ⟨ks,rfl,w4⟩ := Sh.ints D z4 g4
   exact ⟨⟨b,s,as,p,ks⟩,rfl,by simp only [Node.wt,IV.wt,wtI]; omega⟩
theorem Sh.nodes {T : TyT P} (D : TyD P T) : ∀ (ys : List IV),(∀ y ∈ ys,Sh P D.tN y) → ∃ d : Doc,ys = d.map Node.iv ∧ wtN d ≤ wtI ys
 | [],_ => ⟨[],rfl,by simp [wtI,wtN]⟩
 | y :: r,h => by
   obtain ⟨x,rfl,h1⟩ := (h y (by simp)).node D
   obtain ⟨d,rfl,h2⟩ := Sh.nodes D r (fun z hz => h z (by simp [hz]))
   exact ⟨x :: d,rfl,by simp only [wtN,wtI]; omega⟩
theorem Sh.doc {T : TyT P} (D : TyD P T) {y : IV} (h : Sh P D.tD y) : ∃ d : Doc,y = .agg [.list (d.map Node.iv)] ∧ wtN d ≤ y.wt := by
 obtain ⟨ys,rfl,hl,hys⟩ := h.inv_g D.uD
 have hs : D.fD.size = 1 := by have := congrArg List.length D.sD; simpa using this
 match ys,hl.trans hs,hys with
 | [y0],_,hys =>
   obtain ⟨f0,e0,t0⟩ := field_of D.sD 0 D.tNs rfl
   have h0 := hys 0 f0 y0 e0 rfl
   rw [t0] at h0
   obtain ⟨z,rfl,g⟩ := h0.inv_l D.uNs
   obtain ⟨d,rfl,w⟩ := Sh.nodes D z g
   exact ⟨d,rfl,by simp only [IV.wt,wtI]; omega⟩
end
end Go.Am
