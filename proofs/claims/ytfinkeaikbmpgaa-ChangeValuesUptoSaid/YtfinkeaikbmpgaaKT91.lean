import Derived.Test.YtfinkeaikbmpgaaKT90
import Derived.Test.YtfinkeaikbmpgaaKT89
import Derived.Test.YtfinkeaikbmpgaaKS3
import Derived.Test.YtfinkeaikbmpgaaKT80
set_option linter.unusedSimpArgs false
set_option linter.unusedVariables false
set_option linter.unnecessarySimpa false
set_option linter.defProp false
/- Changes: all of them. -/
set_option pp.deepTerms false
set_option pp.deepTerms.threshold 5
set_option maxRecDepth 20000
namespace Go.Am
open Go Go.RowKit
theorem app_row {sz b d n : Nat} {l q : Lb} {els : List (List AV)} {cs : List AV} {H : Hp} (hl : H l = .live ⟨sz,els⟩) (hq : H q = .live ⟨sz,[cs]⟩) (ho : AV.one1 cs) (hn : els.length = n) (hb : (n + 1) * b ≤ 140737488355328) (h0 : 0 < b)
   (hd : l ≠ l.app d) (hu : H (l.app d) = .unused) : appV sz b d (.sl l sz 0 n) (.sl q sz 0 1) H = some (.sl (l.app d) sz 0 (n + 1),upd (upd H l .dead) (l.app d) (.live ⟨sz,els ++ [cs]⟩)) := by
 subst hn
 have hs : srcE sz (.sl q sz 0 1) H = some [cs] := by simp [srcE,hq]
 unfold appV
 rw [hs]
 simp [hl,ho,hb,h0,hd,hu]
def zeros (n : Nat) : List Int := List.replicate n 0
theorem zeros_imm (n : Nat) : immE ((zeros n).map intIV) = List.replicate n [.int .i64 0] := by simp [zeros,immE,intIV,IV.cells,IV.av1]
def bn0 (d : Doc) (i : Nat) : Bn := ⟨i,d.take i,zeros d.length,zeros d.length⟩
def lc (p : Nat) : Lb := .nest (.loc 900) p 3
theorem lc_inj {p q : Nat} (h : lc p = lc q) : p = q := by simpa [lc] using h
theorem lc_loc (p n : Nat) : lc p ≠ .loc n := by simp [lc]
theorem loc_lc (p n : Nat) : Lb.loc n ≠ lc p := by simp [lc]
theorem lc_fam (p : Nat) : (lc p).fam = .nest (.loc 900) 0 3 := rfl
theorem lc_app (p d : Nat) : (lc p).app d = .loc d := rfl
theorem lc_fresh (p : Nat) : (lc p).fresh = true := rfl
theorem lc_eq (p q : Nat) : (lc p = lc q) = (p = q) := propext ⟨lc_inj,fun h => by rw [h]⟩
def lab0 : Nat → Lb
 | 0 => .loc 32
 | 1 => .loc 1001
 | 2 => .loc 26
 | _ => .loc 30
def labX (i : Nat) (A K : Lb) (p : Nat) : Lb := if p = 1 then .loc 55 else if p = 4 + 2 * i then A else if p = 5 + 2 * i then K else lc p
theorem bn0_next {d : Doc} {i : Nat} {y : Node} {A K : Lb} {H H1 : Hp} (hy : d[i]? = some y) (hB : BnAt lc (bn0 d i) H) (hA : ∀ p,lc p ≠ A) (hK : ∀ p,lc p ≠ K) (hA5 : A ≠ .loc 55) (hK5 : K ≠ .loc 55) (hKA : K ≠ A)
   (h0 : H1 (lc 0) = .live ⟨3,[[.sl (.loc 55) 5 0 (i + 1),.sl (lc 2) 1 0 (zeros d.length).length,.sl (lc 3) 1 0 (zeros d.length).length]]⟩)
   (h1 : H1 (.loc 55) = .live ⟨5,(bn0 d i).nodes.mapIdx (bNode i lc) ++ [[.bool y.text,.str y.s,.sl A 2 0 y.attrs.length,.int .i64 y.parent,.sl K 1 0 y.kids.length]]⟩)
   (h2 : H1 A = .live ⟨2,immE (ivA y.attrs)⟩) (h3 : H1 K = .live ⟨1,immE (y.kids.map intIV)⟩) (h4 : ∀ p,p ≠ 0 → p ≠ 1 → H1 (lc p) = H (lc p)) : BnAt (labX i A K) (bn0 d (i + 1)) H1 := by
 have hlt : i < d.length := (List.getElem?_eq_some_iff.1 hy).1
 have htk : d.take (i + 1) = d.take i ++ [y] := take_snoc' hy
 have hl : (d.take i).length = i := by simp; omega
 have hX : ∀ p,p ≠ 1 → p ≠ 4 + 2 * i → p ≠ 5 + 2 * i → labX i A K p = lc p := fun p a b c => by simp [labX,a,b,c]
 have hX4 : labX i A K (4 + 2 * i) = A := by unfold labX; rw [if_neg (by omega),if_pos rfl]
 have hX5 : labX i A K (5 + 2 * i) = K := by unfold labX; rw [if_neg (by omega),if_neg (by omega),if_pos rfl]
 have hnb : ∀ j z,(bn0 d i).nodes[j]? = some z → (bn0 d (i + 1)).nodes[j]? = some z := fun j z h => by
   simp only [bn0] at h ⊢; rw [htk,List.getElem?_append_left (List.getElem?_eq_some_iff.1 h).1]; exact h
 have hni : (bn0 d (i + 1)).nodes[i]? = some y := by simp only [bn0]; rw [htk,List.getElem?_append_right (by omega),hl]; simp
 have hex : ∀ j,j < i → ∃ z,(bn0 d i).nodes[j]? = some z := fun j hj => ⟨_,List.getElem?_eq_getElem (show j < (d.take i).length by omega)⟩
 refine BnAt.mk' ?_ ?_ ?_ ?_ ?_ ?_ ?_
 · intro p q hp hq e
   have hX1 : labX i A K 1 = .loc 55 := rfl
   have hc : ∀ p,p = 1 ∨ p = 4 + 2 * i ∨ p = 5 + 2 * i ∨ (p ≠ 1 ∧ p ≠ 4 + 2 * i ∧ p ≠ 5 + 2 * i) := fun p => by omega
   rcases hc p with rfl | rfl | rfl | ⟨a1,a2,a3⟩ <;> rcases hc q with rfl | rfl | rfl | ⟨b1,b2,b3⟩
   · rfl
   · rw [hX1,hX4] at e; exact absurd e.symm hA5
   · rw [hX1,hX5] at e; exact absurd e.symm hK5
   · rw [hX1,hX q b1 b2 b3] at e; exact absurd e.symm (lc_loc _ _)
   · rw [hX1,hX4] at e; exact absurd e hA5
   · rfl
   · rw [hX4,hX5] at e; exact absurd e.symm hKA
   · rw [hX4,hX q b1 b2 b3] at e; exact absurd e.symm (hA _)
   · rw [hX1,hX5] at e; exact absurd e hK5
   · rw [hX4,hX5] at e; exact absurd e hKA
   · rfl
   · rw [hX5,hX q b1 b2 b3] at e; exact absurd e.symm (hK _)
   · rw [hX1,hX p a1 a2 a3] at e; exact absurd e (lc_loc _ _)
   · rw [hX4,hX p a1 a2 a3] at e; exact absurd e (hA _)
   · rw [hX5,hX p a1 a2 a3] at e; exact absurd e (hK _)
   · rw [hX p a1 a2 a3,hX q b1 b2 b3] at e; exact lc_inj e
 · rw [hX 0 (by omega) (by omega) (by omega),hX 2 (by omega) (by omega) (by omega),hX 3 (by omega) (by omega) (by omega),h0]
   have : (bn0 d (i + 1)).nodes.length = i + 1 := by simp [bn0]; omega
   rw [this]; rfl
 · show H1 (.loc 55) = _
   rw [h1]
   simp only [Slot.live.injEq,Row.mk.injEq,true_and]
   show _ = (d.take (i + 1)).mapIdx (bNode (i + 1) (labX i A K))
   rw [htk,List.mapIdx_append,List.mapIdx_cons,List.mapIdx_nil,hl,Nat.zero_add,bNode_lt (by omega),hX4,hX5]
   congr 1
   refine List.ext_getElem? fun j => ?_
   rw [List.getElem?_mapIdx,List.getElem?_mapIdx]
   cases hz : (d.take i)[j]? with
   | none => show Option.map _ ((d.take i)[j]?) = _; rw [hz]; rfl
   | some z =>
     have hj : j < i := by have := (List.getElem?_eq_some_iff.1 hz).1; omega
     show Option.map _ ((d.take i)[j]?) = _
     rw [hz,Option.map_some,Option.map_some,bNode_lt hj,bNode_lt (by omega : j < i + 1),hX (4 + 2 * j) (by omega) (by omega) (by omega),hX (5 + 2 * j) (by omega) (by omega) (by omega)]
 · rw [hX 2 (by omega) (by omega) (by omega),h4 2 (by decide) (by decide)]; exact hB.f
 · rw [hX 3 (by omega) (by omega) (by omega),h4 3 (by decide) (by decide)]; exact hB.a
 · intro j hj
   by_cases e : j = i
   · subst e; rw [hX4,h2,Bn.at_some hni]
   · have hj : j < i := by have : j < i + 1 := hj; omega
     obtain ⟨z,hz⟩ := hex j hj
     rw [hX (4 + 2 * j) (by omega) (by omega) (by omega),h4 _ (by omega) (by omega),hB.at' hj hz,Bn.at_some (hnb j z hz)]
 · intro j hj
   by_cases e : j = i
   · subst e; rw [hX5,h3,Bn.kd_some hni]
   · have hj : j < i := by have : j < i + 1 := hj; omega
     obtain ⟨z,hz⟩ := hex j hj
     rw [hX (5 + 2 * j) (by omega) (by omega) (by omega),h4 _ (by omega) (by omega),hB.kd hj hz,Bn.kd_some (hnb j z hz)]
section
variable {P : Program} {G : Nat → Option (List IV)}
def c_change_Apply (f_change_Check f_slices_Clone_Attr_Attr f_slices_Clone_int_int f_change_phase f_change_bench_do f_change_bench_tree f_tree_Joined f_doc_Make : Nat) : AC :=
(.seq (.reg [⟨some 2,none,.box (.t 0)⟩,⟨some 4,none,.new [.nil0]⟩,⟨some 5,none,.mov (.c (.int .i64 0))⟩]) (.seq (.seq (.reg [⟨some 16,none,.load (some 1) (.t 2)⟩,⟨some 17,none,.mov (.t 1)⟩,⟨some 18,none,.call f_change_Check [(.t 16),(.t 17)]⟩,⟨some 6,none,.mov (.t 18)⟩]) (.seq (.reg [⟨some 19,none,.mov (.t 6)⟩,⟨some 20,none,.bin .neq (.t 19) (.c (.int .i64 0))⟩]) (.cond (.t 20) (.seq (.reg [⟨some 21,none,.load (some 1) (.t 2)⟩,⟨some 22,none,.mov (.t 6)⟩,⟨none,none,.store 1 (.t 4) (.t 21)⟩,⟨some 5,none,.mov (.t 22)⟩]) .ret) .skip))) (.seq (.dreg [⟨some 23,none,.fld (.t 2) 0⟩,⟨some 24,none,.load none (.t 23)⟩,⟨some 25,none,.len (.t 24)⟩,⟨some 26,none,.mks (.t 25) (.t 25) 1 8 [(.int .i64 0)]⟩,⟨some 27,none,.fld (.t 2) 0⟩,⟨some 28,none,.load none (.t 27)⟩,⟨some 29,none,.len (.t 28)⟩,⟨some 30,none,.mks (.t 29) (.t 29) 1 8 [(.int .i64 0)]⟩,⟨some 31,none,.bld [.nil0,.nil0,.nil0] [(1,(1,(.t 26))),(2,(1,(.t 30)))]⟩,⟨some 32,none,.box (.t 31)⟩,⟨some 7,none,.mov (.t 32)⟩] [[],[0],[1],[2,2],[],[4],[5],[6,6],[3,7],[8],[9,0,1,2,3,4,5,6,7,8,9]] [.no,(.rw [(.loc 2)] []),.no,(.rw [] [(.loc 26)]),.no,(.rw [(.loc 2)] []),.no,(.rw [] [(.loc 30)]),.no,.rw [] [.loc 32],.no]) (.seq (.gh .weak (.seq (.reg [⟨some 33,none,.fld (.t 2) 0⟩,⟨some 34,none,.load none (.t 33)⟩,⟨some 35,none,.len (.t 34)⟩,⟨some 36,none,.mov (.c (.int .i64 0))⟩]) (.block 0 (.loop (.seq (.reg [⟨some 37,none,.bin .lss (.t 36) (.t 35)⟩]) (.seq (.cond (.t 37) .skip (.exit 0)) (.seq (.block 1 (.seq (.reg [⟨some 38,none,.ixa (.t 34) (.t 36) 5⟩,⟨some 39,none,.load (some 5) (.t 38)⟩,⟨some 9,none,.new [(.bool false),(.str []),.nil0,(.int .i64 0),.nil0]⟩,⟨none,none,.store 5 (.t 9) (.t 39)⟩]) (.seq (.dreg [⟨some 40,none,.fld (.t 9) 2⟩,⟨some 41,none,.load none (.t 40)⟩,⟨some 42,none,.call f_slices_Clone_Attr_Attr [(.t 41)]⟩,⟨some 43,none,.fld (.t 9) 4⟩,⟨some 44,none,.load none (.t 43)⟩,⟨some 45,none,.call f_slices_Clone_int_int [(.t 44)]⟩,⟨some 46,none,.fld (.t 9) 2⟩,⟨none,none,.store 1 (.t 46) (.t 42)⟩,⟨some 47,none,.fld (.t 9) 4⟩,⟨none,none,.store 1 (.t 47) (.t 45)⟩] [[],[0],[1],[],[3],[4,2],[0,1,2,3,4],[6,2,5,0,1,2,3,4],[0,1,2,3,4,5,6,7],[8,5,7,0,1,2,3,4,5,6,7]] [.no,.rw [.loc 9] [],(.far [(.loc 9)]),.no,.rw [.loc 9] [],(.far []),.no,.rw [] [.loc 9],.no,.rw [] [.loc 9]]) (.dreg [⟨some 48,none,.mov (.t 7)⟩,⟨some 49,none,.mov (.t 7)⟩,⟨some 50,none,.nchk (.t 49)⟩,⟨some 51,none,.fld (.t 50) 0⟩,⟨some 52,none,.load none (.t 51)⟩,⟨some 53,none,.load (some 5) (.t 9)⟩,⟨some 54,none,.litso 5 [(.bool false),(.str []),.nil0,(.int .i64 0),.nil0] [(0,(.t 53))]⟩,⟨some 55,none,.app (.t 52) (.t 54) 5 80⟩,⟨some 56,none,.nchk (.t 48)⟩,⟨some 57,none,.fld (.t 56) 0⟩,⟨none,none,.store 1 (.t 57) (.t 55)⟩] [[],[],[1],[2],[3],[],[5],[4,6],[0,0,1,2,3,4,5,6,7],[8,0,1,2,3,4,5,6,7],[9,7,7,0,1,2,3,4,5,6,7]] [.no,.no,.no,.no,(.rw [(.nest (.loc 900) 0 3)] []),(.rw [(.loc 9)] []),(.rw [] [(.loc 54)]),(.rw [(.loc 54)] [(.nest (.loc 900) 0 3),(.loc 55)]),.no,.no,(.rw [] [(.nest (.loc 900) 0 3)])])))) (.reg [⟨some 58,none,.bin .add (.t 36) (.c (.int .i64 1))⟩,⟨some 36,none,.mov (.t 58)⟩])))))))) (.seq (.seq (.reg [⟨some 10,none,.mov (.c (.int .i64 1))⟩]) (.block 2 (.loop (.seq (.seq (.reg [⟨some 59,none,.mov (.t 10)⟩,⟨some 60,none,.bin .leq (.t 59) (.c (.int .i64 5))⟩]) (.cond (.t 60) .skip (.exit 2))) (.seq (.block 3 (.seq (.reg [⟨some 63,none,.mov (.t 1)⟩,⟨some 64,none,.len (.t 63)⟩,⟨some 65,none,.mov (.c (.int .i64 0))⟩]) (.block 4 (.loop (.seq (.reg [⟨some 66,none,.bin .lss (.t 65) (.t 64)⟩]) (.seq (.cond (.t 66) .skip (.exit 4)) (.seq (.block 5 (.seq (.reg [⟨some 67,none,.ixa (.t 63) (.t 65) 5⟩,⟨some 68,none,.load (some 5) (.t 67)⟩,⟨some 12,none,.new [(.int .i64 0),(.int .i64 0),.nil0,(.str []),(.str [])]⟩,⟨none,none,.store 5 (.t 12) (.t 68)⟩]) (.seq (.dreg [⟨some 69,none,.fld (.t 12) 0⟩,⟨some 70,none,.load none (.t 69)⟩,⟨some 71,none,.fld (.t 2) 0⟩,⟨some 72,none,.load none (.t 71)⟩,⟨some 73,none,.fld (.t 12) 1⟩,⟨some 74,none,.load none (.t 73)⟩,⟨some 75,none,.ixa (.t 72) (.t 74) 5⟩,⟨some 76,none,.fld (.t 75) 0⟩,⟨some 77,none,.load none (.t 76)⟩,⟨some 78,none,.call f_change_phase [(.t 70),(.t 77)]⟩,⟨some 79,none,.mov (.t 10)⟩,⟨some 80,none,.bin .eql (.t 78) (.t 79)⟩] [[],[0],[],[2],[],[4],[3,5],[6],[7],[1,8],[],[9,10]] [.no,.rw [.loc 12] [],.no,.rw [.loc 2] [],.no,.rw [.loc 12] [],.no,.no,.no,.no,.no,.no]) (.cond (.t 80) (.reg [⟨some 81,none,.mov (.t 7)⟩,⟨some 82,none,.load (some 5) (.t 12)⟩,⟨some 83,none,.call f_change_bench_do [(.t 81),(.t 82)]⟩]) .skip)))) (.reg [⟨some 84,none,.bin .add (.t 65) (.c (.int .i64 1))⟩,⟨some 65,none,.mov (.t 84)⟩])))))))) (.reg [⟨some 61,none,.mov (.t 10)⟩,⟨some 62,none,.bin .add (.t 61) (.c (.int .i64 1))⟩,⟨some 10,none,.mov (.t 62)⟩])))))) (.gh .weak (.seq (.reg [⟨some 85,none,.mov (.t 7)⟩,⟨some 86,none,.call f_change_bench_tree [(.t 85),(.c (.int .i64 0))]⟩,⟨some 13,none,.new [(.bool false),(.str []),.nil0,.nil0]⟩,⟨none,none,.store 4 (.t 13) (.t 86)⟩]) (.seq (.reg [⟨some 87,none,.fld (.t 13) 3⟩,⟨some 88,none,.load none (.t 87)⟩,⟨some 89,none,.call f_tree_Joined [(.t 88)]⟩,⟨some 90,none,.fld (.t 13) 3⟩,⟨none,none,.store 1 (.t 90) (.t 89)⟩]) (.seq (.reg [⟨some 92,none,.load (some 4) (.t 13)⟩,⟨some 93,none,.call f_doc_Make [(.t 92)]⟩,⟨some 91,none,.mov (.t 93)⟩,⟨some 94,none,.ext (.t 91) 0⟩,⟨some 95,none,.ext (.t 91) 1⟩,⟨some 14,none,.new [.nil0]⟩,⟨none,none,.store 1 (.t 14) (.t 94)⟩,⟨some 15,none,.mov (.t 95)⟩]) (.seq (.seq (.reg [⟨some 96,none,.mov (.t 15)⟩,⟨some 97,none,.bin .neq (.t 96) (.c (.int .i64 0))⟩]) (.cond (.t 97) (.seq (.reg [⟨some 98,none,.load (some 1) (.t 2)⟩,⟨none,none,.store 1 (.t 4) (.t 98)⟩,⟨some 5,none,.mov (.c (.int .i64 2))⟩]) .ret) .skip)) (.seq (.reg [⟨some 99,none,.load (some 1) (.t 14)⟩,⟨none,none,.store 1 (.t 4) (.t 99)⟩,⟨some 5,none,.mov (.c (.int .i64 0))⟩]) .ret)))))))))))
def apPs (d : Doc) (l : List Op) (i : Nat) : List (Nat × AV) :=
 [(1,.list (l.map Op.iv)),(2,.ptr (.loc 2) 1 0 0),(4,.ptr (.loc 4) 1 0 0),(7,.ptr (lc 0) 3 0 0),(34,.list (d.map Node.iv)),(35,.int .i64 d.length),(36,.int .i64 i)]
def apRs (d : Doc) : List (Lb × Row) := [(.loc 2,⟨1,[[.list (d.map Node.iv)]]⟩),(.loc 4,⟨1,[[.nil0]]⟩)]
theorem ofL_or {env : Env} {f : AV → AV} : ∀ {ps : List (Nat × AV)},(∀ q ∈ ps,q.2 = f (env q.1)) → ∀ n,ofL ps n = .any ∨ ofL ps n = f (env n)
 | [],_,n => .inl rfl
 | (m,x) :: r,h,n => by
   rw [ofL_cons]
   by_cases e : n = m
   · subst e; right; rw [put_at,if_pos rfl]; exact h (n,x) (by simp)
   · rw [put_at,if_neg e]; exact ofL_or (fun q hq => h q (by simp [hq])) n
def unl : Lb → Option Nat
 | .nest (.loc c) p k => if c = 900 ∧ k = 3 then some p else none
 | _ => none
theorem unl_lc (p : Nat) : unl (lc p) = some p := by simp [unl,lc]
theorem unl_some {l : Lb} {p : Nat} (h : unl l = some p) : l = lc p := by
 unfold unl at h
 split at h
 · split at h
   · rename_i hc; cases h; obtain ⟨rfl,rfl⟩ := hc; rfl
   · cases h
 · cases h
def X1r (b : Bn) (p : Nat) : Option (Nat × List IV) :=
 if p = 2 then some (1,b.fs.map intIV) else if p = 3 then some (1,b.as.map intIV)
 else if 4 ≤ p ∧ p < 4 + 2 * b.n0 then (if p % 2 = 0 then some (2,ivA (b.at ((p - 4) / 2))) else some (1,(b.kd ((p - 5) / 2)).map intIV)) else none
def X1 (b : Bn) (l : Lb) : Option (Nat × List IV) := (unl l).bind (X1r b)
theorem X1_a (b : Bn) {i : Nat} (h : i < b.n0) : X1 b (lc (4 + 2 * i)) = some (2,ivA (b.at i)) := by
 unfold X1; rw [unl_lc,Option.bind_some]; unfold X1r
 rw [if_neg (by omega),if_neg (by omega),if_pos (by omega),if_pos (by omega)]
 rw [show (4 + 2 * i - 4) / 2 = i by omega]
theorem X1_k (b : Bn) {i : Nat} (h : i < b.n0) : X1 b (lc (5 + 2 * i)) = some (1,(b.kd i).map intIV) := by
 unfold X1; rw [unl_lc,Option.bind_some]; unfold X1r
 rw [if_neg (by omega),if_neg (by omega),if_pos (by omega),if_neg (by omega)]
 rw [show (5 + 2 * i - 5) / 2 = i by omega]
theorem X1_f (b : Bn) : X1 b (lc 2) = some (1,b.fs.map intIV) := by unfold X1; rw [unl_lc]; rfl
theorem X1_as (b : Bn) : X1 b (lc 3) = some (1,b.as.map intIV) := by unfold X1; rw [unl_lc]; rfl
theorem X1_0 (b : Bn) : X1 b (lc 0) = none := by unfold X1; rw [unl_lc]; rfl
theorem X1_1 (b : Bn) : X1 b (lc 1) = none := by unfold X1; rw [unl_lc]; rfl
theorem X1_loc (b : Bn) (n : Nat) : X1 b (.loc n) = none := rfl
theorem X1_ok {b : Bn} {H : Hp} (hB : BnAt lc b H) (hn : b.n0 ≤ b.nodes.length) (l : Lb) (sz : Nat) (xs : List IV) (h : X1 b l = some (sz,xs)) : H l = .live ⟨sz,immE xs⟩ ∧ l.fresh = true ∧ Flat xs := by
 unfold X1 at h
 obtain ⟨p,hp,h'⟩ := Option.bind_eq_some_iff.1 h
 obtain rfl := unl_some hp
 clear h
 have h := h'
 clear h'
 refine ⟨?_,rfl,?_⟩
 · unfold X1r at h
   split at h
   · rename_i e; subst e; cases h; exact hB.f
   · split at h
     · rename_i e; subst e; cases h; exact hB.a
     · split at h
       · rename_i hc
         obtain ⟨i,hi,e⟩ := BnAt.lists hB hc.1 hc.2
         obtain ⟨x,hx⟩ : ∃ x,b.nodes[i]? = some x := ⟨_,List.getElem?_eq_getElem (by omega)⟩
         rcases e with rfl | rfl
         · rw [if_pos (by omega),show (4 + 2 * i - 4) / 2 = i by omega] at h
           cases h; rw [Bn.at_some hx]; exact hB.at' hi hx
         · rw [if_neg (by omega),show (5 + 2 * i - 5) / 2 = i by omega] at h
           cases h; rw [Bn.kd_some hx]; exact hB.kd hi hx
       · cases h
 · unfold X1r at h
   split at h
   · cases h; exact flatI _
   · split at h
     · cases h; exact flatI _
     · split at h
       · split at h
         · cases h; exact flatA _
         · cases h; exact flatI _
       · cases h
def X2 (d : Doc) (l : Lb) : Option (Nat × List IV) := if l = lc 1 then some (5,d.map Node.iv) else none
def frzB (b : Bn) (H : Hp) : Hp := upd (fzH (X2 b.nodes) (fzH (X1 b) H)) (lc 0) .dead
theorem freeze_bench {S : St} {env : Env} {b : Bn} {H : Hp} {c : List IV} (hB : BnAt lc b H) (hn : b.n0 ≤ b.nodes.length) (h7 : env 7 = .ptr (lc 0) 3 0 0) (h2 : env 2 = .ptr (.loc 2) 1 0 0) (h4 : env 4 = .ptr (.loc 4) 1 0 0)
   (a2 : H (.loc 2) = .live ⟨1,[[.list c]]⟩) (a4 : H (.loc 4) = .live ⟨1,[[.nil0]]⟩) (al : ∀ n,n ≠ 2 → n ≠ 4 → H (.loc n) = .unused) :
   Weaker S env H (put (ofL [(7,.ptr (lc 0) 3 0 0),(2,.ptr (.loc 2) 1 0 0),(4,.ptr (.loc 4) 1 0 0)]) 7 (benchV b.nodes b.fs b.as)) (frzB b H) ∧ frzB b H (.loc 2) = .live ⟨1,[[.list c]]⟩ ∧ frzB b H (.loc 4) = .live ⟨1,[[.nil0]]⟩ ∧ ∀ n,n ≠ 2 → n ≠ 4 → frzB b H (.loc n) = .unused := by
 have w1 : Weaker S env H (ofL [(7,.ptr (lc 0) 3 0 0),(2,.ptr (.loc 2) 1 0 0),(4,.ptr (.loc 4) 1 0 0)]) (fzH (X1 b) H) := weaker_fz (X1 b) (X1_ok hB hn) (ofL_or (by simp [h7,h2,h4,fzV]))
 have n1 : fzH (X1 b) H (lc 1) = .live ⟨5,immE (b.nodes.map Node.iv)⟩ := by
   rw [fzH_none (X1_1 b) hB.n]
   simp only [Slot.live.injEq,Row.mk.injEq,true_and]
   refine List.ext_getElem? fun i => ?_
   simp only [List.getElem?_map,List.getElem?_mapIdx,immE,Option.map_map]
   cases hx : b.nodes[i]? with
   | none => rfl
   | some x =>
     simp only [Option.map_some,Option.some.injEq,Function.comp]
     by_cases hi : i < b.n0
     · rw [bNode_lt hi]
       simp only [fzVs,fzV,X1_a b hi,X1_k b hi,Bn.at_some hx,Bn.kd_some hx,ivA_len,List.length_map,Nat.zero_add,Nat.le_refl,and_self,if_true,List.drop_zero]
       rw [List.take_of_length_le (by rw [ivA_len]; exact Nat.le_refl _),List.take_of_length_le (by rw [List.length_map]; exact Nat.le_refl _)]
       rfl
     · rw [bNode_ge (by omega)]; rfl
 have n0 : fzH (X1 b) H (lc 0) = .live ⟨3,[[.sl (lc 1) 5 0 b.nodes.length,.list (b.fs.map intIV),.list (b.as.map intIV)]]⟩ := by
   rw [fzH_none (X1_0 b) hB.s]
   simp only [List.map_cons,List.map_nil,fzVs,fzV,X1_1,X1_f,X1_as,List.length_map,Nat.zero_add,Nat.le_refl,and_self,if_true,List.drop_zero]
   rw [List.take_of_length_le (by rw [List.length_map]; exact Nat.le_refl _),List.take_of_length_le (by rw [List.length_map]; exact Nat.le_refl _)]
 have hX2 : ∀ l sz xs,X2 b.nodes l = some (sz,xs) → fzH (X1 b) H l = .live ⟨sz,immE xs⟩ ∧ l.fresh = true ∧ Flat xs := by
   intro l sz xs h
   unfold X2 at h
   split at h
   · rename_i e; subst e; cases h; exact ⟨n1,rfl,flatN _⟩
   · cases h
 have w2 : Weaker S (ofL [(7,.ptr (lc 0) 3 0 0),(2,.ptr (.loc 2) 1 0 0),(4,.ptr (.loc 4) 1 0 0)]) (fzH (X1 b) H) (ofL [(7,.ptr (lc 0) 3 0 0),(2,.ptr (.loc 2) 1 0 0),(4,.ptr (.loc 4) 1 0 0)]) (fzH (X2 b.nodes) (fzH (X1 b) H)) :=
   weaker_fz (X2 b.nodes) hX2 (ofL_or (by simp [ofL,put,fzV]))
 have m0 : fzH (X2 b.nodes) (fzH (X1 b) H) (lc 0) = .live ⟨3,immE [.agg [.list (b.nodes.map Node.iv),.list (b.fs.map intIV),.list (b.as.map intIV)]]⟩ := by
   rw [fzH_none (by simp [X2,lc_eq]) n0]
   simp only [List.map_cons,List.map_nil,fzVs,fzV,X2,if_true,List.length_map,Nat.zero_add,Nat.le_refl,and_self,List.drop_zero]
   rw [List.take_of_length_le (by rw [List.length_map]; exact Nat.le_refl _)]
   rfl
 have w3 : Weaker S (ofL [(7,.ptr (lc 0) 3 0 0),(2,.ptr (.loc 2) 1 0 0),(4,.ptr (.loc 4) 1 0 0)]) (fzH (X2 b.nodes) (fzH (X1 b) H)) _ _ := weaker_frzp (d := 7) rfl m0 rfl (by
   intro y hy z hz cs
   simp only [List.mem_singleton] at hy; subst hy
   simp only [IV.cells,List.mem_cons,List.not_mem_nil,or_false] at hz
   rcases hz with rfl | rfl | rfl <;> simp)
 have hloc : ∀ n,H (.loc n) = .unused → upd (fzH (X2 b.nodes) (fzH (X1 b) H)) (lc 0) .dead (.loc n) = .unused := fun n h => by
   rw [upd_ne _ _ (loc_lc _ _)]; simp [fzH,X2,loc_lc,X1_loc,h]
 unfold frzB
 refine ⟨(w1.trans w2).trans w3,?_,?_,fun n q1 q2 => hloc n (al n q1 q2)⟩
 · rw [upd_ne _ _ (loc_lc _ _)]; simp [fzH,X2,loc_lc,X1_loc,a2,fzVs,fzV]
 · rw [upd_ne _ _ (loc_lc _ _)]; simp [fzH,X2,loc_lc,X1_loc,a4,fzVs,fzV]
theorem wh_mk {b : Bn} {lab : Nat → Lb} {env : Env} {H : Hp} {ps : List (Nat × AV)} {d : Doc} (hB : BnAt lab b H) (hl : ∀ p,p < 4 + 2 * b.n0 → (lab p).fresh = true ∧ lab p ≠ .loc 2 ∧ lab p ≠ .loc 4) (hE : ∀ l : Lb,l.entry = true → H l = .unused)
   (a2 : H (.loc 2) = .live ⟨1,[[.list (d.map Node.iv)]]⟩) (a4 : H (.loc 4) = .live ⟨1,[[.nil0]]⟩)
   (he : rhoS lc lab (bSh b) [] (lc 0) = lab 0 → rhoS lc lab (bSh b) [] (.loc 2) = .loc 2 → rhoS lc lab (bSh b) [] (.loc 4) = .loc 4 → EqL (rhoS lc lab (bSh b) []) env ps) :
   WH lc (bSh b) [.loc 2,.loc 4] (fun _ => false) ps (apRs d) env H lab [] := by
 refine ⟨hB,?_,he (rhoS_at (fun p1 p2 _ _ e => lc_inj e) (bSh_ok.2 (by omega))) (rhoS_ne (by simp [lc])) (rhoS_ne (by simp [lc])),?_,by simp [rnF],?_,by simp [rnF,Lb.fresh,Lb.entry],?_⟩
 · intro l' h1 hu; exact absurd (hE l' h1) hu
 · intro z hz
   simp only [apRs,List.mem_cons,List.not_mem_nil,or_false] at hz
   rcases hz with rfl | rfl <;> simp [rnF,renR,rens,ren,a2,a4]
 · intro l' hl' p' hp'
   have := hl p' (bSh_ok.1 hp')
   simp only [List.mem_cons,List.not_mem_nil,or_false] at hl'
   rcases hl' with rfl | rfl
   · exact this.2.1
   · exact this.2.2
 · intro p' hp'
   exact ⟨fun _ => (hl p' (bSh_ok.1 hp')).1,fun h => by simp [lc,Lb.entry] at h⟩
def phPs (l : List Op) (p : Nat) : List (Nat × AV) := [(1,.list (l.map Op.iv)),(2,.ptr (.loc 2) 1 0 0),(4,.ptr (.loc 4) 1 0 0),(7,.ptr (lc 0) 3 0 0),(10,.int .i64 p)]
def opPs (l : List Op) (p i : Nat) : List (Nat × AV) := (63,.list (l.map Op.iv)) :: (64,.int .i64 l.length) :: (65,.int .i64 i) :: phPs l p
theorem head_at {b : Bn} {d : Doc} (H0 : Hp) (hH0 : H0 = shH lc (bSh b) (ofU (fun _ => false) (apRs d))) : BnAt lc b H0 ∧ H0 (.loc 2) = .live ⟨1,[[.list (d.map Node.iv)]]⟩ ∧ H0 (.loc 4) = .live ⟨1,[[.nil0]]⟩ ∧
   (∀ l' : Lb,l'.entry = true → H0 l' = .unused) ∧ (∀ c l',H0 (NW c l') = .unused) ∧ (∀ n,n ≠ 2 → n ≠ 4 → H0 (.loc n) = .unused) := by
 have hO : ∀ l' : Lb,(∀ p',lc p' ≠ l') → H0 l' = ofU (fun _ => false) (apRs d) l' := fun l' hl => by rw [hH0]; exact shH_ne _ fun p' _ => hl p'
 have hO2 : ∀ l' : Lb,(∀ p',lc p' ≠ l') → l' ≠ .loc 2 → l' ≠ .loc 4 → H0 l' = .unused := fun l' h1 h2 h3 => (hO l' h1).trans (by simp [ofU,apRs,ofH,upd_at,h2,h3,Hp.none])
 refine ⟨by rw [hH0]; exact ShAt.of_shH (fun p1 p2 _ _ e => lc_inj e) _,(hO _ (by simp [lc])).trans (by simp [ofU,apRs,ofH,upd_at]),(hO _ (by simp [lc])).trans (by simp [ofU,apRs,ofH,upd_at]),?_,?_,?_⟩
 · exact fun l' he => hO2 l' (by intro p' e; subst e; simp [lc,Lb.entry] at he) (by rintro rfl; simp [Lb.entry] at he) (by rintro rfl; simp [Lb.entry] at he)
 · exact fun c l' => hO2 _ (by simp [lc,NW]) (by simp [NW]) (by simp [NW])
 · exact fun n h1 h2 => hO2 _ (by simp [lc]) (by simpa using h1) (by simpa using h2)
theorem pApplyOk {f_change_Apply f_change_Check f_slices_Clone_Attr_Attr f_slices_Clone_int_int f_change_phase f_change_bench_do f_change_bench_tree f_tree_Joined f_doc_Make : Nat} (hF : compF P G f_change_Apply = some (100,[((some (some 1)),4),(none,5)],(c_change_Apply f_change_Check f_slices_Clone_Attr_Attr f_slices_Clone_int_int f_change_phase f_change_bench_do f_change_bench_tree f_tree_Joined f_doc_Make).bare)) (d : Doc) (l : List Op) (x : Tree) (bt : Nat → Nat → Bn)
   (hd0 : d.length ≤ 2 ^ 20) (hl : l.length ≤ B) (hChk : PureC P G f_change_Check [Doc.av d,.list (l.map Op.iv)] (.int .i64 (checkF d l))) (h0 : checkF d l = 0)
   (hCA : ∀ xs : List Attr,xs.length ≤ B → OwnC P G f_slices_Clone_Attr_Attr [.list (ivA xs)] 2 (ivA xs)) (hCI : ∀ xs : List Int,xs.length ≤ B → OwnC P G f_slices_Clone_int_int [.list (xs.map intIV)] 1 (xs.map intIV))
   (hat : ∀ y ∈ d,y.attrs.length ≤ B ∧ y.kids.length ≤ B) (hb0 : bt 1 0 = bn0 d d.length) (hbn : ∀ p i,(bt p i).n0 = d.length) (hbt : ∀ p,bt (p + 1) 0 = bt p l.length) (hlb : d.length ≤ (bt 6 0).nodes.length)
   (hph : ∀ o ∈ l,∃ y : Node,0 ≤ o.target ∧ d[o.target.toNat]? = some y ∧ PureC P G f_change_phase [.int .i64 o.kind,.bool y.text] (.int .i64 (phaseF o.kind y.text)))
   (hsk : ∀ (p i : Nat) o y,l[i]? = some o → d[o.target.toNat]? = some y → phaseF o.kind y.text ≠ (p : Int) → bt p (i + 1) = bt p i)
   (hdo : ∀ (p i : Nat) o y,l[i]? = some o → d[o.target.toNat]? = some y → phaseF o.kind y.text = (p : Int) → ShC P G f_change_bench_do [.ptr (.par 0) 3 0 0,o.av] (bSh (bt p i)) [0,2,3] fun X R2 => X = (fun _ => .tup []) ∧ R2 = bSh (bt p (i + 1)))
   (hT : PureC P G f_change_bench_tree [benchV (bt 6 0).nodes (bt 6 0).fs (bt 6 0).as,.int .i64 0] x.av) (hJ : PureC P G f_tree_Joined [.list (ivT x.kids)] (.list (ivT (joined x.kids))))
   (mk : Doc × Int) (hM : PureC P G f_doc_Make [(Tree.mk x.text x.s x.attrs (joined x.kids)).av] (.tup [Doc.av mk.1,.int .i64 mk.2])) :
   PureC P G f_change_Apply [Doc.av d,.list (l.map Op.iv)] (if mk.2 = 0 then .tup [Doc.av mk.1,.int .i64 0] else .tup [Doc.av d,.int .i64 2]) := by
 refine pure_of_go hF (by simp) (by simp [lbss,AV.lbs,Doc.av]) (by split <;> simp [AV.lbs,lbss,Doc.av]) ?_
 have hBv : B = 1073741824 := rfl
 have h20 : (2 : Nat) ^ 20 = 1048576 := by decide
 unfold c_change_Apply
 simp only [↓aX,mX,reduceCtorEq,Nat.reduceEqDiff,Nat.reduceLT,Nat.reduceLeDiff,Nat.reduceAdd,Nat.reduceMul,Int.reduceToNat,Int.reduceLE,Int.reduceLT,Doc.av]
 refine callT_pure hChk ?_
 simp only [↓aX,mX,reduceCtorEq,Nat.reduceEqDiff,Nat.reduceLT,Nat.reduceLeDiff,Nat.reduceAdd,Nat.reduceMul,Int.reduceToNat,Int.reduceLE,Int.reduceLT,h0,Int.reduceBNe,Doc.av,List.length_map,af_mks]
 refine ⟨rfl,?_⟩
 rw [mks_len (by omega) (by simp [upd_at,Hp.none])]
 simp only [↓aX,mX,reduceCtorEq,Nat.reduceEqDiff,Nat.reduceLT,Nat.reduceLeDiff,Nat.reduceAdd,Nat.reduceMul,Int.reduceToNat,Int.reduceLE,Int.reduceLT,List.length_map,af_mks]
 rw [mks_len (by omega) (by simp [upd_at,Hp.none])]
 simp only [↓aX,mX,reduceCtorEq,Nat.reduceEqDiff,Nat.reduceLT,Nat.reduceLeDiff,Nat.reduceAdd,Nat.reduceMul,Int.reduceToNat,Int.reduceLE,Int.reduceLT,List.length_map,af_mks,go_weak]
 refine ⟨_,_,weaker_ownr (q := .loc 32) (N := .loc 1001) (i := 0) (j := 0) (sz := 5) (sq := 3) (els := [[.nil0,.sl (.loc 26) 1 0 d.length,.sl (.loc 30) 1 0 d.length]]) (by simp [upd_at]) rfl rfl (by simp [upd_at,Hp.none]) (by decide),?_⟩
 simp only [↓aX,mX,reduceCtorEq,Nat.reduceEqDiff,Nat.reduceLT,Nat.reduceLeDiff,Nat.reduceAdd,Nat.reduceMul,Int.reduceToNat,Int.reduceLE,Int.reduceLT,List.length_map]
 refine loop_sh (σ := { i : Nat // i ≤ d.length }) lc (fun q => bSh (bn0 d q.1)) [.loc 2,.loc 4] (fun _ => false) (fun q => apPs d l q.1) (fun _ => apRs d) (fun q => d.length - q.1) ⟨0,Nat.zero_le _⟩
   (fun q p1 p2 _ _ e => lc_inj e) (fun _ => rfl) (by simp [lc]) ?_ ?_ ?_ ?_
 · intro q l' hl'
   simp [lbss,AV.lbs,apPs] at hl'
   rcases hl' with rfl | rfl | rfl
   · simp
   · simp
   · right; exact ⟨0,bSh_ok.2 (by omega),rfl⟩
 · intro q z hz cs hcs l' hl'
   simp only [apRs,List.mem_cons,List.not_mem_nil,or_false] at hz
   rcases hz with rfl | rfl <;> (simp only [List.mem_singleton] at hcs; subst hcs; simp [lbss,AV.lbs] at hl')
 · refine ⟨lab0,[],?_⟩
   refine ⟨?_,?_,?_,?_,by simp [rnF],?_,by simp [rnF,Lb.fresh,Lb.entry],?_⟩
   · refine BnAt.mk' ?_ ?_ ?_ ?_ ?_ ?_ ?_
     · intro p q hp hq e
       have hp : p < 4 := by simpa [bn0] using hp
       have hq : q < 4 := by simpa [bn0] using hq
       match p,hp,q,hq with
       | 0,_,0,_ | 1,_,1,_ | 2,_,2,_ | 3,_,3,_ => rfl
       | 0,_,1,_ | 0,_,2,_ | 0,_,3,_ | 1,_,0,_ | 1,_,2,_ | 1,_,3,_ | 2,_,0,_ | 2,_,1,_ | 2,_,3,_ | 3,_,0,_ | 3,_,1,_ | 3,_,2,_ => simp [lab0] at e
     · simp [lab0,upd_at,bn0,zeros]
     · simp [lab0,upd_at,bn0]
     · simp [lab0,upd_at,bn0,zeros_imm]
     · simp [lab0,upd_at,bn0,zeros_imm]
     · intro j hj; simp [bn0] at hj
     · intro j hj; simp [bn0] at hj
   · intro l' he hu
     exfalso; apply hu
     cases l' <;> simp_all [Lb.entry,upd_at,Hp.none]
   · have r0 : rhoS lc lab0 (bSh (bn0 d 0)) [] (lc 0) = lab0 0 := rhoS_at (fun p1 p2 _ _ e => lc_inj e) (bSh_ok.2 (by omega))
     have r2 : rhoS lc lab0 (bSh (bn0 d 0)) [] (.loc 2) = .loc 2 := rhoS_ne (by simp [lc])
     have r4 : rhoS lc lab0 (bSh (bn0 d 0)) [] (.loc 4) = .loc 4 := rhoS_ne (by simp [lc])
     simp [apPs,EqL,ren,put,argE,r0,r2,r4]
     simp [lab0]
   · intro z hz
     simp only [apRs,List.mem_cons,List.not_mem_nil,or_false] at hz
     rcases hz with rfl | rfl <;> simp [rnF,upd_at,renR,rens,ren]
   · intro l' hl' p' hp'
     have hp' : p' < 4 := by simpa [bn0] using bSh_ok.1 hp'
     simp only [List.mem_cons,List.not_mem_nil,or_false] at hl'
     rcases hl' with rfl | rfl <;> (simp only [rnF]; match p',hp' with | 0,_ | 1,_ | 2,_ | 3,_ => simp [lab0])
   · intro p' hp'
     have hp' : p' < 4 := by simpa [bn0] using bSh_ok.1 hp'
     refine ⟨fun _ => ?_,fun h => by simp [lc,Lb.entry] at h⟩
     match p',hp' with | 0,_ | 1,_ | 2,_ | 3,_ => rfl
 · rintro ⟨i,hi⟩
   obtain ⟨H0,hH0⟩ : ∃ H0,H0 = shH lc (bSh (bn0 d i)) (ofU (fun _ => false) (apRs d)) := ⟨_,rfl⟩
   simp only
   rw [← hH0]
   have hB : BnAt lc (bn0 d i) H0 := by rw [hH0]; exact ShAt.of_shH (fun p1 p2 _ _ e => lc_inj e) _
   have hO : ∀ l' : Lb,(∀ p',lc p' ≠ l') → H0 l' = ofU (fun _ => false) (apRs d) l' := fun l' hl => by rw [hH0]; exact shH_ne _ fun p' _ => hl p'
   have hO2 : ∀ l' : Lb,(∀ p',lc p' ≠ l') → l' ≠ .loc 2 → l' ≠ .loc 4 → H0 l' = .unused := fun l' h1 h2 h3 => (hO l' h1).trans (by simp [ofU,apRs,ofH,upd_at,h2,h3,Hp.none])
   have a2 : H0 (.loc 2) = .live ⟨1,[[.list (d.map Node.iv)]]⟩ := (hO _ (by simp [lc])).trans (by simp [ofU,apRs,ofH,upd_at])
   have a4 : H0 (.loc 4) = .live ⟨1,[[.nil0]]⟩ := (hO _ (by simp [lc])).trans (by simp [ofU,apRs,ofH,upd_at])
   have hE : ∀ l' : Lb,l'.entry = true → H0 l' = .unused := fun l' he => hO2 l' (by intro p' e; subst e; simp [lc,Lb.entry] at he) (by rintro rfl; simp [Lb.entry] at he) (by rintro rfl; simp [Lb.entry] at he)
   have aN : ∀ c l',H0 (NW c l') = .unused := fun c l' => hO2 _ (by simp [lc,NW]) (by simp [NW]) (by simp [NW])
   have al : ∀ n,n ≠ 2 → n ≠ 4 → H0 (.loc n) = .unused := fun n h1 h2 => hO2 _ (by simp [lc]) (by simpa using h1) (by simpa using h2)
   clear hO hO2 hH0
   have hs : H0 (lc 0) = .live ⟨3,[[.sl (lc 1) 5 0 (bn0 d i).nodes.length,.sl (lc 2) 1 0 (zeros d.length).length,.sl (lc 3) 1 0 (zeros d.length).length]]⟩ := hB.s
   have hnd : H0 (lc 1) = .live ⟨5,(bn0 d i).nodes.mapIdx (bNode i lc)⟩ := hB.n
   have hln : (bn0 d i).nodes.length = i := by simp [bn0]; omega
   rw [hln] at hs
   simp only [↓aX,mX,reduceCtorEq,Nat.reduceEqDiff,Nat.reduceLT,Nat.reduceLeDiff,Nat.reduceAdd,Nat.reduceMul,Int.reduceToNat,Int.reduceLE,Int.reduceLT,apPs]
   refine cK_b (fun h => ?_) (fun h => ?_)
   · have hlt : i < d.length := by simpa using h
     obtain ⟨y,hy⟩ : ∃ y,d[i]? = some y := ⟨_,List.getElem?_eq_getElem hlt⟩
     have hw : IntKind.i64.wrap ((i : Int) + 1) = ((i + 1 : Nat) : Int) := wrap64 (by omega) (by omega)
     have hgd : (d.map Node.iv)[i]? = some y.iv := by rw [List.getElem?_map,hy]; rfl
     obtain ⟨hya,hyk⟩ := hat y (List.mem_of_getElem? hy)
     simp only [↓aX,mX,reduceCtorEq,Nat.reduceEqDiff,Nat.reduceLT,Nat.reduceLeDiff,Nat.reduceAdd,Nat.reduceMul,Int.reduceToNat,Int.reduceLE,Int.reduceLT,hgd,elszN,Node.cells_eq,Node.cs,al 9 (by decide) (by decide)]
     refine ⟨rfl,?_⟩
     refine far_own 901 (hCA y.attrs hya) (by simp [lbss,AV.lbs]) (fun l' => by rw [upd_ne _ _ (by simp [NW]),upd_ne _ _ (by simp [NW])]; exact aN _ _) (by simp) fun l1 => ?_
     have nA : ∀ n,NW 901 l1 ≠ .loc n := by simp [NW]
     have nA2 : ∀ p,lc p ≠ NW 901 l1 := by simp [NW,lc]
     have uA : H0 (NW 901 l1) = .unused := aN _ _
     have fA : (NW 901 l1).fresh = true := rfl
     have eA : (NW 901 l1).entry = false := rfl
     have hAK : ∀ l2,NW 902 l2 ≠ NW 901 l1 := by simp [NW]
     generalize NW 901 l1 = A at *
     have nA' : ∀ n,Lb.loc n ≠ A := fun n => Ne.symm (nA n)
     simp only [↓aX,mX,reduceCtorEq,Nat.reduceEqDiff,Nat.reduceLT,Nat.reduceLeDiff,Nat.reduceAdd,Nat.reduceMul,Int.reduceToNat,Int.reduceLE,Int.reduceLT,nA',ivA_len]
     refine far_own 902 (hCI y.kids hyk) (by simp [lbss,AV.lbs]) (fun l' => by rw [upd_ne _ _ (hAK l'),upd_ne _ _ (by simp [NW]),upd_ne _ _ (by simp [NW])]; exact aN _ _) (by simp) fun l2 => ?_
     have nK : ∀ n,NW 902 l2 ≠ .loc n := by simp [NW]
     have nK2 : ∀ p,lc p ≠ NW 902 l2 := by simp [NW,lc]
     have uK : H0 (NW 902 l2) = .unused := aN _ _
     have fK : (NW 902 l2).fresh = true := rfl
     have eK : (NW 902 l2).entry = false := rfl
     have hAK := hAK l2
     generalize NW 902 l2 = Kd at *
     have nK' : ∀ n,Lb.loc n ≠ Kd := fun n => Ne.symm (nK n)
     have hAK' := Ne.symm hAK
     simp only [↓aX,mX,reduceCtorEq,Nat.reduceEqDiff,Nat.reduceLT,Nat.reduceLeDiff,Nat.reduceAdd,Nat.reduceMul,Int.reduceToNat,Int.reduceLE,Int.reduceLT,nA',nK',List.length_map,hAK']
     refine ⟨rfl,?_⟩
     simp only [↓aX,mX,reduceCtorEq,Nat.reduceEqDiff,Nat.reduceLT,Nat.reduceLeDiff,Nat.reduceAdd,Nat.reduceMul,Int.reduceToNat,Int.reduceLE,Int.reduceLT,lc_loc,loc_lc,nA2,nK2,hs,hnd,lc_fam,lc_app,nA',nK',hAK',lc_eq]
     have u54 := al 54 (by decide) (by decide)
     have u55 := al 55 (by decide) (by decide)
     rw [litV_in (sz := 5) (d := 54) (cs := [.bool y.text,.str y.s,.sl A 2 0 y.attrs.length,.int .i64 y.parent,.sl Kd 1 0 y.kids.length]) (by simp [fillA,AV.cells,AV.stb,AV.one,ivA_len]) (by simp [upd_at,nA',nK',u54]) rfl (by decide)]
     simp only [↓aX,mX,reduceCtorEq,Nat.reduceEqDiff,Nat.reduceLT,Nat.reduceLeDiff,Nat.reduceAdd,Nat.reduceMul,Int.reduceToNat,Int.reduceLE,Int.reduceLT,lc_loc,loc_lc,nA2,nK2,hs,hnd,lc_fam,lc_app,nA',nK',hAK',lc_eq]
     rw [app_row (l := lc 1) (q := .loc 54) (d := 55) (els := (bn0 d i).nodes.mapIdx (bNode i lc)) (cs := [.bool y.text,.str y.s,.sl A 2 0 y.attrs.length,.int .i64 y.parent,.sl Kd 1 0 y.kids.length]) (by simp [upd_at,lc_loc,nA2,nK2,hnd]) (by simp [upd_at]) (by simp [AV.one1,AV.one]) (by rw [List.length_mapIdx,hln]) (by omega) (by decide) (by simp [lc]; rintro ⟨⟩) (by simp [lc_app,upd_at,nA',nK',u55])]
     simp only [↓aX,mX,reduceCtorEq,Nat.reduceEqDiff,Nat.reduceLT,Nat.reduceLeDiff,Nat.reduceAdd,Nat.reduceMul,Int.reduceToNat,Int.reduceLE,Int.reduceLT,lc_loc,loc_lc,nA2,nK2,hs,hnd,lc_fam,lc_app,nA',nK',hAK',lc_eq,lc_fresh,hw,or_true,true_or]
     refine ⟨by rintro l' (rfl | rfl) <;> simp [Lb.fam,lc],?_⟩
     refine ⟨⟨i + 1,hlt⟩,by simp only; omega,labX i A Kd,[],?_⟩
     have hX0 : labX i A Kd 0 = lc 0 := by unfold labX; rw [if_neg (by omega),if_neg (by omega),if_neg (by omega)]
     have r0 : rhoS lc (labX i A Kd) (bSh (bn0 d (i + 1))) [] (lc 0) = lc 0 := (rhoS_at (fun p1 p2 _ _ e => lc_inj e) (bSh_ok.2 (by omega))).trans hX0
     have r2 : rhoS lc (labX i A Kd) (bSh (bn0 d (i + 1))) [] (.loc 2) = .loc 2 := rhoS_ne (by simp [lc])
     have r4 : rhoS lc (labX i A Kd) (bSh (bn0 d (i + 1))) [] (.loc 4) = .loc 4 := rhoS_ne (by simp [lc])
     have hXl : ∀ p n,n ≠ 55 → labX i A Kd p ≠ .loc n := by
       intro p n hn
       unfold labX
       split
       · simpa using Ne.symm hn
       · split
         · exact nA n
         · split
           · exact nK n
           · exact lc_loc _ _
     refine ⟨?_,?_,?_,?_,by simp [rnF],?_,by simp [rnF,Lb.fresh,Lb.entry],?_⟩
     · refine bn0_next hy hB nA2 nK2 (nA 55) (nK 55) hAK ?_ ?_ ?_ ?_ ?_
       · simp [upd_at,lc_eq]
       · simp [upd_at,loc_lc]
       · simp [upd_at,Ne.symm (nA2 _),nA,hAK']
       · simp [upd_at,Ne.symm (nK2 _),nK]
       · intro p g1 g2; simp [upd_at,lc_eq,g1,g2,lc_loc,nA2,nK2]
     · intro l' he hu
       exfalso; apply hu
       have e1 : ∀ p,l' ≠ lc p := by rintro p rfl; simp [lc,Lb.entry] at he
       have e2 : ∀ n,l' ≠ .loc n := by rintro p rfl; simp [Lb.entry] at he
       have e3 : l' ≠ A := by rintro rfl; rw [eA] at he; cases he
       have e4 : l' ≠ Kd := by rintro rfl; rw [eK] at he; cases he
       simp [upd_at,e1,e2,e3,e4,hE l' he]
     · simp [EqL,ren,put,ofL,r0,r2,r4]
     · intro z hz
       simp only [apRs,List.mem_cons,List.not_mem_nil,or_false] at hz
       rcases hz with rfl | rfl <;> simp [rnF,upd_at,renR,rens,ren,loc_lc,nA',nK',a2,a4]
     · intro l' hl' p' hp'
       simp only [List.mem_cons,List.not_mem_nil,or_false] at hl'
       rcases hl' with rfl | rfl
       · exact hXl _ _ (by decide)
       · exact hXl _ _ (by decide)
     · intro p' hp'
       refine ⟨fun _ => ?_,fun h => by simp [lc,Lb.entry] at h⟩
       unfold labX
       split
       · rfl
       · split
         · exact fA
         · split
           · exact fK
           · rfl
   · have he : i = d.length := by simp at h; omega
     clear hs hnd hln al aN
     subst he
     simp only [↓aX,mX,reduceCtorEq,Nat.reduceEqDiff,Nat.reduceLT,Nat.reduceLeDiff,Nat.reduceAdd,Nat.reduceMul,Int.reduceToNat,Int.reduceLE,Int.reduceLT]
     have hlcp : ∀ b : Bn,∀ p,p < 4 + 2 * b.n0 → (lc p).fresh = true ∧ lc p ≠ .loc 2 ∧ lc p ≠ .loc 4 := fun b p _ => ⟨rfl,by simp [lc],by simp [lc]⟩
     refine loop_sh (σ := { p : Nat // 1 ≤ p ∧ p ≤ 6 }) lc (fun q => bSh (bt q.1 0)) [.loc 2,.loc 4] (fun _ => false) (fun q => phPs l q.1) (fun _ => apRs d) (fun q => 6 - q.1) ⟨1,by omega,by omega⟩
       (fun q p1 p2 _ _ e => lc_inj e) (fun _ => rfl) (by simp [lc]) ?_ ?_ ?_ ?_
     · intro q l' hl'
       simp [lbss,AV.lbs,phPs] at hl'
       rcases hl' with rfl | rfl | rfl
       · simp
       · simp
       · right; exact ⟨0,bSh_ok.2 (by omega),rfl⟩
     · intro q z hz cs hcs l' hl'
       simp only [apRs,List.mem_cons,List.not_mem_nil,or_false] at hz
       rcases hz with rfl | rfl <;> (simp only [List.mem_singleton] at hcs; subst hcs; simp [lbss,AV.lbs] at hl')
     · refine ⟨lc,[],?_⟩
       refine wh_mk (by simp only [hb0]; exact hB) (hlcp _) hE a2 a4 fun r0 r2 r4 => ?_
       simp [phPs,EqL,ren,put,ofL,r0,r2,r4]
     · rintro ⟨p,hp1,hp6⟩
       obtain ⟨H1,hH1⟩ : ∃ H1,H1 = shH lc (bSh (bt p 0)) (ofU (fun _ => false) (apRs d)) := ⟨_,rfl⟩
       simp only
       rw [← hH1]
       obtain ⟨hB1,b2,b4,bE,bN,bl⟩ := head_at H1 hH1
       clear hH1
       simp only [↓aX,mX,reduceCtorEq,Nat.reduceEqDiff,Nat.reduceLT,Nat.reduceLeDiff,Nat.reduceAdd,Nat.reduceMul,Int.reduceToNat,Int.reduceLE,Int.reduceLT,phPs]
       refine cK_b (fun h => ?_) (fun h => ?_)
       · have hp5 : p ≤ 5 := by simp at h; omega
         simp only [↓aX,mX,reduceCtorEq,Nat.reduceEqDiff,Nat.reduceLT,Nat.reduceLeDiff,Nat.reduceAdd,Nat.reduceMul,Int.reduceToNat,Int.reduceLE,Int.reduceLT,List.length_map]
         refine loop_sh (σ := { i : Nat // i ≤ l.length }) lc (fun q => bSh (bt p q.1)) [.loc 2,.loc 4] (fun _ => false) (fun q => opPs l p q.1) (fun _ => apRs d) (fun q => l.length - q.1) ⟨0,Nat.zero_le _⟩
           (fun q p1 p2 _ _ e => lc_inj e) (fun _ => rfl) (by simp [lc]) ?_ ?_ ?_ ?_
         · intro q l' hl'
           simp [lbss,AV.lbs,phPs,opPs] at hl'
           rcases hl' with rfl | rfl | rfl
           · simp
           · simp
           · right; exact ⟨0,bSh_ok.2 (by omega),rfl⟩
         · intro q z hz cs hcs l' hl'
           simp only [apRs,List.mem_cons,List.not_mem_nil,or_false] at hz
           rcases hz with rfl | rfl <;> (simp only [List.mem_singleton] at hcs; subst hcs; simp [lbss,AV.lbs] at hl')
         · refine ⟨lc,[],?_⟩
           refine wh_mk hB1 (hlcp _) bE b2 b4 fun r0 r2 r4 => ?_
           simp [phPs,opPs,EqL,ren,put,ofL,r0,r2,r4]
         · rintro ⟨j,hj⟩
           obtain ⟨H2,hH2⟩ : ∃ H2,H2 = shH lc (bSh (bt p j)) (ofU (fun _ => false) (apRs d)) := ⟨_,rfl⟩
           simp only
           rw [← hH2]
           obtain ⟨hB2,c2,c4,cE,cN,cl⟩ := head_at H2 hH2
           clear hH2
           simp only [↓aX,mX,reduceCtorEq,Nat.reduceEqDiff,Nat.reduceLT,Nat.reduceLeDiff,Nat.reduceAdd,Nat.reduceMul,Int.reduceToNat,Int.reduceLE,Int.reduceLT,phPs,opPs]
           refine cK_b (fun h => ?_) (fun h => ?_)
           · have hlt : j < l.length := by simpa using h
             obtain ⟨o,ho⟩ : ∃ o,l[j]? = some o := ⟨_,List.getElem?_eq_getElem hlt⟩
             have hw : IntKind.i64.wrap ((j : Int) + 1) = ((j + 1 : Nat) : Int) := wrap64 (by omega) (by omega)
             obtain ⟨y,hy0,hy,hPh⟩ := hph o (List.mem_of_getElem? ho)
             have hgd : (d.map Node.iv)[o.target.toNat]? = some y.iv := by rw [List.getElem?_map,hy]; rfl
             simp only [↓aX,mX,reduceCtorEq,Nat.reduceEqDiff,Nat.reduceLT,Nat.reduceLeDiff,Nat.reduceAdd,Nat.reduceMul,Int.reduceToNat,Int.reduceLE,Int.reduceLT,opGet,ho,Option.map_some,elszO,Op.cells_eq,Op.cs,cl 12 (by decide) (by decide),c2,hy0,hgd,elszN,Node.cells_eq,Node.cs]
             refine ⟨rfl,puK_in hPh ?_⟩
             simp only [↓aX,mX,reduceCtorEq,Nat.reduceEqDiff,Nat.reduceLT,Nat.reduceLeDiff,Nat.reduceAdd,Nat.reduceMul,Int.reduceToNat,Int.reduceLE,Int.reduceLT]
             refine cK_b (fun h => ?_) (fun h => ?_)
             · simp only [↓aX,mX,reduceCtorEq,Nat.reduceEqDiff,Nat.reduceLT,Nat.reduceLeDiff,Nat.reduceAdd,Nat.reduceMul,Int.reduceToNat,Int.reduceLE,Int.reduceLT]
               have hpe : phaseF o.kind y.text = (p : Int) := by simpa using h
               refine callT_sh (lab := lc) (N := NW 903) (hdo p j o y ho hy hpe) (by simp [rens,ren,inR,Op.av]) ((hB2.upd' (fun p' _ => lc_loc _ _)).upd' (fun p' _ => lc_loc _ _)) (fun l' => by rw [upd_ne _ _ (by simp [NW]),upd_ne _ _ (by simp [NW])]; exact cN _ _) (NW_inj 903) (fun _ _ => .inr fun p' _ => rfl) (fun p' hp' => bSh_ok.2 (by simp at hp'; omega)) ?_
               rintro X R2 lab2 H3 ⟨rfl,rfl⟩ g1 g2 g3 g4 g5 g6
               simp only [↓aX,mX,reduceCtorEq,Nat.reduceEqDiff,Nat.reduceLT,Nat.reduceLeDiff,Nat.reduceAdd,Nat.reduceMul,Int.reduceToNat,Int.reduceLE,Int.reduceLT,hw]
               have e0 : lab2 0 = lc 0 := g2 0 (by simp)
               have g4' : ∀ l' : Lb,(∀ p',l' ≠ lc p') → (∀ q,l' ≠ NW 903 q) → l' ≠ .loc 12 → H3 l' = H2 l' := fun l' q1 q2 q3 => by rw [g4 l' (fun p' _ => q1 p') q2,upd_ne _ _ q3,upd_ne _ _ q3]
               refine ⟨⟨j + 1,hlt⟩,by simp only; omega,lab2,[],?_⟩
               refine wh_mk g1 (fun p' hp' => ?_) (fun l' he => ?_) ?_ ?_ fun r0 r2 r4 => ?_
               · rcases g3 p' (bSh_ok.2 hp') with ⟨p0,_,e⟩ | ⟨q,e⟩ <;> rw [e]
                 · exact ⟨rfl,lc_loc _ _,lc_loc _ _⟩
                 · exact ⟨rfl,by simp [NW],by simp [NW]⟩
               · rw [g4' l' (by rintro p' rfl; simp [lc,Lb.entry] at he) (by rintro p' rfl; simp [NW,Lb.entry] at he) (by rintro rfl; simp [Lb.entry] at he)]; exact cE l' he
               · rw [g4' _ (fun p' => loc_lc _ _) (by simp [NW]) (by simp)]; exact c2
               · rw [g4' _ (fun p' => loc_lc _ _) (by simp [NW]) (by simp)]; exact c4
               · simp [phPs,opPs,EqL,ren,put,ofL,r0,r2,r4,e0]
             · simp only [↓aX,mX,reduceCtorEq,Nat.reduceEqDiff,Nat.reduceLT,Nat.reduceLeDiff,Nat.reduceAdd,Nat.reduceMul,Int.reduceToNat,Int.reduceLE,Int.reduceLT,hw]
               have hpe : phaseF o.kind y.text ≠ (p : Int) := by simpa using h
               refine ⟨⟨j + 1,hlt⟩,by simp only; omega,lc,[],?_⟩
               refine wh_mk (by rw [hsk p j o y ho hy hpe]; exact (hB2.upd' (fun p' _ => lc_loc _ _)).upd' (fun p' _ => lc_loc _ _)) (hlcp _) (fun l' he => ?_) ?_ ?_ fun r0 r2 r4 => ?_
               · have : l' ≠ .loc 12 := by rintro rfl; simp [Lb.entry] at he
                 simp [upd_at,this,cE l' he]
               · simp [upd_at,c2]
               · simp [upd_at,c4]
               · simp [phPs,opPs,EqL,ren,put,ofL,r0,r2,r4]
           · have he : j = l.length := by simp at h; omega
             have hw : IntKind.i64.wrap ((p : Int) + 1) = ((p + 1 : Nat) : Int) := wrap64 (by omega) (by omega)
             simp only [↓aX,mX,reduceCtorEq,Nat.reduceEqDiff,Nat.reduceLT,Nat.reduceLeDiff,Nat.reduceAdd,Nat.reduceMul,Int.reduceToNat,Int.reduceLE,Int.reduceLT,hw]
             refine ⟨⟨p + 1,by omega,by omega⟩,by simp only; omega,lc,[],?_⟩
             refine wh_mk (by simp only [hbt p,← he]; exact hB2) (hlcp _) cE c2 c4 fun r0 r2 r4 => ?_
             simp [phPs,EqL,ren,put,ofL,r0,r2,r4]
       · have he : p = 6 := by simp at h; omega
         subst he
         simp only [↓aX,mX,reduceCtorEq,Nat.reduceEqDiff,Nat.reduceLT,Nat.reduceLeDiff,Nat.reduceAdd,Nat.reduceMul,Int.reduceToNat,Int.reduceLE,Int.reduceLT,go_weak]
         refine ⟨_,frzB (bt 6 0) H1,(freeze_bench hB1 (by rw [hbn]; exact hlb) ?_ ?_ ?_ b2 b4 bl).1,?_⟩
         · simp [put,ofL]
         · simp [put,ofL]
         · simp [put,ofL]
         obtain ⟨-,c2,c4,cl⟩ := freeze_bench (S := ⟨P,G,100⟩) (env := ofL [(7,.ptr (lc 0) 3 0 0),(2,.ptr (.loc 2) 1 0 0),(4,.ptr (.loc 4) 1 0 0)]) hB1 (by rw [hbn]; exact hlb) rfl rfl rfl b2 b4 bl
         simp only [↓aX,mX,reduceCtorEq,Nat.reduceEqDiff,Nat.reduceLT,Nat.reduceLeDiff,Nat.reduceAdd,Nat.reduceMul,Int.reduceToNat,Int.reduceLE,Int.reduceLT]
         refine callT_pure hT ?_
         have c13 := cl 13 (by decide) (by decide)
         have c14 := cl 14 (by decide) (by decide)
         simp only [↓aX,mX,reduceCtorEq,Nat.reduceEqDiff,Nat.reduceLT,Nat.reduceLeDiff,Nat.reduceAdd,Nat.reduceMul,Int.reduceToNat,Int.reduceLE,Int.reduceLT,Tree.av,c13]
         refine callT_pure hJ ?_
         simp only [↓aX,mX,reduceCtorEq,Nat.reduceEqDiff,Nat.reduceLT,Nat.reduceLeDiff,Nat.reduceAdd,Nat.reduceMul,Int.reduceToNat,Int.reduceLE,Int.reduceLT,Tree.av,c13]
         have hM' := hM
         simp only [Tree.av,Tree.text,Tree.s,Tree.attrs,Tree.kids] at hM'
         refine callT_pure hM' ?_
         simp only [↓aX,mX,reduceCtorEq,Nat.reduceEqDiff,Nat.reduceLT,Nat.reduceLeDiff,Nat.reduceAdd,Nat.reduceMul,Int.reduceToNat,Int.reduceLE,Int.reduceLT,Doc.av,c14]
         by_cases hm : mk.2 = 0
         · rw [if_pos hm,show (mk.2 != 0) = false by simp [hm]]
           simp only [↓aX,mX,reduceCtorEq,Nat.reduceEqDiff,Nat.reduceLT,Nat.reduceLeDiff,Nat.reduceAdd,Nat.reduceMul,Int.reduceToNat,Int.reduceLE,Int.reduceLT,c2,c4,c14,retm2_r]
         · rw [if_neg hm,show (mk.2 != 0) = true by simpa using hm]
           simp only [↓aX,mX,reduceCtorEq,Nat.reduceEqDiff,Nat.reduceLT,Nat.reduceLeDiff,Nat.reduceAdd,Nat.reduceMul,Int.reduceToNat,Int.reduceLE,Int.reduceLT,c2,c4,c14,retm2_r]
theorem pApplyBad {f_change_Apply f_change_Check f_slices_Clone_Attr_Attr f_slices_Clone_int_int f_change_phase f_change_bench_do f_change_bench_tree f_tree_Joined f_doc_Make : Nat} (hF : compF P G f_change_Apply = some (100,[((some (some 1)),4),(none,5)],(c_change_Apply f_change_Check f_slices_Clone_Attr_Attr f_slices_Clone_int_int f_change_phase f_change_bench_do f_change_bench_tree f_tree_Joined f_doc_Make).bare)) (d : Doc) (l : List Op)
   (hChk : PureC P G f_change_Check [Doc.av d,.list (l.map Op.iv)] (.int .i64 (checkF d l))) (h0 : checkF d l ≠ 0) :
   PureC P G f_change_Apply [Doc.av d,.list (l.map Op.iv)] (.tup [Doc.av d,.int .i64 (checkF d l)]) := by
 refine pure_of_go hF (by simp) (by simp [lbss,AV.lbs,Doc.av]) (by simp [AV.lbs,lbss,Doc.av]) ?_
 unfold c_change_Apply
 simp only [↓aX,mX,reduceCtorEq,Nat.reduceEqDiff,Nat.reduceLT,Nat.reduceLeDiff,Nat.reduceAdd,Nat.reduceMul,Int.reduceToNat,Int.reduceLE,Int.reduceLT,Doc.av]
 refine callT_pure hChk ?_
 simp only [↓aX,mX,reduceCtorEq,Nat.reduceEqDiff,Nat.reduceLT,Nat.reduceLeDiff,Nat.reduceAdd,Nat.reduceMul,Int.reduceToNat,Int.reduceLE,Int.reduceLT,Doc.av]
 rw [show (checkF d l != 0) = true by simpa using h0]
 simp only [↓aX,mX,reduceCtorEq,Nat.reduceEqDiff,Nat.reduceLT,Nat.reduceLeDiff,Nat.reduceAdd,Nat.reduceMul,Int.reduceToNat,Int.reduceLE,Int.reduceLT,Doc.av,retm2_r]
end
end Go.Am

/- Changes: what was checked is done. -/
namespace Go.Am
open Go Go.RowKit
structure StepOk (t : Tree) (pre : List Op) (o : Op) : Prop where
 ex : ∃ n q y,Sub 0 (-1) t n q y ∧ o.target = (n : Int) ∧ 1 ≤ o.kind ∧ o.kind ≤ 10 ∧ (o.kind = 1 ∨ o.kind = 2 ∨ 8 ≤ o.kind → y.text = false) ∧ (3 ≤ o.kind ∧ o.kind ≤ 6 → 0 ≤ q) ∧
   (o.kind = 1 ∨ o.kind = 2 → hasK pre 7 n = false) ∧ (o.kind = 3 ∨ o.kind = 4 ∨ o.kind = 6 → hasK pre 7 q.toNat = false ∧ hasK pre 6 n = false ∧ hasK pre 5 n = false)
def wOp (o : Op) : Nat := wtT o.content + o.s.length + 1
def wOps (l : List Op) : Nat := (l.map wOp).sum
theorem wOps_app (a b : List Op) : wOps (a ++ b) = wOps a + wOps b := by simp [wOps]
theorem wOps_perm {a b : List Op} (h : a.Perm b) : wOps a = wOps b := (h.map wOp).sum_nat
section
variable {t : Tree} {l : List Op} {b : Bn} {o : Op}
theorem ben_do (h : Ben t l b) (h0 : ∀ i q y,Sub 0 (-1) t i q y → y.text = true → y.kids = []) (hs : StepOk t l o) : Ben t (l ++ [o]) (doB b o) ∧ (doB b o).nodes.length ≤ b.nodes.length + wOp o := by
 obtain ⟨n,q,y,hy,ht,k1,k10,c1,c2,c3,c4⟩ := hs.ex
 have hw := cntT_le o.content
 have hkk : o.kind = 1 ∨ o.kind = 2 ∨ (o.kind = 3 ∨ o.kind = 4 ∨ o.kind = 6) ∨ o.kind = 5 ∨ o.kind = 7 ∨ o.kind = 8 ∨ (o.kind = 9 ∨ o.kind = 10) := by omega
 unfold wOp
 rcases hkk with hk | hk | hk | hk | hk | hk | hk
 · obtain ⟨g1,g2⟩ := step1 h hy ht hk (c1 (by omega)) (c3 (by omega)); exact ⟨g1,by omega⟩
 · obtain ⟨g1,g2⟩ := step2 h hy ht hk (c1 (by omega)) (c3 (by omega)); exact ⟨g1,by omega⟩
 · obtain ⟨e1,e2,e3⟩ := c4 (by omega)
   obtain ⟨g1,g2⟩ := step36 h h0 hy (c2 (by omega)) ht hk e1 e2 e3; exact ⟨g1,by omega⟩
 · obtain ⟨g1,g2⟩ := step5 h h0 hy (c2 (by omega)) ht hk; exact ⟨g1,by omega⟩
 · obtain ⟨g1,g2⟩ := step7 h hy ht hk; exact ⟨g1,by omega⟩
 · obtain ⟨g1,g2⟩ := step8 h hy ht hk (c1 (by omega)); exact ⟨g1,by omega⟩
 · obtain ⟨g1,g2⟩ := step9 h hy ht hk; exact ⟨g1,by omega⟩
def bStart (t : Tree) : Bn := ⟨t.cnt,docOf t,List.replicate t.cnt 0,List.replicate t.cnt 0⟩
theorem ben_all (h0 : ∀ i q y,Sub 0 (-1) t i q y → y.text = true → y.kids = []) : ∀ (m : Nat) (done : List Op),done.length = m → (∀ pre o post,done = pre ++ o :: post → StepOk t pre o) →
   Ben t done (done.foldl doB (bStart t)) ∧ (done.foldl doB (bStart t)).nodes.length ≤ t.cnt + wOps done
 | 0,done,hm,_ => by
   obtain rfl := List.length_eq_zero_iff.1 hm
   exact ⟨ben_start t h0,by simp [bStart,docOf_len,wOps]⟩
 | m + 1,done,hm,hs => by
   rcases List.eq_nil_or_concat done with rfl | ⟨pre,o,rfl⟩
   · simp at hm
   · rw [List.concat_eq_append] at hm hs ⊢
     obtain ⟨g1,g2⟩ := ben_all h0 m pre (by simpa using hm) fun p x post e => hs p x (post ++ [o]) (by rw [e]; simp)
     obtain ⟨g3,g4⟩ := ben_do g1 h0 (hs pre o [] (by simp))
     rw [List.foldl_append,List.foldl_cons,List.foldl_nil]
     refine ⟨g3,?_⟩
     rw [wOps_app]
     have : wOps [o] = wOp o := by simp [wOps]
     omega
end
theorem news_len (L : List Tree) : (news L).length = L.length := by simp [news]
def cOps (l : List Op) : Nat := (l.map fun o => o.content.length).sum
theorem cOps_le (l : List Op) : cOps l ≤ wOps l := by
 unfold cOps wOps
 induction l with
 | nil => simp
 | cons o r ih => have := wtT_len o.content; simp only [List.map_cons,List.sum_cons,wOp]; omega
def cAt (l : List Op) (c : Op → Bool) : Nat := ((l.filter c).map fun o => o.content.length).sum
theorem cAt_putIn (l : List Op) (k : Int) (n : Nat) : (putIn l k n).length = cAt l fun o => o.kind == k && o.target == (n : Int) := by
 unfold putIn cAt ofK
 rw [List.length_flatMap]
theorem cAt_or (l : List Op) (c d : Op → Bool) (h : ∀ o ∈ l,¬ (c o = true ∧ d o = true)) : cAt l c + cAt l d = cAt l fun o => c o || d o := by
 unfold cAt
 induction l with
 | nil => rfl
 | cons o r ih =>
   have ih := ih fun x hx => h x (by simp [hx])
   have h1 := h o (by simp)
   cases hc : c o <;> cases hd : d o <;> simp_all [List.filter_cons] <;> omega
theorem cAt_le (l : List Op) (c : Op → Bool) : cAt l c ≤ wOps l := by
 refine Nat.le_trans ?_ (cOps_le l)
 unfold cAt cOps
 induction l with
 | nil => simp
 | cons o r ih => simp only [List.filter_cons]; split <;> simp <;> omega
theorem itemK_len (l : List Op) (k : Nat) : (itemK l k).length ≤ 1 + cAt l fun o => decide (3 ≤ o.kind ∧ o.kind ≤ 6 ∧ o.target = (k : Int)) := by
 have e : (putIn l 3 k).length + (putIn l 6 k).length + (putIn l 4 k).length ≤ cAt l fun o => decide (3 ≤ o.kind ∧ o.kind ≤ 6 ∧ o.target = (k : Int)) := by
   rw [cAt_putIn,cAt_putIn,cAt_putIn,cAt_or,cAt_or]
   · unfold cAt
     induction l with
     | nil => simp
     | cons o r ih =>
       simp only [List.filter_cons]
       split
       · rename_i h
         rw [if_pos (by simp at h ⊢; omega)]
         simp only [List.map_cons,List.sum_cons]; omega
       · split
         · simp only [List.map_cons,List.sum_cons]; omega
         · exact ih
   · intro o _; simp; omega
   · intro o _; simp; omega
 generalize (cAt l fun o => decide (3 ≤ o.kind ∧ o.kind ≤ 6 ∧ o.target = (k : Int))) = C at *
 unfold itemK
 simp only [List.length_append,news_len]
 split
 · rw [news_len]; omega
 · split
   · simp only [List.length_nil]; omega
   · simp only [List.length_cons,List.length_nil]; omega
theorem flat_len (l : List Op) : ∀ ks : List Nat,ks.Nodup → (ks.flatMap (itemK l)).length ≤ ks.length + cAt l fun o => decide (3 ≤ o.kind ∧ o.kind ≤ 6) && ks.any fun k => decide (o.target = (k : Int))
 | [],_ => by simp
 | k :: r,h => by
   have ih := flat_len l r (List.nodup_cons.1 h).2
   have h1 := itemK_len l k
   have h2 := cAt_or l (fun o => decide (3 ≤ o.kind ∧ o.kind ≤ 6 ∧ o.target = (k : Int))) (fun o => decide (3 ≤ o.kind ∧ o.kind ≤ 6) && r.any fun k => decide (o.target = (k : Int))) (by
     rintro o _ ⟨e1,e2⟩
     simp only [decide_eq_true_eq,Bool.and_eq_true,List.any_eq_true] at e1 e2
     obtain ⟨_,k',hk',e3⟩ := e2
     have : k = k' := by omega
     subst this
     exact (List.nodup_cons.1 h).1 hk')
   have h3 : (cAt l fun o => decide (3 ≤ o.kind ∧ o.kind ≤ 6 ∧ o.target = (k : Int)) || (decide (3 ≤ o.kind ∧ o.kind ≤ 6) && r.any fun k => decide (o.target = (k : Int)))) = cAt l fun o => decide (3 ≤ o.kind ∧ o.kind ≤ 6) && (k :: r).any fun k => decide (o.target = (k : Int)) := by
     congr 1
     funext o
     rw [List.any_cons]
     by_cases q1 : 3 ≤ o.kind ∧ o.kind ≤ 6
     · simp [q1]
     · have e1 : decide (3 ≤ o.kind ∧ o.kind ≤ 6) = false := decide_eq_false q1
       have e2 : decide (3 ≤ o.kind ∧ o.kind ≤ 6 ∧ o.target = (k : Int)) = false := decide_eq_false fun h => q1 ⟨h.1,h.2.1⟩
       rw [e1,e2]; rfl
   simp only [List.flatMap_cons,List.length_append,List.length_cons]
   omega
end Go.Am
