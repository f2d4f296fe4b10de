import Derived.Test.YtfinkeaikbmpgaaKT80
set_option linter.unusedSimpArgs false
set_option linter.unusedVariables false
set_option linter.unnecessarySimpa false
set_option linter.defProp false
/- The bench: what a change does to it. -/
set_option pp.deepTerms false
set_option pp.deepTerms.threshold 5
set_option maxRecDepth 20000
namespace Go.Am
open Go Go.RowKit
theorem Shp.congr (R : Shp) {lab lab' : Nat → Lb} (h : ∀ p,R.ok p → lab p = lab' p) (p : Nat) : R.row lab p = R.row lab' p := by
 have e1 : R.row lab p = (R.row Lb.par p).map (renR (inR lab)) := R.nat Lb.par (inR lab) p
 have e2 : R.row lab' p = (R.row Lb.par p).map (renR (inR lab')) := R.nat Lb.par (inR lab') p
 rw [e1,e2]
 cases hr : R.row Lb.par p with
 | none => rfl
 | some r =>
   simp only [Option.map_some,renR,Option.some.injEq,Row.mk.injEq,true_and]
   refine List.map_congr_left fun cs hcs => rens_congr cs fun q hq => ?_
   obtain ⟨p',hp',rfl⟩ := R.lbs Lb.par p r hr cs hcs q hq
   exact h p' hp'
theorem ShAt.congr {R : Shp} {lab lab' : Nat → Lb} {H : Hp} (hs : ShAt lab R H) (h : ∀ p,R.ok p → lab p = lab' p) : ShAt lab' R H := by
 refine ⟨fun p r hr => ?_,fun p q hp hq e => hs.inj p q hp hq (by rw [h p hp,h q hq,e])⟩
 have hp : R.ok p := (R.ok_iff lab' p).1 (by rw [hr]; rfl)
 rw [← h p hp]
 exact hs.row p r (by rw [R.congr h]; exact hr)
def Bn.del (b : Bn) (p k : Nat) : Bn := match b.nodes[p]? with
 | some x => b.set p { x with kids := x.kids.take k ++ x.kids.drop (k + 1) }
 | none => b
def Bn.name (b : Bn) (n : Nat) (s : Bs) : Bn := match b.nodes[n]? with
 | some x => b.set n { x with s := s }
 | none => b
def PlaceC (P : Program) (G : Nat → Option (List IV)) (f : Nat) : Prop := ∀ (b : Bn) (n p : Nat) (x y : Node),b.nodes[n]? = some x → x.parent = p → b.nodes[p]? = some y → p < b.n0 → y.kids.length ≤ B →
   ShC P G f [.ptr (.par 0) 3 0 0,.int .i64 n] (bSh b) b.all fun X R2 => X = (fun _ => .tup [.int .i64 p,.int .i64 (idxI y.kids n)]) ∧ R2 = bSh b
def ValueC (P : Program) (G : Nat → Option (List IV)) (f : Nat) : Prop := ∀ (b : Bn),b.n0 ≤ b.nodes.length → ∀ (n : Nat),n < b.n0 → ∀ (x : Node),b.nodes[n]? = some x → ∀ (s : Bs),b.nodes.length + 1 + s.length ≤ B →
   ShC P G f [.ptr (.par 0) 3 0 0,.int .i64 n,.str s] (bSh b) (b.but2 1 (5 + 2 * n)) fun X R2 => X = (fun _ => .tup []) ∧ R2 = bSh (b.value n s)
def AttrC (P : Program) (G : Nat → Option (List IV)) (f : Nat) : Prop := ∀ (b : Bn) (n : Nat),n < b.n0 → ∀ (x : Node),b.nodes[n]? = some x → ∀ (o : Op),o.target = n → (o.kind = 9 ∨ o.kind = 10) → x.attrs.length + 1 ≤ B → risA x.attrs = true →
   ShC P G f [.ptr (.par 0) 3 0 0,o.av] (bSh b) (b.but (4 + 2 * n)) fun X R2 => X = (fun _ => .tup []) ∧ R2 = bSh (b.attr n o)
theorem intGet2 (xs : List Int) (i : Nat) : (immE (xs.map intIV))[i]? = (xs[i]?).map fun n => [.int .i64 n] := by
 simp [immE,intIV,IV.cells,IV.av1]
 cases xs[i]? <;> rfl
theorem immI_set (xs : List Int) (i : Nat) (n : Int) : (immE (xs.map intIV)).set i [.int .i64 n] = immE ((xs.set i n).map intIV) := by
 simp [immE,intIV,List.map_set,IV.cells,IV.av1]
theorem ins_fs (b : Bn) (p pl : Nat) (l : List Tree) : (b.ins p pl l).fs = b.fs := by unfold Bn.ins; split <;> rfl
theorem ins_as (b : Bn) (p pl : Nat) (l : List Tree) : (b.ins p pl l).as = b.as := by unfold Bn.ins; split <;> rfl
theorem ins_n0 (b : Bn) (p pl : Nat) (l : List Tree) : (b.ins p pl l).n0 = b.n0 := by unfold Bn.ins; split <;> rfl
theorem del_n0 (b : Bn) (p k : Nat) : (b.del p k).n0 = b.n0 := by unfold Bn.del; split <;> rfl
section
variable {S : St} {b : Bn} {lab : Nat → Lb} {H : Hp} {k : AV → Hp → Prop} {u : Tw k}
theorem callT_ins {f : Nat} {L0 : Lb} (hI : InsC S.P S.G f) (hB : BnAt lab b H) (h0 : lab 0 = L0) (hn : b.n0 ≤ b.nodes.length) {p pl : Nat} (hp : p < b.n0) {x : Node} (hx : b.nodes[p]? = some x) (hpl : pl ≤ x.kids.length)
   {l : List Tree} (hb : b.nodes.length + wtT l ≤ B) (hxk : x.kids.length + l.length ≤ B) (c : Nat) (hN : ∀ l,H (NC c l) = .unused)
   (hk : ∀ lab2 H2,BnAt lab2 (b.ins p pl l) H2 → (∀ p',p' < 4 + 2 * b.n0 → p' ≠ 1 → p' ≠ 5 + 2 * p → lab2 p' = lab p') →
     (∀ q,(∀ p',p' < 4 + 2 * b.n0 → q ≠ lab p') → (∀ l,q ≠ NC c l) → H2 q = H q) → (∀ p',p' < 4 + 2 * b.n0 → (∃ p0,p0 < 4 + 2 * b.n0 ∧ lab2 p' = lab p0) ∨ ∃ l,lab2 p' = NC c l) → k (.tup []) H2) :
   clK S f [.ptr L0 3 0 0,.int .i64 p,.int .i64 pl,.list (ivT l)] H k u := by
 subst h0
 refine callT_sh (lab := lab) (N := NC c) (hI b hn p pl hp x hx hpl l hb hxk) (by simp [rens,ren,inR]) hB hN (NC_inj c) (fun l h => .inl h) (fun p' hp' => bSh_ok.2 (but2_mem.1 hp').1) ?_
 rintro X R2 lab2 H2 ⟨rfl,rfl⟩ g1 g2 g3 g4 g5 g6
 refine hk lab2 H2 g1 (fun p' h1 h2 h3 => g2 p' (but2_mem.2 ⟨h1,h2,h3⟩)) (fun q h1 h2 => g4 q (fun p' hp' => h1 p' (bSh_ok.1 hp')) h2) fun p' hp' => ?_
 rcases g3 p' (bSh_ok.2 (by rw [ins_n0]; exact hp')) with ⟨p0,h1,h2⟩ | h
 · exact .inl ⟨p0,bSh_ok.1 h1,h2⟩
 · exact .inr h
theorem callT_place {f : Nat} (hI : PlaceC S.P S.G f) (hB : BnAt lab b H) {n p : Nat} {x y : Node} (hx : b.nodes[n]? = some x) (hpp : x.parent = p) (hy : b.nodes[p]? = some y) (hp : p < b.n0) (hyk : y.kids.length ≤ B) (c : Nat) (hN : ∀ l,H (NC c l) = .unused)
   (hk : ∀ H2,BnAt lab b H2 → (∀ q,(∀ p',p' < 4 + 2 * b.n0 → q ≠ lab p') → (∀ l,q ≠ NC c l) → H2 q = H q) → k (.tup [.int .i64 p,.int .i64 (idxI y.kids n)]) H2) :
   clK S f [.ptr (lab 0) 3 0 0,.int .i64 n] H k u := by
 refine callT_sh (lab := lab) (N := NC c) (hI b n p x y hx hpp hy hp hyk) (by simp [rens,ren,inR]) hB hN (NC_inj c) (fun l h => .inl h) (fun p' hp' => bSh_ok.2 (List.mem_range.1 hp')) ?_
 rintro X R2 lab2 H2 ⟨rfl,rfl⟩ g1 g2 g3 g4 g5 g6
 exact hk H2 (g1.congr fun p' hp' => g2 p' (List.mem_range.2 (bSh_ok.1 hp'))) fun q h1 h2 => g4 q (fun p' hp' => h1 p' (bSh_ok.1 hp')) h2
end
section
variable {P : Program} {G : Nat → Option (List IV)}
def c_change_bench_do (f_change_bench_insert f_change_bench_place f_slices_Delete_int_int f_change_bench_value f_change_bench_attr : Nat) : AC :=
(.seq (.reg [⟨some 3,none,.box (.t 1)⟩]) (.seq (.reg [⟨some 13,none,.fld (.t 3) 1⟩,⟨some 14,none,.load none (.t 13)⟩,⟨some 4,none,.mov (.t 14)⟩]) (.seq (.reg [⟨some 15,none,.fld (.t 3) 0⟩,⟨some 16,none,.load none (.t 15)⟩]) (.block 0 (.seq (.reg [⟨some 18,none,.bin .eql (.t 16) (.c (.int .i64 1))⟩,⟨some 17,none,.mov (.t 18)⟩]) (.cond (.t 17) (.seq (.dreg [⟨some 19,none,.mov (.t 0)⟩,⟨some 20,none,.mov (.t 4)⟩,⟨some 21,none,.mov (.t 0)⟩,⟨some 22,none,.nchk (.t 21)⟩,⟨some 23,none,.fld (.t 22) 1⟩,⟨some 24,none,.load none (.t 23)⟩,⟨some 25,none,.mov (.t 4)⟩,⟨some 26,none,.ixa (.t 24) (.t 25) 1⟩,⟨some 27,none,.load none (.t 26)⟩,⟨some 28,none,.fld (.t 3) 2⟩,⟨some 29,none,.load none (.t 28)⟩,⟨some 30,none,.call f_change_bench_insert [(.t 19),(.t 20),(.t 27),(.t 29)]⟩] [[],[],[],[2],[3],[4],[],[5,6],[7],[],[9],[0,1,8,10]] [.no,.no,.no,.no,.no,(.rw [(.par 0)] []),.no,.no,(.rw [(.par 2)] []),.no,.rw [.loc 3] [],.all]) (.dreg [⟨some 31,none,.mov (.t 0)⟩,⟨some 32,none,.nchk (.t 31)⟩,⟨some 33,none,.fld (.t 32) 1⟩,⟨some 34,none,.load none (.t 33)⟩,⟨some 35,none,.mov (.t 4)⟩,⟨some 36,none,.ixa (.t 34) (.t 35) 1⟩,⟨some 37,none,.load none (.t 36)⟩,⟨some 38,none,.fld (.t 3) 2⟩,⟨some 39,none,.load none (.t 38)⟩,⟨some 40,none,.len (.t 39)⟩,⟨some 41,none,.bin .add (.t 37) (.t 40)⟩,⟨some 42,none,.ixa (.t 34) (.t 35) 1⟩,⟨none,none,.store 1 (.t 42) (.t 41)⟩] [[],[0],[1],[2],[],[3,4],[5],[],[7],[8],[6,9],[3,4,0,1,2,3,4,5,6,7,8,9,10],[11,10,0,1,2,3,4,5,6,7,8,9,10]] [.no,.no,.no,(.rw [(.par 0)] []),.no,.no,(.rw [(.par 2)] []),.no,.rw [.loc 3] [],.no,.no,.no,(.rw [] [(.par 2)])])) (.seq (.reg [⟨some 44,none,.bin .eql (.t 16) (.c (.int .i64 2))⟩,⟨some 43,none,.mov (.t 44)⟩]) (.cond (.t 43) (.dreg [⟨some 45,none,.mov (.t 0)⟩,⟨some 46,none,.mov (.t 4)⟩,⟨some 47,none,.mov (.t 0)⟩,⟨some 48,none,.nchk (.t 47)⟩,⟨some 49,none,.fld (.t 48) 0⟩,⟨some 50,none,.load none (.t 49)⟩,⟨some 51,none,.mov (.t 4)⟩,⟨some 52,none,.ixa (.t 50) (.t 51) 5⟩,⟨some 53,none,.fld (.t 52) 4⟩,⟨some 54,none,.load none (.t 53)⟩,⟨some 55,none,.len (.t 54)⟩,⟨some 56,none,.fld (.t 3) 2⟩,⟨some 57,none,.load none (.t 56)⟩,⟨some 58,none,.call f_change_bench_insert [(.t 45),(.t 46),(.t 55),(.t 57)]⟩] [[],[],[],[2],[3],[4],[],[5,6],[7],[8],[9],[],[11],[0,1,10,12]] [.no,.no,.no,.no,.no,(.rw [(.par 0)] []),.no,.no,.no,(.rw [(.par 1)] []),.no,.no,.rw [.loc 3] [],.all]) (.seq (.reg [⟨some 60,none,.bin .eql (.t 16) (.c (.int .i64 3))⟩,⟨some 59,none,.mov (.t 60)⟩]) (.cond (.t 59) (.seq (.reg [⟨some 62,none,.mov (.t 0)⟩,⟨some 63,none,.mov (.t 4)⟩,⟨some 64,none,.call f_change_bench_place [(.t 62),(.t 63)]⟩,⟨some 61,none,.mov (.t 64)⟩,⟨some 65,none,.ext (.t 61) 0⟩,⟨some 66,none,.ext (.t 61) 1⟩,⟨some 5,none,.mov (.t 65)⟩,⟨some 6,none,.mov (.t 66)⟩]) (.reg [⟨some 67,none,.mov (.t 0)⟩,⟨some 68,none,.mov (.t 5)⟩,⟨some 69,none,.mov (.t 6)⟩,⟨some 70,none,.fld (.t 3) 2⟩,⟨some 71,none,.load none (.t 70)⟩,⟨some 72,none,.call f_change_bench_insert [(.t 67),(.t 68),(.t 69),(.t 71)]⟩])) (.seq (.reg [⟨some 74,none,.bin .eql (.t 16) (.c (.int .i64 4))⟩,⟨some 73,none,.mov (.t 74)⟩]) (.cond (.t 73) (.seq (.reg [⟨some 76,none,.mov (.t 0)⟩,⟨some 77,none,.mov (.t 4)⟩,⟨some 78,none,.call f_change_bench_place [(.t 76),(.t 77)]⟩,⟨some 75,none,.mov (.t 78)⟩,⟨some 79,none,.ext (.t 75) 0⟩,⟨some 80,none,.ext (.t 75) 1⟩,⟨some 7,none,.mov (.t 79)⟩,⟨some 8,none,.mov (.t 80)⟩]) (.seq (.dreg [⟨some 81,none,.mov (.t 0)⟩,⟨some 82,none,.mov (.t 7)⟩,⟨some 83,none,.mov (.t 8)⟩,⟨some 84,none,.bin .add (.t 83) (.c (.int .i64 1))⟩,⟨some 85,none,.mov (.t 0)⟩,⟨some 86,none,.nchk (.t 85)⟩,⟨some 87,none,.fld (.t 86) 2⟩,⟨some 88,none,.load none (.t 87)⟩,⟨some 89,none,.mov (.t 4)⟩,⟨some 90,none,.ixa (.t 88) (.t 89) 1⟩,⟨some 91,none,.load none (.t 90)⟩,⟨some 92,none,.bin .add (.t 84) (.t 91)⟩,⟨some 93,none,.fld (.t 3) 2⟩,⟨some 94,none,.load none (.t 93)⟩,⟨some 95,none,.call f_change_bench_insert [(.t 81),(.t 82),(.t 92),(.t 94)]⟩] [[],[],[],[2],[],[4],[5],[6],[],[7,8],[9],[3,10],[],[12],[0,1,11,13]] [.no,.no,.no,.no,.no,.no,.no,(.rw [(.par 0)] []),.no,.no,(.rw [(.par 3)] []),.no,.no,.rw [.loc 3] [],.all]) (.dreg [⟨some 96,none,.mov (.t 0)⟩,⟨some 97,none,.nchk (.t 96)⟩,⟨some 98,none,.fld (.t 97) 2⟩,⟨some 99,none,.load none (.t 98)⟩,⟨some 100,none,.mov (.t 4)⟩,⟨some 101,none,.ixa (.t 99) (.t 100) 1⟩,⟨some 102,none,.load none (.t 101)⟩,⟨some 103,none,.fld (.t 3) 2⟩,⟨some 104,none,.load none (.t 103)⟩,⟨some 105,none,.len (.t 104)⟩,⟨some 106,none,.bin .add (.t 102) (.t 105)⟩,⟨some 107,none,.ixa (.t 99) (.t 100) 1⟩,⟨none,none,.store 1 (.t 107) (.t 106)⟩] [[],[0],[1],[2],[],[3,4],[5],[],[7],[8],[6,9],[3,4,0,1,2,3,4,5,6,7,8,9,10],[11,10,0,1,2,3,4,5,6,7,8,9,10]] [.no,.no,.no,(.rw [(.par 0)] []),.no,.no,(.rw [(.par 3)] []),.no,.rw [.loc 3] [],.no,.no,.no,(.rw [] [(.par 3)])]))) (.seq (.reg [⟨some 109,none,.bin .eql (.t 16) (.c (.int .i64 5))⟩,⟨some 108,none,.mov (.t 109)⟩]) (.cond (.t 108) (.seq (.reg [⟨some 111,none,.mov (.t 0)⟩,⟨some 112,none,.mov (.t 4)⟩,⟨some 113,none,.call f_change_bench_place [(.t 111),(.t 112)]⟩,⟨some 110,none,.mov (.t 113)⟩,⟨some 114,none,.ext (.t 110) 0⟩,⟨some 115,none,.ext (.t 110) 1⟩,⟨some 9,none,.mov (.t 114)⟩,⟨some 10,none,.mov (.t 115)⟩]) (.seq (.reg [⟨some 116,none,.mov (.t 10)⟩,⟨some 117,none,.bin .geq (.t 116) (.c (.int .i64 0))⟩]) (.cond (.t 117) (.dreg [⟨some 118,none,.mov (.t 0)⟩,⟨some 119,none,.nchk (.t 118)⟩,⟨some 120,none,.fld (.t 119) 0⟩,⟨some 121,none,.load none (.t 120)⟩,⟨some 122,none,.mov (.t 9)⟩,⟨some 123,none,.mov (.t 0)⟩,⟨some 124,none,.nchk (.t 123)⟩,⟨some 125,none,.fld (.t 124) 0⟩,⟨some 126,none,.load none (.t 125)⟩,⟨some 127,none,.mov (.t 9)⟩,⟨some 128,none,.ixa (.t 126) (.t 127) 5⟩,⟨some 129,none,.fld (.t 128) 4⟩,⟨some 130,none,.load none (.t 129)⟩,⟨some 131,none,.mov (.t 10)⟩,⟨some 132,none,.mov (.t 10)⟩,⟨some 133,none,.bin .add (.t 132) (.c (.int .i64 1))⟩,⟨some 134,none,.call f_slices_Delete_int_int [(.t 130),(.t 131),(.t 133)]⟩,⟨some 135,none,.ixa (.t 121) (.t 122) 5⟩,⟨some 136,none,.fld (.t 135) 4⟩,⟨none,none,.store 1 (.t 136) (.t 134)⟩] [[],[0],[1],[2],[],[],[5],[6],[7],[],[8,9],[10],[11],[],[],[14],[12,13,15],[3,4,0,1,2,3,4,5,6,7,8,9,10,11,12,13,14,15,16],[17,0,1,2,3,4,5,6,7,8,9,10,11,12,13,14,15,16],[18,16,16,0,1,2,3,4,5,6,7,8,9,10,11,12,13,14,15,16]] [.no,.no,.no,(.rw [(.par 0)] []),.no,.no,.no,.no,(.rw [(.par 0)] []),.no,.no,.no,(.rw [(.par 1)] []),.no,.no,.no,(.far [(.par 0)]),.no,.no,(.rw [] [(.par 1)])]) .skip))) (.seq (.reg [⟨some 138,none,.bin .eql (.t 16) (.c (.int .i64 6))⟩,⟨some 137,none,.mov (.t 138)⟩]) (.cond (.t 137) (.seq (.reg [⟨some 140,none,.mov (.t 0)⟩,⟨some 141,none,.mov (.t 4)⟩,⟨some 142,none,.call f_change_bench_place [(.t 140),(.t 141)]⟩,⟨some 139,none,.mov (.t 142)⟩,⟨some 143,none,.ext (.t 139) 0⟩,⟨some 144,none,.ext (.t 139) 1⟩,⟨some 11,none,.mov (.t 143)⟩,⟨some 12,none,.mov (.t 144)⟩]) (.seq (.dreg [⟨some 145,none,.mov (.t 0)⟩,⟨some 146,none,.nchk (.t 145)⟩,⟨some 147,none,.fld (.t 146) 0⟩,⟨some 148,none,.load none (.t 147)⟩,⟨some 149,none,.mov (.t 11)⟩,⟨some 150,none,.mov (.t 0)⟩,⟨some 151,none,.nchk (.t 150)⟩,⟨some 152,none,.fld (.t 151) 0⟩,⟨some 153,none,.load none (.t 152)⟩,⟨some 154,none,.mov (.t 11)⟩,⟨some 155,none,.ixa (.t 153) (.t 154) 5⟩,⟨some 156,none,.fld (.t 155) 4⟩,⟨some 157,none,.load none (.t 156)⟩,⟨some 158,none,.mov (.t 12)⟩,⟨some 159,none,.mov (.t 12)⟩,⟨some 160,none,.bin .add (.t 159) (.c (.int .i64 1))⟩,⟨some 161,none,.call f_slices_Delete_int_int [(.t 157),(.t 158),(.t 160)]⟩,⟨some 162,none,.ixa (.t 148) (.t 149) 5⟩,⟨some 163,none,.fld (.t 162) 4⟩,⟨none,none,.store 1 (.t 163) (.t 161)⟩] [[],[0],[1],[2],[],[],[5],[6],[7],[],[8,9],[10],[11],[],[],[14],[12,13,15],[3,4,0,1,2,3,4,5,6,7,8,9,10,11,12,13,14,15,16],[17,0,1,2,3,4,5,6,7,8,9,10,11,12,13,14,15,16],[18,16,16,0,1,2,3,4,5,6,7,8,9,10,11,12,13,14,15,16]] [.no,.no,.no,(.rw [(.par 0)] []),.no,.no,.no,.no,(.rw [(.par 0)] []),.no,.no,.no,(.rw [(.par 1)] []),.no,.no,.no,(.far [(.par 0)]),.no,.no,(.rw [] [(.par 1)])]) (.reg [⟨some 164,none,.mov (.t 0)⟩,⟨some 165,none,.mov (.t 11)⟩,⟨some 166,none,.mov (.t 12)⟩,⟨some 167,none,.fld (.t 3) 2⟩,⟨some 168,none,.load none (.t 167)⟩,⟨some 169,none,.call f_change_bench_insert [(.t 164),(.t 165),(.t 166),(.t 168)]⟩]))) (.seq (.reg [⟨some 171,none,.bin .eql (.t 16) (.c (.int .i64 7))⟩,⟨some 170,none,.mov (.t 171)⟩]) (.cond (.t 170) (.reg [⟨some 172,none,.mov (.t 0)⟩,⟨some 173,none,.mov (.t 4)⟩,⟨some 174,none,.fld (.t 3) 4⟩,⟨some 175,none,.load none (.t 174)⟩,⟨some 176,none,.call f_change_bench_value [(.t 172),(.t 173),(.t 175)]⟩]) (.seq (.reg [⟨some 178,none,.bin .eql (.t 16) (.c (.int .i64 8))⟩,⟨some 177,none,.mov (.t 178)⟩]) (.cond (.t 177) (.dreg [⟨some 179,none,.mov (.t 0)⟩,⟨some 180,none,.nchk (.t 179)⟩,⟨some 181,none,.fld (.t 180) 0⟩,⟨some 182,none,.load none (.t 181)⟩,⟨some 183,none,.mov (.t 4)⟩,⟨some 184,none,.fld (.t 3) 3⟩,⟨some 185,none,.load none (.t 184)⟩,⟨some 186,none,.ixa (.t 182) (.t 183) 5⟩,⟨some 187,none,.fld (.t 186) 1⟩,⟨none,none,.store 1 (.t 187) (.t 185)⟩] [[],[0],[1],[2],[],[],[5],[3,4,0,1,2,3,4,5,6],[7,0,1,2,3,4,5,6],[8,6,0,1,2,3,4,5,6]] [.no,.no,.no,(.rw [(.par 0)] []),.no,.no,.rw [.loc 3] [],.no,.no,(.rw [] [(.par 1)])]) (.seq (.seq (.reg [⟨some 189,none,.bin .eql (.t 16) (.c (.int .i64 9))⟩,⟨some 188,none,.mov (.t 189)⟩]) (.cond (.t 188) .skip (.reg [⟨some 190,none,.bin .eql (.t 16) (.c (.int .i64 10))⟩,⟨some 188,none,.mov (.t 190)⟩]))) (.cond (.t 188) (.reg [⟨some 191,none,.mov (.t 0)⟩,⟨some 192,none,.load (some 5) (.t 3)⟩,⟨some 193,none,.call f_change_bench_attr [(.t 191),(.t 192)]⟩]) .skip))))))))))))))))))))))
theorem cDo1 {f_change_bench_do f_change_bench_insert f_change_bench_place f_slices_Delete_int_int f_change_bench_value f_change_bench_attr : Nat} (hF : compF P G f_change_bench_do = some (194,[],(c_change_bench_do f_change_bench_insert f_change_bench_place f_slices_Delete_int_int f_change_bench_value f_change_bench_attr).bare)) (b : Bn) (hn : b.n0 ≤ b.nodes.length) (n : Nat) (hp : n < b.n0) (x : Node) (hx : b.nodes[n]? = some x)
   (co : List Tree) (na st : Bs) (f : Nat) (hf : b.fs[n]? = some (f : Int)) (hfk : f ≤ x.kids.length) (hb : b.nodes.length + wtT co ≤ B) (hxk : x.kids.length + co.length ≤ B) (hI : InsC P G f_change_bench_insert) :
   ShC P G f_change_bench_do [.ptr (.par 0) 3 0 0,(⟨1,n,co,na,st⟩ : Op).av] (bSh b) [0,2,3] fun X R2 => X = (fun _ => .tup []) ∧ R2 = bSh ({ b.ins n f co with fs := b.fs.set n ((f + co.length : Nat) : Int) }) := by
 refine sh_of_go hF (by simp) (by simp [lbss,AV.lbs,bSh_ok,Op.av]; omega) ?_
 have hA0 : BnAt Lb.par b (inS (bSh b)) := inS_at _
 have hU : ∀ q : Lb,(∀ p,p < 4 + 2 * b.n0 → q ≠ .par p) → inS (bSh b) q = .unused := fun q hq => shH_ne _ fun p hp e => hq p (bSh_ok.1 hp) e.symm
 have h3 : inS (bSh b) (.loc 3) = .unused := hU _ (by simp)
 have hN : ∀ c l,inS (bSh b) (NC c l) = .unused := fun c l => hU _ (by simp [NC])
 have hlen : n < b.nodes.length := (List.getElem?_eq_some_iff.1 hx).1
 have hBv : B = 1073741824 := rfl
 have hbn := bNode_lt (n0 := b.n0) (lab := Lb.par) (x := x) hp
 have hget := hA0.get hx
 rw [hbn] at hget
 have hA3 : ∀ cs,BnAt Lb.par b (upd (inS (bSh b)) (.loc 3) cs) := fun cs => hA0.upd' (by simp)
 unfold c_change_bench_do
 simp only [↓aX,mX,reduceCtorEq,Nat.reduceEqDiff,Nat.reduceLT,Nat.reduceLeDiff,Nat.reduceAdd,Nat.reduceMul,Int.reduceToNat,Int.reduceLE,Int.reduceLT,Op.av,h3,Int.reduceBEq]
 have hfl : n < b.fs.length := (List.getElem?_eq_some_iff.1 hf).1
 simp only [↓aX,mX,reduceCtorEq,Nat.reduceEqDiff,Nat.reduceLT,Nat.reduceLeDiff,Nat.reduceAdd,Nat.reduceMul,Int.reduceToNat,Int.reduceLE,Int.reduceLT,Op.av,h3,hA0.s,hA0.n,hA0.f,hA0.a,hlen,List.length_mapIdx,Int.natCast_nonneg,Int.toNat_natCast,and_self,true_and,Nat.zero_add,hget,ivT_len,List.length_map,intGet2,hf,hfl,Option.map_some]
 refine ⟨rfl,?_⟩
 refine callT_ins hI (hA3 _) rfl hn hp hx hfk hb hxk 9 (fun l => by rw [upd_ne _ _ (by simp [NC])]; exact hN 9 l) ?_
 intro lab2 H2 g1 g2 g4 g5
 have h32 := g4 (.loc 3) (by simp) (by simp [NC])
 rw [upd_at,if_pos rfl] at h32
 have e0 : lab2 0 = .par 0 := g2 0 (by omega) (by omega) (by omega)
 have e2 : lab2 2 = .par 2 := g2 2 (by omega) (by omega) (by omega)
 have e3 : lab2 3 = .par 3 := g2 3 (by omega) (by omega) (by omega)
 have hs2 := g1.s
 have hf2 := g1.f
 rw [e0,e2,e3] at hs2
 rw [e2] at hf2
 rw [ins_fs,ins_as] at hs2
 rw [ins_fs] at hf2
 have hw : IntKind.i64.wrap ((f : Int) + (co.length : Int)) = ((f + co.length : Nat) : Int) := wrap64 (by omega) (by omega)
 simp only [↓aX,mX,reduceCtorEq,Nat.reduceEqDiff,Nat.reduceLT,Nat.reduceLeDiff,Nat.reduceAdd,Nat.reduceMul,Int.reduceToNat,Int.reduceLE,Int.reduceLT,h32,hs2,hf2,Int.natCast_nonneg,Int.toNat_natCast,and_self,true_and,Nat.zero_add,List.length_map,intGet2,hf,hfl,Option.map_some,ivT_len,hw]
 refine ⟨rfl,?_⟩
 rw [ret_n]
 refine ⟨[],rfl,⟨fun _ => .tup [],_,lab2⟩,⟨rfl,rfl⟩,fun ρ => by simp [ren,rens],by simp [oneV,AV.lbs,lbss],rfl,?_,?_⟩
 · have := g1.setF (fs := b.fs.set n ((f + co.length : Nat) : Int)) (H2 := upd H2 (.par 2) (.live ⟨1,(immE (b.fs.map intIV)).set n [.int .i64 ((f + co.length : Nat) : Int)]⟩)) (by rw [List.length_set,ins_fs]) (by rw [e2,upd_at,if_pos rfl,immI_set]) (fun q hq => by rw [e2] at hq; rw [upd_ne _ _ hq])
   exact this
 · rintro p' (rfl | rfl | rfl)
   · exact e0
   · exact e2
   · exact e3
theorem cDo2 {f_change_bench_do f_change_bench_insert f_change_bench_place f_slices_Delete_int_int f_change_bench_value f_change_bench_attr : Nat} (hF : compF P G f_change_bench_do = some (194,[],(c_change_bench_do f_change_bench_insert f_change_bench_place f_slices_Delete_int_int f_change_bench_value f_change_bench_attr).bare)) (b : Bn) (hn : b.n0 ≤ b.nodes.length) (n : Nat) (hp : n < b.n0) (x : Node) (hx : b.nodes[n]? = some x)
   (co : List Tree) (na st : Bs) (hb : b.nodes.length + wtT co ≤ B) (hxk : x.kids.length + co.length ≤ B) (hI : InsC P G f_change_bench_insert) :
   ShC P G f_change_bench_do [.ptr (.par 0) 3 0 0,(⟨2,n,co,na,st⟩ : Op).av] (bSh b) [0,2,3] fun X R2 => X = (fun _ => .tup []) ∧ R2 = bSh (b.ins n x.kids.length co) := by
 refine sh_of_go hF (by simp) (by simp [lbss,AV.lbs,bSh_ok,Op.av]; omega) ?_
 have hA0 : BnAt Lb.par b (inS (bSh b)) := inS_at _
 have hU : ∀ q : Lb,(∀ p,p < 4 + 2 * b.n0 → q ≠ .par p) → inS (bSh b) q = .unused := fun q hq => shH_ne _ fun p hp e => hq p (bSh_ok.1 hp) e.symm
 have h3 : inS (bSh b) (.loc 3) = .unused := hU _ (by simp)
 have hN : ∀ c l,inS (bSh b) (NC c l) = .unused := fun c l => hU _ (by simp [NC])
 have hlen : n < b.nodes.length := (List.getElem?_eq_some_iff.1 hx).1
 have hBv : B = 1073741824 := rfl
 have hbn := bNode_lt (n0 := b.n0) (lab := Lb.par) (x := x) hp
 have hget := hA0.get hx
 rw [hbn] at hget
 have hA3 : ∀ cs,BnAt Lb.par b (upd (inS (bSh b)) (.loc 3) cs) := fun cs => hA0.upd' (by simp)
 unfold c_change_bench_do
 simp only [↓aX,mX,reduceCtorEq,Nat.reduceEqDiff,Nat.reduceLT,Nat.reduceLeDiff,Nat.reduceAdd,Nat.reduceMul,Int.reduceToNat,Int.reduceLE,Int.reduceLT,Op.av,h3,Int.reduceBEq]
 try simp only [↓aX,mX,reduceCtorEq,Nat.reduceEqDiff,Nat.reduceLT,Nat.reduceLeDiff,Nat.reduceAdd,Nat.reduceMul,Int.reduceToNat,Int.reduceLE,Int.reduceLT,Op.av,h3,hA0.s,hA0.n,hA0.f,hA0.a,hlen,List.length_mapIdx,Int.natCast_nonneg,Int.toNat_natCast,and_self,true_and,Nat.zero_add,hget,ivT_len]
 refine ⟨rfl,?_⟩
 refine callT_ins hI (hA3 _) rfl hn hp hx (Nat.le_refl _) hb hxk 9 (fun l => by rw [upd_ne _ _ (by simp [NC])]; exact hN 9 l) ?_
 intro lab2 H2 g1 g2 g4 g5
 simp only [↓aX,mX,reduceCtorEq,Nat.reduceEqDiff,Nat.reduceLT,Nat.reduceLeDiff,Nat.reduceAdd,Nat.reduceMul,Int.reduceToNat,Int.reduceLE,Int.reduceLT]
 rw [ret_n]
 refine ⟨[],rfl,⟨fun _ => .tup [],_,lab2⟩,⟨rfl,rfl⟩,fun ρ => by simp [ren,rens],by simp [oneV,AV.lbs,lbss],rfl,g1,?_⟩
 rintro p' (rfl | rfl | rfl)
 · exact g2 0 (by omega) (by omega) (by omega)
 · exact g2 2 (by omega) (by omega) (by omega)
 · exact g2 3 (by omega) (by omega) (by omega)
theorem cDo3 {f_change_bench_do f_change_bench_insert f_change_bench_place f_slices_Delete_int_int f_change_bench_value f_change_bench_attr : Nat} (hF : compF P G f_change_bench_do = some (194,[],(c_change_bench_do f_change_bench_insert f_change_bench_place f_slices_Delete_int_int f_change_bench_value f_change_bench_attr).bare)) (b : Bn) (hn : b.n0 ≤ b.nodes.length) (n : Nat) (hp : n < b.n0) (x : Node) (hx : b.nodes[n]? = some x)
   (co : List Tree) (na st : Bs) (p : Nat) (hpp : x.parent = p) (hpn : p < b.n0) (y : Node) (hy : b.nodes[p]? = some y) (hyB : y.kids.length ≤ B) (hPl : PlaceC P G f_change_bench_place) (k : Nat) (hk : idxI y.kids n = (k : Int)) (hkl : k ≤ y.kids.length) (hb : b.nodes.length + wtT co ≤ B) (hyk : y.kids.length + co.length ≤ B) (hI : InsC P G f_change_bench_insert) :
   ShC P G f_change_bench_do [.ptr (.par 0) 3 0 0,(⟨3,n,co,na,st⟩ : Op).av] (bSh b) [0,2,3] fun X R2 => X = (fun _ => .tup []) ∧ R2 = bSh (b.ins p k co) := by
 refine sh_of_go hF (by simp) (by simp [lbss,AV.lbs,bSh_ok,Op.av]; omega) ?_
 have hA0 : BnAt Lb.par b (inS (bSh b)) := inS_at _
 have hU : ∀ q : Lb,(∀ p,p < 4 + 2 * b.n0 → q ≠ .par p) → inS (bSh b) q = .unused := fun q hq => shH_ne _ fun p hp e => hq p (bSh_ok.1 hp) e.symm
 have h3 : inS (bSh b) (.loc 3) = .unused := hU _ (by simp)
 have hN : ∀ c l,inS (bSh b) (NC c l) = .unused := fun c l => hU _ (by simp [NC])
 have hlen : n < b.nodes.length := (List.getElem?_eq_some_iff.1 hx).1
 have hBv : B = 1073741824 := rfl
 have hbn := bNode_lt (n0 := b.n0) (lab := Lb.par) (x := x) hp
 have hget := hA0.get hx
 rw [hbn] at hget
 have hA3 : ∀ cs,BnAt Lb.par b (upd (inS (bSh b)) (.loc 3) cs) := fun cs => hA0.upd' (by simp)
 unfold c_change_bench_do
 simp only [↓aX,mX,reduceCtorEq,Nat.reduceEqDiff,Nat.reduceLT,Nat.reduceLeDiff,Nat.reduceAdd,Nat.reduceMul,Int.reduceToNat,Int.reduceLE,Int.reduceLT,Op.av,h3,Int.reduceBEq]
 try simp only [↓aX,mX,reduceCtorEq,Nat.reduceEqDiff,Nat.reduceLT,Nat.reduceLeDiff,Nat.reduceAdd,Nat.reduceMul,Int.reduceToNat,Int.reduceLE,Int.reduceLT,Op.av,h3,hA0.s,hA0.n,hA0.f,hA0.a,hlen,List.length_mapIdx,Int.natCast_nonneg,Int.toNat_natCast,and_self,true_and,Nat.zero_add,hget,ivT_len]
 refine callT_place (lab := Lb.par) hPl (hA3 _) hx hpp hy hpn hyB 9 (fun l => by rw [upd_ne _ _ (by simp [NC])]; exact hN 9 l) ?_
 intro H2 hB2 hs2
 have h32 := hs2 (.loc 3) (by simp) (by simp [NC])
 rw [upd_at,if_pos rfl] at h32
 have hN2 : ∀ c l,c ≠ 9 → H2 (NC c l) = .unused := fun c l hc => by
   rw [hs2 _ (by simp [NC]) (by intro l' e; simp [NC] at e; exact hc e.2),upd_ne _ _ (by simp [NC])]; exact hN c l
 have hg2 : ∀ q,H2 (.gen q) = .unused := fun q => by
   rw [hs2 _ (by simp) (by simp [NC]),upd_ne _ _ (by simp)]; exact hU _ (by simp)
 rw [hk]
 simp only [↓aX,mX,reduceCtorEq,Nat.reduceEqDiff,Nat.reduceLT,Nat.reduceLeDiff,Nat.reduceAdd,Nat.reduceMul,Int.reduceToNat,Int.reduceLE,Int.reduceLT,h32]
 refine callT_ins hI hB2 rfl hn hpn hy hkl hb hyk 10 (fun l => hN2 10 l (by decide)) ?_
 intro lab2 H3 g1 g2 g4 g5
 simp only [↓aX,mX,reduceCtorEq,Nat.reduceEqDiff,Nat.reduceLT,Nat.reduceLeDiff,Nat.reduceAdd,Nat.reduceMul,Int.reduceToNat,Int.reduceLE,Int.reduceLT]
 rw [ret_n]
 refine ⟨[],rfl,⟨fun _ => .tup [],_,lab2⟩,⟨rfl,rfl⟩,fun ρ => by simp [ren,rens],by simp [oneV,AV.lbs,lbss],rfl,g1,?_⟩
 rintro p' (rfl | rfl | rfl)
 · exact g2 0 (by omega) (by omega) (by omega)
 · exact g2 2 (by omega) (by omega) (by omega)
 · exact g2 3 (by omega) (by omega) (by omega)
theorem cDo4 {f_change_bench_do f_change_bench_insert f_change_bench_place f_slices_Delete_int_int f_change_bench_value f_change_bench_attr : Nat} (hF : compF P G f_change_bench_do = some (194,[],(c_change_bench_do f_change_bench_insert f_change_bench_place f_slices_Delete_int_int f_change_bench_value f_change_bench_attr).bare)) (b : Bn) (hn : b.n0 ≤ b.nodes.length) (n : Nat) (hp : n < b.n0) (x : Node) (hx : b.nodes[n]? = some x)
   (co : List Tree) (na st : Bs) (p : Nat) (hpp : x.parent = p) (hpn : p < b.n0) (y : Node) (hy : b.nodes[p]? = some y) (hyB : y.kids.length ≤ B) (hPl : PlaceC P G f_change_bench_place) (k : Nat) (hk : idxI y.kids n = (k : Int)) (f : Nat) (hf : b.as[n]? = some (f : Int)) (hkl : k + 1 + f ≤ y.kids.length) (hb : b.nodes.length + wtT co ≤ B) (hyk : y.kids.length + co.length ≤ B) (hI : InsC P G f_change_bench_insert) :
   ShC P G f_change_bench_do [.ptr (.par 0) 3 0 0,(⟨4,n,co,na,st⟩ : Op).av] (bSh b) [0,2,3] fun X R2 => X = (fun _ => .tup []) ∧ R2 = bSh ({ b.ins p (k + 1 + f) co with as := b.as.set n ((f + co.length : Nat) : Int) }) := by
 refine sh_of_go hF (by simp) (by simp [lbss,AV.lbs,bSh_ok,Op.av]; omega) ?_
 have hA0 : BnAt Lb.par b (inS (bSh b)) := inS_at _
 have hU : ∀ q : Lb,(∀ p,p < 4 + 2 * b.n0 → q ≠ .par p) → inS (bSh b) q = .unused := fun q hq => shH_ne _ fun p hp e => hq p (bSh_ok.1 hp) e.symm
 have h3 : inS (bSh b) (.loc 3) = .unused := hU _ (by simp)
 have hN : ∀ c l,inS (bSh b) (NC c l) = .unused := fun c l => hU _ (by simp [NC])
 have hlen : n < b.nodes.length := (List.getElem?_eq_some_iff.1 hx).1
 have hBv : B = 1073741824 := rfl
 have hbn := bNode_lt (n0 := b.n0) (lab := Lb.par) (x := x) hp
 have hget := hA0.get hx
 rw [hbn] at hget
 have hA3 : ∀ cs,BnAt Lb.par b (upd (inS (bSh b)) (.loc 3) cs) := fun cs => hA0.upd' (by simp)
 unfold c_change_bench_do
 simp only [↓aX,mX,reduceCtorEq,Nat.reduceEqDiff,Nat.reduceLT,Nat.reduceLeDiff,Nat.reduceAdd,Nat.reduceMul,Int.reduceToNat,Int.reduceLE,Int.reduceLT,Op.av,h3,Int.reduceBEq]
 try simp only [↓aX,mX,reduceCtorEq,Nat.reduceEqDiff,Nat.reduceLT,Nat.reduceLeDiff,Nat.reduceAdd,Nat.reduceMul,Int.reduceToNat,Int.reduceLE,Int.reduceLT,Op.av,h3,hA0.s,hA0.n,hA0.f,hA0.a,hlen,List.length_mapIdx,Int.natCast_nonneg,Int.toNat_natCast,and_self,true_and,Nat.zero_add,hget,ivT_len]
 refine callT_place (lab := Lb.par) hPl (hA3 _) hx hpp hy hpn hyB 9 (fun l => by rw [upd_ne _ _ (by simp [NC])]; exact hN 9 l) ?_
 intro H2 hB2 hs2
 have h32 := hs2 (.loc 3) (by simp) (by simp [NC])
 rw [upd_at,if_pos rfl] at h32
 have hN2 : ∀ c l,c ≠ 9 → H2 (NC c l) = .unused := fun c l hc => by
   rw [hs2 _ (by simp [NC]) (by intro l' e; simp [NC] at e; exact hc e.2),upd_ne _ _ (by simp [NC])]; exact hN c l
 have hg2 : ∀ q,H2 (.gen q) = .unused := fun q => by
   rw [hs2 _ (by simp) (by simp [NC]),upd_ne _ _ (by simp)]; exact hU _ (by simp)
 rw [hk]
 have hfl : n < b.as.length := (List.getElem?_eq_some_iff.1 hf).1
 have hw1 : IntKind.i64.wrap ((k : Int) + 1) = ((k + 1 : Nat) : Int) := wrap64 (by omega) (by omega)
 have hw2 : IntKind.i64.wrap (((k + 1 : Nat) : Int) + (f : Int)) = ((k + 1 + f : Nat) : Int) := wrap64 (by omega) (by omega)
 simp only [↓aX,mX,reduceCtorEq,Nat.reduceEqDiff,Nat.reduceLT,Nat.reduceLeDiff,Nat.reduceAdd,Nat.reduceMul,Int.reduceToNat,Int.reduceLE,Int.reduceLT,h32,hB2.s,hB2.a,Int.natCast_nonneg,Int.toNat_natCast,and_self,true_and,Nat.zero_add,List.length_map,intGet2,hf,hfl,Option.map_some,ivT_len,hw1,hw2]
 refine ⟨rfl,?_⟩
 refine callT_ins hI hB2 rfl hn hpn hy hkl hb hyk 10 (fun l => hN2 10 l (by decide)) ?_
 intro lab2 H3 g1 g2 g4 g5
 have h33 := g4 (.loc 3) (by simp) (by simp [NC])
 rw [h32] at h33
 have e0 : lab2 0 = .par 0 := g2 0 (by omega) (by omega) (by omega)
 have e2 : lab2 2 = .par 2 := g2 2 (by omega) (by omega) (by omega)
 have e3 : lab2 3 = .par 3 := g2 3 (by omega) (by omega) (by omega)
 have hs2 := g1.s
 have hf2 := g1.a
 rw [e0,e2,e3] at hs2
 rw [e3] at hf2
 rw [ins_fs,ins_as] at hs2
 rw [ins_as] at hf2
 have hw : IntKind.i64.wrap ((f : Int) + (co.length : Int)) = ((f + co.length : Nat) : Int) := wrap64 (by omega) (by omega)
 simp only [↓aX,mX,reduceCtorEq,Nat.reduceEqDiff,Nat.reduceLT,Nat.reduceLeDiff,Nat.reduceAdd,Nat.reduceMul,Int.reduceToNat,Int.reduceLE,Int.reduceLT,h33,hs2,hf2,Int.natCast_nonneg,Int.toNat_natCast,and_self,true_and,Nat.zero_add,List.length_map,intGet2,hf,hfl,Option.map_some,ivT_len,hw]
 refine ⟨rfl,?_⟩
 have := g1.setAs (as := b.as.set n ((f + co.length : Nat) : Int)) (H2 := upd H3 (.par 3) (.live ⟨1,(immE (b.as.map intIV)).set n [.int .i64 ((f + co.length : Nat) : Int)]⟩)) (by rw [List.length_set,ins_as]) (by rw [e3,upd_at,if_pos rfl,immI_set]) (fun q hq => by rw [e3] at hq; rw [upd_ne _ _ hq])
 rw [ret_n]
 refine ⟨[],rfl,⟨fun _ => .tup [],_,lab2⟩,⟨rfl,rfl⟩,fun ρ => by simp [ren,rens],by simp [oneV,AV.lbs,lbss],rfl,this,?_⟩
 rintro p' (rfl | rfl | rfl)
 · exact e0
 · exact e2
 · exact e3
theorem cDo5 {f_change_bench_do f_change_bench_insert f_change_bench_place f_slices_Delete_int_int f_change_bench_value f_change_bench_attr : Nat} (hF : compF P G f_change_bench_do = some (194,[],(c_change_bench_do f_change_bench_insert f_change_bench_place f_slices_Delete_int_int f_change_bench_value f_change_bench_attr).bare)) (b : Bn) (hn : b.n0 ≤ b.nodes.length) (n : Nat) (hp : n < b.n0) (x : Node) (hx : b.nodes[n]? = some x)
   (co : List Tree) (na st : Bs) (p : Nat) (hpp : x.parent = p) (hpn : p < b.n0) (y : Node) (hy : b.nodes[p]? = some y) (hyB : y.kids.length ≤ B) (hPl : PlaceC P G f_change_bench_place) (k : Nat) (hk : idxI y.kids n = (k : Int)) (hkl : k < y.kids.length) (hD : DelI P G f_slices_Delete_int_int) :
   ShC P G f_change_bench_do [.ptr (.par 0) 3 0 0,(⟨5,n,co,na,st⟩ : Op).av] (bSh b) [0,2,3] fun X R2 => X = (fun _ => .tup []) ∧ R2 = bSh (b.del p k) := by
 refine sh_of_go hF (by simp) (by simp [lbss,AV.lbs,bSh_ok,Op.av]; omega) ?_
 have hA0 : BnAt Lb.par b (inS (bSh b)) := inS_at _
 have hU : ∀ q : Lb,(∀ p,p < 4 + 2 * b.n0 → q ≠ .par p) → inS (bSh b) q = .unused := fun q hq => shH_ne _ fun p hp e => hq p (bSh_ok.1 hp) e.symm
 have h3 : inS (bSh b) (.loc 3) = .unused := hU _ (by simp)
 have hN : ∀ c l,inS (bSh b) (NC c l) = .unused := fun c l => hU _ (by simp [NC])
 have hlen : n < b.nodes.length := (List.getElem?_eq_some_iff.1 hx).1
 have hBv : B = 1073741824 := rfl
 have hbn := bNode_lt (n0 := b.n0) (lab := Lb.par) (x := x) hp
 have hget := hA0.get hx
 rw [hbn] at hget
 have hA3 : ∀ cs,BnAt Lb.par b (upd (inS (bSh b)) (.loc 3) cs) := fun cs => hA0.upd' (by simp)
 unfold c_change_bench_do
 simp only [↓aX,mX,reduceCtorEq,Nat.reduceEqDiff,Nat.reduceLT,Nat.reduceLeDiff,Nat.reduceAdd,Nat.reduceMul,Int.reduceToNat,Int.reduceLE,Int.reduceLT,Op.av,h3,Int.reduceBEq]
 try simp only [↓aX,mX,reduceCtorEq,Nat.reduceEqDiff,Nat.reduceLT,Nat.reduceLeDiff,Nat.reduceAdd,Nat.reduceMul,Int.reduceToNat,Int.reduceLE,Int.reduceLT,Op.av,h3,hA0.s,hA0.n,hA0.f,hA0.a,hlen,List.length_mapIdx,Int.natCast_nonneg,Int.toNat_natCast,and_self,true_and,Nat.zero_add,hget,ivT_len]
 refine callT_place (lab := Lb.par) hPl (hA3 _) hx hpp hy hpn hyB 9 (fun l => by rw [upd_ne _ _ (by simp [NC])]; exact hN 9 l) ?_
 intro H2 hB2 hs2
 have h32 := hs2 (.loc 3) (by simp) (by simp [NC])
 rw [upd_at,if_pos rfl] at h32
 have hN2 : ∀ c l,c ≠ 9 → H2 (NC c l) = .unused := fun c l hc => by
   rw [hs2 _ (by simp [NC]) (by intro l' e; simp [NC] at e; exact hc e.2),upd_ne _ _ (by simp [NC])]; exact hN c l
 have hg2 : ∀ q,H2 (.gen q) = .unused := fun q => by
   rw [hs2 _ (by simp) (by simp [NC]),upd_ne _ _ (by simp)]; exact hU _ (by simp)
 rw [hk]
 have hlen2 : p < b.nodes.length := (List.getElem?_eq_some_iff.1 hy).1
 have hget2 := hB2.get hy
 rw [bNode_lt hpn] at hget2
 have hrow2 := hB2.kd hpn hy
 have hw1 : IntKind.i64.wrap ((k : Int) + 1) = ((k + 1 : Nat) : Int) := wrap64 (by omega) (by omega)
 have hdel : b.del p k = b.set p { y with kids := y.kids.take k ++ y.kids.drop (k + 1) } := by unfold Bn.del; rw [hy]
 have h15 : ¬ (1 : Nat) = 5 + 2 * p := by omega
 have key : ∀ (N : Lb),(N = .par (5 + 2 * p) ∨ N = .gen 134) → ∀ H3 : Hp,H3 (.par 1) = .live ⟨5,(b.nodes.mapIdx (bNode b.n0 Lb.par)).set p [.bool y.text,.str y.s,.sl (.par (4 + 2 * p)) 2 0 y.attrs.length,.int .i64 y.parent,.sl N 1 0 (y.kids.take k ++ y.kids.drop (k + 1)).length]⟩ →
     H3 N = .live ⟨1,immE ((y.kids.take k ++ y.kids.drop (k + 1)).map intIV)⟩ → (∀ q,q ≠ .par 1 → q ≠ N → q ≠ .par (5 + 2 * p) → H3 q = H2 q) → BnAt (fun p' => if p' = 5 + 2 * p then N else Lb.par p') (b.del p k) H3 := by
   intro N hN H3 e1 e2 e3
   rw [hdel]
   refine BnAt.setK hB2 hpn hy ?_ e1 e2 e3
   rcases hN with rfl | rfl
   · exact .inl rfl
   · exact .inr (by simp)
 simp only [↓aX,mX,reduceCtorEq,Nat.reduceEqDiff,Nat.reduceLT,Nat.reduceLeDiff,Nat.reduceAdd,Nat.reduceMul,Int.reduceToNat,Int.reduceLE,Int.reduceLT,h32,hB2.s,hB2.n,hlen2,List.length_mapIdx,Int.natCast_nonneg,Int.toNat_natCast,and_self,true_and,Nat.zero_add,hget2,hw1,List.length_map,h15,ge_iff_le,decide_true]
 refine ⟨rfl,?_⟩
 refine far_grw (l := .par (5 + 2 * p)) (N := .gen 134) (hD y.kids k hkl hyB) rfl hrow2 (hg2 _) (by simp [Lb.fresh]) (by simp [Lb.fam]) (by simp [Lb.fam]) ?_ ?_
 · simp only [↓aX,mX,reduceCtorEq,Nat.reduceEqDiff,Nat.reduceLT,Nat.reduceLeDiff,Nat.reduceAdd,Nat.reduceMul,Int.reduceToNat,Int.reduceLE,Int.reduceLT,h32,hB2.s,hB2.n,hlen2,List.length_mapIdx,Int.natCast_nonneg,Int.toNat_natCast,and_self,true_and,Nat.zero_add,hget2,hw1,List.length_map,h15]
   have hB3 := key (.gen 134) (.inr rfl) (upd (upd (upd H2 (.par (5 + 2 * p)) .dead) (.gen 134) (.live ⟨1,immE ((y.kids.take k ++ y.kids.drop (k + 1)).map intIV)⟩)) (.par 1) (.live ⟨5,(b.nodes.mapIdx (bNode b.n0 Lb.par)).set p [.bool y.text,.str y.s,.sl (.par (4 + 2 * p)) 2 0 y.attrs.length,.int .i64 y.parent,.sl (.gen 134) 1 0 (y.kids.take k ++ y.kids.drop (k + 1)).length]⟩)) (by simp [upd_at]) (by simp [upd_at]) (by intro q g1 g2 g3; simp [upd_at,g1,g2,g3])
   rw [ret_n]
   refine ⟨[],rfl,⟨fun _ => .tup [],_,fun p' => if p' = 5 + 2 * p then Lb.gen 134 else Lb.par p'⟩,⟨rfl,rfl⟩,fun ρ => by simp [ren,rens],by simp [oneV,AV.lbs,lbss],rfl,hB3,?_⟩
   rintro p' (rfl | rfl | rfl)
   · exact if_neg (by omega)
   · exact if_neg (by omega)
   · exact if_neg (by omega)
 · simp only [↓aX,mX,reduceCtorEq,Nat.reduceEqDiff,Nat.reduceLT,Nat.reduceLeDiff,Nat.reduceAdd,Nat.reduceMul,Int.reduceToNat,Int.reduceLE,Int.reduceLT,h32,hB2.s,hB2.n,hlen2,List.length_mapIdx,Int.natCast_nonneg,Int.toNat_natCast,and_self,true_and,Nat.zero_add,hget2,hw1,List.length_map,h15]
   have hB3 := key (.par (5 + 2 * p)) (.inl rfl) (upd (upd (upd H2 (.par (5 + 2 * p)) .dead) (.par (5 + 2 * p)) (.live ⟨1,immE ((y.kids.take k ++ y.kids.drop (k + 1)).map intIV)⟩)) (.par 1) (.live ⟨5,(b.nodes.mapIdx (bNode b.n0 Lb.par)).set p [.bool y.text,.str y.s,.sl (.par (4 + 2 * p)) 2 0 y.attrs.length,.int .i64 y.parent,.sl (.par (5 + 2 * p)) 1 0 (y.kids.take k ++ y.kids.drop (k + 1)).length]⟩)) (by simp [upd_at]) (by simp [upd_at]; omega) (by intro q g1 g2 g3; simp [upd_at,g1,g2,g3])
   rw [ret_n]
   refine ⟨[],rfl,⟨fun _ => .tup [],_,fun p' => if p' = 5 + 2 * p then (.par (5 + 2 * p)) else Lb.par p'⟩,⟨rfl,rfl⟩,fun ρ => by simp [ren,rens],by simp [oneV,AV.lbs,lbss],rfl,hB3,?_⟩
   rintro p' (rfl | rfl | rfl)
   · exact if_neg (by omega)
   · exact if_neg (by omega)
   · exact if_neg (by omega)
theorem cDo5n {f_change_bench_do f_change_bench_insert f_change_bench_place f_slices_Delete_int_int f_change_bench_value f_change_bench_attr : Nat} (hF : compF P G f_change_bench_do = some (194,[],(c_change_bench_do f_change_bench_insert f_change_bench_place f_slices_Delete_int_int f_change_bench_value f_change_bench_attr).bare)) (b : Bn) (hn : b.n0 ≤ b.nodes.length) (n : Nat) (hp : n < b.n0) (x : Node) (hx : b.nodes[n]? = some x)
   (co : List Tree) (na st : Bs) (p : Nat) (hpp : x.parent = p) (hpn : p < b.n0) (y : Node) (hy : b.nodes[p]? = some y) (hyB : y.kids.length ≤ B) (hPl : PlaceC P G f_change_bench_place) (hk : idxI y.kids n = -1) :
   ShC P G f_change_bench_do [.ptr (.par 0) 3 0 0,(⟨5,n,co,na,st⟩ : Op).av] (bSh b) [0,2,3] fun X R2 => X = (fun _ => .tup []) ∧ R2 = bSh (b) := by
 refine sh_of_go hF (by simp) (by simp [lbss,AV.lbs,bSh_ok,Op.av]; omega) ?_
 have hA0 : BnAt Lb.par b (inS (bSh b)) := inS_at _
 have hU : ∀ q : Lb,(∀ p,p < 4 + 2 * b.n0 → q ≠ .par p) → inS (bSh b) q = .unused := fun q hq => shH_ne _ fun p hp e => hq p (bSh_ok.1 hp) e.symm
 have h3 : inS (bSh b) (.loc 3) = .unused := hU _ (by simp)
 have hN : ∀ c l,inS (bSh b) (NC c l) = .unused := fun c l => hU _ (by simp [NC])
 have hlen : n < b.nodes.length := (List.getElem?_eq_some_iff.1 hx).1
 have hBv : B = 1073741824 := rfl
 have hbn := bNode_lt (n0 := b.n0) (lab := Lb.par) (x := x) hp
 have hget := hA0.get hx
 rw [hbn] at hget
 have hA3 : ∀ cs,BnAt Lb.par b (upd (inS (bSh b)) (.loc 3) cs) := fun cs => hA0.upd' (by simp)
 unfold c_change_bench_do
 simp only [↓aX,mX,reduceCtorEq,Nat.reduceEqDiff,Nat.reduceLT,Nat.reduceLeDiff,Nat.reduceAdd,Nat.reduceMul,Int.reduceToNat,Int.reduceLE,Int.reduceLT,Op.av,h3,Int.reduceBEq]
 try simp only [↓aX,mX,reduceCtorEq,Nat.reduceEqDiff,Nat.reduceLT,Nat.reduceLeDiff,Nat.reduceAdd,Nat.reduceMul,Int.reduceToNat,Int.reduceLE,Int.reduceLT,Op.av,h3,hA0.s,hA0.n,hA0.f,hA0.a,hlen,List.length_mapIdx,Int.natCast_nonneg,Int.toNat_natCast,and_self,true_and,Nat.zero_add,hget,ivT_len]
 refine callT_place (lab := Lb.par) hPl (hA3 _) hx hpp hy hpn hyB 9 (fun l => by rw [upd_ne _ _ (by simp [NC])]; exact hN 9 l) ?_
 intro H2 hB2 hs2
 have h32 := hs2 (.loc 3) (by simp) (by simp [NC])
 rw [upd_at,if_pos rfl] at h32
 have hN2 : ∀ c l,c ≠ 9 → H2 (NC c l) = .unused := fun c l hc => by
   rw [hs2 _ (by simp [NC]) (by intro l' e; simp [NC] at e; exact hc e.2),upd_ne _ _ (by simp [NC])]; exact hN c l
 have hg2 : ∀ q,H2 (.gen q) = .unused := fun q => by
   rw [hs2 _ (by simp) (by simp [NC]),upd_ne _ _ (by simp)]; exact hU _ (by simp)
 rw [hk]
 simp only [↓aX,mX,reduceCtorEq,Nat.reduceEqDiff,Nat.reduceLT,Nat.reduceLeDiff,Nat.reduceAdd,Nat.reduceMul,Int.reduceToNat,Int.reduceLE,Int.reduceLT,h32,ge_iff_le,show decide ((0 : Int) ≤ -1) = false by decide,decide_false]
 rw [ret_n]
 refine ⟨[],rfl,⟨fun _ => .tup [],_,Lb.par⟩,⟨rfl,rfl⟩,fun ρ => by simp [ren,rens],by simp [oneV,AV.lbs,lbss],rfl,hB2,?_⟩
 rintro p' (rfl | rfl | rfl)
 · exact rfl
 · exact rfl
 · exact rfl
theorem cDo6 {f_change_bench_do f_change_bench_insert f_change_bench_place f_slices_Delete_int_int f_change_bench_value f_change_bench_attr : Nat} (hF : compF P G f_change_bench_do = some (194,[],(c_change_bench_do f_change_bench_insert f_change_bench_place f_slices_Delete_int_int f_change_bench_value f_change_bench_attr).bare)) (b : Bn) (hn : b.n0 ≤ b.nodes.length) (n : Nat) (hp : n < b.n0) (x : Node) (hx : b.nodes[n]? = some x)
   (co : List Tree) (na st : Bs) (p : Nat) (hpp : x.parent = p) (hpn : p < b.n0) (y : Node) (hy : b.nodes[p]? = some y) (hyB : y.kids.length ≤ B) (hPl : PlaceC P G f_change_bench_place) (k : Nat) (hk : idxI y.kids n = (k : Int)) (hkl : k < y.kids.length) (hD : DelI P G f_slices_Delete_int_int) (hb : b.nodes.length + wtT co ≤ B) (hyk : y.kids.length + co.length ≤ B) (hI : InsC P G f_change_bench_insert) :
   ShC P G f_change_bench_do [.ptr (.par 0) 3 0 0,(⟨6,n,co,na,st⟩ : Op).av] (bSh b) [0,2,3] fun X R2 => X = (fun _ => .tup []) ∧ R2 = bSh ((b.del p k).ins p k co) := by
 refine sh_of_go hF (by simp) (by simp [lbss,AV.lbs,bSh_ok,Op.av]; omega) ?_
 have hA0 : BnAt Lb.par b (inS (bSh b)) := inS_at _
 have hU : ∀ q : Lb,(∀ p,p < 4 + 2 * b.n0 → q ≠ .par p) → inS (bSh b) q = .unused := fun q hq => shH_ne _ fun p hp e => hq p (bSh_ok.1 hp) e.symm
 have h3 : inS (bSh b) (.loc 3) = .unused := hU _ (by simp)
 have hN : ∀ c l,inS (bSh b) (NC c l) = .unused := fun c l => hU _ (by simp [NC])
 have hlen : n < b.nodes.length := (List.getElem?_eq_some_iff.1 hx).1
 have hBv : B = 1073741824 := rfl
 have hbn := bNode_lt (n0 := b.n0) (lab := Lb.par) (x := x) hp
 have hget := hA0.get hx
 rw [hbn] at hget
 have hA3 : ∀ cs,BnAt Lb.par b (upd (inS (bSh b)) (.loc 3) cs) := fun cs => hA0.upd' (by simp)
 unfold c_change_bench_do
 simp only [↓aX,mX,reduceCtorEq,Nat.reduceEqDiff,Nat.reduceLT,Nat.reduceLeDiff,Nat.reduceAdd,Nat.reduceMul,Int.reduceToNat,Int.reduceLE,Int.reduceLT,Op.av,h3,Int.reduceBEq]
 try simp only [↓aX,mX,reduceCtorEq,Nat.reduceEqDiff,Nat.reduceLT,Nat.reduceLeDiff,Nat.reduceAdd,Nat.reduceMul,Int.reduceToNat,Int.reduceLE,Int.reduceLT,Op.av,h3,hA0.s,hA0.n,hA0.f,hA0.a,hlen,List.length_mapIdx,Int.natCast_nonneg,Int.toNat_natCast,and_self,true_and,Nat.zero_add,hget,ivT_len]
 refine callT_place (lab := Lb.par) hPl (hA3 _) hx hpp hy hpn hyB 9 (fun l => by rw [upd_ne _ _ (by simp [NC])]; exact hN 9 l) ?_
 intro H2 hB2 hs2
 have h32 := hs2 (.loc 3) (by simp) (by simp [NC])
 rw [upd_at,if_pos rfl] at h32
 have hN2 : ∀ c l,c ≠ 9 → H2 (NC c l) = .unused := fun c l hc => by
   rw [hs2 _ (by simp [NC]) (by intro l' e; simp [NC] at e; exact hc e.2),upd_ne _ _ (by simp [NC])]; exact hN c l
 have hg2 : ∀ q,H2 (.gen q) = .unused := fun q => by
   rw [hs2 _ (by simp) (by simp [NC]),upd_ne _ _ (by simp)]; exact hU _ (by simp)
 rw [hk]
 have hlen2 : p < b.nodes.length := (List.getElem?_eq_some_iff.1 hy).1
 have hget2 := hB2.get hy
 rw [bNode_lt hpn] at hget2
 have hrow2 := hB2.kd hpn hy
 have hw1 : IntKind.i64.wrap ((k : Int) + 1) = ((k + 1 : Nat) : Int) := wrap64 (by omega) (by omega)
 have hdel : b.del p k = b.set p { y with kids := y.kids.take k ++ y.kids.drop (k + 1) } := by unfold Bn.del; rw [hy]
 have h15 : ¬ (1 : Nat) = 5 + 2 * p := by omega
 have key : ∀ (N : Lb),(N = .par (5 + 2 * p) ∨ N = .gen 161) → ∀ H3 : Hp,H3 (.par 1) = .live ⟨5,(b.nodes.mapIdx (bNode b.n0 Lb.par)).set p [.bool y.text,.str y.s,.sl (.par (4 + 2 * p)) 2 0 y.attrs.length,.int .i64 y.parent,.sl N 1 0 (y.kids.take k ++ y.kids.drop (k + 1)).length]⟩ →
     H3 N = .live ⟨1,immE ((y.kids.take k ++ y.kids.drop (k + 1)).map intIV)⟩ → (∀ q,q ≠ .par 1 → q ≠ N → q ≠ .par (5 + 2 * p) → H3 q = H2 q) → BnAt (fun p' => if p' = 5 + 2 * p then N else Lb.par p') (b.del p k) H3 := by
   intro N hN H3 e1 e2 e3
   rw [hdel]
   refine BnAt.setK hB2 hpn hy ?_ e1 e2 e3
   rcases hN with rfl | rfl
   · exact .inl rfl
   · exact .inr (by simp)
 have hdn : (b.del p k).nodes.length = b.nodes.length := by rw [hdel]; simp [Bn.set]
 have hdy : (b.del p k).nodes[p]? = some { y with kids := y.kids.take k ++ y.kids.drop (k + 1) } := by rw [hdel]; simp [Bn.set,hlen2]
 simp only [↓aX,mX,reduceCtorEq,Nat.reduceEqDiff,Nat.reduceLT,Nat.reduceLeDiff,Nat.reduceAdd,Nat.reduceMul,Int.reduceToNat,Int.reduceLE,Int.reduceLT,h32,hB2.s,hB2.n,hlen2,List.length_mapIdx,Int.natCast_nonneg,Int.toNat_natCast,and_self,true_and,Nat.zero_add,hget2,hw1,List.length_map,h15,ge_iff_le,decide_true]
 refine ⟨rfl,?_⟩
 refine far_grw (l := .par (5 + 2 * p)) (N := .gen 161) (hD y.kids k hkl hyB) rfl hrow2 (hg2 _) (by simp [Lb.fresh]) (by simp [Lb.fam]) (by simp [Lb.fam]) ?_ ?_
 · simp only [↓aX,mX,reduceCtorEq,Nat.reduceEqDiff,Nat.reduceLT,Nat.reduceLeDiff,Nat.reduceAdd,Nat.reduceMul,Int.reduceToNat,Int.reduceLE,Int.reduceLT,h32,hB2.s,hB2.n,hlen2,List.length_mapIdx,Int.natCast_nonneg,Int.toNat_natCast,and_self,true_and,Nat.zero_add,hget2,hw1,List.length_map,h15]
   have hB3 := key (.gen 161) (.inr rfl) (upd (upd (upd H2 (.par (5 + 2 * p)) .dead) (.gen 161) (.live ⟨1,immE ((y.kids.take k ++ y.kids.drop (k + 1)).map intIV)⟩)) (.par 1) (.live ⟨5,(b.nodes.mapIdx (bNode b.n0 Lb.par)).set p [.bool y.text,.str y.s,.sl (.par (4 + 2 * p)) 2 0 y.attrs.length,.int .i64 y.parent,.sl (.gen 161) 1 0 (y.kids.take k ++ y.kids.drop (k + 1)).length]⟩)) (by simp [upd_at]) (by simp [upd_at]) (by intro q g1 g2 g3; simp [upd_at,g1,g2,g3])
   refine callT_ins hI hB3 (if_neg (by omega)) (by rw [hdn,del_n0]; exact hn) (by rw [del_n0]; exact hpn) hdy (by simp; omega) (by rw [hdn]; exact hb) (by simp; omega) 10 (fun l => by simp [upd_at,NC]; exact hN2 10 l (by decide)) ?_
   intro lab2 H3 g1 g2 g4 g5
   simp only [↓aX,mX,reduceCtorEq,Nat.reduceEqDiff,Nat.reduceLT,Nat.reduceLeDiff,Nat.reduceAdd,Nat.reduceMul,Int.reduceToNat,Int.reduceLE,Int.reduceLT]
   have e0 : lab2 0 = .par 0 := (g2 0 (by rw [del_n0]; omega) (by omega) (by omega)).trans (if_neg (by omega))
   have e2 : lab2 2 = .par 2 := (g2 2 (by rw [del_n0]; omega) (by omega) (by omega)).trans (if_neg (by omega))
   have e3 : lab2 3 = .par 3 := (g2 3 (by rw [del_n0]; omega) (by omega) (by omega)).trans (if_neg (by omega))
   rw [ret_n]
   refine ⟨[],rfl,⟨fun _ => .tup [],_,lab2⟩,⟨rfl,rfl⟩,fun ρ => by simp [ren,rens],by simp [oneV,AV.lbs,lbss],rfl,g1,?_⟩
   rintro p' (rfl | rfl | rfl)
   · exact e0
   · exact e2
   · exact e3
 · simp only [↓aX,mX,reduceCtorEq,Nat.reduceEqDiff,Nat.reduceLT,Nat.reduceLeDiff,Nat.reduceAdd,Nat.reduceMul,Int.reduceToNat,Int.reduceLE,Int.reduceLT,h32,hB2.s,hB2.n,hlen2,List.length_mapIdx,Int.natCast_nonneg,Int.toNat_natCast,and_self,true_and,Nat.zero_add,hget2,hw1,List.length_map,h15]
   have hB3 := key (.par (5 + 2 * p)) (.inl rfl) (upd (upd (upd H2 (.par (5 + 2 * p)) .dead) (.par (5 + 2 * p)) (.live ⟨1,immE ((y.kids.take k ++ y.kids.drop (k + 1)).map intIV)⟩)) (.par 1) (.live ⟨5,(b.nodes.mapIdx (bNode b.n0 Lb.par)).set p [.bool y.text,.str y.s,.sl (.par (4 + 2 * p)) 2 0 y.attrs.length,.int .i64 y.parent,.sl (.par (5 + 2 * p)) 1 0 (y.kids.take k ++ y.kids.drop (k + 1)).length]⟩)) (by simp [upd_at]) (by simp [upd_at]; omega) (by intro q g1 g2 g3; simp [upd_at,g1,g2,g3])
   refine callT_ins hI hB3 (if_neg (by omega)) (by rw [hdn,del_n0]; exact hn) (by rw [del_n0]; exact hpn) hdy (by simp; omega) (by rw [hdn]; exact hb) (by simp; omega) 10 (fun l => by simp [upd_at,NC]; exact hN2 10 l (by decide)) ?_
   intro lab2 H3 g1 g2 g4 g5
   simp only [↓aX,mX,reduceCtorEq,Nat.reduceEqDiff,Nat.reduceLT,Nat.reduceLeDiff,Nat.reduceAdd,Nat.reduceMul,Int.reduceToNat,Int.reduceLE,Int.reduceLT]
   have e0 : lab2 0 = .par 0 := (g2 0 (by rw [del_n0]; omega) (by omega) (by omega)).trans (if_neg (by omega))
   have e2 : lab2 2 = .par 2 := (g2 2 (by rw [del_n0]; omega) (by omega) (by omega)).trans (if_neg (by omega))
   have e3 : lab2 3 = .par 3 := (g2 3 (by rw [del_n0]; omega) (by omega) (by omega)).trans (if_neg (by omega))
   rw [ret_n]
   refine ⟨[],rfl,⟨fun _ => .tup [],_,lab2⟩,⟨rfl,rfl⟩,fun ρ => by simp [ren,rens],by simp [oneV,AV.lbs,lbss],rfl,g1,?_⟩
   rintro p' (rfl | rfl | rfl)
   · exact e0
   · exact e2
   · exact e3
theorem cDo7 {f_change_bench_do f_change_bench_insert f_change_bench_place f_slices_Delete_int_int f_change_bench_value f_change_bench_attr : Nat} (hF : compF P G f_change_bench_do = some (194,[],(c_change_bench_do f_change_bench_insert f_change_bench_place f_slices_Delete_int_int f_change_bench_value f_change_bench_attr).bare)) (b : Bn) (hn : b.n0 ≤ b.nodes.length) (n : Nat) (hp : n < b.n0) (x : Node) (hx : b.nodes[n]? = some x)
   (co : List Tree) (na st : Bs) (hb : b.nodes.length + 1 + st.length ≤ B) (hV : ValueC P G f_change_bench_value) :
   ShC P G f_change_bench_do [.ptr (.par 0) 3 0 0,(⟨7,n,co,na,st⟩ : Op).av] (bSh b) [0,2,3] fun X R2 => X = (fun _ => .tup []) ∧ R2 = bSh (b.value n st) := by
 refine sh_of_go hF (by simp) (by simp [lbss,AV.lbs,bSh_ok,Op.av]; omega) ?_
 have hA0 : BnAt Lb.par b (inS (bSh b)) := inS_at _
 have hU : ∀ q : Lb,(∀ p,p < 4 + 2 * b.n0 → q ≠ .par p) → inS (bSh b) q = .unused := fun q hq => shH_ne _ fun p hp e => hq p (bSh_ok.1 hp) e.symm
 have h3 : inS (bSh b) (.loc 3) = .unused := hU _ (by simp)
 have hN : ∀ c l,inS (bSh b) (NC c l) = .unused := fun c l => hU _ (by simp [NC])
 have hlen : n < b.nodes.length := (List.getElem?_eq_some_iff.1 hx).1
 have hBv : B = 1073741824 := rfl
 have hbn := bNode_lt (n0 := b.n0) (lab := Lb.par) (x := x) hp
 have hget := hA0.get hx
 rw [hbn] at hget
 have hA3 : ∀ cs,BnAt Lb.par b (upd (inS (bSh b)) (.loc 3) cs) := fun cs => hA0.upd' (by simp)
 unfold c_change_bench_do
 simp only [↓aX,mX,reduceCtorEq,Nat.reduceEqDiff,Nat.reduceLT,Nat.reduceLeDiff,Nat.reduceAdd,Nat.reduceMul,Int.reduceToNat,Int.reduceLE,Int.reduceLT,Op.av,h3,Int.reduceBEq]
 try simp only [↓aX,mX,reduceCtorEq,Nat.reduceEqDiff,Nat.reduceLT,Nat.reduceLeDiff,Nat.reduceAdd,Nat.reduceMul,Int.reduceToNat,Int.reduceLE,Int.reduceLT,Op.av,h3,hA0.s,hA0.n,hA0.f,hA0.a,hlen,List.length_mapIdx,Int.natCast_nonneg,Int.toNat_natCast,and_self,true_and,Nat.zero_add,hget,ivT_len]
 refine callT_sh (lab := Lb.par) (N := NC 9) (hV b hn n hp x hx st hb) (by simp [rens,ren,inR]) (hA3 _) (fun l => by rw [upd_ne _ _ (by simp [NC])]; exact hN 9 l) (NC_inj 9) (fun l h => .inl h) (fun p' hp' => bSh_ok.2 (but2_mem.1 hp').1) ?_
 rintro X R2 lab2 H2 ⟨rfl,rfl⟩ g1 g2 g3 g4 g5 g6
 simp only [↓aX,mX,reduceCtorEq,Nat.reduceEqDiff,Nat.reduceLT,Nat.reduceLeDiff,Nat.reduceAdd,Nat.reduceMul,Int.reduceToNat,Int.reduceLE,Int.reduceLT]
 rw [ret_n]
 refine ⟨[],rfl,⟨fun _ => .tup [],_,lab2⟩,⟨rfl,rfl⟩,fun ρ => by simp [ren,rens],by simp [oneV,AV.lbs,lbss],rfl,g1,?_⟩
 rintro p' (rfl | rfl | rfl)
 · exact g2 0 (but2_mem.2 ⟨by omega,by omega,by omega⟩)
 · exact g2 2 (but2_mem.2 ⟨by omega,by omega,by omega⟩)
 · exact g2 3 (but2_mem.2 ⟨by omega,by omega,by omega⟩)
theorem cDo8 {f_change_bench_do f_change_bench_insert f_change_bench_place f_slices_Delete_int_int f_change_bench_value f_change_bench_attr : Nat} (hF : compF P G f_change_bench_do = some (194,[],(c_change_bench_do f_change_bench_insert f_change_bench_place f_slices_Delete_int_int f_change_bench_value f_change_bench_attr).bare)) (b : Bn) (hn : b.n0 ≤ b.nodes.length) (n : Nat) (hp : n < b.n0) (x : Node) (hx : b.nodes[n]? = some x)
   (co : List Tree) (na st : Bs)  :
   ShC P G f_change_bench_do [.ptr (.par 0) 3 0 0,(⟨8,n,co,na,st⟩ : Op).av] (bSh b) [0,2,3] fun X R2 => X = (fun _ => .tup []) ∧ R2 = bSh (b.name n na) := by
 refine sh_of_go hF (by simp) (by simp [lbss,AV.lbs,bSh_ok,Op.av]; omega) ?_
 have hA0 : BnAt Lb.par b (inS (bSh b)) := inS_at _
 have hU : ∀ q : Lb,(∀ p,p < 4 + 2 * b.n0 → q ≠ .par p) → inS (bSh b) q = .unused := fun q hq => shH_ne _ fun p hp e => hq p (bSh_ok.1 hp) e.symm
 have h3 : inS (bSh b) (.loc 3) = .unused := hU _ (by simp)
 have hN : ∀ c l,inS (bSh b) (NC c l) = .unused := fun c l => hU _ (by simp [NC])
 have hlen : n < b.nodes.length := (List.getElem?_eq_some_iff.1 hx).1
 have hBv : B = 1073741824 := rfl
 have hbn := bNode_lt (n0 := b.n0) (lab := Lb.par) (x := x) hp
 have hget := hA0.get hx
 rw [hbn] at hget
 have hA3 : ∀ cs,BnAt Lb.par b (upd (inS (bSh b)) (.loc 3) cs) := fun cs => hA0.upd' (by simp)
 unfold c_change_bench_do
 simp only [↓aX,mX,reduceCtorEq,Nat.reduceEqDiff,Nat.reduceLT,Nat.reduceLeDiff,Nat.reduceAdd,Nat.reduceMul,Int.reduceToNat,Int.reduceLE,Int.reduceLT,Op.av,h3,Int.reduceBEq]
 try simp only [↓aX,mX,reduceCtorEq,Nat.reduceEqDiff,Nat.reduceLT,Nat.reduceLeDiff,Nat.reduceAdd,Nat.reduceMul,Int.reduceToNat,Int.reduceLE,Int.reduceLT,Op.av,h3,hA0.s,hA0.n,hA0.f,hA0.a,hlen,List.length_mapIdx,Int.natCast_nonneg,Int.toNat_natCast,and_self,true_and,Nat.zero_add,hget,ivT_len]
 refine ⟨rfl,?_⟩
 have hnm : b.name n na = b.set n { x with s := na } := by unfold Bn.name; rw [hx]
 have := BnAt.setS (s := na) (H2 := upd (upd (inS (bSh b)) (.loc 3) (.live ⟨5,[[.int .i64 8,.int .i64 n,.list (ivT co),.str na,.str st]]⟩)) (.par 1) (.live ⟨5,(b.nodes.mapIdx (bNode b.n0 Lb.par)).set n [.bool x.text,.str na,.sl (.par (4 + 2 * n)) 2 0 x.attrs.length,.int .i64 x.parent,.sl (.par (5 + 2 * n)) 1 0 x.kids.length]⟩)) (hA3 _) hx (by rw [upd_at,if_pos rfl,bNode_lt hp]) (fun q hq => by rw [upd_ne _ _ hq])
 rw [← hnm] at this
 rw [ret_n]
 refine ⟨[],rfl,⟨fun _ => .tup [],_,Lb.par⟩,⟨rfl,rfl⟩,fun ρ => by simp [ren,rens],by simp [oneV,AV.lbs,lbss],rfl,this,?_⟩
 rintro p' (rfl | rfl | rfl)
 · exact rfl
 · exact rfl
 · exact rfl
theorem cDo9 {f_change_bench_do f_change_bench_insert f_change_bench_place f_slices_Delete_int_int f_change_bench_value f_change_bench_attr : Nat} (hF : compF P G f_change_bench_do = some (194,[],(c_change_bench_do f_change_bench_insert f_change_bench_place f_slices_Delete_int_int f_change_bench_value f_change_bench_attr).bare)) (b : Bn) (hn : b.n0 ≤ b.nodes.length) (n : Nat) (hp : n < b.n0) (x : Node) (hx : b.nodes[n]? = some x)
   (co : List Tree) (na st : Bs) (hb : x.attrs.length + 1 ≤ B) (hr : risA x.attrs = true) (hAt : AttrC P G f_change_bench_attr) :
   ShC P G f_change_bench_do [.ptr (.par 0) 3 0 0,(⟨9,n,co,na,st⟩ : Op).av] (bSh b) [0,2,3] fun X R2 => X = (fun _ => .tup []) ∧ R2 = bSh (b.attr n ⟨9,n,co,na,st⟩) := by
 refine sh_of_go hF (by simp) (by simp [lbss,AV.lbs,bSh_ok,Op.av]; omega) ?_
 have hA0 : BnAt Lb.par b (inS (bSh b)) := inS_at _
 have hU : ∀ q : Lb,(∀ p,p < 4 + 2 * b.n0 → q ≠ .par p) → inS (bSh b) q = .unused := fun q hq => shH_ne _ fun p hp e => hq p (bSh_ok.1 hp) e.symm
 have h3 : inS (bSh b) (.loc 3) = .unused := hU _ (by simp)
 have hN : ∀ c l,inS (bSh b) (NC c l) = .unused := fun c l => hU _ (by simp [NC])
 have hlen : n < b.nodes.length := (List.getElem?_eq_some_iff.1 hx).1
 have hBv : B = 1073741824 := rfl
 have hbn := bNode_lt (n0 := b.n0) (lab := Lb.par) (x := x) hp
 have hget := hA0.get hx
 rw [hbn] at hget
 have hA3 : ∀ cs,BnAt Lb.par b (upd (inS (bSh b)) (.loc 3) cs) := fun cs => hA0.upd' (by simp)
 unfold c_change_bench_do
 simp only [↓aX,mX,reduceCtorEq,Nat.reduceEqDiff,Nat.reduceLT,Nat.reduceLeDiff,Nat.reduceAdd,Nat.reduceMul,Int.reduceToNat,Int.reduceLE,Int.reduceLT,Op.av,h3,Int.reduceBEq]
 try simp only [↓aX,mX,reduceCtorEq,Nat.reduceEqDiff,Nat.reduceLT,Nat.reduceLeDiff,Nat.reduceAdd,Nat.reduceMul,Int.reduceToNat,Int.reduceLE,Int.reduceLT,Op.av,h3,hA0.s,hA0.n,hA0.f,hA0.a,hlen,List.length_mapIdx,Int.natCast_nonneg,Int.toNat_natCast,and_self,true_and,Nat.zero_add,hget,ivT_len]
 refine callT_sh (lab := Lb.par) (N := NC 9) (hAt b n hp x hx ⟨9,n,co,na,st⟩ rfl (by simp) hb hr) (by simp [rens,ren,inR,Op.av]) (hA3 _) (fun l => by rw [upd_ne _ _ (by simp [NC])]; exact hN 9 l) (NC_inj 9) (fun l h => .inl h) (fun p' hp' => bSh_ok.2 (but_mem.1 hp').1) ?_
 rintro X R2 lab2 H2 ⟨rfl,rfl⟩ g1 g2 g3 g4 g5 g6
 simp only [↓aX,mX,reduceCtorEq,Nat.reduceEqDiff,Nat.reduceLT,Nat.reduceLeDiff,Nat.reduceAdd,Nat.reduceMul,Int.reduceToNat,Int.reduceLE,Int.reduceLT]
 rw [ret_n]
 refine ⟨[],rfl,⟨fun _ => .tup [],_,lab2⟩,⟨rfl,rfl⟩,fun ρ => by simp [ren,rens],by simp [oneV,AV.lbs,lbss],rfl,g1,?_⟩
 rintro p' (rfl | rfl | rfl)
 · exact g2 0 (but_mem.2 ⟨by omega,by omega⟩)
 · exact g2 2 (but_mem.2 ⟨by omega,by omega⟩)
 · exact g2 3 (but_mem.2 ⟨by omega,by omega⟩)
theorem cDo10 {f_change_bench_do f_change_bench_insert f_change_bench_place f_slices_Delete_int_int f_change_bench_value f_change_bench_attr : Nat} (hF : compF P G f_change_bench_do = some (194,[],(c_change_bench_do f_change_bench_insert f_change_bench_place f_slices_Delete_int_int f_change_bench_value f_change_bench_attr).bare)) (b : Bn) (hn : b.n0 ≤ b.nodes.length) (n : Nat) (hp : n < b.n0) (x : Node) (hx : b.nodes[n]? = some x)
   (co : List Tree) (na st : Bs) (hb : x.attrs.length + 1 ≤ B) (hr : risA x.attrs = true) (hAt : AttrC P G f_change_bench_attr) :
   ShC P G f_change_bench_do [.ptr (.par 0) 3 0 0,(⟨10,n,co,na,st⟩ : Op).av] (bSh b) [0,2,3] fun X R2 => X = (fun _ => .tup []) ∧ R2 = bSh (b.attr n ⟨10,n,co,na,st⟩) := by
 refine sh_of_go hF (by simp) (by simp [lbss,AV.lbs,bSh_ok,Op.av]; omega) ?_
 have hA0 : BnAt Lb.par b (inS (bSh b)) := inS_at _
 have hU : ∀ q : Lb,(∀ p,p < 4 + 2 * b.n0 → q ≠ .par p) → inS (bSh b) q = .unused := fun q hq => shH_ne _ fun p hp e => hq p (bSh_ok.1 hp) e.symm
 have h3 : inS (bSh b) (.loc 3) = .unused := hU _ (by simp)
 have hN : ∀ c l,inS (bSh b) (NC c l) = .unused := fun c l => hU _ (by simp [NC])
 have hlen : n < b.nodes.length := (List.getElem?_eq_some_iff.1 hx).1
 have hBv : B = 1073741824 := rfl
 have hbn := bNode_lt (n0 := b.n0) (lab := Lb.par) (x := x) hp
 have hget := hA0.get hx
 rw [hbn] at hget
 have hA3 : ∀ cs,BnAt Lb.par b (upd (inS (bSh b)) (.loc 3) cs) := fun cs => hA0.upd' (by simp)
 unfold c_change_bench_do
 simp only [↓aX,mX,reduceCtorEq,Nat.reduceEqDiff,Nat.reduceLT,Nat.reduceLeDiff,Nat.reduceAdd,Nat.reduceMul,Int.reduceToNat,Int.reduceLE,Int.reduceLT,Op.av,h3,Int.reduceBEq]
 try simp only [↓aX,mX,reduceCtorEq,Nat.reduceEqDiff,Nat.reduceLT,Nat.reduceLeDiff,Nat.reduceAdd,Nat.reduceMul,Int.reduceToNat,Int.reduceLE,Int.reduceLT,Op.av,h3,hA0.s,hA0.n,hA0.f,hA0.a,hlen,List.length_mapIdx,Int.natCast_nonneg,Int.toNat_natCast,and_self,true_and,Nat.zero_add,hget,ivT_len]
 refine callT_sh (lab := Lb.par) (N := NC 9) (hAt b n hp x hx ⟨10,n,co,na,st⟩ rfl (by simp) hb hr) (by simp [rens,ren,inR,Op.av]) (hA3 _) (fun l => by rw [upd_ne _ _ (by simp [NC])]; exact hN 9 l) (NC_inj 9) (fun l h => .inl h) (fun p' hp' => bSh_ok.2 (but_mem.1 hp').1) ?_
 rintro X R2 lab2 H2 ⟨rfl,rfl⟩ g1 g2 g3 g4 g5 g6
 simp only [↓aX,mX,reduceCtorEq,Nat.reduceEqDiff,Nat.reduceLT,Nat.reduceLeDiff,Nat.reduceAdd,Nat.reduceMul,Int.reduceToNat,Int.reduceLE,Int.reduceLT]
 rw [ret_n]
 refine ⟨[],rfl,⟨fun _ => .tup [],_,lab2⟩,⟨rfl,rfl⟩,fun ρ => by simp [ren,rens],by simp [oneV,AV.lbs,lbss],rfl,g1,?_⟩
 rintro p' (rfl | rfl | rfl)
 · exact g2 0 (but_mem.2 ⟨by omega,by omega⟩)
 · exact g2 2 (but_mem.2 ⟨by omega,by omega⟩)
 · exact g2 3 (but_mem.2 ⟨by omega,by omega⟩)
end
end Go.Am
