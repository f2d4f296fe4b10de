import Derived.Test.YtfinkeaikbmpgaaDoorT29
set_option linter.unusedSimpArgs false
set_option linter.unusedVariables false
set_option linter.unnecessarySimpa false
set_option linter.defProp false
/- A document made of a tree, by those that wait. -/
namespace Go.Am
open Go Go.RowKit
/-- An element that lies in a row of one's own, appended. -/
theorem app_src {sz b d n : Nat} {l l2 : Lb} {els : List (List AV)} {cs : List AV} {H : Hp} (hl : H l = .live ⟨sz, els⟩) (hn : els.length = n) (h2 : H l2 = .live ⟨sz, [cs]⟩) (hone : AV.one1 cs)
    (hb : (n + 1) * b ≤ 140737488355328) (h0 : 0 < b) (hd : l ≠ l.app d) (hu : H (l.app d) = .unused) :
    appV sz b d (.sl l sz 0 n) (.sl l2 sz 0 1) H = some (.sl (l.app d) sz 0 (n + 1), upd (upd H l .dead) (l.app d) (.live ⟨sz, els ++ [cs]⟩)) := by
  unfold appV
  have hs : srcE sz (.sl l2 sz 0 1) H = some [cs] := by simp [srcE, h2]
  rw [hs, Option.bind_some, if_neg (by simpa using hone)]
  simp only [hl]
  rw [if_pos ⟨rfl, rfl, rfl, Nat.le_of_eq hn.symm, by simpa using hb, h0, hd, hu⟩]
  simp only [List.length_cons, List.length_nil, Nat.zero_add]
  rw [List.take_of_length_le (Nat.le_of_eq hn)]
/-- A part of another row of data, appended. -/
theorem app_srcI {sz b d n i m : Nat} {l l2 : Lb} {els els2 : List (List AV)} {xs : List IV} {H : Hp} (hl : H l = .live ⟨sz, els⟩) (hn : els.length = n) (h2 : H l2 = .live ⟨sz, els2⟩) (hi : i + m ≤ els2.length)
    (hx : (els2.drop i).take m = immE xs) (hf : Flat xs) (hm : xs.length = m) (hb : (n + m) * b ≤ 140737488355328) (h0 : 0 < b) (hd : l ≠ l.app d) (hu : H (l.app d) = .unused) :
    appV sz b d (.sl l sz 0 n) (.sl l2 sz i m) H = some (.sl (l.app d) sz 0 (n + m), upd (upd H l .dead) (l.app d) (.live ⟨sz, els ++ immE xs⟩)) := by
  have hlx : (immE xs).length = m := by rw [immE_len, hm]
  unfold appV
  have hs : srcE sz (.sl l2 sz i m) H = some (immE xs) := by simp [srcE, h2, hi, hx]
  rw [hs, Option.bind_some, if_neg (by simpa using hf.one)]
  simp only [hl]
  rw [if_pos ⟨rfl, rfl, rfl, Nat.le_of_eq hn.symm, by rw [hlx]; exact hb, h0, hd, hu⟩, hlx, List.take_of_length_le (Nat.le_of_eq hn)]
theorem ofH_ul (rs : List (Lb × Row)) (l : Lb) : ofH rs l = .unused ∨ ∃ r, ofH rs l = .live r := by
  induction rs with
  | nil => exact .inl rfl
  | cons p t ih =>
    obtain ⟨l0, r0⟩ := p
    simp only [ofH, upd]
    split
    · exact .inr ⟨_, rfl⟩
    · exact ih
theorem ofH_mem {rs : List (Lb × Row)} {l : Lb} {r : Row} (h : (l, r) ∈ rs) (hu : ∀ r', (l, r') ∈ rs → r' = r) : ofH rs l = .live r := by
  rcases ofH_ul rs l with h1 | ⟨r', h1⟩
  · exact absurd h1 (ofH_used (List.mem_map.2 ⟨_, h, rfl⟩))
  · rw [h1, hu r' (ofH_live h1)]
theorem ofH_none {rs : List (Lb × Row)} {l : Lb} (h : l ∉ rs.map Prod.fst) : ofH rs l = .unused := by
  rcases ofH_ul rs l with h1 | ⟨r, h1⟩
  · exact h1
  · exact absurd (List.mem_map.2 ⟨_, ofH_live h1, rfl⟩) h
theorem ofH_append (a b : List (Lb × Row)) (l : Lb) : ofH (a ++ b) l = match ofH a l with | .unused => ofH b l | s => s := by
  induction a with
  | nil => rfl
  | cons p t ih =>
    obtain ⟨l0, r0⟩ := p
    simp only [List.cons_append, ofH, upd]
    split
    · rfl
    · exact ih
theorem RwL_app {ρ : Lb → Lb} {H : Hp} : ∀ {a b : List (Lb × Row)}, RwL ρ H a → RwL ρ H b → RwL ρ H (a ++ b)
  | [], b, _, h => h
  | (l, r) :: a, b, h1, h2 => ⟨h1.1, RwL_app h1.2 h2⟩
theorem RwL_of {ρ : Lb → Lb} {H : Hp} : ∀ {a : List (Lb × Row)}, (∀ q ∈ a, H (ρ q.1) = .live (renR ρ q.2)) → RwL ρ H a
  | [], _ => trivial
  | (l, r) :: a, h => ⟨h (l, r) (by simp), RwL_of fun q hq => h q (by simp [hq])⟩
def KL (i : Nat) : Lb := .nest (.loc 1000) i 4
def kcell (i : Nat) (ks : List Int) : AV := if ks = [] then .nil0 else .sl (KL i) 1 0 ks.length
def ncells (i : Nat) (x : Node) : List AV := [.bool x.text, .str x.s, .list (ivA x.attrs), .int .i64 x.parent, kcell i x.kids]
def nrow (d : List Node) : List (List AV) := d.mapIdx ncells
def krow (ks : List Int) : Row := ⟨1, immE (ks.map intIV)⟩
def kfam (d : List Node) : List (Lb × Row) := (List.range d.length).filterMap fun i => (d[i]?).bind fun x => if x.kids = [] then none else some (KL i, krow x.kids)
def itIV (q : Tree × Int) : IV := .agg [.bool q.1.text, .str q.1.s, .list (ivA q.1.attrs), .list (ivT q.1.kids), .int .i64 q.2]
def mdR (d : List Node) (l : List (Tree × Int)) : List (Lb × Row) := [(.loc 2, ⟨1, [[.nil0]]⟩), (.loc 4, ⟨1, [[.sl (.loc 1000) 5 0 d.length]]⟩), (.loc 1000, ⟨5, nrow d⟩), (.loc 1001, ⟨5, immE (l.map itIV)⟩)] ++ kfam d
theorem kfam_mem {d : List Node} {l : Lb} {r : Row} : (l, r) ∈ kfam d ↔ ∃ i x, d[i]? = some x ∧ x.kids ≠ [] ∧ l = KL i ∧ r = krow x.kids := by
  simp only [kfam, List.mem_filterMap, List.mem_range, Option.bind_eq_some_iff]
  constructor
  · rintro ⟨i, hi, x, h1, h2⟩
    split at h2
    · cases h2
    · rename_i hk
      simp only [Option.some.injEq, Prod.mk.injEq] at h2
      exact ⟨i, x, h1, hk, h2.1.symm, h2.2.symm⟩
  · rintro ⟨i, x, h1, h2, rfl, rfl⟩
    exact ⟨i, (List.getElem?_eq_some_iff.1 h1).1, x, h1, by rw [if_neg h2]⟩
theorem KL_inj {i j : Nat} (h : KL i = KL j) : i = j := by simpa [KL] using h
theorem kfam_at {d : List Node} {i : Nat} {x : Node} (h : d[i]? = some x) (hk : x.kids ≠ []) : ofH (kfam d) (KL i) = .live (krow x.kids) := by
  refine ofH_mem (kfam_mem.2 ⟨i, x, h, hk, rfl, rfl⟩) ?_
  intro r' hr
  obtain ⟨j, y, h1, _, h3, rfl⟩ := kfam_mem.1 hr
  cases KL_inj h3
  rw [h] at h1; cases h1; rfl
theorem kfam_no {d : List Node} {l : Lb} (h : ∀ i, l ≠ KL i) : ofH (kfam d) l = .unused := by
  refine ofH_none fun hm => ?_
  obtain ⟨⟨l', r⟩, h1, rfl⟩ := List.mem_map.1 hm
  obtain ⟨i, x, _, _, h4, _⟩ := kfam_mem.1 h1
  exact h i h4
theorem kfam_loc (d : List Node) (n : Nat) : ofH (kfam d) (.loc n) = .unused := kfam_no fun i => by simp [KL]
theorem nrow_len (d : List Node) : (nrow d).length = d.length := by simp [nrow]
theorem nrow_get (d : List Node) (i : Nat) : (nrow d)[i]? = d[i]?.map (ncells i) := by simp [nrow]
theorem kfam_keys (d : List Node) : ((kfam d).map Prod.fst).Nodup := by
  have : (kfam d).map Prod.fst = (List.range d.length).filterMap fun i => (d[i]?).bind fun x => if x.kids = [] then none else some (KL i) := by
    unfold kfam
    rw [List.map_filterMap]
    congr 1
    funext i
    cases d[i]? with
    | none => rfl
    | some x => simp only [Option.bind_some]; split <;> rfl
  rw [this]
  refine List.Pairwise.filterMap _ ?_ List.nodup_range
  intro i j hij l hl l' hl' e
  subst e
  simp only [Option.bind_eq_some_iff] at hl hl'
  obtain ⟨x, _, h1⟩ := hl
  obtain ⟨y, _, h2⟩ := hl'
  split at h1
  · cases h1
  · split at h2
    · cases h2
    · simp only [Option.some.injEq] at h1 h2
      exact hij (KL_inj (h1.trans h2.symm))
theorem kfam_key {d : List Node} {l : Lb} (h : l ∈ (kfam d).map Prod.fst) : ∃ i, l = KL i ∧ i < d.length := by
  obtain ⟨⟨l', r⟩, h1, rfl⟩ := List.mem_map.1 h
  obtain ⟨i, x, h2, _, h4, _⟩ := kfam_mem.1 h1
  exact ⟨i, h4, (List.getElem?_eq_some_iff.1 h2).1⟩
theorem mdR_lbs (d : List Node) (w : List (Tree × Int)) : ∀ q ∈ mdR d w, ∀ cs ∈ q.2.els, ∀ l ∈ lbss cs, l ∈ (mdR d w).map Prod.fst := by
  intro q hq cs hcs l hl
  simp only [mdR, List.mem_append, List.mem_cons, List.not_mem_nil, or_false] at hq
  rcases hq with (rfl | rfl | rfl | rfl) | hq
  · simp only [List.mem_singleton] at hcs; subst hcs; simp [lbss, AV.lbs] at hl
  · simp only [List.mem_singleton] at hcs; subst hcs; simp [lbss, AV.lbs] at hl; subst hl; simp [mdR]
  · simp only at hcs
    obtain ⟨i, hi⟩ := List.getElem?_of_mem hcs
    rw [nrow_get, Option.map_eq_some_iff] at hi
    obtain ⟨x, hx, rfl⟩ := hi
    unfold ncells kcell at hl
    split at hl
    · simp [lbss, AV.lbs] at hl
    · rename_i hk
      simp [lbss, AV.lbs] at hl
      subst hl
      simp only [mdR, List.map_append, List.mem_append]
      exact .inr (List.mem_map.2 ⟨_, kfam_mem.2 ⟨i, x, hx, hk, rfl, rfl⟩, rfl⟩)
  · rw [lbss_immE hcs] at hl; simp at hl
  · obtain ⟨l0, r0⟩ := q
    obtain ⟨i, x, _, _, rfl, rfl⟩ := kfam_mem.1 hq
    rw [lbss_immE hcs] at hl; simp at hl
theorem kfam_nf (d : List Node) {l : Lb} (h : l.fresh = false) : ofH (kfam d) l = .unused := kfam_no fun i e => by subst e; simp [KL, Lb.fresh] at h
theorem nodup_map' {α β : Type} {f : α → β} {l : List α} (h : l.Nodup) (hf : ∀ a ∈ l, ∀ b ∈ l, f a = f b → a = b) : (l.map f).Nodup := by
  rw [List.Nodup, List.pairwise_map]
  exact List.Pairwise.imp_of_mem (fun ha hb hne e => hne (hf _ ha _ hb e)) h
theorem WU_fresh {ls : List Lb} {ps : List (Nat × AV)} {rs : List (Lb × Row)} {env : Env} {H : Hp} {m : List (Lb × Lb)} (nf : ∀ l : Lb, l.fresh = false → H l = .unused) (e : EqL (rnF m) env ps) (r : RwL (rnF m) H rs)
    (hnd : ls.Nodup) (hf : ∀ l ∈ ls, l.fresh = true ∧ (rnF m l).fresh = true) (hinj : ∀ a ∈ ls, ∀ b ∈ ls, rnF m a = rnF m b → a = b) : WU ls (fun _ => false) ps rs env H m :=
  ⟨fun l h hu => absurd (nf l h) hu, e, r, nodup_map' hnd hinj, fun l hl => ⟨fun _ => (hf l hl).2, fun h => by rw [(hf l hl).1] at h; cases h⟩⟩
theorem mdR_RwL {ρ : Lb → Lb} {H : Hp} {d : List Node} {w : List (Tree × Int)} (h2 : H (ρ (.loc 2)) = .live ⟨1, [[.nil0]]⟩) (h4 : H (ρ (.loc 4)) = .live ⟨1, [[.sl (ρ (.loc 1000)) 5 0 d.length]]⟩) (h5 : H (ρ (.loc 1000)) = .live (renR ρ ⟨5, nrow d⟩)) (h6 : H (ρ (.loc 1001)) = .live ⟨5, immE (w.map itIV)⟩)
    (hk : ∀ i x, d[i]? = some x → x.kids ≠ [] → H (ρ (KL i)) = .live (krow x.kids)) : RwL ρ H (mdR d w) := by
  refine ⟨by rw [h2]; simp [renR, rens, ren], by rw [h4]; simp [renR, rens, ren], h5, by rw [h6, renR_immE], RwL_of fun q hq => ?_⟩
  obtain ⟨l, r⟩ := q
  obtain ⟨i, x, h1, h3, rfl, rfl⟩ := kfam_mem.1 hq
  simp only
  rw [hk i x h1 h3, krow, renR_immE]
theorem immE_cons (y : IV) (r : List IV) : immE (y :: r) = y.cells.map IV.av1 :: immE r := rfl
theorem itIV_cs (q : Tree × Int) : (itIV q).cells = [.bool q.1.text, .str q.1.s, .list (ivA q.1.attrs), .list (ivT q.1.kids), .int .i64 q.2] := rfl
def mdK (d : List Node) : List Lb := [.loc 2, .loc 4, .loc 1000, .loc 1001] ++ (kfam d).map Prod.fst
theorem mdR_K (d : List Node) (w : List (Tree × Int)) : (mdR d w).map Prod.fst = mdK d := by simp [mdK, mdR]
theorem mdK_eq (d : List Node) : mdK d = [.loc 2, .loc 4, .loc 1000, .loc 1001] ++ (kfam d).map Prod.fst := rfl
theorem mdK_mem {d : List Node} {l : Lb} (h : l ∈ mdK d) : l = .loc 2 ∨ l = .loc 4 ∨ l = .loc 1000 ∨ l = .loc 1001 ∨ ∃ i, l = KL i := by
  rw [mdK_eq] at h
  rcases List.mem_append.1 h with h | h
  · simp at h; rcases h with h | h | h | h <;> simp [h]
  · obtain ⟨i, h1, _⟩ := kfam_key h
    exact .inr (.inr (.inr (.inr ⟨i, h1⟩)))
theorem mdK_nodup (d : List Node) : (mdK d).Nodup := by
  rw [mdK_eq]
  refine List.nodup_append.2 ⟨by decide, kfam_keys d, ?_⟩
  intro a ha b hb e
  subst e
  obtain ⟨i, rfl, _⟩ := kfam_key hb
  simp [KL] at ha
theorem mdK_nodup8 (d : List Node) : (mdK d ++ [Lb.loc 8]).Nodup := by
  refine List.nodup_append.2 ⟨mdK_nodup d, by simp, ?_⟩
  intro a ha b hb e
  subst e
  simp only [List.mem_singleton] at hb
  rcases mdK_mem ha with h | h | h | h | ⟨i, h⟩ <;> (rw [hb] at h; simp [KL] at h)
theorem nrow_ren (ρ : Lb → Lb) (d : List Node) (h : ∀ i x, d[i]? = some x → x.kids ≠ [] → ρ (KL i) = KL i) : renR ρ ⟨5, nrow d⟩ = ⟨5, nrow d⟩ := by
  simp only [renR, Row.mk.injEq, true_and]
  refine List.ext_getElem? fun i => ?_
  rw [List.getElem?_map, nrow_get]
  cases hx : d[i]? with
  | none => rfl
  | some x =>
    simp only [Option.map_some, Option.some.injEq, ncells, kcell]
    split
    · simp [rens, ren]
    · rename_i hk
      simp [rens, ren, h i x hx hk]
theorem flatIt (l : List (Tree × Int)) : Flat (l.map itIV) := flat_map itIV (by
  intro x z hz cs
  simp only [itIV, IV.cells, List.mem_cons, List.not_mem_nil, or_false] at hz
  rcases hz with rfl | rfl | rfl | rfl | rfl <;> simp) l
theorem addKid_kids {d : List Node} {p n : Int} {m : Nat} (h : ∀ y ∈ d, y.kids.length ≤ m) : ∀ y ∈ addKid d p n, y.kids.length ≤ m + 1 := by
  intro y hy
  unfold addKid at hy
  split at hy
  · split at hy
    · rename_i x hx
      rcases List.mem_or_eq_of_mem_set hy with hy | rfl
      · have := h y hy; omega
      · have := h x (List.mem_of_getElem? hx)
        simp; omega
    · have := h y hy; omega
  · have := h y hy; omega
def c_topiaryref_MakeDoc (f_topiaryref_IsTree : Nat) : AC :=
(.seq (.reg [⟨(some 1), none, (.box (.t 0))⟩, ⟨(some 2), none, (.new [.nil0])⟩, ⟨(some 3), none, (.mov (.c (.int .i64 0)))⟩]) (.seq (.seq (.reg [⟨(some 11), none, (.load (some 4) (.t 1))⟩, ⟨(some 12), none, (.call f_topiaryref_IsTree [(.t 11)])⟩, ⟨(some 13), none, (.not (.t 12))⟩]) (.cond (.t 13) (.seq (.reg [⟨(some 14), none, (.bld [.nil0] [])⟩, ⟨none, none, (.store 1 (.t 2) (.t 14))⟩, ⟨(some 3), none, (.mov (.c (.int .i64 1)))⟩]) .ret) .skip)) (.seq (.reg [⟨(some 4), none, (.new [.nil0])⟩]) (.seq (.seq (.reg [⟨(some 15), none, (.load (some 4) (.t 1))⟩, ⟨(some 16), none, (.bld [(.bool false), (.str []), .nil0, .nil0, (.int .i64 0)] [(0, (4, (.t 15))), (4, (1, (.c (.int .i64 (-1)))))])⟩, ⟨(some 17), none, (.litso 5 [(.bool false), (.str []), .nil0, .nil0, (.int .i64 0)] [(0, (.t 16))])⟩, ⟨(some 5), none, (.mov (.t 17))⟩]) (.gh .weak (.block 0 (.loop (.seq (.seq (.reg [⟨(some 18), none, (.mov (.t 5))⟩, ⟨(some 19), none, (.len (.t 18))⟩, ⟨(some 20), none, (.bin .gtr (.t 19) (.c (.int .i64 0)))⟩]) (.cond (.t 20) .skip (.exit 0))) (.block 1 (.seq (.reg [⟨(some 21), none, (.mov (.t 5))⟩, ⟨(some 22), none, (.ixa (.t 21) (.c (.int .i64 0)) 5)⟩, ⟨(some 23), none, (.load (some 5) (.t 22))⟩, ⟨(some 6), none, (.new [(.bool false), (.str []), .nil0, .nil0, (.int .i64 0)])⟩, ⟨none, none, (.store 5 (.t 6) (.t 23))⟩]) (.seq (.reg [⟨(some 24), none, (.fld (.t 4) 0)⟩, ⟨(some 25), none, (.load none (.t 24))⟩, ⟨(some 26), none, (.len (.t 25))⟩, ⟨(some 7), none, (.mov (.t 26))⟩]) (.seq (.dreg [⟨(some 27), none, (.fld (.t 4) 0)⟩, ⟨(some 28), none, (.load none (.t 27))⟩, ⟨(some 29), none, (.fld (.t 6) 0)⟩, ⟨(some 30), none, (.fld (.t 29) 0)⟩, ⟨(some 31), none, (.load none (.t 30))⟩, ⟨(some 32), none, (.fld (.t 6) 0)⟩, ⟨(some 33), none, (.fld (.t 32) 1)⟩, ⟨(some 34), none, (.load none (.t 33))⟩, ⟨(some 35), none, (.fld (.t 6) 0)⟩, ⟨(some 36), none, (.fld (.t 35) 2)⟩, ⟨(some 37), none, (.load none (.t 36))⟩, ⟨(some 38), none, (.appi (.c .nil0) (.t 37) 2 32)⟩, ⟨(some 39), none, (.fld (.t 6) 4)⟩, ⟨(some 40), none, (.load none (.t 39))⟩, ⟨(some 41), none, (.bld [(.bool false), (.str []), .nil0, (.int .i64 0), .nil0] [(0, (1, (.t 31))), (1, (1, (.t 34))), (2, (1, (.t 38))), (3, (1, (.t 40)))])⟩, ⟨(some 42), none, (.litso 5 [(.bool false), (.str []), .nil0, (.int .i64 0), .nil0] [(0, (.t 41))])⟩, ⟨(some 43), none, (.app (.t 28) (.t 42) 5 80)⟩, ⟨(some 44), none, (.fld (.t 4) 0)⟩, ⟨none, none, (.store 1 (.t 44) (.t 43))⟩] [[], [0], [], [2], [3], [], [5], [6], [], [8], [9], [10], [], [12], [4, 7, 11, 13], [14], [1, 15, 11], [0, 1, 2, 3, 4, 5, 6, 7, 8, 9, 10, 11, 12, 13, 14, 15, 16], [17, 16, 16, 0, 1, 2, 3, 4, 5, 6, 7, 8, 9, 10, 11, 12, 13, 14, 15, 16]] [.no, .rw [.loc 4] [], .no, .no, .rw [.loc 6] [], .no, .no, .rw [.loc 6] [], .no, .no, .rw [.loc 6] [], .no, .no, .rw [.loc 6] [], .no, (.rw [] [(.loc 42)]), (.rw [.loc 42] [.loc 1000, .loc 43]), .no, (.rw [] [.loc 4])]) (.seq (.seq (.reg [⟨(some 45), none, (.fld (.t 6) 4)⟩, ⟨(some 46), none, (.load none (.t 45))⟩, ⟨(some 47), none, (.bin .geq (.t 46) (.c (.int .i64 0)))⟩]) (.cond (.t 47) (.dreg [⟨(some 48), none, (.fld (.t 4) 0)⟩, ⟨(some 49), none, (.load none (.t 48))⟩, ⟨(some 50), none, (.fld (.t 6) 4)⟩, ⟨(some 51), none, (.load none (.t 50))⟩, ⟨(some 52), none, (.fld (.t 4) 0)⟩, ⟨(some 53), none, (.load none (.t 52))⟩, ⟨(some 54), none, (.fld (.t 6) 4)⟩, ⟨(some 55), none, (.load none (.t 54))⟩, ⟨(some 56), none, (.ixa (.t 53) (.t 55) 5)⟩, ⟨(some 57), none, (.fld (.t 56) 4)⟩, ⟨(some 58), none, (.load none (.t 57))⟩, ⟨(some 59), none, (.mov (.t 7))⟩, ⟨(some 60), none, (.lits 1 1 [(.int .i64 0)] [(0, (.t 59))])⟩, ⟨(some 61), none, (.app (.t 58) (.t 60) 1 8)⟩, ⟨(some 62), none, (.ixa (.t 49) (.t 51) 5)⟩, ⟨(some 63), none, (.fld (.t 62) 4)⟩, ⟨none, none, (.store 1 (.t 63) (.t 61))⟩] [[], [0], [], [2], [], [4], [], [6], [5, 7], [8], [9], [], [11], [10, 12], [1, 3, 0, 1, 2, 3, 4, 5, 6, 7, 8, 9, 10, 11, 12, 13], [14, 0, 1, 2, 3, 4, 5, 6, 7, 8, 9, 10, 11, 12, 13], [15, 13, 13, 0, 1, 2, 3, 4, 5, 6, 7, 8, 9, 10, 11, 12, 13]] [.no, .rw [.loc 4] [], .no, .rw [.loc 6] [], .no, .rw [.loc 4] [], .no, .rw [.loc 6] [], .no, .no, (.rw [.loc 43] []), .no, .no, (.rw [] [.loc 61, .nest (.loc 1000) 0 4]), .no, .no, (.rw [] [.loc 43])]) .skip)) (.seq (.reg [⟨(some 8), none, (.mov (.c .nil0))⟩]) (.gh (.own 8 5) (.seq (.seq (.reg [⟨(some 64), none, (.fld (.t 6) 0)⟩, ⟨(some 65), none, (.fld (.t 64) 3)⟩, ⟨(some 66), none, (.load none (.t 65))⟩, ⟨(some 67), none, (.len (.t 66))⟩, ⟨(some 68), none, (.mov (.c (.int .i64 0)))⟩]) (.block 2 (.loop (.seq (.reg [⟨(some 69), none, (.bin .lss (.t 68) (.t 67))⟩]) (.seq (.cond (.t 69) .skip (.exit 2)) (.seq (.block 3 (.seq (.reg [⟨(some 70), none, (.ixa (.t 66) (.t 68) 4)⟩, ⟨(some 71), none, (.load (some 4) (.t 70))⟩, ⟨(some 10), none, (.new [(.bool false), (.str []), .nil0, .nil0])⟩, ⟨none, none, (.store 4 (.t 10) (.t 71))⟩]) (.reg [⟨(some 72), none, (.mov (.t 8))⟩, ⟨(some 73), none, (.load (some 4) (.t 10))⟩, ⟨(some 74), none, (.mov (.t 7))⟩, ⟨(some 75), none, (.bld [(.bool false), (.str []), .nil0, .nil0, (.int .i64 0)] [(0, (4, (.t 73))), (4, (1, (.t 74)))])⟩, ⟨(some 76), none, (.lits 1 5 [(.bool false), (.str []), .nil0, .nil0, (.int .i64 0)] [(0, (.t 75))])⟩, ⟨(some 77), none, (.app (.t 72) (.t 76) 5 80)⟩, ⟨(some 8), none, (.mov (.t 77))⟩]))) (.reg [⟨(some 78), none, (.bin .add (.t 68) (.c (.int .i64 1)))⟩, ⟨(some 68), none, (.mov (.t 78))⟩]))))))) (.reg [⟨(some 79), none, (.mov (.t 8))⟩, ⟨(some 80), none, (.mov (.t 5))⟩, ⟨(some 81), none, (.slc (.t 80) (some (.c (.int .i64 1))) none none 5)⟩, ⟨(some 82), none, (.app (.t 79) (.t 81) 5 80)⟩, ⟨(some 5), none, (.mov (.t 82))⟩])))))))))))))) (.gh .weak (.gh (.frzc (.loc 1000) (.loc 4) 0) (.seq (.reg [⟨(some 83), none, (.load (some 1) (.t 4))⟩, ⟨none, none, (.store 1 (.t 2) (.t 83))⟩, ⟨(some 3), none, (.mov (.c (.int .i64 0)))⟩]) .ret)))))))
theorem md8_ofH (d : List Node) (w : List (Tree × Int)) (r : Row) : ofH (mdR d w ++ [(.loc 8, r)]) = upd (ofH (mdR d w)) (.loc 8) (.live r) := by
  funext l
  rw [ofH_append]
  by_cases e : l = .loc 8
  · subst e
    have : ofH (mdR d w) (.loc 8) = .unused := ofH_none fun hm => by
      rw [mdR_K] at hm
      rcases mdK_mem hm with h | h | h | h | ⟨i, h⟩ <;> simp [KL] at h
    rw [this]
    simp [ofH, upd]
  · rw [upd_ne _ _ e]
    cases h : ofH (mdR d w) l with
    | unused => simp [ofH, upd, e, Hp.none]
    | dead => rfl
    | live r => rfl
theorem md8_lbs (d : List Node) (w : List (Tree × Int)) (xs : List IV) : ∀ q ∈ mdR d w ++ [((.loc 8 : Lb), (⟨5, immE xs⟩ : Row))], ∀ cs ∈ q.2.els, ∀ l ∈ lbss cs, l ∈ mdK d ++ [Lb.loc 8] := by
  intro q hq cs hcs l hl
  rcases List.mem_append.1 hq with hq | hq
  · have := mdR_lbs d w q hq cs hcs l hl
    rw [mdR_K] at this
    exact List.mem_append.2 (.inl this)
  · simp only [List.mem_singleton] at hq; subst hq
    rw [lbss_immE hcs] at hl; simp at hl
theorem md8_mem {d : List Node} {l : Lb} (h : l ∈ mdK d ++ [Lb.loc 8]) : l = .loc 2 ∨ l = .loc 4 ∨ l = .loc 1000 ∨ l = .loc 1001 ∨ l = .loc 8 ∨ ∃ i, l = KL i := by
  rcases List.mem_append.1 h with h | h
  · rcases mdK_mem h with h | h | h | h | h <;> simp [h]
  · simp only [List.mem_singleton] at h; simp [h]
theorem inj43 {a b : Lb} (ha : a = .loc 2 ∨ a = .loc 4 ∨ a = .loc 1000 ∨ a = .loc 1001 ∨ a = .loc 8 ∨ ∃ i, a = KL i) (hb : b = .loc 2 ∨ b = .loc 4 ∨ b = .loc 1000 ∨ b = .loc 1001 ∨ b = .loc 8 ∨ ∃ i, b = KL i) :
    rnF [(.loc 1000, .loc 43)] a = rnF [(.loc 1000, .loc 43)] b → a = b := by
  rcases ha with rfl | rfl | rfl | rfl | rfl | ⟨i, rfl⟩ <;> rcases hb with rfl | rfl | rfl | rfl | rfl | ⟨j, rfl⟩ <;> simp [KL, rnF]
theorem fr43 {a : Lb} (ha : a = .loc 2 ∨ a = .loc 4 ∨ a = .loc 1000 ∨ a = .loc 1001 ∨ a = .loc 8 ∨ ∃ i, a = KL i) : a.fresh = true ∧ (rnF [(.loc 1000, .loc 43)] a).fresh = true := by
  rcases ha with rfl | rfl | rfl | rfl | rfl | ⟨i, rfl⟩ <;> simp [KL, rnF, Lb.fresh]
theorem injq {q : Nat} {a b : Lb} (ha : a = .loc 2 ∨ a = .loc 4 ∨ a = .loc 1000 ∨ a = .loc 1001 ∨ a = .loc 8 ∨ ∃ i, a = KL i) (hb : b = .loc 2 ∨ b = .loc 4 ∨ b = .loc 1000 ∨ b = .loc 1001 ∨ b = .loc 8 ∨ ∃ i, b = KL i) :
    rnF [(.loc 1000, .loc 43), (KL q, .loc 61)] a = rnF [(.loc 1000, .loc 43), (KL q, .loc 61)] b → a = b := by
  rcases ha with rfl | rfl | rfl | rfl | rfl | ⟨i, rfl⟩ <;> rcases hb with rfl | rfl | rfl | rfl | rfl | ⟨j, rfl⟩ <;> simp [KL, rnF]
  all_goals (try split) <;> (try split) <;> simp_all
theorem frq {q : Nat} {a : Lb} (ha : a = .loc 2 ∨ a = .loc 4 ∨ a = .loc 1000 ∨ a = .loc 1001 ∨ a = .loc 8 ∨ ∃ i, a = KL i) : a.fresh = true ∧ (rnF [(.loc 1000, .loc 43), (KL q, .loc 61)] a).fresh = true := by
  rcases ha with rfl | rfl | rfl | rfl | rfl | ⟨i, rfl⟩ <;> simp [KL, rnF, Lb.fresh]
  split <;> simp [Lb.fresh]
def kX (d : List Node) : Lb → Option (Nat × List IV) := fun l => match l with
  | .nest l i j => if l = .loc 1000 ∧ j = 4 then (d[i]?).bind fun x => if x.kids = [] then none else some (1, x.kids.map intIV) else none
  | _ => none
theorem kX_at {d : List Node} {i : Nat} {x : Node} (h : d[i]? = some x) (hk : x.kids ≠ []) : kX d (KL i) = some (1, x.kids.map intIV) := by
  simp [kX, KL, h, hk]
theorem kX_spec {d : List Node} {l : Lb} {sz : Nat} {xs : List IV} (h : kX d l = some (sz, xs)) : ∃ i x, d[i]? = some x ∧ x.kids ≠ [] ∧ l = KL i ∧ sz = 1 ∧ xs = x.kids.map intIV := by
  unfold kX at h
  split at h
  · rename_i l0 i j
    split at h
    · rename_i hc
      obtain ⟨rfl, rfl⟩ := hc
      obtain ⟨x, h1, h2⟩ := Option.bind_eq_some_iff.1 h
      split at h2
      · cases h2
      · rename_i hk
        simp only [Option.some.injEq, Prod.mk.injEq] at h2
        exact ⟨i, x, h1, hk, rfl, h2.1.symm, h2.2.symm⟩
    · cases h
  · cases h
theorem kX_loc (d : List Node) (n : Nat) : kX d (.loc n) = none := rfl
theorem nrow_data (d : List Node) : ((nrow d).map fun cs => cs.map (nrm (fun l => decide (l = .loc 1000)) (.loc 1000))).map (fzVs (kX d)) = immE (d.map Node.iv) := by
  refine List.ext_getElem? fun i => ?_
  rw [List.getElem?_map, List.getElem?_map, nrow_get, immE_get, List.getElem?_map]
  cases hx : d[i]? with
  | none => rfl
  | some x =>
    have hn : nrm (fun l => decide (l = Lb.loc 1000)) (.loc 1000) = norm := by funext z; simp [nrm]
    simp only [Option.map_some, Option.some.injEq, Node.cells_eq, Node.cs, ncells, kcell, hn]
    by_cases hk : x.kids = []
    · simp [hk, norm, fzVs, fzV, IV.av1]
    · rw [if_neg hk]
      simp only [List.map_cons, List.map_nil, norm, fzVs, fzV, kX_at hx hk, IV.av1]
      simp
      exact List.take_of_length_le (by simp)
/-- What holds at the head. -/
structure MdS (x : Tree) where
  d : List Node
  l : List (Tree × Int)
  hw : whole d l = docOf x
  hp : ∀ y ∈ l, y.2 < (d.length : Int)
  hc : d.length + cntT (l.map Prod.fst) = x.cnt
  hb : wtT (l.map Prod.fst) ≤ B
  hk : ∀ y ∈ d, y.kids.length ≤ d.length
theorem pMakeDoc {P : Program} {G : Nat → Option (List IV)} {f_topiaryref_MakeDoc f_topiaryref_IsTree : Nat} (hF : compF P G f_topiaryref_MakeDoc = some (84, [((some (some 1)), 2), (none, 3)], (c_topiaryref_MakeDoc f_topiaryref_IsTree).bare)) (x : Tree) (hx : x.wt ≤ B)
    (hI : PureC P G f_topiaryref_IsTree [x.av] (.bool x.good)) : PureC P G f_topiaryref_MakeDoc [x.av] (.tup [Doc.av (makeD x).1, .int .i64 (makeD x).2]) := by
  refine pure_of_goN hF (by simp) (by simp [lbss, AV.lbs, Tree.av]) (by simp [AV.lbs, lbss, Doc.av]) ?_
  have hBv : B = 1073741824 := rfl
  unfold c_topiaryref_MakeDoc
  simp only [↓aX, evp, evq, evl, boxK, stillV, binV, AV.cells, mP, loadV, storeV, ldV, AV.stb, AV.one, IV.av1, Lb.app, Lb.fresh, reduceCtorEq, ptrL, appL, fillA, chunks, ivs, AV.iv, mkE, if_false, if_true, List.not_mem_nil, forall_eq, beq_self_eq_true, List.isEmpty_nil, Nat.reduceEqDiff, Nat.reduceLT, Nat.reduceLeDiff, Nat.reduceAdd, Nat.reduceMul, Int.reduceToNat, Int.reduceLE, Int.reduceLT, Tree.av]
  refine callT_pure hI ?_
  cases hg : x.good with
  | false =>
    simp only [↓aX, evp, evq, evl, boxK, stillV, binV, AV.cells, mP, loadV, storeV, ldV, AV.stb, AV.one, IV.av1, Lb.app, Lb.fresh, reduceCtorEq, ptrL, appL, fillA, chunks, ivs, AV.iv, mkE, if_false, if_true, List.not_mem_nil, forall_eq, beq_self_eq_true, List.isEmpty_nil, Nat.reduceEqDiff, Nat.reduceLT, Nat.reduceLeDiff, Nat.reduceAdd, Nat.reduceMul, Int.reduceToNat, Int.reduceLE, Int.reduceLT, Bool.not_false, retm2_r]
    simp [norm, norms, makeD, hg, Doc.av]
  | true =>
    simp only [↓aX, evp, evq, evl, boxK, stillV, binV, AV.cells, mP, loadV, storeV, ldV, AV.stb, AV.one, IV.av1, Lb.app, Lb.fresh, reduceCtorEq, ptrL, appL, fillA, chunks, ivs, AV.iv, mkE, if_false, if_true, List.not_mem_nil, forall_eq, beq_self_eq_true, List.isEmpty_nil, Nat.reduceEqDiff, Nat.reduceLT, Nat.reduceLeDiff, Nat.reduceAdd, Nat.reduceMul, Int.reduceToNat, Int.reduceLE, Int.reduceLT, Bool.not_true]
    have hcnt := x.cnt_le
    rw [litV_in (sz := 5) (d := 17) (cs := [.bool x.text, .str x.s, .list (ivA x.attrs), .list (ivT x.kids), .int .i64 (-1)]) (by simp [fillA, AV.cells, AV.stb, AV.one]) (by simp [upd_at, Hp.none]) rfl (by decide)]
    simp only [↓aX, evp, evq, evl, boxK, stillV, binV, AV.cells, mP, loadV, storeV, ldV, AV.stb, AV.one, IV.av1, Lb.app, Lb.fresh, reduceCtorEq, ptrL, appL, fillA, chunks, ivs, AV.iv, mkE, if_false, if_true, List.not_mem_nil, forall_eq, beq_self_eq_true, List.isEmpty_nil, Nat.reduceEqDiff, Nat.reduceLT, Nat.reduceLeDiff, Nat.reduceAdd, Nat.reduceMul, Int.reduceToNat, Int.reduceLE, Int.reduceLT]
    rw [go_weak]
    refine ⟨_, _, weaker_ownc (q := .loc 4) (cs := [.nil0]) (j := 0) (d := 1000) (sz := 5) (by simp [upd_at]) rfl (by simp [upd_at, Hp.none]) (by decide), ?_⟩
    simp only [↓aX, evp, evq, evl, boxK, stillV, binV, AV.cells, mP, loadV, storeV, ldV, AV.stb, AV.one, IV.av1, Lb.app, Lb.fresh, reduceCtorEq, ptrL, appL, fillA, chunks, ivs, AV.iv, mkE, if_false, if_true, List.not_mem_nil, forall_eq, beq_self_eq_true, List.isEmpty_nil, Nat.reduceEqDiff, Nat.reduceLT, Nat.reduceLeDiff, Nat.reduceAdd, Nat.reduceMul, Int.reduceToNat, Int.reduceLE, Int.reduceLT]
    refine loop_used (σ := MdS x) (fun q => mdK q.d) (fun _ _ => false)
      (fun q => [(2, .ptr (.loc 2) 1 0 0), (4, .ptr (.loc 4) 1 0 0), (5, .sl (.loc 1001) 5 0 q.l.length)]) (fun q => mdR q.d q.l) (fun q => cntT (q.l.map Prod.fst))
      { d := [], l := [(x, -1)], hw := whole_start x, hp := by simp, hc := by simp [cntT], hb := by simp [wtT, hx], hk := by simp } (fun q => mdR_K _ _) (fun q => by simp [lbss, AV.lbs, mdK]) (fun q => by rw [← mdR_K _ q.l]; exact mdR_lbs q.d q.l) ⟨[(.loc 1001, .loc 17)], ?_⟩ ?_
    · refine WU_fresh ?_ ?_ ?_ (mdK_nodup _) ?_ ?_
      · intro l hf
        cases l <;> simp_all [Lb.fresh, upd_at, Hp.none]
      · simp [EqL, rnF, ren, put]
      · refine mdR_RwL ?_ ?_ ?_ ?_ ?_
        · simp [rnF, upd_at]
        · simp [rnF, upd_at]
        · simp [rnF, upd_at, renR, nrow]
        · simp [rnF, upd_at, immE, itIV, IV.cells, IV.av1]
        · intro i y h; simp at h
      · intro l hl
        rcases mdK_mem hl with rfl | rfl | rfl | rfl | ⟨i, rfl⟩ <;> simp [KL, Lb.fresh, rnF]
      · intro a ha b hb
        rcases mdK_mem ha with rfl | rfl | rfl | rfl | ⟨i, rfl⟩ <;> rcases mdK_mem hb with rfl | rfl | rfl | rfl | ⟨j, rfl⟩ <;> simp [KL, rnF]
    · rintro ⟨d, l, hw, hp, hc, hb, hkd⟩
      rw [ofU_f]
      simp only [↓aX, evp, evq, evl, boxK, stillV, binV, AV.cells, mP, loadV, storeV, ldV, AV.stb, AV.one, IV.av1, Lb.app, Lb.fresh, reduceCtorEq, ptrL, appL, fillA, chunks, ivs, AV.iv, mkE, if_false, if_true, List.not_mem_nil, forall_eq, beq_self_eq_true, List.isEmpty_nil, Nat.reduceEqDiff, Nat.reduceLT, Nat.reduceLeDiff, Nat.reduceAdd, Nat.reduceMul, Int.reduceToNat, Int.reduceLE, Int.reduceLT, mdR, List.cons_append, List.nil_append, ofH_nil, ofH_cons]
      cases l with
      | nil =>
        rw [whole_nil] at hw
        subst hw
        simp only [List.length_nil, show decide (((0 : Nat) : Int) > 0) = false from rfl, ↓aX, evp, evq, evl, boxK, stillV, binV, AV.cells, mP, loadV, storeV, ldV, AV.stb, AV.one, IV.av1, Lb.app, Lb.fresh, reduceCtorEq, ptrL, appL, fillA, chunks, ivs, AV.iv, mkE, if_false, if_true, List.not_mem_nil, forall_eq, beq_self_eq_true, List.isEmpty_nil, Nat.reduceEqDiff, Nat.reduceLT, Nat.reduceLeDiff, Nat.reduceAdd, Nat.reduceMul, Int.reduceToNat, Int.reduceLE, Int.reduceLT]
        have hul : ∀ n, ofH (kfam (docOf x)) (.loc n) = .unused := kfam_loc _
        rw [go_weak]
        refine ⟨_, _, (weaker_norm (fun l => decide (l = .loc 1000))).trans (weaker_fzU (kX (docOf x)) [(2, .ptr (.loc 2) 1 0 0), (4, .ptr (.loc 4) 1 0 0)]
          [(.loc 2, ⟨1, [[.nil0]]⟩), (.loc 4, ⟨1, [[.sl (.loc 1000) 5 0 (docOf x).length]]⟩), (.loc 1000, ⟨5, immE ((docOf x).map Node.iv)⟩)] [] ?_ ?_ ?_ ?_), ?_⟩
        · intro l sz xs h
          obtain ⟨i, y, h1, h2, rfl, rfl, rfl⟩ := kX_spec h
          have := kfam_at h1 h2
          refine ⟨?_, by simp [KL, Lb.fresh], flatI _⟩
          have e : ∀ n, KL i ≠ .loc n := fun n => by simp [KL]
          unfold mapH
          simp only [upd, e, if_false, this, krow]
          congr 2
          conv => rhs; rw [← List.map_id (immE (y.kids.map intIV))]
          refine List.map_congr_left fun cs hcs => ?_
          have hn : nrm (fun l => decide (l = .loc 1000)) (KL i) = id := by funext z; simp [nrm, e]
          rw [hn]; simp
        · simp [lbss, AV.lbs]
        · rintro q hq cs hcs l hl
          simp only [List.mem_cons, List.not_mem_nil, or_false] at hq
          rcases hq with rfl | rfl | rfl
          · simp only [List.mem_singleton] at hcs; subst hcs; simp [lbss, AV.lbs] at hl
          · simp only [List.mem_singleton] at hcs; subst hcs; simp [lbss, AV.lbs] at hl; subst hl; simp
          · rw [lbss_immE hcs] at hl; simp at hl
        · refine ⟨?_, ?_, ?_, by simp [rnF], fun l hl => ⟨id, fun _ => rfl⟩⟩
          · intro l hf hu
            exfalso; apply hu
            have h1 := kfam_nf (docOf x) hf
            have h2 : kX (docOf x) l = none := by
              cases h3 : kX (docOf x) l with
              | none => rfl
              | some q =>
                obtain ⟨i, y, _, _, rfl, _⟩ := kX_spec (sz := q.1) (xs := q.2) h3
                simp [KL, Lb.fresh] at hf
            have e : ∀ n, l ≠ .loc n := fun n h => by subst h; simp [Lb.fresh] at hf
            simp [fzH, h2, mapH, upd, e, h1]
          · simp [EqL, rnF, ren, put, fzV]
          · refine ⟨?_, ?_, ?_, trivial⟩
            · simp [rnF, fzH, kX_loc, mapH, upd_at, fzVs, fzV, nrm, renR, rens, ren]
            · simp [rnF, fzH, kX_loc, mapH, upd_at, fzVs, fzV, nrm, renR, rens, ren]
            · have := nrow_data (docOf x)
              simp only [rnF, renR_immE]
              unfold fzH
              simp only [kX_loc]
              unfold mapH
              simp only [upd_at, Lb.loc.injEq, Nat.reduceEqDiff, if_true, if_false, this]
        · rw [ofU_f]
          simp only [↓aX, evp, evq, evl, boxK, stillV, binV, AV.cells, mP, loadV, storeV, ldV, AV.stb, AV.one, IV.av1, Lb.app, Lb.fresh, reduceCtorEq, ptrL, appL, fillA, chunks, ivs, AV.iv, mkE, if_false, if_true, List.not_mem_nil, forall_eq, beq_self_eq_true, List.isEmpty_nil, Nat.reduceEqDiff, Nat.reduceLT, Nat.reduceLeDiff, Nat.reduceAdd, Nat.reduceMul, Int.reduceToNat, Int.reduceLE, Int.reduceLT, ofH_nil, ofH_cons]
          refine ⟨5, (docOf x).map Node.iv, 0, (docOf x).length, [.sl (.loc 1000) 5 0 (docOf x).length], rfl, rfl, rfl, by simp, by simp, flatN _, ?_⟩
          simp only [↓aX, evp, evq, evl, boxK, stillV, binV, AV.cells, mP, loadV, storeV, ldV, AV.stb, AV.one, IV.av1, Lb.app, Lb.fresh, reduceCtorEq, ptrL, appL, fillA, chunks, ivs, AV.iv, mkE, if_false, if_true, List.not_mem_nil, forall_eq, beq_self_eq_true, List.isEmpty_nil, Nat.reduceEqDiff, Nat.reduceLT, Nat.reduceLeDiff, Nat.reduceAdd, Nat.reduceMul, Int.reduceToNat, Int.reduceLE, Int.reduceLT, retm2_r, norm, norms, makeD, hg, Doc.av, List.length_map]
          simp
          exact List.take_of_length_le (by simp)
      | cons it r =>
        obtain ⟨t, p⟩ := it
        have hdc : t.cnt + cntT (r.map Prod.fst) + d.length = x.cnt := by simp only [List.map_cons, cntT] at hc; omega
        have hbt : t.wt + wtT (r.map Prod.fst) ≤ B := by simpa only [List.map_cons, wtT] using hb
        have hpd : p < d.length := hp (t, p) (by simp)
        have htw := t.wt_eq
        have hal := wtA_len t.attrs
        have hkl := wtT_len t.kids
        have htc := t.cnt_eq
        have hul : ∀ n, ofH (kfam d) (.loc n) = .unused := kfam_loc d
        have hAI : (Elsz 2 (ivA t.attrs) ∧ Flt (ivA t.attrs) ∧ (ivA t.attrs).length * 32 ≤ 140737488355328 ∧ 0 < 32 ∧ 0 < 2) := ⟨elszA _, flatA _, by rw [ivA_len]; omega, by decide, by decide⟩
        simp only [List.length_cons, show decide (((r.length + 1 : Nat) : Int) > 0) = true by simp, ↓aX, evp, evq, evl, boxK, stillV, binV, AV.cells, mP, loadV, storeV, ldV, AV.stb, AV.one, IV.av1, Lb.app, Lb.fresh, reduceCtorEq, ptrL, appL, fillA, chunks, ivs, AV.iv, mkE, if_false, if_true, List.not_mem_nil, forall_eq, beq_self_eq_true, List.isEmpty_nil, Nat.reduceEqDiff, Nat.reduceLT, Nat.reduceLeDiff, Nat.reduceAdd, Nat.reduceMul, Int.reduceToNat, Int.reduceLE, Int.reduceLT, Nat.zero_lt_succ, immE_cons, itIV_cs, List.length_map, hul]
        refine ⟨rfl, ?_⟩
        rw [if_pos hAI]
        simp only [↓aX, evp, evq, evl, boxK, stillV, binV, AV.cells, mP, loadV, storeV, ldV, AV.stb, AV.one, IV.av1, Lb.app, Lb.fresh, reduceCtorEq, ptrL, appL, fillA, chunks, ivs, AV.iv, mkE, if_false, if_true, List.not_mem_nil, forall_eq, beq_self_eq_true, List.isEmpty_nil, Nat.reduceEqDiff, Nat.reduceLT, Nat.reduceLeDiff, Nat.reduceAdd, Nat.reduceMul, Int.reduceToNat, Int.reduceLE, Int.reduceLT, hul]
        rw [litV_in (sz := 5) (d := 42) (cs := [.bool t.text, .str t.s, .list (ivA t.attrs), .int .i64 p, .nil0]) (by simp [fillA, AV.cells, AV.stb, AV.one]) (by simp [upd_at, hul]) rfl (by decide)]
        simp only [↓aX, evp, evq, evl, boxK, stillV, binV, AV.cells, mP, loadV, storeV, ldV, AV.stb, AV.one, IV.av1, Lb.app, Lb.fresh, reduceCtorEq, ptrL, appL, fillA, chunks, ivs, AV.iv, mkE, if_false, if_true, List.not_mem_nil, forall_eq, beq_self_eq_true, List.isEmpty_nil, Nat.reduceEqDiff, Nat.reduceLT, Nat.reduceLeDiff, Nat.reduceAdd, Nat.reduceMul, Int.reduceToNat, Int.reduceLE, Int.reduceLT, hul]
        rw [app_src (sz := 5) (b := 80) (d := 43) (l := .loc 1000) (l2 := .loc 42) (els := nrow d) (cs := [.bool t.text, .str t.s, .list (ivA t.attrs), .int .i64 p, .nil0]) (by simp [upd_at]) (nrow_len d) (by simp [upd_at]) (by intro y hy; simp only [List.mem_cons, List.not_mem_nil, or_false] at hy; rcases hy with rfl | rfl | rfl | rfl | rfl <;> rfl) (by omega) (by decide) (by simp [Lb.app, Lb.fresh]) (by simp [Lb.app, Lb.fresh, upd_at, hul])]
        simp only [↓aX, evp, evq, evl, boxK, stillV, binV, AV.cells, mP, loadV, storeV, ldV, AV.stb, AV.one, IV.av1, Lb.app, Lb.fresh, reduceCtorEq, ptrL, appL, fillA, chunks, ivs, AV.iv, mkE, if_false, if_true, List.not_mem_nil, forall_eq, beq_self_eq_true, List.isEmpty_nil, Nat.reduceEqDiff, Nat.reduceLT, Nat.reduceLeDiff, Nat.reduceAdd, Nat.reduceMul, Int.reduceToNat, Int.reduceLE, Int.reduceLT, hul]
        obtain ⟨d2, hd2⟩ : ∃ d2, d2 = addKid (d ++ [⟨t.text, t.s, t.attrs, p, []⟩]) p d.length := ⟨_, rfl⟩
        have hl2 : d2.length = d.length + 1 := by rw [hd2, addKid_len]; simp
        have hw2 : whole d2 (t.kids.map (fun k => (k, (d.length : Int))) ++ r) = docOf x := by rw [hd2, ← whole_step d t p r hpd (fun y hy => hp y (by simp [hy]))]; exact hw
        have hmf : (t.kids.map fun k => (k, (d.length : Int))).map Prod.fst = t.kids := by rw [List.map_map, show (Prod.fst ∘ fun k : Tree => (k, (d.length : Int))) = id from rfl, List.map_id]
        have hp2 : ∀ y ∈ t.kids.map (fun k => (k, (d.length : Int))) ++ r, y.2 < (d2.length : Int) := by
          intro y hy
          rcases List.mem_append.1 hy with hy | hy
          · obtain ⟨k, _, rfl⟩ := List.mem_map.1 hy
            simp only; omega
          · have := hp y (by simp [hy]); omega
        have hc2 : d2.length + cntT ((t.kids.map (fun k => (k, (d.length : Int))) ++ r).map Prod.fst) = x.cnt := by rw [List.map_append, hmf, cntT_app]; omega
        have hb2 : wtT ((t.kids.map (fun k => (k, (d.length : Int))) ++ r).map Prod.fst) ≤ B := by rw [List.map_append, hmf, wtT_app]; omega
        have hk2 : ∀ y ∈ d2, y.kids.length ≤ d2.length := by
          rw [hl2, hd2]
          refine addKid_kids ?_
          intro y hy
          rcases List.mem_append.1 hy with hy | hy
          · exact hkd y hy
          · simp only [List.mem_singleton] at hy; subst hy; simp
        have hrl := wtT_len (r.map Prod.fst)
        rw [List.length_map] at hrl
        cases hp0 : decide (p ≥ 0) with
        | false =>
          have hp0' : ¬ 0 ≤ p := of_decide_eq_false hp0
          simp only [↓aX, evp, evq, evl, boxK, stillV, binV, AV.cells, mP, loadV, storeV, ldV, AV.stb, AV.one, IV.av1, Lb.app, Lb.fresh, reduceCtorEq, ptrL, appL, fillA, chunks, ivs, AV.iv, mkE, if_false, if_true, List.not_mem_nil, forall_eq, beq_self_eq_true, List.isEmpty_nil, Nat.reduceEqDiff, Nat.reduceLT, Nat.reduceLeDiff, Nat.reduceAdd, Nat.reduceMul, Int.reduceToNat, Int.reduceLE, Int.reduceLT, hul, ivT_len]
          refine ⟨by rintro l (rfl | rfl) <;> simp [Lb.fam], ?_⟩
          refine loop_used (σ := { j : Nat // j ≤ t.kids.length }) (fun _ => mdK d2 ++ [.loc 8]) (fun _ _ => false)
            (fun j => [(2, .ptr (.loc 2) 1 0 0), (4, .ptr (.loc 4) 1 0 0), (5, .sl (.loc 1001) 5 0 (r.length + 1)), (7, .int .i64 d.length), (8, .sl (.loc 8) 5 0 j.1), (66, .list (ivT t.kids)), (67, .int .i64 t.kids.length), (68, .int .i64 j.1)])
            (fun j => mdR d2 ((t, p) :: r) ++ [(.loc 8, ⟨5, immE (((t.kids.take j.1).map fun k => (k, (d.length : Int))).map itIV)⟩)]) (fun j => t.kids.length - j.1) ⟨0, Nat.zero_le _⟩ (fun _ => by rw [List.map_append, mdR_K]; rfl) (fun j => by simp [lbss, AV.lbs, mdK]) (fun j => md8_lbs d2 _ _) ⟨[(.loc 1000, .loc 43)], ?_⟩ ?_
          · refine WU_fresh ?_ ?_ (RwL_app (mdR_RwL ?_ ?_ ?_ ?_ ?_) ⟨?_, trivial⟩) (mdK_nodup8 _) ?_ ?_
            · intro l hf
              have := kfam_nf d hf
              have hne : ∀ i, l ≠ .nest (.loc 1000) i 4 := fun i e => by subst e; simp [Lb.fresh] at hf
              cases l <;> simp_all [Lb.fresh, upd_at]
            · simp [EqL, rnF, ren, put, ivT_len, KL]
            · simp [rnF, upd_at, KL]
            · simp [rnF, upd_at, KL, hl2]
            · rw [nrow_ren _ _ (fun i y _ _ => by simp [rnF, KL])]
              have : nrow d2 = nrow d ++ [[.bool t.text, .str t.s, .list (ivA t.attrs), .int .i64 p, .nil0]] := by
                rw [hd2, addKid, if_neg hp0']; simp [nrow, List.mapIdx_append, ncells, kcell]
              simp [rnF, upd_at, this]
            · simp [rnF, upd_at, KL, immE, itIV, IV.cells, IV.av1]
            · intro i y h1 h2
              rw [hd2, addKid, if_neg hp0'] at h1
              have h3 : d[i]? = some y := by
                by_cases hi : i < d.length
                · rwa [List.getElem?_append_left hi] at h1
                · rw [List.getElem?_append_right (by omega)] at h1
                  cases hq : i - d.length with
                  | zero => rw [hq] at h1; simp at h1; subst h1; simp at h2
                  | succ n => rw [hq] at h1; simp at h1
              have := kfam_at h3 h2
              simp [rnF, KL, upd_at] at this ⊢
              exact this
            · simp [rnF, upd_at, KL, immE, renR]
            · intro l hl
              exact fr43 (md8_mem hl)
            · exact fun a ha b hb => inj43 (md8_mem ha) (md8_mem hb)
          · rintro ⟨j, hj⟩
            have hul' : ∀ n, ofH (kfam d2) (.loc n) = .unused := kfam_loc _
            rw [ofU_f]
            have hH : ofH (mdR d2 ((t, p) :: r) ++ [(.loc 8, ⟨5, immE (((t.kids.take j).map fun k => (k, (d.length : Int))).map itIV)⟩)]) =
                upd (ofH (mdR d2 ((t, p) :: r))) (.loc 8) (.live ⟨5, immE (((t.kids.take j).map fun k => (k, (d.length : Int))).map itIV)⟩) := md8_ofH _ _ _
            rw [hH]
            have hjl : (((t.kids.take j).map fun k => (k, (d.length : Int))).map itIV).length = j := by rw [List.length_map, List.length_map, List.length_take]; omega
            simp only [↓aX, evp, evq, evl, boxK, stillV, binV, AV.cells, mP, loadV, storeV, ldV, AV.stb, AV.one, IV.av1, Lb.app, Lb.fresh, reduceCtorEq, ptrL, appL, fillA, chunks, ivs, AV.iv, mkE, if_false, if_true, List.not_mem_nil, forall_eq, beq_self_eq_true, List.isEmpty_nil, Nat.reduceEqDiff, Nat.reduceLT, Nat.reduceLeDiff, Nat.reduceAdd, Nat.reduceMul, Int.reduceToNat, Int.reduceLE, Int.reduceLT, mdR, List.cons_append, List.nil_append, ofH_nil, ofH_cons, ivT_len]
            by_cases hlt : j < t.kids.length
            · rw [show decide ((j : Int) < (t.kids.length : Int)) = true by simpa using hlt]
              obtain ⟨k, hk⟩ : ∃ k, t.kids[j]? = some k := ⟨_, List.getElem?_eq_getElem hlt⟩
              have hw : IntKind.i64.wrap ((j : Int) + 1) = ((j + 1 : Nat) : Int) := wrap64 (by omega) (by omega)
              have hsn : ((t.kids.take (j + 1)).map fun k => (k, (d.length : Int))).map itIV = ((t.kids.take j).map fun k => (k, (d.length : Int))).map itIV ++ [itIV (k, (d.length : Int))] := by rw [List.take_add_one, hk]; simp
              simp only [↓aX, evp, evq, evl, boxK, stillV, binV, AV.cells, mP, loadV, storeV, ldV, AV.stb, AV.one, IV.av1, Lb.app, Lb.fresh, reduceCtorEq, ptrL, appL, fillA, chunks, ivs, AV.iv, mkE, if_false, if_true, List.not_mem_nil, forall_eq, beq_self_eq_true, List.isEmpty_nil, Nat.reduceEqDiff, Nat.reduceLT, Nat.reduceLeDiff, Nat.reduceAdd, Nat.reduceMul, Int.reduceToNat, Int.reduceLE, Int.reduceLT, ivT_get, hk, elszT, Tree.cells_eq, Tree.cs, hul']
              rw [app_loc 5 80 77 8 (((t.kids.take j).map fun k => (k, (d.length : Int))).map itIV) (.agg [.bool k.text, .str k.s, .list (ivA k.attrs), .list (ivT k.kids), .int .i64 d.length]) (by simp [upd_at]) hjl rfl (by simp [IV.cells]) (by omega) (by decide) (by decide) (by simp [upd_at, hul'])]
              simp only [↓aX, evp, evq, evl, boxK, stillV, binV, AV.cells, mP, loadV, storeV, ldV, AV.stb, AV.one, IV.av1, Lb.app, Lb.fresh, reduceCtorEq, ptrL, appL, fillA, chunks, ivs, AV.iv, mkE, if_false, if_true, List.not_mem_nil, forall_eq, beq_self_eq_true, List.isEmpty_nil, Nat.reduceEqDiff, Nat.reduceLT, Nat.reduceLeDiff, Nat.reduceAdd, Nat.reduceMul, Int.reduceToNat, Int.reduceLE, Int.reduceLT, hw]
              refine ⟨⟨j + 1, hlt⟩, by simp only; omega, [(.loc 8, .loc 77)], ?_⟩
              show WU _ _ _ (mdR d2 ((t, p) :: r) ++ [(.loc 8, _)]) _ _ _
              refine WU_fresh ?_ ?_ (RwL_app (mdR_RwL ?_ ?_ ?_ ?_ ?_) ⟨?_, trivial⟩) (mdK_nodup8 _) ?_ ?_
              · intro l hf
                have := kfam_nf d2 hf
                cases l <;> simp_all [Lb.fresh, upd_at]
              · simp [EqL, rnF, ren, put, ivT_len, KL]
              · simp [rnF, upd_at, KL]
              · simp [rnF, upd_at, KL]
              · rw [nrow_ren _ _ (fun i y _ _ => by simp [rnF, KL])]
                simp [rnF, upd_at]
              · simp [rnF, upd_at, immE, itIV, IV.cells, IV.av1]
              · intro i y h1 h2
                have := kfam_at h1 h2
                simp [rnF, KL, upd_at] at this ⊢
                exact this
              · simp only [hsn, renR_immE]
                simp [rnF, upd_at, itIV]
              · intro l hl
                rcases List.mem_append.1 hl with hl | hl
                · rcases mdK_mem hl with rfl | rfl | rfl | rfl | ⟨i, rfl⟩ <;> simp [KL, Lb.fresh, rnF]
                · simp only [List.mem_singleton] at hl; subst hl; simp [KL, Lb.fresh, rnF]
              · intro a ha b hb
                have ha' : a = .loc 2 ∨ a = .loc 4 ∨ a = .loc 1000 ∨ a = .loc 1001 ∨ a = .loc 8 ∨ ∃ i, a = KL i := by
                  rcases List.mem_append.1 ha with h | h
                  · rcases mdK_mem h with h | h | h | h | h <;> simp [h]
                  · simp only [List.mem_singleton] at h; simp [h]
                have hb' : b = .loc 2 ∨ b = .loc 4 ∨ b = .loc 1000 ∨ b = .loc 1001 ∨ b = .loc 8 ∨ ∃ i, b = KL i := by
                  rcases List.mem_append.1 hb with h | h
                  · rcases mdK_mem h with h | h | h | h | h <;> simp [h]
                  · simp only [List.mem_singleton] at h; simp [h]
                rcases ha' with rfl | rfl | rfl | rfl | rfl | ⟨i, rfl⟩ <;> rcases hb' with rfl | rfl | rfl | rfl | rfl | ⟨j, rfl⟩ <;> simp [KL, rnF]
            · have hjl2 : j = t.kids.length := by omega
              subst hjl2
              rw [show decide ((t.kids.length : Int) < (t.kids.length : Int)) = false by simp]
              have hb1 : bndV (.int .i64 1) (r.length + 1) = some 1 := bndV_nat .i64 1 _ (by omega)
              simp only [↓aX, evp, evq, evl, boxK, stillV, binV, AV.cells, mP, loadV, storeV, ldV, AV.stb, AV.one, IV.av1, Lb.app, Lb.fresh, reduceCtorEq, ptrL, appL, fillA, chunks, ivs, AV.iv, mkE, if_false, if_true, List.not_mem_nil, forall_eq, beq_self_eq_true, List.isEmpty_nil, Nat.reduceEqDiff, Nat.reduceLT, Nat.reduceLeDiff, Nat.reduceAdd, Nat.reduceMul, Int.reduceToNat, Int.reduceLE, Int.reduceLT, slcV, cutB, bnd_n, bnd_s, hb1, Option.bind_some, Option.map_some, Option.isSome_none, List.take_length, Nat.add_sub_cancel]
              rw [app_srcI (sz := 5) (b := 80) (d := 82) (l := .loc 8) (l2 := .loc 1001) (els := immE ((t.kids.map fun k => (k, (d.length : Int))).map itIV)) (els2 := immE (itIV (t, p) :: r.map itIV)) (xs := r.map itIV) (by simp [upd_at]) (by simp [immE]) (by simp [upd_at])
                (by simp [immE]; omega) (by simp [immE]; exact List.take_of_length_le (by simp)) (flatIt r) (by simp) (by omega) (by decide) (by simp [Lb.app, Lb.fresh]) (by simp [Lb.app, Lb.fresh, upd_at, hul'])]
              simp only [↓aX, evp, evq, evl, boxK, stillV, binV, AV.cells, mP, loadV, storeV, ldV, AV.stb, AV.one, IV.av1, Lb.app, Lb.fresh, reduceCtorEq, ptrL, appL, fillA, chunks, ivs, AV.iv, mkE, if_false, if_true, List.not_mem_nil, forall_eq, beq_self_eq_true, List.isEmpty_nil, Nat.reduceEqDiff, Nat.reduceLT, Nat.reduceLeDiff, Nat.reduceAdd, Nat.reduceMul, Int.reduceToNat, Int.reduceLE, Int.reduceLT]
              refine ⟨{ d := d2, l := (t.kids.map fun k => (k, (d.length : Int))) ++ r, hw := hw2, hp := hp2, hc := hc2, hb := hb2, hk := hk2 }, ?_, [(.loc 1001, .loc 82)], ?_⟩
              · simp only [List.map_append, List.map_map, cntT_app, List.map_cons, cntT]
                rw [show (Prod.fst ∘ fun k : Tree => (k, (d.length : Int))) = id from rfl, List.map_id]
                omega
              · show WU _ _ _ (mdR d2 ((t.kids.map fun k => (k, (d.length : Int))) ++ r)) _ _ _
                refine WU_fresh ?_ ?_ (mdR_RwL ?_ ?_ ?_ ?_ ?_) (mdK_nodup _) ?_ ?_
                · intro l hf
                  have := kfam_nf d2 hf
                  cases l <;> simp_all [Lb.fresh, upd_at]
                · simp [EqL, rnF, ren, put, KL]
                · simp [rnF, upd_at, KL]
                · simp [rnF, upd_at, KL]
                · rw [nrow_ren _ _ (fun i y _ _ => by simp [rnF, KL])]
                  simp [rnF, upd_at]
                · simp [rnF, upd_at, immE]
                · intro i y h1 h2
                  have := kfam_at h1 h2
                  simp [rnF, KL, upd_at] at this ⊢
                  exact this
                · intro l hl
                  rcases mdK_mem hl with rfl | rfl | rfl | rfl | ⟨i, rfl⟩ <;> simp [KL, Lb.fresh, rnF]
                · intro a ha b hb
                  rcases mdK_mem ha with rfl | rfl | rfl | rfl | ⟨i, rfl⟩ <;> rcases mdK_mem hb with rfl | rfl | rfl | rfl | ⟨j, rfl⟩ <;> simp [KL, rnF]
        | true =>
          have hp0' := of_decide_eq_true hp0
          obtain ⟨q, rfl⟩ := Int.eq_ofNat_of_zero_le hp0'
          have hqd : q < d.length := by omega
          obtain ⟨y, hy⟩ : ∃ y, d[q]? = some y := ⟨_, List.getElem?_eq_getElem hqd⟩
          have hq1 : q < d.length + 1 := by omega
          have hd2' : d2 = List.set (d ++ [(⟨t.text, t.s, t.attrs, (q : Int), []⟩ : Node)]) q { y with kids := y.kids ++ [(d.length : Int)] } := by
            rw [hd2, addKid, if_pos hp0', Int.toNat_natCast, List.getElem?_append_left hqd, hy]
          have hrowq : ∀ new, (nrow d ++ [new])[q]? = some [.bool y.text, .str y.s, .list (ivA y.attrs), .int .i64 y.parent, kcell q y.kids] := fun new => by
            rw [List.getElem?_append_left (by rw [nrow_len]; exact hqd), nrow_get, hy]; rfl
          have hren : renR (rnF [(.loc 1000, .loc 43), (KL q, .loc 61)]) ⟨5, nrow d2⟩ = ⟨5, List.set (nrow d ++ [[.bool t.text, .str t.s, .list (ivA t.attrs), .int .i64 q, .nil0]]) q [.bool y.text, .str y.s, .list (ivA y.attrs), .int .i64 y.parent, .sl (.loc 61) 1 0 (y.kids.length + 1)]⟩ := by
            simp only [renR, Row.mk.injEq, true_and]
            refine List.ext_getElem? fun i => ?_
            rw [List.getElem?_map, nrow_get, hd2', List.getElem?_set, List.getElem?_set]
            by_cases e : q = i
            · subst e
              simp only [if_true, List.length_append, nrow_len, List.length_cons, List.length_nil]
              rw [if_pos (by omega), if_pos (by omega)]
              simp [ncells, kcell, rens, ren, rnF, KL]
            · rw [if_neg e, if_neg e]
              have e' : ¬ i = q := fun h => e h.symm
              by_cases hi : i < d.length
              · rw [List.getElem?_append_left hi, List.getElem?_append_left (by rw [nrow_len]; exact hi), nrow_get]
                cases d[i]? with
                | none => rfl
                | some z =>
                  simp only [Option.map_some, Option.some.injEq, ncells, kcell]
                  split <;> simp [rens, ren, rnF, KL, e']
              · rw [List.getElem?_append_right (by omega), List.getElem?_append_right (by rw [nrow_len]; omega), nrow_len]
                cases i - d.length with
                | zero => simp [ncells, kcell, rens, ren]
                | succ n => simp
          have hykl := hkd y (List.mem_of_getElem? hy)
          by_cases hyk : y.kids = []
          · have hkc : kcell q y.kids = .nil0 := by simp [kcell, hyk]
            rw [hkc] at hrowq
            simp only [↓aX, evp, evq, evl, boxK, stillV, binV, AV.cells, mP, loadV, storeV, ldV, AV.stb, AV.one, IV.av1, Lb.app, Lb.fresh, reduceCtorEq, ptrL, appL, fillA, chunks, ivs, AV.iv, mkE, if_false, if_true, List.not_mem_nil, forall_eq, beq_self_eq_true, List.isEmpty_nil, Nat.reduceEqDiff, Nat.reduceLT, Nat.reduceLeDiff, Nat.reduceAdd, Nat.reduceMul, Int.reduceToNat, Int.reduceLE, Int.reduceLT, hul, hq1, hrowq]
            refine ⟨by rintro l (rfl | rfl) <;> simp [Lb.fam], rfl, ?_⟩
            rw [app_nil' 1 8 61 [.int .i64 d.length] (by simp [Elsz, IV.cells]) (by simp [Flat, IV.cells]) (by simp) (by decide) (by simp [upd_at, hul])]
            simp only [↓aX, evp, evq, evl, boxK, stillV, binV, AV.cells, mP, loadV, storeV, ldV, AV.stb, AV.one, IV.av1, Lb.app, Lb.fresh, reduceCtorEq, ptrL, appL, fillA, chunks, ivs, AV.iv, mkE, if_false, if_true, List.not_mem_nil, forall_eq, beq_self_eq_true, List.isEmpty_nil, Nat.reduceEqDiff, Nat.reduceLT, Nat.reduceLeDiff, Nat.reduceAdd, Nat.reduceMul, Int.reduceToNat, Int.reduceLE, Int.reduceLT, hul, hq1, hrowq, ivT_len]
            rw [hyk] at hren
            refine loop_used (σ := { j : Nat // j ≤ t.kids.length }) (fun _ => mdK d2 ++ [.loc 8]) (fun _ _ => false)
              (fun j => [(2, .ptr (.loc 2) 1 0 0), (4, .ptr (.loc 4) 1 0 0), (5, .sl (.loc 1001) 5 0 (r.length + 1)), (7, .int .i64 d.length), (8, .sl (.loc 8) 5 0 j.1), (66, .list (ivT t.kids)), (67, .int .i64 t.kids.length), (68, .int .i64 j.1)])
              (fun j => mdR d2 ((t, (q : Int)) :: r) ++ [(.loc 8, ⟨5, immE (((t.kids.take j.1).map fun k => (k, (d.length : Int))).map itIV)⟩)]) (fun j => t.kids.length - j.1) ⟨0, Nat.zero_le _⟩ (fun _ => by rw [List.map_append, mdR_K]; rfl) (fun j => by simp [lbss, AV.lbs, mdK]) (fun j => md8_lbs d2 _ _) ⟨[(.loc 1000, .loc 43), (KL q, .loc 61)], ?_⟩ ?_
            · refine WU_fresh ?_ ?_ (RwL_app (mdR_RwL ?_ ?_ ?_ ?_ ?_) ⟨?_, trivial⟩) (mdK_nodup8 _) ?_ ?_
              · intro l hf
                have := kfam_nf d hf
                have hne : ∀ i, l ≠ .nest (.loc 1000) i 4 := fun i e => by subst e; simp [Lb.fresh] at hf
                cases l <;> simp_all [Lb.fresh, upd_at]
              · simp [EqL, rnF, ren, put, ivT_len, KL]
              · simp [rnF, upd_at, KL]
              · simp [rnF, upd_at, KL, hl2]
              · rw [hren]; simp [rnF, upd_at]
              · simp [rnF, upd_at, KL, immE, itIV, IV.cells, IV.av1]
              · intro i z h1 h2
                rw [hd2', List.getElem?_set] at h1
                by_cases e : q = i
                · subst e
                  rw [if_pos rfl, if_pos (by simp; omega)] at h1
                  simp only [Option.some.injEq] at h1
                  subst h1
                  simp [rnF, KL, upd_at, krow, immE, intIV]
                  simp [hyk, IV.cells, IV.av1]
                · rw [if_neg e] at h1
                  have h3 : d[i]? = some z := by
                    by_cases hi : i < d.length
                    · rwa [List.getElem?_append_left hi] at h1
                    · rw [List.getElem?_append_right (by omega)] at h1
                      cases hq : i - d.length with
                      | zero => rw [hq] at h1; simp at h1; subst h1; simp at h2
                      | succ n => rw [hq] at h1; simp at h1
                  have := kfam_at h3 h2
                  have e' : ¬ i = q := fun h => e h.symm
                  simp [rnF, KL, upd_at, e, e'] at this ⊢
                  exact this
              · simp [rnF, upd_at, KL, immE, renR]
              · intro l hl
                exact frq (md8_mem hl)
              · exact fun a ha b hb => injq (md8_mem ha) (md8_mem hb)
            · rintro ⟨j, hj⟩
              have hul' : ∀ n, ofH (kfam d2) (.loc n) = .unused := kfam_loc _
              rw [ofU_f]
              have hH : ofH (mdR d2 ((t, (q : Int)) :: r) ++ [(.loc 8, ⟨5, immE (((t.kids.take j).map fun k => (k, (d.length : Int))).map itIV)⟩)]) =
                  upd (ofH (mdR d2 ((t, (q : Int)) :: r))) (.loc 8) (.live ⟨5, immE (((t.kids.take j).map fun k => (k, (d.length : Int))).map itIV)⟩) := md8_ofH _ _ _
              rw [hH]
              have hjl : (((t.kids.take j).map fun k => (k, (d.length : Int))).map itIV).length = j := by rw [List.length_map, List.length_map, List.length_take]; omega
              simp only [↓aX, evp, evq, evl, boxK, stillV, binV, AV.cells, mP, loadV, storeV, ldV, AV.stb, AV.one, IV.av1, Lb.app, Lb.fresh, reduceCtorEq, ptrL, appL, fillA, chunks, ivs, AV.iv, mkE, if_false, if_true, List.not_mem_nil, forall_eq, beq_self_eq_true, List.isEmpty_nil, Nat.reduceEqDiff, Nat.reduceLT, Nat.reduceLeDiff, Nat.reduceAdd, Nat.reduceMul, Int.reduceToNat, Int.reduceLE, Int.reduceLT, mdR, List.cons_append, List.nil_append, ofH_nil, ofH_cons, ivT_len]
              by_cases hlt : j < t.kids.length
              · rw [show decide ((j : Int) < (t.kids.length : Int)) = true by simpa using hlt]
                obtain ⟨k, hk⟩ : ∃ k, t.kids[j]? = some k := ⟨_, List.getElem?_eq_getElem hlt⟩
                have hw : IntKind.i64.wrap ((j : Int) + 1) = ((j + 1 : Nat) : Int) := wrap64 (by omega) (by omega)
                have hsn : ((t.kids.take (j + 1)).map fun k => (k, (d.length : Int))).map itIV = ((t.kids.take j).map fun k => (k, (d.length : Int))).map itIV ++ [itIV (k, (d.length : Int))] := by rw [List.take_add_one, hk]; simp
                simp only [↓aX, evp, evq, evl, boxK, stillV, binV, AV.cells, mP, loadV, storeV, ldV, AV.stb, AV.one, IV.av1, Lb.app, Lb.fresh, reduceCtorEq, ptrL, appL, fillA, chunks, ivs, AV.iv, mkE, if_false, if_true, List.not_mem_nil, forall_eq, beq_self_eq_true, List.isEmpty_nil, Nat.reduceEqDiff, Nat.reduceLT, Nat.reduceLeDiff, Nat.reduceAdd, Nat.reduceMul, Int.reduceToNat, Int.reduceLE, Int.reduceLT, ivT_get, hk, elszT, Tree.cells_eq, Tree.cs, hul']
                rw [app_loc 5 80 77 8 (((t.kids.take j).map fun k => (k, (d.length : Int))).map itIV) (.agg [.bool k.text, .str k.s, .list (ivA k.attrs), .list (ivT k.kids), .int .i64 d.length]) (by simp [upd_at]) hjl rfl (by simp [IV.cells]) (by omega) (by decide) (by decide) (by simp [upd_at, hul'])]
                simp only [↓aX, evp, evq, evl, boxK, stillV, binV, AV.cells, mP, loadV, storeV, ldV, AV.stb, AV.one, IV.av1, Lb.app, Lb.fresh, reduceCtorEq, ptrL, appL, fillA, chunks, ivs, AV.iv, mkE, if_false, if_true, List.not_mem_nil, forall_eq, beq_self_eq_true, List.isEmpty_nil, Nat.reduceEqDiff, Nat.reduceLT, Nat.reduceLeDiff, Nat.reduceAdd, Nat.reduceMul, Int.reduceToNat, Int.reduceLE, Int.reduceLT, hw]
                refine ⟨⟨j + 1, hlt⟩, by simp only; omega, [(.loc 8, .loc 77)], ?_⟩
                show WU _ _ _ (mdR d2 ((t, (q : Int)) :: r) ++ [(.loc 8, _)]) _ _ _
                refine WU_fresh ?_ ?_ (RwL_app (mdR_RwL ?_ ?_ ?_ ?_ ?_) ⟨?_, trivial⟩) (mdK_nodup8 _) ?_ ?_
                · intro l hf
                  have := kfam_nf d2 hf
                  cases l <;> simp_all [Lb.fresh, upd_at]
                · simp [EqL, rnF, ren, put, ivT_len, KL]
                · simp [rnF, upd_at, KL]
                · simp [rnF, upd_at, KL]
                · rw [nrow_ren _ _ (fun i y _ _ => by simp [rnF, KL])]
                  simp [rnF, upd_at]
                · simp [rnF, upd_at, immE, itIV, IV.cells, IV.av1]
                · intro i y h1 h2
                  have := kfam_at h1 h2
                  simp [rnF, KL, upd_at] at this ⊢
                  exact this
                · simp only [hsn, renR_immE]
                  simp [rnF, upd_at, itIV]
                · intro l hl
                  rcases List.mem_append.1 hl with hl | hl
                  · rcases mdK_mem hl with rfl | rfl | rfl | rfl | ⟨i, rfl⟩ <;> simp [KL, Lb.fresh, rnF]
                  · simp only [List.mem_singleton] at hl; subst hl; simp [KL, Lb.fresh, rnF]
                · intro a ha b hb
                  have ha' : a = .loc 2 ∨ a = .loc 4 ∨ a = .loc 1000 ∨ a = .loc 1001 ∨ a = .loc 8 ∨ ∃ i, a = KL i := by
                    rcases List.mem_append.1 ha with h | h
                    · rcases mdK_mem h with h | h | h | h | h <;> simp [h]
                    · simp only [List.mem_singleton] at h; simp [h]
                  have hb' : b = .loc 2 ∨ b = .loc 4 ∨ b = .loc 1000 ∨ b = .loc 1001 ∨ b = .loc 8 ∨ ∃ i, b = KL i := by
                    rcases List.mem_append.1 hb with h | h
                    · rcases mdK_mem h with h | h | h | h | h <;> simp [h]
                    · simp only [List.mem_singleton] at h; simp [h]
                  rcases ha' with rfl | rfl | rfl | rfl | rfl | ⟨i, rfl⟩ <;> rcases hb' with rfl | rfl | rfl | rfl | rfl | ⟨j, rfl⟩ <;> simp [KL, rnF]
              · have hjl2 : j = t.kids.length := by omega
                subst hjl2
                rw [show decide ((t.kids.length : Int) < (t.kids.length : Int)) = false by simp]
                have hb1 : bndV (.int .i64 1) (r.length + 1) = some 1 := bndV_nat .i64 1 _ (by omega)
                simp only [↓aX, evp, evq, evl, boxK, stillV, binV, AV.cells, mP, loadV, storeV, ldV, AV.stb, AV.one, IV.av1, Lb.app, Lb.fresh, reduceCtorEq, ptrL, appL, fillA, chunks, ivs, AV.iv, mkE, if_false, if_true, List.not_mem_nil, forall_eq, beq_self_eq_true, List.isEmpty_nil, Nat.reduceEqDiff, Nat.reduceLT, Nat.reduceLeDiff, Nat.reduceAdd, Nat.reduceMul, Int.reduceToNat, Int.reduceLE, Int.reduceLT, slcV, cutB, bnd_n, bnd_s, hb1, Option.bind_some, Option.map_some, Option.isSome_none, List.take_length, Nat.add_sub_cancel]
                rw [app_srcI (sz := 5) (b := 80) (d := 82) (l := .loc 8) (l2 := .loc 1001) (els := immE ((t.kids.map fun k => (k, (d.length : Int))).map itIV)) (els2 := immE (itIV (t, (q : Int)) :: r.map itIV)) (xs := r.map itIV) (by simp [upd_at]) (by simp [immE]) (by simp [upd_at])
                  (by simp [immE]; omega) (by simp [immE]; exact List.take_of_length_le (by simp)) (flatIt r) (by simp) (by omega) (by decide) (by simp [Lb.app, Lb.fresh]) (by simp [Lb.app, Lb.fresh, upd_at, hul'])]
                simp only [↓aX, evp, evq, evl, boxK, stillV, binV, AV.cells, mP, loadV, storeV, ldV, AV.stb, AV.one, IV.av1, Lb.app, Lb.fresh, reduceCtorEq, ptrL, appL, fillA, chunks, ivs, AV.iv, mkE, if_false, if_true, List.not_mem_nil, forall_eq, beq_self_eq_true, List.isEmpty_nil, Nat.reduceEqDiff, Nat.reduceLT, Nat.reduceLeDiff, Nat.reduceAdd, Nat.reduceMul, Int.reduceToNat, Int.reduceLE, Int.reduceLT]
                refine ⟨{ d := d2, l := (t.kids.map fun k => (k, (d.length : Int))) ++ r, hw := hw2, hp := hp2, hc := hc2, hb := hb2, hk := hk2 }, ?_, [(.loc 1001, .loc 82)], ?_⟩
                · simp only [List.map_append, List.map_map, cntT_app, List.map_cons, cntT]
                  rw [show (Prod.fst ∘ fun k : Tree => (k, (d.length : Int))) = id from rfl, List.map_id]
                  omega
                · show WU _ _ _ (mdR d2 ((t.kids.map fun k => (k, (d.length : Int))) ++ r)) _ _ _
                  refine WU_fresh ?_ ?_ (mdR_RwL ?_ ?_ ?_ ?_ ?_) (mdK_nodup _) ?_ ?_
                  · intro l hf
                    have := kfam_nf d2 hf
                    cases l <;> simp_all [Lb.fresh, upd_at]
                  · simp [EqL, rnF, ren, put, KL]
                  · simp [rnF, upd_at, KL]
                  · simp [rnF, upd_at, KL]
                  · rw [nrow_ren _ _ (fun i y _ _ => by simp [rnF, KL])]
                    simp [rnF, upd_at]
                  · simp [rnF, upd_at, immE]
                  · intro i y h1 h2
                    have := kfam_at h1 h2
                    simp [rnF, KL, upd_at] at this ⊢
                    exact this
                  · intro l hl
                    rcases mdK_mem hl with rfl | rfl | rfl | rfl | ⟨i, rfl⟩ <;> simp [KL, Lb.fresh, rnF]
                  · intro a ha b hb
                    rcases mdK_mem ha with rfl | rfl | rfl | rfl | ⟨i, rfl⟩ <;> rcases mdK_mem hb with rfl | rfl | rfl | rfl | ⟨j, rfl⟩ <;> simp [KL, rnF]
          · have hkc : kcell q y.kids = .sl (KL q) 1 0 y.kids.length := by simp [kcell, hyk]
            rw [hkc] at hrowq
            have hkq := kfam_at hy hyk
            simp only [↓aX, evp, evq, evl, boxK, stillV, binV, AV.cells, mP, loadV, storeV, ldV, AV.stb, AV.one, IV.av1, Lb.app, Lb.fresh, reduceCtorEq, ptrL, appL, fillA, chunks, ivs, AV.iv, mkE, if_false, if_true, List.not_mem_nil, forall_eq, beq_self_eq_true, List.isEmpty_nil, Nat.reduceEqDiff, Nat.reduceLT, Nat.reduceLeDiff, Nat.reduceAdd, Nat.reduceMul, Int.reduceToNat, Int.reduceLE, Int.reduceLT, hul, hq1, hrowq]
            refine ⟨by rintro l (rfl | rfl) <;> simp [Lb.fam], rfl, ?_⟩
            rw [app_one (sz := 1) (b := 8) (d := 61) (l := KL q) (els := immE (y.kids.map intIV)) (x := .int .i64 d.length) (by simp [upd_at, KL]; simpa [KL, krow] using hkq) (by simp [immE]) rfl (by simp [IV.cells]) (by omega) (by decide) (by simp [Lb.app, Lb.fresh, KL]) (by simp [Lb.app, Lb.fresh, KL, upd_at, hul])]
            simp only [↓aX, evp, evq, evl, boxK, stillV, binV, AV.cells, mP, loadV, storeV, ldV, AV.stb, AV.one, IV.av1, Lb.app, Lb.fresh, reduceCtorEq, ptrL, appL, fillA, chunks, ivs, AV.iv, mkE, if_false, if_true, List.not_mem_nil, forall_eq, beq_self_eq_true, List.isEmpty_nil, Nat.reduceEqDiff, Nat.reduceLT, Nat.reduceLeDiff, Nat.reduceAdd, Nat.reduceMul, Int.reduceToNat, Int.reduceLE, Int.reduceLT, hul, hq1, hrowq, ivT_len, KL]
            refine ⟨by rintro l (rfl | rfl) <;> simp [Lb.fam], ?_⟩
            refine loop_used (σ := { j : Nat // j ≤ t.kids.length }) (fun _ => mdK d2 ++ [.loc 8]) (fun _ _ => false)
              (fun j => [(2, .ptr (.loc 2) 1 0 0), (4, .ptr (.loc 4) 1 0 0), (5, .sl (.loc 1001) 5 0 (r.length + 1)), (7, .int .i64 d.length), (8, .sl (.loc 8) 5 0 j.1), (66, .list (ivT t.kids)), (67, .int .i64 t.kids.length), (68, .int .i64 j.1)])
              (fun j => mdR d2 ((t, (q : Int)) :: r) ++ [(.loc 8, ⟨5, immE (((t.kids.take j.1).map fun k => (k, (d.length : Int))).map itIV)⟩)]) (fun j => t.kids.length - j.1) ⟨0, Nat.zero_le _⟩ (fun _ => by rw [List.map_append, mdR_K]; rfl) (fun j => by simp [lbss, AV.lbs, mdK]) (fun j => md8_lbs d2 _ _) ⟨[(.loc 1000, .loc 43), (KL q, .loc 61)], ?_⟩ ?_
            · refine WU_fresh ?_ ?_ (RwL_app (mdR_RwL ?_ ?_ ?_ ?_ ?_) ⟨?_, trivial⟩) (mdK_nodup8 _) ?_ ?_
              · intro l hf
                have := kfam_nf d hf
                have hne : ∀ i, l ≠ .nest (.loc 1000) i 4 := fun i e => by subst e; simp [Lb.fresh] at hf
                cases l <;> simp_all [Lb.fresh, upd_at]
              · simp [EqL, rnF, ren, put, ivT_len, KL]
              · simp [rnF, upd_at, KL]
              · simp [rnF, upd_at, KL, hl2]
              · rw [hren]; simp [rnF, upd_at]
              · simp [rnF, upd_at, KL, immE, itIV, IV.cells, IV.av1]
              · intro i z h1 h2
                rw [hd2', List.getElem?_set] at h1
                by_cases e : q = i
                · subst e
                  rw [if_pos rfl, if_pos (by simp; omega)] at h1
                  simp only [Option.some.injEq] at h1
                  subst h1
                  simp [rnF, KL, upd_at, krow, immE, intIV]
                · rw [if_neg e] at h1
                  have h3 : d[i]? = some z := by
                    by_cases hi : i < d.length
                    · rwa [List.getElem?_append_left hi] at h1
                    · rw [List.getElem?_append_right (by omega)] at h1
                      cases hq : i - d.length with
                      | zero => rw [hq] at h1; simp at h1; subst h1; simp at h2
                      | succ n => rw [hq] at h1; simp at h1
                  have := kfam_at h3 h2
                  have e' : ¬ i = q := fun h => e h.symm
                  simp [rnF, KL, upd_at, e, e'] at this ⊢
                  exact this
              · simp [rnF, upd_at, KL, immE, renR]
              · intro l hl
                exact frq (md8_mem hl)
              · exact fun a ha b hb => injq (md8_mem ha) (md8_mem hb)
            · rintro ⟨j, hj⟩
              have hul' : ∀ n, ofH (kfam d2) (.loc n) = .unused := kfam_loc _
              rw [ofU_f]
              have hH : ofH (mdR d2 ((t, (q : Int)) :: r) ++ [(.loc 8, ⟨5, immE (((t.kids.take j).map fun k => (k, (d.length : Int))).map itIV)⟩)]) =
                  upd (ofH (mdR d2 ((t, (q : Int)) :: r))) (.loc 8) (.live ⟨5, immE (((t.kids.take j).map fun k => (k, (d.length : Int))).map itIV)⟩) := md8_ofH _ _ _
              rw [hH]
              have hjl : (((t.kids.take j).map fun k => (k, (d.length : Int))).map itIV).length = j := by rw [List.length_map, List.length_map, List.length_take]; omega
              simp only [↓aX, evp, evq, evl, boxK, stillV, binV, AV.cells, mP, loadV, storeV, ldV, AV.stb, AV.one, IV.av1, Lb.app, Lb.fresh, reduceCtorEq, ptrL, appL, fillA, chunks, ivs, AV.iv, mkE, if_false, if_true, List.not_mem_nil, forall_eq, beq_self_eq_true, List.isEmpty_nil, Nat.reduceEqDiff, Nat.reduceLT, Nat.reduceLeDiff, Nat.reduceAdd, Nat.reduceMul, Int.reduceToNat, Int.reduceLE, Int.reduceLT, mdR, List.cons_append, List.nil_append, ofH_nil, ofH_cons, ivT_len]
              by_cases hlt : j < t.kids.length
              · rw [show decide ((j : Int) < (t.kids.length : Int)) = true by simpa using hlt]
                obtain ⟨k, hk⟩ : ∃ k, t.kids[j]? = some k := ⟨_, List.getElem?_eq_getElem hlt⟩
                have hw : IntKind.i64.wrap ((j : Int) + 1) = ((j + 1 : Nat) : Int) := wrap64 (by omega) (by omega)
                have hsn : ((t.kids.take (j + 1)).map fun k => (k, (d.length : Int))).map itIV = ((t.kids.take j).map fun k => (k, (d.length : Int))).map itIV ++ [itIV (k, (d.length : Int))] := by rw [List.take_add_one, hk]; simp
                simp only [↓aX, evp, evq, evl, boxK, stillV, binV, AV.cells, mP, loadV, storeV, ldV, AV.stb, AV.one, IV.av1, Lb.app, Lb.fresh, reduceCtorEq, ptrL, appL, fillA, chunks, ivs, AV.iv, mkE, if_false, if_true, List.not_mem_nil, forall_eq, beq_self_eq_true, List.isEmpty_nil, Nat.reduceEqDiff, Nat.reduceLT, Nat.reduceLeDiff, Nat.reduceAdd, Nat.reduceMul, Int.reduceToNat, Int.reduceLE, Int.reduceLT, ivT_get, hk, elszT, Tree.cells_eq, Tree.cs, hul']
                rw [app_loc 5 80 77 8 (((t.kids.take j).map fun k => (k, (d.length : Int))).map itIV) (.agg [.bool k.text, .str k.s, .list (ivA k.attrs), .list (ivT k.kids), .int .i64 d.length]) (by simp [upd_at]) hjl rfl (by simp [IV.cells]) (by omega) (by decide) (by decide) (by simp [upd_at, hul'])]
                simp only [↓aX, evp, evq, evl, boxK, stillV, binV, AV.cells, mP, loadV, storeV, ldV, AV.stb, AV.one, IV.av1, Lb.app, Lb.fresh, reduceCtorEq, ptrL, appL, fillA, chunks, ivs, AV.iv, mkE, if_false, if_true, List.not_mem_nil, forall_eq, beq_self_eq_true, List.isEmpty_nil, Nat.reduceEqDiff, Nat.reduceLT, Nat.reduceLeDiff, Nat.reduceAdd, Nat.reduceMul, Int.reduceToNat, Int.reduceLE, Int.reduceLT, hw]
                refine ⟨⟨j + 1, hlt⟩, by simp only; omega, [(.loc 8, .loc 77)], ?_⟩
                show WU _ _ _ (mdR d2 ((t, (q : Int)) :: r) ++ [(.loc 8, _)]) _ _ _
                refine WU_fresh ?_ ?_ (RwL_app (mdR_RwL ?_ ?_ ?_ ?_ ?_) ⟨?_, trivial⟩) (mdK_nodup8 _) ?_ ?_
                · intro l hf
                  have := kfam_nf d2 hf
                  cases l <;> simp_all [Lb.fresh, upd_at]
                · simp [EqL, rnF, ren, put, ivT_len, KL]
                · simp [rnF, upd_at, KL]
                · simp [rnF, upd_at, KL]
                · rw [nrow_ren _ _ (fun i y _ _ => by simp [rnF, KL])]
                  simp [rnF, upd_at]
                · simp [rnF, upd_at, immE, itIV, IV.cells, IV.av1]
                · intro i y h1 h2
                  have := kfam_at h1 h2
                  simp [rnF, KL, upd_at] at this ⊢
                  exact this
                · simp only [hsn, renR_immE]
                  simp [rnF, upd_at, itIV]
                · intro l hl
                  rcases List.mem_append.1 hl with hl | hl
                  · rcases mdK_mem hl with rfl | rfl | rfl | rfl | ⟨i, rfl⟩ <;> simp [KL, Lb.fresh, rnF]
                  · simp only [List.mem_singleton] at hl; subst hl; simp [KL, Lb.fresh, rnF]
                · intro a ha b hb
                  have ha' : a = .loc 2 ∨ a = .loc 4 ∨ a = .loc 1000 ∨ a = .loc 1001 ∨ a = .loc 8 ∨ ∃ i, a = KL i := by
                    rcases List.mem_append.1 ha with h | h
                    · rcases mdK_mem h with h | h | h | h | h <;> simp [h]
                    · simp only [List.mem_singleton] at h; simp [h]
                  have hb' : b = .loc 2 ∨ b = .loc 4 ∨ b = .loc 1000 ∨ b = .loc 1001 ∨ b = .loc 8 ∨ ∃ i, b = KL i := by
                    rcases List.mem_append.1 hb with h | h
                    · rcases mdK_mem h with h | h | h | h | h <;> simp [h]
                    · simp only [List.mem_singleton] at h; simp [h]
                  rcases ha' with rfl | rfl | rfl | rfl | rfl | ⟨i, rfl⟩ <;> rcases hb' with rfl | rfl | rfl | rfl | rfl | ⟨j, rfl⟩ <;> simp [KL, rnF]
              · have hjl2 : j = t.kids.length := by omega
                subst hjl2
                rw [show decide ((t.kids.length : Int) < (t.kids.length : Int)) = false by simp]
                have hb1 : bndV (.int .i64 1) (r.length + 1) = some 1 := bndV_nat .i64 1 _ (by omega)
                simp only [↓aX, evp, evq, evl, boxK, stillV, binV, AV.cells, mP, loadV, storeV, ldV, AV.stb, AV.one, IV.av1, Lb.app, Lb.fresh, reduceCtorEq, ptrL, appL, fillA, chunks, ivs, AV.iv, mkE, if_false, if_true, List.not_mem_nil, forall_eq, beq_self_eq_true, List.isEmpty_nil, Nat.reduceEqDiff, Nat.reduceLT, Nat.reduceLeDiff, Nat.reduceAdd, Nat.reduceMul, Int.reduceToNat, Int.reduceLE, Int.reduceLT, slcV, cutB, bnd_n, bnd_s, hb1, Option.bind_some, Option.map_some, Option.isSome_none, List.take_length, Nat.add_sub_cancel]
                rw [app_srcI (sz := 5) (b := 80) (d := 82) (l := .loc 8) (l2 := .loc 1001) (els := immE ((t.kids.map fun k => (k, (d.length : Int))).map itIV)) (els2 := immE (itIV (t, (q : Int)) :: r.map itIV)) (xs := r.map itIV) (by simp [upd_at]) (by simp [immE]) (by simp [upd_at])
                  (by simp [immE]; omega) (by simp [immE]; exact List.take_of_length_le (by simp)) (flatIt r) (by simp) (by omega) (by decide) (by simp [Lb.app, Lb.fresh]) (by simp [Lb.app, Lb.fresh, upd_at, hul'])]
                simp only [↓aX, evp, evq, evl, boxK, stillV, binV, AV.cells, mP, loadV, storeV, ldV, AV.stb, AV.one, IV.av1, Lb.app, Lb.fresh, reduceCtorEq, ptrL, appL, fillA, chunks, ivs, AV.iv, mkE, if_false, if_true, List.not_mem_nil, forall_eq, beq_self_eq_true, List.isEmpty_nil, Nat.reduceEqDiff, Nat.reduceLT, Nat.reduceLeDiff, Nat.reduceAdd, Nat.reduceMul, Int.reduceToNat, Int.reduceLE, Int.reduceLT]
                refine ⟨{ d := d2, l := (t.kids.map fun k => (k, (d.length : Int))) ++ r, hw := hw2, hp := hp2, hc := hc2, hb := hb2, hk := hk2 }, ?_, [(.loc 1001, .loc 82)], ?_⟩
                · simp only [List.map_append, List.map_map, cntT_app, List.map_cons, cntT]
                  rw [show (Prod.fst ∘ fun k : Tree => (k, (d.length : Int))) = id from rfl, List.map_id]
                  omega
                · show WU _ _ _ (mdR d2 ((t.kids.map fun k => (k, (d.length : Int))) ++ r)) _ _ _
                  refine WU_fresh ?_ ?_ (mdR_RwL ?_ ?_ ?_ ?_ ?_) (mdK_nodup _) ?_ ?_
                  · intro l hf
                    have := kfam_nf d2 hf
                    cases l <;> simp_all [Lb.fresh, upd_at]
                  · simp [EqL, rnF, ren, put, KL]
                  · simp [rnF, upd_at, KL]
                  · simp [rnF, upd_at, KL]
                  · rw [nrow_ren _ _ (fun i y _ _ => by simp [rnF, KL])]
                    simp [rnF, upd_at]
                  · simp [rnF, upd_at, immE]
                  · intro i y h1 h2
                    have := kfam_at h1 h2
                    simp [rnF, KL, upd_at] at this ⊢
                    exact this
                  · intro l hl
                    rcases mdK_mem hl with rfl | rfl | rfl | rfl | ⟨i, rfl⟩ <;> simp [KL, Lb.fresh, rnF]
                  · intro a ha b hb
                    rcases mdK_mem ha with rfl | rfl | rfl | rfl | ⟨i, rfl⟩ <;> rcases mdK_mem hb with rfl | rfl | rfl | rfl | ⟨j, rfl⟩ <;> simp [KL, rnF]
end Go.Am
