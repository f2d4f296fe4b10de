import Derived.Test.YtfinkeaikbmpgaaDoorKAm32
import Derived.Test.YtfinkeaikbmpgaaDoorKT7
import Derived.Test.YtfinkeaikbmpgaaDoorKAm25
set_option linter.unusedSimpArgs false
set_option linter.unusedVariables false
set_option linter.unnecessarySimpa false
set_option linter.defProp false
/- Copies of slices. -/
namespace Go.Am
open Go Go.RowKit
def c_slices_Clone_Attr_Attr : AC :=
(.seq (.reg [⟨(some 2), none, (.mov (.c .nil0))⟩]) (.seq (.seq (.reg [⟨(some 3), none, (.mov (.t 0))⟩, ⟨(some 4), none, (.eqn false (.t 3))⟩]) (.cond (.t 4) (.seq (.reg [⟨(some 2), none, (.mov (.c .nil0))⟩]) .ret) .skip)) (.seq (.reg [⟨(some 5), none, (.lits 0 2 [(.str []), (.str [])] [])⟩, ⟨(some 6), none, (.mov (.t 0))⟩, ⟨(some 7), none, (.app (.t 5) (.t 6) 2 32)⟩, ⟨(some 2), none, (.mov (.t 7))⟩]) (.gh (.frz (.loc 7) 2) .ret))))
theorem pCloneA {P : Program} {G : Nat → Option (List IV)} {f_slices_Clone_Attr_Attr : Nat} (hF : compF P G f_slices_Clone_Attr_Attr = some (8, [(none, 2)], c_slices_Clone_Attr_Attr.bare)) (xs : List Attr) (hx : xs.length ≤ B) : PureC P G f_slices_Clone_Attr_Attr [.list (ivA xs)] (.list (ivA xs)) := by
  refine pure_of_goN hF (by simp) (by simp [lbss, AV.lbs]) (by simp [AV.lbs]) ?_
  unfold c_slices_Clone_Attr_Attr
  simp only [↓aX, evp, evq, evl, boxK, stillV, binV, AV.cells, mP, loadV, storeV, ldV, AV.stb, AV.one, IV.av1, Lb.app, Lb.fresh, reduceCtorEq, ptrL, appL, fillA, chunks, ivs, AV.iv, mkE, if_false, if_true, List.not_mem_nil, forall_eq, beq_self_eq_true, List.isEmpty_nil, Nat.reduceEqDiff, Nat.reduceLT, Nat.reduceLeDiff, Nat.reduceAdd, Nat.reduceMul, Int.reduceToNat, Int.reduceLE, Int.reduceLT, a1_eqn]
  refine nK_list (fun h => ?_) ?_
  · simp only [↓aX, evp, evq, evl, boxK, stillV, binV, AV.cells, mP, loadV, storeV, ldV, AV.stb, AV.one, IV.av1, Lb.app, Lb.fresh, reduceCtorEq, ptrL, appL, fillA, chunks, ivs, AV.iv, mkE, if_false, if_true, List.not_mem_nil, forall_eq, beq_self_eq_true, List.isEmpty_nil, Nat.reduceEqDiff, Nat.reduceLT, Nat.reduceLeDiff, Nat.reduceAdd, Nat.reduceMul, Int.reduceToNat, Int.reduceLE, Int.reduceLT, norm, h]
  · simp only [↓aX, evp, evq, evl, boxK, stillV, binV, AV.cells, mP, loadV, storeV, ldV, AV.stb, AV.one, IV.av1, Lb.app, Lb.fresh, reduceCtorEq, ptrL, appL, fillA, chunks, ivs, AV.iv, mkE, if_false, if_true, List.not_mem_nil, forall_eq, beq_self_eq_true, List.isEmpty_nil, Nat.reduceEqDiff, Nat.reduceLT, Nat.reduceLeDiff, Nat.reduceAdd, Nat.reduceMul, Int.reduceToNat, Int.reduceLE, Int.reduceLT, norm]
    rw [app_nil' 2 32 7 (ivA xs) (elszA _) (flatA _) (by rw [ivA_len]; unfold B at hx; omega) (by decide) rfl]
    simp only [↓aX, evp, evq, evl, boxK, stillV, binV, AV.cells, mP, loadV, storeV, ldV, AV.stb, AV.one, IV.av1, Lb.app, Lb.fresh, reduceCtorEq, ptrL, appL, fillA, chunks, ivs, AV.iv, mkE, if_false, if_true, List.not_mem_nil, forall_eq, beq_self_eq_true, List.isEmpty_nil, Nat.reduceEqDiff, Nat.reduceLT, Nat.reduceLeDiff, Nat.reduceAdd, Nat.reduceMul, Int.reduceToNat, Int.reduceLE, Int.reduceLT, norm]
    exact ⟨2, ivA xs, 0, _, rfl, rfl, by simp, flatA _, by simp⟩
end Go.Am

/- THE ABSTRACT MACHINE, part 34: a list of structs behind a pointer. -/
namespace Go.Am
open Go Go.RowKit
/-- A list that grows by one: one that was handed in. -/
theorem app_far (sz b d : Nat) (l : Lb) (xs : List IV) (x : IV) {n : Nat} {H : Hp} (hf : l.fresh = false) (hl : H l = .live ⟨sz, immE xs⟩) (hn : xs.length = n) (he : x.cells.length = sz) (hfl : ∀ z ∈ x.cells, ∀ cs, z ≠ .agg cs) (hb : (n + 1) * b ≤ 140737488355328) (h0 : 0 < b)
    (hd : l ≠ .gen d) (hu : H (.gen d) = .unused) :
    appV sz b d (.sl l sz 0 n) (.list [x]) H = some (.sl (.gen d) sz 0 (n + 1), upd (upd H l .dead) (.gen d) (.live ⟨sz, immE (xs ++ [x])⟩)) := by
  have e : l.app d = .gen d := by unfold Lb.app; rw [hf]; rfl
  have := app_one (l := l) (d := d) hl (by rw [immE_len]; exact hn) he hfl hb h0 (by rw [e]; exact hd) (by rw [e]; exact hu)
  rw [e] at this
  rw [this, immE_app]
/-- Rows as they are listed; some labels more are used up. -/
def ofU (u : Lb → Bool) (rs : List (Lb × Row)) : Hp := fun q => match ofH rs q with
  | .unused => if u q then .dead else .unused
  | s => s
theorem ofU_live {u : Lb → Bool} {rs : List (Lb × Row)} {l : Lb} {r : Row} : ofU u rs l = .live r ↔ ofH rs l = .live r := by
  unfold ofU
  cases h : ofH rs l with
  | unused => by_cases hu : u l = true <;> simp [hu]
  | dead => simp
  | live r' => simp
theorem ofU_used {u : Lb → Bool} {rs : List (Lb × Row)} {l : Lb} (h : l ∈ rs.map Prod.fst ∨ u l = true) : ofU u rs l ≠ .unused := by
  unfold ofU
  rcases h with h | h
  · have := ofH_used h
    cases h2 : ofH rs l with
    | unused => exact absurd h2 this
    | dead => simp
    | live r => simp
  · cases h2 : ofH rs l with
    | unused => simp [h]
    | dead => simp
    | live r => simp
structure WU (ls : List Lb) (u : Lb → Bool) (ps : List (Nat × AV)) (rs : List (Lb × Row)) (env : Env) (H : Hp) (m : List (Lb × Lb)) : Prop where
  nf : ∀ l : Lb, l.fresh = false → H l ≠ .unused → l ∈ ls ∨ u l = true
  e : EqL (rnF m) env ps
  r : RwL (rnF m) H rs
  inj : (ls.map (rnF m)).Nodup
  fr : ∀ l ∈ ls, (l.fresh = true → (rnF m l).fresh = true) ∧ (l.fresh = false → rnF m l = l)
theorem WU.wk {ls : List Lb} {u : Lb → Bool} {ps : List (Nat × AV)} {rs : List (Lb × Row)} {env : Env} {H : Hp} {m : List (Lb × Lb)} (h : WU ls u ps rs env H m) (hls : rs.map Prod.fst = ls) (hp : ∀ l ∈ lbss (ps.map Prod.snd), l ∈ ls)
    (hr : ∀ q ∈ rs, ∀ cs ∈ q.2.els, ∀ l ∈ lbss cs, l ∈ ls) : Wk (rnF m) env H (ofL ps) (ofU u rs) := by
  have hlv : ∀ l, live (ofU u rs) l → l ∈ ls := fun l ⟨r, h⟩ => by rw [← hls]; exact List.mem_map.2 ⟨_, ofH_live (ofU_live.1 h), rfl⟩
  refine ⟨h.e.we, fun l r hl => RwL_mem h.r (ofH_live (ofU_live.1 hl)), fun l l' h1 h2 e => nodup_map_inj h.inj l (hlv l h1) l' (hlv l' h2) e, ofL_wm fun l hl => ofU_used (.inl (by rw [hls]; exact hp l hl)), fun l r hl cs hcs q hq => ?_,
    fun l hf => ⟨fun hu => ?_, fun hl => (h.fr l (hlv l hl)).2 hf⟩, fun l hl hf => (h.fr l (hlv l hl)).1 hf⟩
  · exact ofU_used (.inl (by rw [hls]; exact hr _ (ofH_live (ofU_live.1 hl)) cs hcs q hq))
  · exact ofU_used (by rw [hls]; exact h.nf l hf hu)
theorem loop_used {σ : Type} {S : St} {Q : Post} {c : AC} {k : List It} {env : Env} {H : Hp} (ls : σ → List Lb) (u : σ → Lb → Bool) (ps : σ → List (Nat × AV)) (rs : σ → List (Lb × Row)) (μ : σ → Nat) (s0 : σ)
    (hls : ∀ s, (rs s).map Prod.fst = ls s) (hp : ∀ s, ∀ l ∈ lbss ((ps s).map Prod.snd), l ∈ ls s) (hr : ∀ s, ∀ q ∈ rs s, ∀ cs ∈ q.2.els, ∀ l ∈ lbss cs, l ∈ ls s) (h0 : ∃ m, WU (ls s0) (u s0) (ps s0) (rs s0) env H m)
    (round : ∀ s, go S (LoopX S Q k (fun env H s => ∃ m, WU (ls s) (u s) (ps s) (rs s) env H m) μ (μ s)) [.code c] (ofL (ps s)) (ofU (u s) (rs s))) : LoopG S Q c k env H :=
  loop_gen (fun s => ofL (ps s)) (fun s => ofU (u s) (rs s)) _ (fun _ _ s ⟨m, h⟩ => ⟨_, h.wk (hls s) (hp s) (hr s)⟩) μ s0 h0 round
/-- Behind 'l' lies a struct of one slice, 'xs' its elements, in the row that 'o' names. -/
def LstAt (sz : Nat) (l : Lb) (o : Option Lb) (xs : List IV) (H : Hp) : Prop := match o with
  | none => H l = .live ⟨1, [[.nil0]]⟩ ∧ xs = []
  | some L => L ≠ l ∧ H l = .live ⟨1, [[.sl L sz 0 xs.length]]⟩ ∧ H L = .live ⟨sz, immE xs⟩
/-- The rows that are handed in. -/
def lstIn (sz : Nat) (xs : List IV) : Bool → Hp
  | false => upd Hp.none (.par 0) (.live ⟨1, [[.nil0]]⟩)
  | true => upd (upd Hp.none (.par 1) (.live ⟨sz, immE xs⟩)) (.par 0) (.live ⟨1, [[.sl (.par 1) sz 0 xs.length]]⟩)
/-- A contract of a function that is handed a pointer to such a struct, and puts elements behind those that are there. -/
def LstC (P : Program) (G : Nat → Option (List IV)) (sz f : Nat) (args : List AV) (xs : List IV) (res : AV) (ys : List IV) : Prop :=
  (∀ l ∈ lbss args, l = .par 0) ∧ res.lbs = [] ∧ ∀ b : Bool, (b = false → xs = []) → SpecC P G f args (lstIn sz xs b) fun x H' => x = res ∧ ∃ L, LstAt sz (.par 0) (some L) ys H'
theorem renR_immE (ρ : Lb → Lb) (sz : Nat) (xs : List IV) : renR ρ ⟨sz, immE xs⟩ = ⟨sz, immE xs⟩ := renR_imm ρ sz xs
/-- Behind a call only such rows are spoken of: the choice may depend on the rows. -/
theorem SpecC.keepH {P : Program} {G : Nat → Option (List IV)} {f : Nat} {args : List AV} {H : Hp} {Q : AV → Hp → Prop} (h : SpecC P G f args H Q) (kp : Hp → Lb → Prop) :
    SpecC P G f args H fun x H' => ∃ H1, Q x H1 ∧ H' = killE (kp H1) H1 := by
  intro w A β vs hr hv
  refine (h w A β vs hr hv).mono ?_
  rintro e w' ⟨v, x, H1, β', rfl, hq, hr', hx, hm⟩
  exact ⟨v, x, killE (kp H1) H1, β', rfl, ⟨H1, hq, rfl⟩, hr'.killE _, hx.killE _, fun l hl => by rw [Ne, killE_unused]; exact hm l hl⟩
mutual
theorem ren_congr {ρ ρ' : Lb → Lb} : ∀ x : AV, (∀ l ∈ x.lbs, ρ l = ρ' l) → ren ρ x = ren ρ' x
  | .sl l .., h | .slk l .., h | .ptr l .., h => by simp [ren, h l (by simp [AV.lbs])]
  | .any, _ | .un, _ | .bool _, _ | .int .., _ | .str _, _ | .list _, _ | .nil0, _ | .nilp, _ | .nilif, _ | .lptr _, _ => by simp [ren]
  | .agg cs, h => by simp only [AV.lbs] at h; simp [ren, rens_congr cs h]
  | .tup cs, h => by simp only [AV.lbs] at h; simp [ren, rens_congr cs h]
  | .fn f fs cs, h => by
    simp only [AV.lbs, List.mem_append] at h
    simp [ren, rens_congr fs (fun l hl => h l (.inl hl)), rens_congr cs (fun l hl => h l (.inr hl))]
  | .ifc t x, h => by simp only [AV.lbs] at h; simp [ren, ren_congr x h]
theorem rens_congr {ρ ρ' : Lb → Lb} : ∀ xs : List AV, (∀ l ∈ lbss xs, ρ l = ρ' l) → rens ρ xs = rens ρ' xs
  | [], _ => by simp [rens]
  | x :: r, h => by
    simp only [lbss, List.mem_append] at h
    simp [rens, ren_congr x (fun l hl => h l (.inl hl)), rens_congr r (fun l hl => h l (.inr hl))]
end
theorem lstIn_live {sz : Nat} {xs : List IV} {b : Bool} {q : Lb} {r : Row} (h : lstIn sz xs b q = .live r) :
    (q = .par 0 ∧ r = ⟨1, [[if b then .sl (.par 1) sz 0 xs.length else .nil0]]⟩) ∨ (b = true ∧ q = .par 1 ∧ r = ⟨sz, immE xs⟩) := by
  cases b with
  | false =>
    simp only [lstIn] at h
    by_cases e : q = .par 0
    · subst e; simp at h; exact .inl ⟨rfl, by rw [← h]; rfl⟩
    · rw [upd_ne _ _ e] at h; simp [Hp.none] at h
  | true =>
    simp only [lstIn] at h
    by_cases e : q = .par 0
    · subst e; simp at h; exact .inl ⟨rfl, by rw [← h]; rfl⟩
    · rw [upd_ne _ _ e] at h
      by_cases e1 : q = .par 1
      · subst e1; simp at h; exact .inr ⟨rfl, rfl, h.symm⟩
      · rw [upd_ne _ _ e1] at h; simp [Hp.none] at h
open Classical in
theorem callT_lst {S : St} {sz f : Nat} {args cargs : List AV} {xs ys : List IV} {res : AV} {H : Hp} {k : AV → Hp → Prop} {u : Tw k} {l N : Lb} {o : Option Lb} (h : LstC S.P S.G sz f cargs xs res ys)
    (ha : args = rens (atL l) cargs) (hl : LstAt sz l o xs H) (hN : H N = .unused) (hNf : N.fresh = true → l.fresh = true ∧ ∀ L, o = some L → L.fresh = true)
    (hk : ∀ L' H'', (L' = N ∨ o = some L') → LstAt sz l (some L') ys H'' → (∀ q, q ≠ l → q ≠ N → o ≠ some q → H'' q = H q) → (∀ q, H q ≠ .unused → H'' q ≠ .unused) → k res H'') : clK S f args H k u := by
  obtain ⟨h1, h2, h3⟩ := h
  have hob : o.isSome = false → xs = [] := by
    intro ho
    cases o with
    | none => exact hl.2
    | some L => simp at ho
  have hspec := (h3 o.isSome hob).keepH fun H1 q => q = .par 0 ∨ ∃ n, H1 (.par 0) = .live ⟨1, [[.sl q sz 0 n]]⟩
  let L0 : Lb := o.getD N
  let ρ : Lb → Lb := fun q => if q = .par 0 then l else if q = .par 1 then L0 else q
  have hρ0 : ρ (.par 0) = l := by simp [ρ]
  have hρ1 : ρ (.par 1) = L0 := by simp [ρ]
  have hHl : H l ≠ .unused := by cases o with
    | none => rw [hl.1]; simp
    | some L => rw [hl.2.1]; simp
  have hNl : N ≠ l := by rintro rfl; exact hHl hN
  have hL0l : L0 ≠ l := by cases o with
    | none => exact hNl
    | some L => exact hl.1
  refine .inr ⟨⟨ρ, lstIn sz xs o.isSome, cargs, _, hspec, ?_, ?_, ?_, ?_, ?_, ?_, ?_, ?_⟩⟩
  · rw [ha]
    exact rens_congr _ fun q hq => by rw [h1 q hq]; simp [atL, ρ]
  · intro q r hq
    rcases lstIn_live hq with ⟨rfl, rfl⟩ | ⟨hb, rfl, rfl⟩
    · rw [hρ0]
      cases o with
      | none => rw [hl.1]; simp [renR, rens, ren]
      | some L => rw [hl.2.1]; simp [renR, rens, ren, ρ, L0]
    · rw [hρ1, renR_immE]
      cases o with
      | none => simp at hb
      | some L => exact hl.2.2
  · intro q hq
    cases hb : o.isSome with
    | false =>
      rw [hb] at hq
      simp only [lstIn] at hq
      by_cases e : q = .par 0
      · subst e; exact ⟨_, by simp [lstIn]; rfl⟩
      · rw [upd_ne _ _ e] at hq; simp [Hp.none] at hq
    | true =>
      rw [hb] at hq
      simp only [lstIn] at hq
      by_cases e : q = .par 0
      · subst e; exact ⟨_, by simp [lstIn]; rfl⟩
      · rw [upd_ne _ _ e] at hq
        by_cases e1 : q = .par 1
        · subst e1; exact ⟨_, by simp [lstIn, upd]; rfl⟩
        · rw [upd_ne _ _ e1] at hq; simp [Hp.none] at hq
  · rintro q q' ⟨r, hq⟩ ⟨r', hq'⟩ he
    rcases lstIn_live hq with ⟨rfl, _⟩ | ⟨_, rfl, _⟩ <;> rcases lstIn_live hq' with ⟨rfl, _⟩ | ⟨_, rfl, _⟩
    · rfl
    · rw [hρ0, hρ1] at he; exact absurd he.symm hL0l
    · rw [hρ0, hρ1] at he; exact absurd he hL0l
    · rfl
  · intro q hq
    rw [h1 q hq]
    cases o.isSome <;> simp [lstIn]
  · rintro q ⟨r, hq⟩
    rcases lstIn_live hq with ⟨rfl, _⟩ | ⟨_, rfl, _⟩ <;> rfl
  · intro q r hq cs hcs z hz
    rcases lstIn_live hq with ⟨rfl, rfl⟩ | ⟨hb, rfl, rfl⟩
    · simp only [List.mem_singleton] at hcs
      subst hcs
      cases hb : o.isSome with
      | false => rw [hb] at hz; simp [lbss, AV.lbs] at hz
      | true => rw [hb] at hz; simp [lbss, AV.lbs] at hz; subst hz; simp [lstIn, upd]
    · rw [lbss_immE hcs] at hz; simp at hz
  · rintro x H' ⟨H1, ⟨rfl, L, hLa⟩, rfl⟩
    obtain ⟨hL0, hp, hLr⟩ := hLa
    let L1 : Lb := if L = .par 1 ∧ o.isSome = true then L0 else N
    have hL1 : L1 = N ∨ o = some L1 := by
      by_cases e : L = .par 1 ∧ o.isSome = true
      · right
        simp only [L1, if_pos e, L0]
        cases o with
        | none => simp at e
        | some Lo => rfl
      · left; simp only [L1, if_neg e]
    have hL1l : L1 ≠ l := by
      rcases hL1 with e | e
      · rw [e]; exact hNl
      · intro e2
        rw [e2] at e
        cases o with
        | none => simp at e
        | some Lo => simp only [Option.some.injEq] at e; exact hl.1 e
    let ρ' : Lb → Lb := fun q => if q = .par 0 then l else if q = L then L1 else q
    have hρ0' : ρ' (.par 0) = l := by simp [ρ']
    have hρL' : ρ' L = L1 := by simp [ρ', hL0]
    let Hk : Hp := match o with
      | some Lo => upd H Lo .dead
      | none => H
    have hHk : ∀ q, o ≠ some q → Hk q = H q := by
      intro q hq
      cases o with
      | none => rfl
      | some Lo => exact upd_ne _ _ (fun e => hq (by rw [e]))
    have hHkd : ∀ q, o = some q → Hk q = .dead := by
      intro q hq
      subst hq
      simp [Hk]
    have hlive : ∀ q r, killE (fun q => q = .par 0 ∨ ∃ n, H1 (.par 0) = .live ⟨1, [[.sl q sz 0 n]]⟩) H1 q = .live r → (q = .par 0 ∧ r = ⟨1, [[.sl L sz 0 ys.length]]⟩) ∨ (q = L ∧ r = ⟨sz, immE ys⟩) := by
      intro q r hq
      obtain ⟨g1, g2⟩ := killE_live.1 hq
      rcases g2 with rfl | ⟨n, g2⟩
      · rw [hp] at g1; cases g1; exact .inl ⟨rfl, rfl⟩
      · rw [hp] at g2
        simp only [Slot.live.injEq, Row.mk.injEq, List.cons.injEq, and_true, true_and, AV.sl.injEq] at g2
        obtain ⟨rfl, _⟩ := g2
        rw [hLr] at g1; cases g1; exact .inr ⟨rfl, rfl⟩
    have hlive0 : killE (fun q => q = .par 0 ∨ ∃ n, H1 (.par 0) = .live ⟨1, [[.sl q sz 0 n]]⟩) H1 (.par 0) = .live ⟨1, [[.sl L sz 0 ys.length]]⟩ := killE_live.2 ⟨hp, .inl rfl⟩
    have hliveL : killE (fun q => q = .par 0 ∨ ∃ n, H1 (.par 0) = .live ⟨1, [[.sl q sz 0 n]]⟩) H1 L = .live ⟨sz, immE ys⟩ := killE_live.2 ⟨hLr, .inr ⟨_, hp⟩⟩
    let H'' : Hp := upd (upd Hk l (.live ⟨1, [[.sl L1 sz 0 ys.length]]⟩)) L1 (.live ⟨sz, immE ys⟩)
    have hH1 : H'' L1 = .live ⟨sz, immE ys⟩ := by simp [H'']
    have hHl' : H'' l = .live ⟨1, [[.sl L1 sz 0 ys.length]]⟩ := by
      show upd _ L1 _ l = _
      rw [upd_ne _ _ (Ne.symm hL1l)]; simp
    have hHo : ∀ q, q ≠ L1 → q ≠ l → H'' q = Hk q := by
      intro q e1 e2
      show upd _ L1 _ q = _
      rw [upd_ne _ _ e1, upd_ne _ _ e2]
    have hused : ∀ q, H q ≠ .unused → H'' q ≠ .unused := by
      intro q hq
      by_cases e1 : q = L1
      · rw [e1, hH1]; simp
      · by_cases e2 : q = l
        · rw [e2, hHl']; simp
        · rw [hHo q e1 e2]
          by_cases e3 : o = some q
          · rw [hHkd q e3]; simp
          · rw [hHk q e3]; exact hq
    refine ⟨ρ', H'', ?_, ?_, ?_, hused, ?_, ?_, ?_, ?_, ?_⟩
    · rintro q ⟨r, hq⟩ ⟨r', hq'⟩
      rcases lstIn_live hq with ⟨rfl, _⟩ | ⟨hb, rfl, _⟩
      · rw [hρ0, hρ0']
      · rcases hlive _ _ hq' with ⟨e, _⟩ | ⟨e, _⟩
        · cases e
        · rw [hρ1, e, hρL']
          simp only [L1, if_pos (⟨e.symm, hb⟩ : L = .par 1 ∧ o.isSome = true)]
    · intro q r hq
      by_cases e1 : q = L1
      · subst e1
        rw [hH1] at hq
        simp only [Slot.live.injEq] at hq
        exact .inr ⟨L, _, hliveL, hρL', by rw [renR_immE]; exact hq.symm⟩
      · by_cases e2 : q = l
        · subst e2
          rw [hHl'] at hq
          simp only [Slot.live.injEq] at hq
          refine .inr ⟨.par 0, _, hlive0, hρ0', ?_⟩
          rw [← hq]
          simp [renR, rens, ren, hρL']
        · rw [hHo q e1 e2] at hq
          by_cases e3 : o = some q
          · rw [hHkd q e3] at hq; cases hq
          · rw [hHk q e3] at hq
            refine .inl ⟨hq, ?_⟩
            rintro z ⟨r', hz⟩ hzq
            rcases lstIn_live hz with ⟨rfl, _⟩ | ⟨hb, rfl, _⟩
            · rw [hρ0] at hzq; exact e2 hzq.symm
            · rw [hρ1] at hzq
              apply e3
              cases o with
              | none => simp at hb
              | some Lo => simp only [L0, Option.getD_some] at hzq; rw [hzq]
    · rintro q q' ⟨r, hq⟩ ⟨r', hq'⟩ he
      rcases hlive _ _ hq with ⟨rfl, _⟩ | ⟨rfl, _⟩ <;> rcases hlive _ _ hq' with ⟨rfl, _⟩ | ⟨rfl, _⟩
      · rfl
      · rw [hρ0', hρL'] at he; exact absurd he.symm hL1l
      · rw [hρ0', hρL'] at he; exact absurd he hL1l
      · rfl
    · intro q hq; rw [h2] at hq; simp at hq
    · intro q r hq cs hcs z hz
      rcases hlive _ _ hq with ⟨rfl, rfl⟩ | ⟨rfl, rfl⟩
      · simp only [List.mem_singleton] at hcs
        subst hcs
        simp only [lbss, AV.lbs, List.append_nil, List.mem_singleton] at hz
        subst hz
        rw [hρL', hH1]; simp
      · rw [lbss_immE hcs] at hz; simp at hz
    · rintro q ⟨r, hq⟩
      rcases hlive _ _ hq with ⟨rfl, _⟩ | ⟨rfl, _⟩
      · left
        cases o.isSome <;> exact ⟨_, by simp [lstIn]; rfl⟩
      · by_cases e : q = .par 1 ∧ o.isSome = true
        · left
          rw [e.1, e.2]
          exact ⟨_, by simp [lstIn, upd]; rfl⟩
        · right
          rw [hρL']
          simp only [L1, if_neg e]
          refine ⟨hN, fun hf => .inr ?_⟩
          obtain ⟨g1, g2⟩ := hNf hf
          rintro z ⟨r', hz⟩
          rcases lstIn_live hz with ⟨rfl, _⟩ | ⟨hb, rfl, _⟩
          · rw [hρ0]; exact g1
          · rw [hρ1]
            cases o with
            | none => simp at hb
            | some Lo => exact g2 Lo rfl
    · rintro q (hq | ⟨l1, r1, cs, g1, g2, g3⟩) _
      · rw [h2] at hq; simp at hq
      · rcases hlive _ _ g1 with ⟨rfl, rfl⟩ | ⟨rfl, rfl⟩
        · simp only [List.mem_singleton] at g2
          subst g2
          simp only [lbss, AV.lbs, List.append_nil, List.mem_singleton] at g3
          subst g3
          exact ⟨_, hliveL⟩
        · rw [lbss_immE g2] at g3; simp at g3
    · rw [ren_nolb _ _ h2]
      refine hk L1 H'' hL1 ⟨hL1l, hHl', hH1⟩ ?_ hused
      intro q e1 e2 e3
      have : q ≠ L1 := by
        rintro rfl
        rcases hL1 with e | e
        · exact e2 e
        · exact e3 e
      rw [hHo q this e1, hHk q e3]
end Go.Am

/- Documents: which lists of nodes are some. -/
namespace Go.Am
open Go Go.RowKit
/-- One node after the other, in the order in which one reads: what comes next. -/
def wk (d : Doc) : Nat → Int → Int → Int → Option Int
  | 0, _, _, _ => none
  | f + 1, n, p, nx => if n = nx then match d[n.toNat]? with
      | some x => if x.parent = p then x.kids.foldlM (fun q k => wk d f k n q) (nx + 1) else none
      | none => none
    else none
theorem drop_mem {α : Type} {l : List α} {n : Nat} {x : α} {r : List α} (h : l.drop n = x :: r) : l[n]? = some x ∧ l.drop (n + 1) = r := by
  have h1 : (l.drop n)[0]? = some x := by rw [h]; rfl
  refine ⟨by simpa [List.getElem?_drop] using h1, ?_⟩
  have : (l.drop n).drop 1 = r := by rw [h]; rfl
  rwa [List.drop_drop] at this
theorem drop_eq {α : Type} {l : List α} {n : Nat} {x : α} (h : l[n]? = some x) : l.drop n = x :: l.drop (n + 1) := by
  obtain ⟨hn, rfl⟩ := List.getElem?_eq_some_iff.1 h
  exact List.drop_eq_getElem_cons hn
theorem wk_some (d : Doc) : ∀ (f : Nat),
    (∀ (m : Nat) (n p r : Int), wk d f n p m = some r → n = m ∧ ∃ x : Tree, x.dep ≤ f ∧ (∃ post, d.drop m = x.flat m p ++ post) ∧ r = ((m + x.cnt : Nat) : Int)) := by
  intro f
  induction f with
  | zero => intro m n p r h; simp [wk] at h
  | succ f ih =>
    intro m n p r h
    unfold wk at h
    split at h
    · rename_i hn
      subst hn
      simp only [Int.toNat_natCast] at h
      cases hx : d[m]? with
      | none => rw [hx] at h; simp at h
      | some nd =>
        rw [hx] at h
        simp only at h
        split at h
        · rename_i hp
          refine ⟨rfl, ?_⟩
          have kids : ∀ (ks : List Int) (q : Nat) (r : Int), ks.foldlM (fun q k => wk d f k (m : Int) q) (q : Int) = some r → ∃ xs : List Tree, ks = kidsAt q xs ∧ depT xs ≤ f ∧ (∃ post, d.drop q = flats q m xs ++ post) ∧ r = ((q + cntT xs : Nat) : Int) := by
            intro ks
            induction ks with
            | nil => intro q r h; simp at h; subst h; exact ⟨[], rfl, by simp [depT], ⟨_, by simp [flats]; rfl⟩, by simp [cntT]⟩
            | cons k ks ihk =>
              intro q r h
              rw [List.foldlM_cons] at h
              obtain ⟨q', h1, h2⟩ := Option.bind_eq_some_iff.1 h
              obtain ⟨rfl, x, x1, ⟨post, x2⟩, rfl⟩ := ih q k m q' h1
              obtain ⟨xs, e1, e2, ⟨post2, e3⟩, rfl⟩ := ihk _ _ h2
              refine ⟨x :: xs, by simp only [kidsAt, e1], by simp only [depT]; omega, ⟨post2, ?_⟩, by simp only [cntT, Nat.add_assoc]⟩
              have : d.drop (q + x.cnt) = post := by
                rw [← List.drop_drop, x2, List.drop_append_of_le_length (by rw [x.flat_len]; exact Nat.le_refl _), List.drop_eq_nil_of_le (by rw [x.flat_len]; exact Nat.le_refl _)]; rfl
              rw [x2, ← this, e3]; simp [flats]
          obtain ⟨xs, e1, e2, ⟨post, e3⟩, rfl⟩ := kids nd.kids (m + 1) r (by simpa using h)
          refine ⟨.mk nd.text nd.s nd.attrs xs, by simp only [Tree.dep]; omega, ⟨post, ?_⟩, by simp only [Tree.cnt]; congr 1; omega⟩
          rw [drop_eq hx, e3]
          simp only [Tree.flat, List.cons_append, List.cons.injEq, and_true]
          exact Node.ext' rfl rfl rfl hp e1
        · simp at h
    · simp at h
theorem wk_of (d : Doc) : ∀ (f : Nat) (x : Tree) (m : Nat) (p : Int), x.dep ≤ f → (∃ post, d.drop m = x.flat m p ++ post) → wk d f m p m = some ((m + x.cnt : Nat) : Int) := by
  intro f
  induction f with
  | zero => intro x m p h; rw [x.dep_eq] at h; omega
  | succ f ih =>
    intro x m p hd ⟨post, hx⟩
    rw [x.flat_eq] at hx
    obtain ⟨h1, h2⟩ := drop_mem hx
    unfold wk
    rw [if_pos rfl, Int.toNat_natCast, h1]
    simp only [Tree.node, if_true]
    have kids : ∀ (xs : List Tree) (q : Nat), depT xs ≤ f → (∃ post, d.drop q = flats q m xs ++ post) → (kidsAt q xs).foldlM (fun q k => wk d f k (m : Int) q) (q : Int) = some ((q + cntT xs : Nat) : Int) := by
      intro xs
      induction xs with
      | nil => intro q _ _; simp [kidsAt, cntT]
      | cons y ys ihk =>
        intro q hq ⟨post, hp⟩
        simp only [depT] at hq
        simp only [flats, List.append_assoc] at hp
        simp only [kidsAt, List.foldlM_cons]
        rw [ih y q m (by omega) ⟨_, hp⟩]
        simp only [Option.bind_eq_bind, Option.bind_some]
        rw [ihk (q + y.cnt) (by omega) ⟨post, by rw [← List.drop_drop, hp, List.drop_append_of_le_length (by rw [y.flat_len]; exact Nat.le_refl _), List.drop_eq_nil_of_le (by rw [y.flat_len]; exact Nat.le_refl _)]; rfl⟩]
        simp only [cntT, Nat.add_assoc]
    have hdep := x.dep_eq
    have := kids x.kids (m + 1) (by omega) ⟨post, h2⟩
    rw [show ((m : Int) + 1) = ((m + 1 : Nat) : Int) by omega, this, x.cnt_eq]
    congr 2; omega
mutual
theorem Tree.flat_inj : ∀ (x y : Tree) (off : Nat) (p : Int) (r r' : List Node), x.flat off p ++ r = y.flat off p ++ r' → x = y
  | .mk t s as ks, .mk t' s' as' ks', off, p, r, r', h => by
    simp only [Tree.flat, List.cons_append, List.cons.injEq, Node.mk.injEq] at h
    obtain ⟨⟨rfl, rfl, rfl, _, hk⟩, h⟩ := h
    have hl : ks.length = ks'.length := by have := congrArg List.length hk; simpa [kidsAt_len] using this
    rw [flats_inj ks ks' (off + 1) off r r' hl h]
theorem flats_inj : ∀ (xs ys : List Tree) (off p : Nat) (r r' : List Node), xs.length = ys.length → flats off p xs ++ r = flats off p ys ++ r' → xs = ys
  | [], [], _, _, _, _, _, _ => rfl
  | [], _ :: _, _, _, _, _, h, _ => by simp at h
  | _ :: _, [], _, _, _, _, h, _ => by simp at h
  | x :: xs, y :: ys, off, p, r, r', hl, h => by
    simp only [flats, List.append_assoc] at h
    have e := x.flat_inj y off p _ _ h
    subst e
    have := List.append_cancel_left h
    rw [flats_inj xs ys _ p r r' (by simpa using hl) this]
end
theorem docOf_inj {x y : Tree} (h : docOf x = docOf y) : x = y := x.flat_inj y 0 (-1) [] [] (by simpa [docOf] using h)
theorem docOf_len (x : Tree) : (docOf x).length = x.cnt := x.flat_len 0 (-1)
/-- The documents. -/
def IsDoc (d : Doc) : Prop := ∃ x : Tree, x.good = true ∧ d = docOf x
open Classical in
noncomputable def isDoc (d : Doc) : Bool := decide (IsDoc d)
theorem isDoc_iff {d : Doc} : isDoc d = true ↔ IsDoc d := by simp [isDoc]
theorem isDoc_of {x : Tree} (h : x.good = true) : isDoc (docOf x) = true := isDoc_iff.2 ⟨x, h, rfl⟩
theorem isDoc_not {d : Doc} (h : ¬ IsDoc d) : isDoc d = false := by simp [isDoc, h]
theorem good_iff (x : Tree) : x.good = true ↔ x.text = false ∧ x.dep ≤ 8 ∧ x.cnt ≤ 80 ∧ x.fine = true := by
  simp only [Tree.good, Bool.and_eq_true, Bool.not_eq_true', decide_eq_true_eq]
  constructor
  · rintro ⟨h1, h2, h3, h4⟩; exact ⟨h1, by omega, by omega, h4⟩
  · rintro ⟨h1, h2, h3, h4⟩; exact ⟨h1, by omega, by omega, h4⟩
theorem wk_doc {d : Doc} (h : wk d 8 0 (-1) 0 = some (d.length : Int)) : ∃ x : Tree, x.dep ≤ 8 ∧ d = docOf x := by
  obtain ⟨_, x, h1, ⟨post, h2⟩, h3⟩ := wk_some d 8 0 0 (-1) _ h
  refine ⟨x, h1, ?_⟩
  simp only [List.drop_zero, Nat.zero_add] at h2 h3
  have hl : post = [] := by
    have := congrArg List.length h2
    rw [List.length_append, x.flat_len] at this
    have : x.cnt = d.length := by omega
    exact List.length_eq_zero_iff.1 (by omega)
  rw [h2, hl, List.append_nil]; rfl
theorem wk_doc' {x : Tree} (h : x.dep ≤ 8) : wk (docOf x) 8 0 (-1) 0 = some ((docOf x).length : Int) := by
  have := wk_of (docOf x) 8 x 0 (-1) h ⟨[], by simp [docOf]⟩
  rw [docOf_len]; simpa using this
end Go.Am

/- Trees that are joined. -/
namespace Go.Am
open Go Go.RowKit
def Tree.withS (x : Tree) (s : Bs) : Tree := .mk x.text s x.attrs x.kids
/-- Is the last of some a text? -/
def lastT (p : Bool) : List Tree → Bool
  | [] => p
  | x :: r => lastT x.text r
/-- The last one is longer. -/
def grow (s : Bs) : List Tree → List Tree
  | [] => []
  | [x] => [x.withS (x.s ++ s)]
  | x :: y :: r => x :: grow s (y :: r)
/-- One more, joined to what is there. -/
def push (out : List Tree) (x : Tree) : List Tree :=
  if x.text && x.s == [] then out else if x.text && lastT false out then grow x.s out else out ++ [x]
mutual
def Tree.jn : Tree → Tree
  | .mk t s as ks => .mk t s as (joinA [] ks)
def joinA (out : List Tree) : List Tree → List Tree
  | [] => out
  | x :: r => joinA (push out x.jn) r
end
def joined (l : List Tree) : List Tree := joinA [] l
theorem Tree.jn_eq (x : Tree) : x.jn = .mk x.text x.s x.attrs (joined x.kids) := by cases x; simp [Tree.jn, joined, Tree.text, Tree.s, Tree.attrs, Tree.kids]
theorem Tree.jn_text (x : Tree) : x.jn.text = x.text := by rw [x.jn_eq]; rfl
theorem Tree.jn_s (x : Tree) : x.jn.s = x.s := by rw [x.jn_eq]; rfl
theorem Tree.jn_attrs (x : Tree) : x.jn.attrs = x.attrs := by rw [x.jn_eq]; rfl
theorem Tree.jn_kids (x : Tree) : x.jn.kids = joined x.kids := by rw [x.jn_eq]; rfl
theorem joinA_app : ∀ (xs ys out : List Tree), joinA out (xs ++ ys) = joinA (joinA out xs) ys
  | [], ys, out => by simp [joinA]
  | x :: r, ys, out => by simp [joinA, joinA_app r ys]
theorem lastT_get (p : Bool) : ∀ (xs : List Tree), xs ≠ [] → ∃ y, xs[xs.length - 1]? = some y ∧ lastT p xs = y.text
  | [], h => absurd rfl h
  | [x], _ => ⟨x, rfl, rfl⟩
  | x :: y :: r, _ => by
    obtain ⟨z, h1, h2⟩ := lastT_get x.text (y :: r) (by simp)
    exact ⟨z, by simpa using h1, by simpa [lastT] using h2⟩
theorem grow_len (s : Bs) : ∀ (xs : List Tree), (grow s xs).length = xs.length
  | [] => rfl
  | [x] => rfl
  | x :: y :: r => by simp only [grow, List.length_cons, grow_len s (y :: r)]
theorem grow_eq (s : Bs) : ∀ (xs : List Tree) (y : Tree), xs[xs.length - 1]? = some y → grow s xs = xs.set (xs.length - 1) (y.withS (y.s ++ s))
  | [], y, h => by simp at h
  | [x], y, h => by simp at h; subst h; rfl
  | x :: z :: r, y, h => by
    have := grow_eq s (z :: r) y (by simpa using h)
    simp only [grow, this]; simp
theorem wtT_grow (s : Bs) : ∀ (xs : List Tree), wtT (grow s xs) ≤ wtT xs + s.length
  | [] => by simp [grow, wtT]
  | [x] => by cases x; simp [grow, wtT, Tree.withS, Tree.wt, Tree.text, Tree.s, Tree.attrs, Tree.kids]; omega
  | x :: y :: r => by have := wtT_grow s (y :: r); simp only [grow, wtT] at this ⊢; omega
theorem wtT_push (out : List Tree) (x : Tree) : wtT (push out x) ≤ wtT out + x.wt := by
  unfold push
  split
  · omega
  · split
    · have := wtT_grow x.s out; have := x.wt_eq; omega
    · rw [wtT_app]; simp [wtT]
mutual
theorem Tree.wt_jn : ∀ x : Tree, x.jn.wt ≤ x.wt
  | .mk t s as ks => by have := wtT_joinA [] ks; simp only [Tree.jn, Tree.wt, wtT] at this ⊢; omega
theorem wtT_joinA : ∀ (out l : List Tree), wtT (joinA out l) ≤ wtT out + wtT l
  | out, [] => by simp [joinA, wtT]
  | out, x :: r => by
    have := wtT_joinA (push out x.jn) r
    have := wtT_push out x.jn
    have := x.wt_jn
    simp only [joinA, wtT]; omega
end
end Go.Am

/- Joined. -/
namespace Go.Am
open Go Go.RowKit
def c_tree_Joined (f_tree_Joined : Nat) : AC :=
(.seq (.reg [⟨(some 2), none, (.mov (.c .nil0))⟩]) (.seq (.reg [⟨(some 3), none, (.mov (.c .nil0))⟩]) (.gh (.own 3 4) (.seq (.seq (.reg [⟨(some 7), none, (.mov (.t 0))⟩, ⟨(some 8), none, (.len (.t 7))⟩, ⟨(some 9), none, (.mov (.c (.int .i64 0)))⟩]) (.block 0 (.loop (.seq (.reg [⟨(some 10), none, (.bin .lss (.t 9) (.t 8))⟩]) (.seq (.cond (.t 10) .skip (.exit 0)) (.seq (.block 1 (.seq (.reg [⟨(some 11), none, (.ixa (.t 7) (.t 9) 4)⟩, ⟨(some 12), none, (.load (some 4) (.t 11))⟩, ⟨(some 5), none, (.new [(.bool false), (.str []), .nil0, .nil0])⟩, ⟨none, none, (.store 4 (.t 5) (.t 12))⟩]) (.seq (.reg [⟨(some 13), none, (.fld (.t 5) 3)⟩, ⟨(some 14), none, (.load none (.t 13))⟩, ⟨(some 15), none, (.call f_tree_Joined [(.t 14)])⟩, ⟨(some 16), none, (.fld (.t 5) 3)⟩, ⟨none, none, (.store 1 (.t 16) (.t 15))⟩]) (.seq (.reg [⟨(some 17), none, (.mov (.t 3))⟩, ⟨(some 18), none, (.len (.t 17))⟩, ⟨(some 6), none, (.mov (.t 18))⟩]) (.block 2 (.seq (.reg [⟨(some 24), none, (.fld (.t 5) 0)⟩, ⟨(some 25), none, (.load none (.t 24))⟩, ⟨(some 26), none, (.mov (.t 25))⟩, ⟨(some 27), (some (26, true)), (.fld (.t 5) 1)⟩, ⟨(some 28), (some (26, true)), (.load none (.t 27))⟩, ⟨(some 29), (some (26, true)), (.bin .eql (.t 28) (.c (.str [])))⟩, ⟨(some 30), none, (.pick (.t 26) (.t 29) (.c (.bool false)))⟩, ⟨(some 23), none, (.mov (.t 30))⟩]) (.cond (.t 23) .skip (.seq (.reg [⟨(some 32), none, (.fld (.t 5) 0)⟩, ⟨(some 33), none, (.load none (.t 32))⟩, ⟨(some 34), none, (.mov (.t 33))⟩, ⟨(some 35), (some (34, true)), (.mov (.t 6))⟩, ⟨(some 36), (some (34, true)), (.bin .gtr (.t 35) (.c (.int .i64 0)))⟩, ⟨(some 37), none, (.pick (.t 34) (.t 36) (.c (.bool false)))⟩, ⟨(some 38), none, (.mov (.t 37))⟩, ⟨(some 39), (some (38, true)), (.mov (.t 3))⟩, ⟨(some 40), (some (38, true)), (.mov (.t 6))⟩, ⟨(some 41), (some (38, true)), (.bin .sub (.t 40) (.c (.int .i64 1)))⟩, ⟨(some 42), (some (38, true)), (.ixa (.t 39) (.t 41) 4)⟩, ⟨(some 43), (some (38, true)), (.fld (.t 42) 0)⟩, ⟨(some 44), (some (38, true)), (.load none (.t 43))⟩, ⟨(some 45), none, (.pick (.t 38) (.t 44) (.c (.bool false)))⟩, ⟨(some 31), none, (.mov (.t 45))⟩]) (.cond (.t 31) (.dreg [⟨(some 46), none, (.mov (.t 3))⟩, ⟨(some 47), none, (.mov (.t 6))⟩, ⟨(some 48), none, (.bin .sub (.t 47) (.c (.int .i64 1)))⟩, ⟨(some 49), none, (.ixa (.t 46) (.t 48) 4)⟩, ⟨(some 50), none, (.fld (.t 49) 1)⟩, ⟨(some 51), none, (.load none (.t 50))⟩, ⟨(some 52), none, (.fld (.t 5) 1)⟩, ⟨(some 53), none, (.load none (.t 52))⟩, ⟨(some 54), none, (.bin .add (.t 51) (.t 53))⟩, ⟨(some 55), none, (.ixa (.t 46) (.t 48) 4)⟩, ⟨(some 56), none, (.fld (.t 55) 1)⟩, ⟨none, none, (.store 1 (.t 56) (.t 54))⟩] [[], [], [1], [0, 2], [3], [4], [], [6], [5, 7], [0, 2, 0, 1, 2, 3, 4, 5, 6, 7, 8], [9, 0, 1, 2, 3, 4, 5, 6, 7, 8], [10, 8, 0, 1, 2, 3, 4, 5, 6, 7, 8]] [.no, .no, .no, .no, .no, (.rw [.loc 3] []), .no, .rw [.loc 5] [], .no, .no, .no, (.rw [] [.loc 3])]) (.reg [⟨(some 19), none, (.mov (.t 3))⟩, ⟨(some 20), none, (.load (some 4) (.t 5))⟩, ⟨(some 21), none, (.lits 1 4 [(.bool false), (.str []), .nil0, .nil0] [(0, (.t 20))])⟩, ⟨(some 22), none, (.app (.t 19) (.t 21) 4 72)⟩, ⟨(some 3), none, (.mov (.t 22))⟩])))))))))) (.reg [⟨(some 57), none, (.bin .add (.t 9) (.c (.int .i64 1)))⟩, ⟨(some 9), none, (.mov (.t 57))⟩]))))))) (.seq (.reg [⟨(some 58), none, (.mov (.t 3))⟩, ⟨(some 2), none, (.mov (.t 58))⟩]) (.gh (.frz (.loc 3) 2) .ret))))))
theorem Tree.cs_av (x : Tree) : x.cs.map IV.av1 = [.bool x.text, .str x.s, .list (ivA x.attrs), .list (ivT x.kids)] := rfl
theorem pJoined {P : Program} {G : Nat → Option (List IV)} {f_tree_Joined : Nat} (hF : compF P G f_tree_Joined = some (59, [(none, 2)], (c_tree_Joined f_tree_Joined).bare)) (l : List Tree) (hx : wtT l ≤ B)
    (hJ : ∀ x ∈ l, PureC P G f_tree_Joined [.list (ivT x.kids)] (.list (ivT (joined x.kids)))) : PureC P G f_tree_Joined [.list (ivT l)] (.list (ivT (joined l))) := by
  refine pure_of_go hF (by simp) (by simp [lbss, AV.lbs]) (by simp [AV.lbs]) ?_
  have hl := wtT_len l
  unfold c_tree_Joined
  simp only [↓aX, evp, evq, evl, boxK, stillV, binV, AV.cells, mP, loadV, storeV, ldV, AV.stb, AV.one, IV.av1, Lb.app, Lb.fresh, reduceCtorEq, ptrL, appL, fillA, chunks, ivs, AV.iv, mkE, if_false, if_true, List.not_mem_nil, forall_eq, beq_self_eq_true, List.isEmpty_nil, Nat.reduceEqDiff, Nat.reduceLT, Nat.reduceLeDiff, Nat.reduceAdd, Nat.reduceMul, Int.reduceToNat, Int.reduceLE, Int.reduceLT, ivT_len]
  refine loop_row (σ := { i : Nat // i ≤ l.length }) 3 4 (fun q => [(7, .list (ivT l)), (8, .int .i64 l.length), (9, .int .i64 q.1)]) (fun q => ivT (joinA [] (l.take q.1))) (fun q => l.length - q.1) ⟨0, by simp⟩ (fun _ => rfl) ?_ ?_
  · simp only [WR_at, ↓aX, evp, evq, evl, boxK, stillV, binV, AV.cells, mP, loadV, storeV, ldV, AV.stb, AV.one, IV.av1, Lb.app, Lb.fresh, reduceCtorEq, ptrL, appL, fillA, chunks, ivs, AV.iv, mkE, if_false, if_true, List.not_mem_nil, forall_eq, beq_self_eq_true, List.isEmpty_nil, Nat.reduceEqDiff, Nat.reduceLT, Nat.reduceLeDiff, Nat.reduceAdd, Nat.reduceMul, Int.reduceToNat, Int.reduceLE, Int.reduceLT]
    exact ⟨rfl, 3, [], rfl, rfl, rfl⟩
  · rintro ⟨i, hi⟩
    have hw0 := wtT_joinA [] (l.take i)
    have hw1 := wtT_take l i
    have hw2 := wtT_len (joinA [] (l.take i))
    simp only [wtT] at hw0
    simp only [↓aX, evp, evq, evl, boxK, stillV, binV, AV.cells, mP, loadV, storeV, ldV, AV.stb, AV.one, IV.av1, Lb.app, Lb.fresh, reduceCtorEq, ptrL, appL, fillA, chunks, ivs, AV.iv, mkE, if_false, if_true, List.not_mem_nil, forall_eq, beq_self_eq_true, List.isEmpty_nil, Nat.reduceEqDiff, Nat.reduceLT, Nat.reduceLeDiff, Nat.reduceAdd, Nat.reduceMul, Int.reduceToNat, Int.reduceLE, Int.reduceLT, ivT_len]
    refine cK_b (fun h => ?_) (fun h => ?_)
    · have hlt : i < l.length := by simpa using h
      obtain ⟨x, hxi⟩ : ∃ x, l[i]? = some x := ⟨_, List.getElem?_eq_getElem hlt⟩
      have hw : IntKind.i64.wrap ((i : Int) + 1) = ((i + 1 : Nat) : Int) := wrap64 (by omega) (by unfold B at hx; omega)
      have hnext : joinA [] (l.take (i + 1)) = push (joinA [] (l.take i)) x.jn := by rw [List.take_add_one, hxi, joinA_app]; rfl
      simp only [↓aX, evp, evq, evl, boxK, stillV, binV, AV.cells, mP, loadV, storeV, ldV, AV.stb, AV.one, IV.av1, Lb.app, Lb.fresh, reduceCtorEq, ptrL, appL, fillA, chunks, ivs, AV.iv, mkE, if_false, if_true, List.not_mem_nil, forall_eq, beq_self_eq_true, List.isEmpty_nil, Nat.reduceEqDiff, Nat.reduceLT, Nat.reduceLeDiff, Nat.reduceAdd, Nat.reduceMul, Int.reduceToNat, Int.reduceLE, Int.reduceLT, h, hw, ivT_get, hxi, elszT, Tree.cells_eq, Tree.cs]
      generalize hout : joinA [] (l.take i) = out at *
      refine callT_pure (hJ x (List.mem_of_getElem? hxi)) ?_
      have hlen : (ivT out).length = out.length := ivT_len _
      have hivj : ivT (out ++ [x.jn]) = ivT out ++ [.agg [.bool x.text, .str x.s, .list (ivA x.attrs), .list (ivT (joined x.kids))]] := by
        rw [ivT_app]; simp [ivT, Tree.iv_eq, Tree.cs, x.jn_text, x.jn_s, x.jn_attrs, x.jn_kids]
      have next : ∀ (out' : List Tree) (env : Env) (H : Hp) (n : Nat), push out x.jn = out' → NF H → env 7 = .list (ivT l) → env 8 = .int .i64 l.length → env 9 = .int .i64 ((i + 1 : Nat) : Int) → env 3 = .sl (.loc n) 4 0 out'.length → H (.loc n) = .live ⟨4, immE (ivT out')⟩ →
          ∃ s : { i : Nat // i ≤ l.length }, l.length - s.1 < l.length - i ∧ WR 3 4 (fun q : { i : Nat // i ≤ l.length } => [(7, .list (ivT l)), (8, .int .i64 l.length), (9, .int .i64 q.1)]) (fun q => ivT (joinA [] (l.take q.1))) env H s := by
        intro out' env H n h1 h2 h3 h4 h5 h6 h7
        refine ⟨⟨i + 1, hlt⟩, by simp only; omega, ?_⟩
        rw [WR_at]
        simp only [EqI_cons, EqI_nil, and_true, hnext, h1, ivT_len]
        exact ⟨h2, ⟨h3, h4, h5⟩, n, _, h6, h7, rfl⟩
      simp only [↓aX, evp, evq, evl, boxK, stillV, binV, AV.cells, mP, loadV, storeV, ldV, AV.stb, AV.one, IV.av1, Lb.app, Lb.fresh, reduceCtorEq, ptrL, appL, fillA, chunks, ivs, AV.iv, mkE, if_false, if_true, List.not_mem_nil, forall_eq, beq_self_eq_true, List.isEmpty_nil, Nat.reduceEqDiff, Nat.reduceLT, Nat.reduceLeDiff, Nat.reduceAdd, Nat.reduceMul, Int.reduceToNat, Int.reduceLE, Int.reduceLT, ivT_len]
      cases ht : x.text with
      | false =>
        have hp : push out x.jn = out ++ [x.jn] := by unfold push; rw [x.jn_text, ht]; simp
        simp only [↓aX, evp, evq, evl, boxK, stillV, binV, AV.cells, mP, loadV, storeV, ldV, AV.stb, AV.one, IV.av1, Lb.app, Lb.fresh, reduceCtorEq, ptrL, appL, fillA, chunks, ivs, AV.iv, mkE, if_false, if_true, List.not_mem_nil, forall_eq, beq_self_eq_true, List.isEmpty_nil, Nat.reduceEqDiff, Nat.reduceLT, Nat.reduceLeDiff, Nat.reduceAdd, Nat.reduceMul, Int.reduceToNat, Int.reduceLE, Int.reduceLT, ivT_len]
        rw [app_loc 4 72 22 3 (ivT out) (.agg [.bool false, .str x.s, .list (ivA x.attrs), .list (ivT (joined x.kids))]) (by simp [upd_at]) hlen rfl (by simp [IV.cells]) (by unfold B at hx; omega) (by decide) (by decide) (by simp [upd_at, Hp.none])]
        simp only [↓aX, evp, evq, evl, boxK, stillV, binV, AV.cells, mP, loadV, storeV, ldV, AV.stb, AV.one, IV.av1, Lb.app, Lb.fresh, reduceCtorEq, ptrL, appL, fillA, chunks, ivs, AV.iv, mkE, if_false, if_true, List.not_mem_nil, forall_eq, beq_self_eq_true, List.isEmpty_nil, Nat.reduceEqDiff, Nat.reduceLT, Nat.reduceLeDiff, Nat.reduceAdd, Nat.reduceMul, Int.reduceToNat, Int.reduceLE, Int.reduceLT, hw]
        refine next _ _ _ 22 hp (by simp only [↓aX, evp, evq, evl, boxK, stillV, binV, AV.cells, mP, loadV, storeV, ldV, AV.stb, AV.one, IV.av1, Lb.app, Lb.fresh, reduceCtorEq, ptrL, appL, fillA, chunks, ivs, AV.iv, mkE, if_false, if_true, List.not_mem_nil, forall_eq, beq_self_eq_true, List.isEmpty_nil, Nat.reduceEqDiff, Nat.reduceLT, Nat.reduceLeDiff, Nat.reduceAdd, Nat.reduceMul, Int.reduceToNat, Int.reduceLE, Int.reduceLT]) rfl rfl rfl (by simp only [↓aX, evp, evq, evl, boxK, stillV, binV, AV.cells, mP, loadV, storeV, ldV, AV.stb, AV.one, IV.av1, Lb.app, Lb.fresh, reduceCtorEq, ptrL, appL, fillA, chunks, ivs, AV.iv, mkE, if_false, if_true, List.not_mem_nil, forall_eq, beq_self_eq_true, List.isEmpty_nil, Nat.reduceEqDiff, Nat.reduceLT, Nat.reduceLeDiff, Nat.reduceAdd, Nat.reduceMul, Int.reduceToNat, Int.reduceLE, Int.reduceLT]; simp) ?_
        rw [hivj, ht]; simp only [↓aX, evp, evq, evl, boxK, stillV, binV, AV.cells, mP, loadV, storeV, ldV, AV.stb, AV.one, IV.av1, Lb.app, Lb.fresh, reduceCtorEq, ptrL, appL, fillA, chunks, ivs, AV.iv, mkE, if_false, if_true, List.not_mem_nil, forall_eq, beq_self_eq_true, List.isEmpty_nil, Nat.reduceEqDiff, Nat.reduceLT, Nat.reduceLeDiff, Nat.reduceAdd, Nat.reduceMul, Int.reduceToNat, Int.reduceLE, Int.reduceLT]
      | true =>
        simp only [↓aX, evp, evq, evl, boxK, stillV, binV, AV.cells, mP, loadV, storeV, ldV, AV.stb, AV.one, IV.av1, Lb.app, Lb.fresh, reduceCtorEq, ptrL, appL, fillA, chunks, ivs, AV.iv, mkE, if_false, if_true, List.not_mem_nil, forall_eq, beq_self_eq_true, List.isEmpty_nil, Nat.reduceEqDiff, Nat.reduceLT, Nat.reduceLeDiff, Nat.reduceAdd, Nat.reduceMul, Int.reduceToNat, Int.reduceLE, Int.reduceLT, ivT_len]
        cases hs : (x.s == []) with
        | true =>
          have hp : push out x.jn = out := by unfold push; rw [x.jn_text, ht, x.jn_s, hs]; rfl
          simp only [↓aX, evp, evq, evl, boxK, stillV, binV, AV.cells, mP, loadV, storeV, ldV, AV.stb, AV.one, IV.av1, Lb.app, Lb.fresh, reduceCtorEq, ptrL, appL, fillA, chunks, ivs, AV.iv, mkE, if_false, if_true, List.not_mem_nil, forall_eq, beq_self_eq_true, List.isEmpty_nil, Nat.reduceEqDiff, Nat.reduceLT, Nat.reduceLeDiff, Nat.reduceAdd, Nat.reduceMul, Int.reduceToNat, Int.reduceLE, Int.reduceLT, hw]
          exact next _ _ _ 3 hp (by simp only [↓aX, evp, evq, evl, boxK, stillV, binV, AV.cells, mP, loadV, storeV, ldV, AV.stb, AV.one, IV.av1, Lb.app, Lb.fresh, reduceCtorEq, ptrL, appL, fillA, chunks, ivs, AV.iv, mkE, if_false, if_true, List.not_mem_nil, forall_eq, beq_self_eq_true, List.isEmpty_nil, Nat.reduceEqDiff, Nat.reduceLT, Nat.reduceLeDiff, Nat.reduceAdd, Nat.reduceMul, Int.reduceToNat, Int.reduceLE, Int.reduceLT]) rfl rfl rfl (by simp only [↓aX, evp, evq, evl, boxK, stillV, binV, AV.cells, mP, loadV, storeV, ldV, AV.stb, AV.one, IV.av1, Lb.app, Lb.fresh, reduceCtorEq, ptrL, appL, fillA, chunks, ivs, AV.iv, mkE, if_false, if_true, List.not_mem_nil, forall_eq, beq_self_eq_true, List.isEmpty_nil, Nat.reduceEqDiff, Nat.reduceLT, Nat.reduceLeDiff, Nat.reduceAdd, Nat.reduceMul, Int.reduceToNat, Int.reduceLE, Int.reduceLT, ivT_len]) rfl
        | false =>
          simp only [↓aX, evp, evq, evl, boxK, stillV, binV, AV.cells, mP, loadV, storeV, ldV, AV.stb, AV.one, IV.av1, Lb.app, Lb.fresh, reduceCtorEq, ptrL, appL, fillA, chunks, ivs, AV.iv, mkE, if_false, if_true, List.not_mem_nil, forall_eq, beq_self_eq_true, List.isEmpty_nil, Nat.reduceEqDiff, Nat.reduceLT, Nat.reduceLeDiff, Nat.reduceAdd, Nat.reduceMul, Int.reduceToNat, Int.reduceLE, Int.reduceLT]
          by_cases h0 : out = []
          · have hp : push out x.jn = out ++ [x.jn] := by unfold push; rw [x.jn_text, ht, x.jn_s, hs, h0]; rfl
            rw [show decide ((out.length : Int) > 0) = false by rw [h0]; rfl]
            simp only [↓aX, evp, evq, evl, boxK, stillV, binV, AV.cells, mP, loadV, storeV, ldV, AV.stb, AV.one, IV.av1, Lb.app, Lb.fresh, reduceCtorEq, ptrL, appL, fillA, chunks, ivs, AV.iv, mkE, if_false, if_true, List.not_mem_nil, forall_eq, beq_self_eq_true, List.isEmpty_nil, Nat.reduceEqDiff, Nat.reduceLT, Nat.reduceLeDiff, Nat.reduceAdd, Nat.reduceMul, Int.reduceToNat, Int.reduceLE, Int.reduceLT, ivT_len]
            rw [app_loc 4 72 22 3 (ivT out) (.agg [.bool true, .str x.s, .list (ivA x.attrs), .list (ivT (joined x.kids))]) (by simp [upd_at]) hlen rfl (by simp [IV.cells]) (by unfold B at hx; omega) (by decide) (by decide) (by simp [upd_at, Hp.none])]
            simp only [↓aX, evp, evq, evl, boxK, stillV, binV, AV.cells, mP, loadV, storeV, ldV, AV.stb, AV.one, IV.av1, Lb.app, Lb.fresh, reduceCtorEq, ptrL, appL, fillA, chunks, ivs, AV.iv, mkE, if_false, if_true, List.not_mem_nil, forall_eq, beq_self_eq_true, List.isEmpty_nil, Nat.reduceEqDiff, Nat.reduceLT, Nat.reduceLeDiff, Nat.reduceAdd, Nat.reduceMul, Int.reduceToNat, Int.reduceLE, Int.reduceLT, hw]
            refine next _ _ _ 22 hp (by simp only [↓aX, evp, evq, evl, boxK, stillV, binV, AV.cells, mP, loadV, storeV, ldV, AV.stb, AV.one, IV.av1, Lb.app, Lb.fresh, reduceCtorEq, ptrL, appL, fillA, chunks, ivs, AV.iv, mkE, if_false, if_true, List.not_mem_nil, forall_eq, beq_self_eq_true, List.isEmpty_nil, Nat.reduceEqDiff, Nat.reduceLT, Nat.reduceLeDiff, Nat.reduceAdd, Nat.reduceMul, Int.reduceToNat, Int.reduceLE, Int.reduceLT]) rfl rfl rfl (by simp only [↓aX, evp, evq, evl, boxK, stillV, binV, AV.cells, mP, loadV, storeV, ldV, AV.stb, AV.one, IV.av1, Lb.app, Lb.fresh, reduceCtorEq, ptrL, appL, fillA, chunks, ivs, AV.iv, mkE, if_false, if_true, List.not_mem_nil, forall_eq, beq_self_eq_true, List.isEmpty_nil, Nat.reduceEqDiff, Nat.reduceLT, Nat.reduceLeDiff, Nat.reduceAdd, Nat.reduceMul, Int.reduceToNat, Int.reduceLE, Int.reduceLT]; simp) ?_
            rw [hivj, ht]; simp only [↓aX, evp, evq, evl, boxK, stillV, binV, AV.cells, mP, loadV, storeV, ldV, AV.stb, AV.one, IV.av1, Lb.app, Lb.fresh, reduceCtorEq, ptrL, appL, fillA, chunks, ivs, AV.iv, mkE, if_false, if_true, List.not_mem_nil, forall_eq, beq_self_eq_true, List.isEmpty_nil, Nat.reduceEqDiff, Nat.reduceLT, Nat.reduceLeDiff, Nat.reduceAdd, Nat.reduceMul, Int.reduceToNat, Int.reduceLE, Int.reduceLT]
          · have hpos : 0 < out.length := List.length_pos_iff.2 h0
            obtain ⟨y, hy, hlast⟩ := lastT_get false out h0
            have hw3 : IntKind.i64.wrap ((out.length : Int) - 1) = ((out.length - 1 : Nat) : Int) := by rw [wrap64 (by omega) (by unfold B at hx; omega)]; omega
            have hget : (immE (ivT out))[out.length - 1]? = some [.bool y.text, .str y.s, .list (ivA y.attrs), .list (ivT y.kids)] := by rw [immE_get, ivT_get, hy]; simp [Tree.cells_eq, Tree.cs, IV.av1]
            have hlt2 : out.length - 1 < out.length := by omega
            rw [show decide ((out.length : Int) > 0) = true by simp; exact hpos]
            simp only [↓aX, evp, evq, evl, boxK, stillV, binV, AV.cells, mP, loadV, storeV, ldV, AV.stb, AV.one, IV.av1, Lb.app, Lb.fresh, reduceCtorEq, ptrL, appL, fillA, chunks, ivs, AV.iv, mkE, if_false, if_true, List.not_mem_nil, forall_eq, beq_self_eq_true, List.isEmpty_nil, Nat.reduceEqDiff, Nat.reduceLT, Nat.reduceLeDiff, Nat.reduceAdd, Nat.reduceMul, Int.reduceToNat, Int.reduceLE, Int.reduceLT, hw3, hlt2, hget, ivT_len]
            cases hyt : y.text with
            | false =>
              have hp : push out x.jn = out ++ [x.jn] := by unfold push; rw [x.jn_text, ht, x.jn_s, hs, hlast, hyt]; rfl
              simp only [↓aX, evp, evq, evl, boxK, stillV, binV, AV.cells, mP, loadV, storeV, ldV, AV.stb, AV.one, IV.av1, Lb.app, Lb.fresh, reduceCtorEq, ptrL, appL, fillA, chunks, ivs, AV.iv, mkE, if_false, if_true, List.not_mem_nil, forall_eq, beq_self_eq_true, List.isEmpty_nil, Nat.reduceEqDiff, Nat.reduceLT, Nat.reduceLeDiff, Nat.reduceAdd, Nat.reduceMul, Int.reduceToNat, Int.reduceLE, Int.reduceLT, ivT_len]
              rw [app_loc 4 72 22 3 (ivT out) (.agg [.bool true, .str x.s, .list (ivA x.attrs), .list (ivT (joined x.kids))]) (by simp [upd_at]) hlen rfl (by simp [IV.cells]) (by unfold B at hx; omega) (by decide) (by decide) (by simp [upd_at, Hp.none])]
              simp only [↓aX, evp, evq, evl, boxK, stillV, binV, AV.cells, mP, loadV, storeV, ldV, AV.stb, AV.one, IV.av1, Lb.app, Lb.fresh, reduceCtorEq, ptrL, appL, fillA, chunks, ivs, AV.iv, mkE, if_false, if_true, List.not_mem_nil, forall_eq, beq_self_eq_true, List.isEmpty_nil, Nat.reduceEqDiff, Nat.reduceLT, Nat.reduceLeDiff, Nat.reduceAdd, Nat.reduceMul, Int.reduceToNat, Int.reduceLE, Int.reduceLT, hw]
              refine next _ _ _ 22 hp (by simp only [↓aX, evp, evq, evl, boxK, stillV, binV, AV.cells, mP, loadV, storeV, ldV, AV.stb, AV.one, IV.av1, Lb.app, Lb.fresh, reduceCtorEq, ptrL, appL, fillA, chunks, ivs, AV.iv, mkE, if_false, if_true, List.not_mem_nil, forall_eq, beq_self_eq_true, List.isEmpty_nil, Nat.reduceEqDiff, Nat.reduceLT, Nat.reduceLeDiff, Nat.reduceAdd, Nat.reduceMul, Int.reduceToNat, Int.reduceLE, Int.reduceLT]) rfl rfl rfl (by simp only [↓aX, evp, evq, evl, boxK, stillV, binV, AV.cells, mP, loadV, storeV, ldV, AV.stb, AV.one, IV.av1, Lb.app, Lb.fresh, reduceCtorEq, ptrL, appL, fillA, chunks, ivs, AV.iv, mkE, if_false, if_true, List.not_mem_nil, forall_eq, beq_self_eq_true, List.isEmpty_nil, Nat.reduceEqDiff, Nat.reduceLT, Nat.reduceLeDiff, Nat.reduceAdd, Nat.reduceMul, Int.reduceToNat, Int.reduceLE, Int.reduceLT]; simp) ?_
              rw [hivj, ht]; simp only [↓aX, evp, evq, evl, boxK, stillV, binV, AV.cells, mP, loadV, storeV, ldV, AV.stb, AV.one, IV.av1, Lb.app, Lb.fresh, reduceCtorEq, ptrL, appL, fillA, chunks, ivs, AV.iv, mkE, if_false, if_true, List.not_mem_nil, forall_eq, beq_self_eq_true, List.isEmpty_nil, Nat.reduceEqDiff, Nat.reduceLT, Nat.reduceLeDiff, Nat.reduceAdd, Nat.reduceMul, Int.reduceToNat, Int.reduceLE, Int.reduceLT]
            | true =>
              have hp : push out x.jn = grow x.s out := by unfold push; rw [x.jn_text, ht, x.jn_s, hs, hlast, hyt]; rfl
              have hg := grow_eq x.s out y hy
              simp only [↓aX, evp, evq, evl, boxK, stillV, binV, AV.cells, mP, loadV, storeV, ldV, AV.stb, AV.one, IV.av1, Lb.app, Lb.fresh, reduceCtorEq, ptrL, appL, fillA, chunks, ivs, AV.iv, mkE, if_false, if_true, List.not_mem_nil, forall_eq, beq_self_eq_true, List.isEmpty_nil, Nat.reduceEqDiff, Nat.reduceLT, Nat.reduceLeDiff, Nat.reduceAdd, Nat.reduceMul, Int.reduceToNat, Int.reduceLE, Int.reduceLT, hw3, hlt2, hget, ivT_len, hyt]
              refine ⟨rfl, ?_⟩
              have hadd : y.s.length + x.s.length ≤ 9223372036854775807 := by
                have h1 := wtT_get _ _ _ hy
                have h2 := y.wt_eq
                have h3 := wtT_get _ _ _ hxi
                have h4 := x.wt_eq
                unfold B at hx; omega
              simp only [↓aX, evp, evq, evl, boxK, stillV, binV, AV.cells, mP, loadV, storeV, ldV, AV.stb, AV.one, IV.av1, Lb.app, Lb.fresh, reduceCtorEq, ptrL, appL, fillA, chunks, ivs, AV.iv, mkE, if_false, if_true, List.not_mem_nil, forall_eq, beq_self_eq_true, List.isEmpty_nil, Nat.reduceEqDiff, Nat.reduceLT, Nat.reduceLeDiff, Nat.reduceAdd, Nat.reduceMul, Int.reduceToNat, Int.reduceLE, Int.reduceLT, hadd, hw3, hlt2, hget, ivT_len, hyt, immE_len, hw]
              refine next (grow x.s out) _ _ 3 hp (by simp only [↓aX, evp, evq, evl, boxK, stillV, binV, AV.cells, mP, loadV, storeV, ldV, AV.stb, AV.one, IV.av1, Lb.app, Lb.fresh, reduceCtorEq, ptrL, appL, fillA, chunks, ivs, AV.iv, mkE, if_false, if_true, List.not_mem_nil, forall_eq, beq_self_eq_true, List.isEmpty_nil, Nat.reduceEqDiff, Nat.reduceLT, Nat.reduceLeDiff, Nat.reduceAdd, Nat.reduceMul, Int.reduceToNat, Int.reduceLE, Int.reduceLT]) rfl rfl rfl (by simp only [↓aX, evp, evq, evl, boxK, stillV, binV, AV.cells, mP, loadV, storeV, ldV, AV.stb, AV.one, IV.av1, Lb.app, Lb.fresh, reduceCtorEq, ptrL, appL, fillA, chunks, ivs, AV.iv, mkE, if_false, if_true, List.not_mem_nil, forall_eq, beq_self_eq_true, List.isEmpty_nil, Nat.reduceEqDiff, Nat.reduceLT, Nat.reduceLeDiff, Nat.reduceAdd, Nat.reduceMul, Int.reduceToNat, Int.reduceLE, Int.reduceLT, ivT_len, grow_len]) ?_
              have hiv : (y.withS (y.s ++ x.s)).iv.cells.map IV.av1 = [.bool true, .str (y.s ++ x.s), .list (ivA y.attrs), .list (ivT y.kids)] := by
                rw [Tree.cells_eq, Tree.cs_av]; simp [Tree.withS, Tree.text, Tree.s, Tree.attrs, Tree.kids]; rw [← hyt]; rfl
              simp only [↓aX, evp, evq, evl, boxK, stillV, binV, AV.cells, mP, loadV, storeV, ldV, AV.stb, AV.one, IV.av1, Lb.app, Lb.fresh, reduceCtorEq, ptrL, appL, fillA, chunks, ivs, AV.iv, mkE, if_false, if_true, List.not_mem_nil, forall_eq, beq_self_eq_true, List.isEmpty_nil, Nat.reduceEqDiff, Nat.reduceLT, Nat.reduceLeDiff, Nat.reduceAdd, Nat.reduceMul, Int.reduceToNat, Int.reduceLE, Int.reduceLT]
              have hset : ivT (out.set (out.length - 1) (y.withS (y.s ++ x.s))) = (ivT out).set (out.length - 1) (y.withS (y.s ++ x.s)).iv := by rw [ivT_map, ivT_map, List.map_set]
              rw [hg, hset, ← immE_set, hiv]
    · simp only [↓aX, evp, evq, evl, boxK, stillV, binV, AV.cells, mP, loadV, storeV, ldV, AV.stb, AV.one, IV.av1, Lb.app, Lb.fresh, reduceCtorEq, ptrL, appL, fillA, chunks, ivs, AV.iv, mkE, if_false, if_true, List.not_mem_nil, forall_eq, beq_self_eq_true, List.isEmpty_nil, Nat.reduceEqDiff, Nat.reduceLT, Nat.reduceLeDiff, Nat.reduceAdd, Nat.reduceMul, Int.reduceToNat, Int.reduceLE, Int.reduceLT, h]
      refine ⟨4, ivT (joinA [] (l.take i)), 0, _, rfl, rfl, by rw [ivT_len]; omega, flatT _, ?_⟩
      have hil : i = l.length := by simp at h; omega
      subst hil
      simp only [joined, List.take_length, List.drop_zero, ivT_len]
      congr 1
      exact List.take_of_length_le (by rw [ivT_len]; exact Nat.le_refl _)
end Go.Am

/- JoinedOf. -/
namespace Go.Am
open Go Go.RowKit
theorem take_snoc' {α : Type} {l : List α} {i : Nat} {x : α} (h : l[i]? = some x) : l.take (i + 1) = l.take i ++ [x] := by rw [List.take_add_one, h]; rfl
theorem drop_take_snoc {α : Type} {l : List α} {i j : Nat} {x : α} (hij : i ≤ j) (h : l[j]? = some x) : (l.drop i).take (j + 1 - i) = (l.drop i).take (j - i) ++ [x] := by
  rw [show j + 1 - i = (j - i) + 1 by omega]
  exact take_snoc' (by rw [List.getElem?_drop, show i + (j - i) = j by omega]; exact h)
end Go.Am
