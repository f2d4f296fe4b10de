import Derived.Test.YtfinkeaikbmpgaaKS3
import Derived.Test.YtfinkeaikbmpgaaKT80
set_option linter.unusedSimpArgs false
set_option linter.unusedVariables false
set_option linter.unnecessarySimpa false
set_option linter.defProp false
/- Changes: out of readings. -/
namespace Go.Am
open Go Go.RowKit
section
variable {P : Program}
structure TyO (P : Program) (T : TyT P) where
 tI : TypeId
 tO : TypeId
 tOs : TypeId
 fO : Array Field
 uI : P.underlying tI = some (.int .i64)
 uO : P.underlying tO = some (.struct fO)
 uOs : P.underlying tOs = some (.slice tO)
 sO : fO.toList.map (·.type) = [tI,tI,T.tTs,T.tS,T.tS]
theorem Sh.op {T : TyT P} (D : TyO P T) {y : IV} (h : Sh P D.tO y) : ∃ x : Op,y = x.iv ∧ 1 + wtT x.content + x.name.length + x.s.length ≤ y.wt := by
 obtain ⟨ys,rfl,hl,hys⟩ := h.inv_g D.uO
 have hs : D.fO.size = 5 := by have := congrArg List.length D.sO; simpa using this
 match ys,hl.trans hs,hys with
 | [y0,y1,y2,y3,y4],_,hys =>
   obtain ⟨f0,e0,t0⟩ := field_of D.sO 0 D.tI rfl
   obtain ⟨f1,e1,t1⟩ := field_of D.sO 1 D.tI rfl
   obtain ⟨f2,e2,t2⟩ := field_of D.sO 2 T.tTs rfl
   obtain ⟨f3,e3,t3⟩ := field_of D.sO 3 T.tS rfl
   obtain ⟨f4,e4,t4⟩ := field_of D.sO 4 T.tS rfl
   have h0 := hys 0 f0 y0 e0 rfl
   have h1 := hys 1 f1 y1 e1 rfl
   have h2 := hys 2 f2 y2 e2 rfl
   have h3 := hys 3 f3 y3 e3 rfl
   have h4 := hys 4 f4 y4 e4 rfl
   rw [t0] at h0; rw [t1] at h1; rw [t2] at h2; rw [t3] at h3; rw [t4] at h4
   obtain ⟨k,rfl,_⟩ := h0.inv_i D.uI
   obtain ⟨n,rfl,_⟩ := h1.inv_i D.uI
   obtain ⟨co,rfl,hc⟩ := Sh.trees T h2
   obtain ⟨na,rfl⟩ := h3.inv_s T.uS
   obtain ⟨st,rfl⟩ := h4.inv_s T.uS
   exact ⟨⟨k,n,co,na,st⟩,rfl,by simp only [IV.wt,wtI] at hc ⊢; omega⟩
theorem Sh.opL {T : TyT P} (D : TyO P T) : ∀ (ys : List IV),(∀ y ∈ ys,Sh P D.tO y) → ∃ d : List Op,ys = d.map Op.iv ∧ d.length ≤ wtI ys ∧ ∀ x ∈ d,wtT x.content + x.name.length + x.s.length ≤ wtI ys
 | [],_ => ⟨[],rfl,by simp [wtI],by simp⟩
 | y :: r,h => by
   obtain ⟨x,rfl,h1⟩ := (h y (by simp)).op D
   obtain ⟨d,rfl,h2,h3⟩ := Sh.opL D r (fun z hz => h z (by simp [hz]))
   refine ⟨x :: d,rfl,by simp only [List.length_cons,wtI]; omega,?_⟩
   intro z hz
   simp only [wtI]
   rcases List.mem_cons.1 hz with rfl | hz
   · omega
   · have := h3 z hz; omega
theorem Sh.ops {T : TyT P} (D : TyO P T) {y : IV} (h : Sh P D.tOs y) : ∃ l : List Op,y = .list (l.map Op.iv) ∧ l.length ≤ y.wt ∧ ∀ x ∈ l,wtT x.content + x.name.length + x.s.length ≤ y.wt := by
 obtain ⟨z,rfl,g⟩ := h.inv_l D.uOs
 obtain ⟨d,rfl,w,w2⟩ := Sh.opL D z g
 exact ⟨d,rfl,by simp only [IV.wt]; omega,fun x hx => by have := w2 x hx; simp only [IV.wt]; omega⟩
end
end Go.Am
