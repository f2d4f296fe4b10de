import Derived.Test.YtfinkeaikbmpgaaKT15
import Derived.Test.YtfinkeaikbmpgaaKT80
set_option linter.unusedSimpArgs false
set_option linter.unusedVariables false
set_option linter.unnecessarySimpa false
set_option linter.defProp false
/- Changes: out of readings. -/
namespace Go.Am
open Go Go.RowKit
section
variable {P:Program}
structure PD (P:Program) (T:za P) where
 tI:TypeId
 tO:TypeId
 Qr:TypeId
 fO:Array Field
 uI:P.underlying tI=some (.int .i64)
 uO:P.underlying tO=some (.struct fO)
 Sa:P.underlying Qr=some (.slice tO)
 sO:fO.toList.map (·.type)=[tI,tI,T.I8,T.tS,T.tS]
theorem Sh.op {T:za P} (D:PD P T) {y:IV} (h:Sh P D.tO y):∃x:Op,y=x.iv∧1+di x.content+x.name.length+x.s.length≤y.wt:=by
 obtain⟨ys,rfl,hl,n8⟩:=h.vT D.uO;have hs:D.fO.size=5:=by have:=congrArg List.length D.sO;simpa using this
 match ys,hl.trans hs,n8 with
 |[y0,y1,y2,y3,y4],_,n8=>
  obtain⟨f0,e0,t0⟩:=dR D.sO 0 D.tI rfl;obtain⟨f1,e1,t1⟩:=dR D.sO 1 D.tI rfl;obtain⟨f2,e2,t2⟩:=dR D.sO 2 T.I8 rfl;obtain⟨f3,e3,t3⟩:=dR D.sO 3 T.tS rfl;obtain⟨f4,e4,t4⟩:=dR D.sO 4 T.tS rfl;have h0:=n8 0 f0 y0 e0 rfl;have h1:=n8 1 f1 y1 e1 rfl;have h2:=n8 2 f2 y2 e2 rfl;have h3:=n8 3 f3 y3 e3 rfl;have h4:=n8 4 f4 y4 e4 rfl;rw[t0] at h0;rw[t1] at h1;rw[t2] at h2;rw[t3] at h3;rw[t4] at h4
  obtain⟨k,rfl,_⟩:=h0.vS D.uI;obtain⟨n,rfl,_⟩:=h1.vS D.uI;obtain⟨co,rfl,hc⟩:=Sh.trees T h2;obtain⟨na,rfl⟩:=h3.tg T.uS;obtain⟨st,rfl⟩:=h4.tg T.uS;exact⟨⟨k,n,co,na,st⟩,rfl,by simp only[IV.wt,lC] at hc ⊢;omega⟩
theorem Sh.Qs {T:za P} (D:PD P T):∀(ys:List IV),(∀y∈ys,Sh P D.tO y)→∃d:List Op,ys=d.map Op.iv∧d.length≤lC ys∧∀x∈d,di x.content+x.name.length+x.s.length≤lC ys
 |[],_=>⟨[],rfl,by simp[lC],by simp⟩
 |y::r,h=>by
  obtain⟨x,rfl,h1⟩:=(h y (by simp)).op D;obtain⟨d,rfl,h2,h3⟩:=Sh.Qs D r (fun z hz=>h z (by simp[hz]));refine⟨x::d,rfl,by simp only[List.length_cons,lC];omega,?_⟩;intro z hz;simp only[lC];rcases List.mem_cons.1 hz with rfl|hz
  ·omega
  ·have:=h3 z hz;omega
theorem Sh.ops {T:za P} (D:PD P T) {y:IV} (h:Sh P D.Qr y):∃l:List Op,y= .list (l.map Op.iv)∧l.length≤y.wt∧∀x∈l,di x.content+x.name.length+x.s.length≤y.wt:=by
 obtain⟨z,rfl,g⟩:=h.rh D.Sa;obtain⟨d,rfl,w,w2⟩:=Sh.Qs D z g;exact⟨d,rfl,by simp only[IV.wt];omega,fun x hx=>by have:=w2 x hx;simp only[IV.wt];omega⟩
end
end Go.Am
