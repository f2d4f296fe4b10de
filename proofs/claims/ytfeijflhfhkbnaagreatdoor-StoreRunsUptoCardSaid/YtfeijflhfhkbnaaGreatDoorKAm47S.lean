import Derived.Test.YtfeijflhfhkbnaaGreatDoorKAm20S
import Derived.Test.YtfeijflhfhkbnaaGreatDoorKAc0S
import Derived.Test.YtfeijflhfhkbnaaGreatDoorKT9S
set_option linter.all false
/- THE ABSTRACT MACHINE, part 47: calls of values. -/
namespace Go.Am
open Go Go.RowKit
section
variable {S:St} {env:Env} {H:Hp}
def cvK (S:St) (x:AV) (args:List AV) (H:Hp) (k:AV->Hp->Prop) (_:Tw k):Prop:=∃f first cap,x= .fn f first cap/\dE S.P f=true/\oG S f (first++args++cap) H k
def aU (d:Option Nat) (x:O) (args:List O) (k:AV->Hp->Prop):dX S d (.qq x args) env H k=cvK S (ev env x) (args.map (ev env)) H k .mk:=rfl
def bD (f:Nat) (first cap args:List AV) (k:AV->Hp->Prop) (u:Tw k):cvK S (.fn f first cap) args H k u=(dE S.P f=true/\Hm S f (first++args++cap) H k .mk):=by
 simp only[cvK,Hm,AV.fn.injEq,eq_iff_iff];constructor
 ·rintro⟨_,_,_,⟨rfl,rfl,rfl⟩,h⟩;exact h
 intro h;exact⟨_,_,_,⟨rfl,rfl,rfl⟩,h⟩
def pvK (S:St) (x:AV) (args:List AV) (k:AV->Prop) (_:Tv k):Prop:=∃f first cap res,x= .fn f first cap/\dE S.P f=true/\aj S.P S.G f (first++args++cap) res/\k res
def uU (d:Option Nat) (x:O) (args:List O) (k:AV->Hp->Prop):bR S .no d (.qq x args) env H k=pvK S (ev env x) (args.map (ev env)) (λy=>k y H) .mk:=by
 simp only[bR,Quiet,aw,pvK,reduceCtorEq,false_or,eq_iff_iff];constructor
 ·rintro⟨res,⟨f,first,cap,h1,h2,h3⟩,h4⟩;exact⟨f,first,cap,res,h1,h2,h3,h4⟩
 rintro⟨f,first,cap,res,h1,h2,h3,h4⟩;exact⟨res,⟨f,first,cap,h1,h2,h3⟩,h4⟩
def Dn (f:Nat) (first cap args:List AV) (k:AV->Prop) (u:Tv k):pvK S (.fn f first cap) args k u=(dE S.P f=true/\puK S f (first++args++cap) k .mk):=by
 simp only[pvK,puK,AV.fn.injEq,eq_iff_iff];constructor
 ·rintro⟨_,_,_,res,⟨rfl,rfl,rfl⟩,h2,h3,h4⟩;exact⟨h2,res,h3,h4⟩
 rintro⟨h2,res,h3,h4⟩;exact⟨_,_,_,res,⟨rfl,rfl,rfl⟩,h2,h3,h4⟩
end
end Go.Am

set_option maxRecDepth 20000
namespace Go.Am
open Go Go.RowKit
section
variable {P:Program} {G:Nat->Option (List IV)} [KN P G]
def oV (c:Int):AV:= .agg [.int .i64 c,.int .i64 0,.str []]
def pNo (c:Int):aj P G 31 [.int .i64 c] (oV c):=by
 refine au (cw 31 []) ajL ajO (by simp[AV.aq,ai,oV]) ?_;simp only[↓aX,mX,seval,oV]
end

structure de where
 kind:Int
 lines:List Bs
def de.cs (a:de):List IV:=[.int .i64 a.kind,.list (a.lines.map IV.str)]
def de.iv (a:de):IV:= .agg a.cs
def de.av (a:de):AV:= .agg [.int .i64 a.kind,.list (a.lines.map IV.str)]
def FC:List Bs->Nat
 |[]=>0
 |s::r=>s.length+1+FC r
theorem yP:∀{l:List Bs} {s:Bs},s∈l->s.length+1<=FC l
 |v::r,s,h=>by
  rcases aga.1 h with rfl|h
  ·simp[FC]
  have:=yP h;simp only[FC];omega
theorem yQ:∀l:List Bs,l.length<=FC l
 |[]=>by simp[FC]
 |v::r=>by have:=yQ r;simp only[FC,agd];omega
theorem Ko:∀l:List Bs,ox (l.map IV.str)=FC l
 |[]=>rfl
 |s::r=>by simp only[agC,ox,IV.wt,FC,Ko r]
section
variable {P:Program}
structure TyC (P:Program) (T:Ho P) where
 tI:TypeId
 tL:TypeId
 tC:TypeId
 tCs:TypeId
 fC:Array Field
 uI:P.underlying tI=some (.int .i64)
 uL:P.underlying tL=some (.slice T.tS)
 uC:P.underlying tC=some (.struct fC)
 uCs:P.underlying tCs=some (.slice tC)
 sC:fC.toList.map (·.type)=[tI,tL]
theorem Sh.strs {T:Ho P}:∀(ys:List IV),(∀y∈ys,Sh P T.tS y)->∃l:List Bs,ys=l.map IV.str
 |[],_=>⟨[],rfl⟩
 |y::r,h=>by
  obtain⟨s,rfl⟩:=(h y ajL).Cl T.uS;obtain⟨l,rfl⟩:=Sh.strs r (λz hz=>h z ajV);exact⟨s::l,rfl⟩
def Sh.lines {T:Ho P} (D:TyC P T) {y:IV} (h:Sh P D.tL y):∃l:List Bs,y= .list (l.map IV.str)/\FC l+1=y.wt:=by
 obtain⟨ys,rfl,sM⟩:=h.Cm D.uL;obtain⟨l,rfl⟩:=Sh.strs ys sM
 grind [IV.wt,Ko]
def Sh.act {T:Ho P} (D:TyC P T) {y:IV} (h:Sh P D.tC y):∃a:de,y=a.iv/\FC a.lines+1<=y.wt:=by
 obtain⟨ys,rfl,hl,sM⟩:=h.Fy D.uC;have hs:D.fC.size=2:=by have:=ahp List.length D.sC;simpa using this
 match ys,hl.trans hs,sM with
 |[y0,y1],_,sM=>
  obtain⟨f0,e0,t0⟩:=fh D.sC 0 D.tI rfl;obtain⟨f1,e1,t1⟩:=fh D.sC 1 D.tL rfl;have h0:=sM 0 f0 y0 e0 rfl;have h1:=sM 1 f1 y1 e1 rfl;rw[t0] at h0;rw[t1] at h1;obtain⟨k,rfl,_⟩:=h0.Kl D.uI;obtain⟨l,rfl,h2⟩:=h1.lines D;exact⟨⟨k,l⟩,rfl,by simp[IV.wt,ox] at h2 ⊢;omega⟩
theorem Sh.abT {T:Ho P} (D:TyC P T):∀(ys:List IV),(∀y∈ys,Sh P D.tC y)->∃d:List de,ys=d.map de.iv/\d.length<=ox ys/\∀x∈d,FC x.lines<=ox ys
 |[],_=>⟨[],rfl,by simp[ox],ajL⟩
 |y::r,h=>by
  obtain⟨x,rfl,h1⟩:=(h y ajL).act D;obtain⟨d,rfl,h2,h3⟩:=Sh.abT D r (λz hz=>h z ajV);refine⟨x::d,rfl,by simp[ox,agd];omega,λz hz=> ?_⟩
  grind [aga,ox]
def Sh.bY {T:Ho P} (D:TyC P T) {y:IV} (h:Sh P D.tCs y):∃l:List de,y= .list (l.map de.iv)/\l.length<=y.wt/\∀x∈l,FC x.lines<=y.wt:=by
 obtain⟨ys,rfl,sM⟩:=h.Cm D.uCs;obtain⟨d,rfl,h2,h3⟩:=Sh.abT D ys sM
 grind [IV.wt]
end
end Go.Am
