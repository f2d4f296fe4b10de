import Derived.Test.YtfinkeaikbmpgaaGreatDoorKT15
import Derived.Test.YtfinkeaikbmpgaaGreatDoorKAm46
import Derived.Test.YtfinkeaikbmpgaaGreatDoorKAm48
import Derived.Test.YtfinkeaikbmpgaaGreatDoorKC7
import Derived.Test.YtfinkeaikbmpgaaGreatDoorKS4
import Derived.Lib.AtoiAllCases
import Derived.Lib.ItoaNum
import Derived.Shelf.Strconv.AtoiAll
import Derived.Shelf.Strconv.Itoa3
import Derived.Shelf.Strings.Search3
import Derived.Test.YtfinkeaikbmpgaaGreatDoorKT90
import Derived.Test.YtfinkeaikbmpgaaGreatDoorKAm56
import Derived.Test.YtfinkeaikbmpgaaGreatDoorKT21
set_option linter.unusedSimpArgs false
set_option linter.unusedVariables false
set_option linter.unnecessarySimpa false
set_option linter.defProp false
/- Changes: out of readings. -/
namespace Go.Am
open Go Go.RowKit
section
variable {P:Program}
structure TyO (P:Program) (T:Ci P) where
 tI:TypeId
 tO:TypeId
 tOs:TypeId
 fO:Array Field
 uI:P.underlying tI=some (.int .i64)
 uO:P.underlying tO=some (.struct fO)
 uOs:P.underlying tOs=some (.slice tO)
 sO:fO.toList.map (·.type)=[tI,tI,T.HB,T.tS,T.tS]
def Sh.op {T:Ci P} (D:TyO P T) {y:IV} (h:Sh P D.tO y):∃x:Op,y=x.iv∧1+dE x.content+x.name.length+x.s.length≤y.wt:=by
 obtain⟨ys,rfl,hl,sn⟩:=h.x9 D.uO;have hs:D.fO.size=5:=by have:=jR List.length D.sO;simpa using this
 match ys,hl.trans hs,sn with
 |[y0,y1,y2,y3,y4],_,sn=>
  obtain⟨f0,e0,t0⟩:=eC D.sO 0 D.tI rfl;obtain⟨f1,e1,t1⟩:=eC D.sO 1 D.tI rfl;obtain⟨f2,e2,t2⟩:=eC D.sO 2 T.HB rfl;obtain⟨f3,e3,t3⟩:=eC D.sO 3 T.tS rfl;obtain⟨f4,e4,t4⟩:=eC D.sO 4 T.tS rfl;have h0:=sn 0 f0 y0 e0 rfl;have h1:=sn 1 f1 y1 e1 rfl;have h2:=sn 2 f2 y2 e2 rfl;have h3:=sn 3 f3 y3 e3 rfl;have h4:=sn 4 f4 y4 e4 rfl;rw[t0] at h0;rw[t1] at h1;rw[t2] at h2;rw[t3] at h3;rw[t4] at h4;obtain⟨k,rfl,_⟩:=h0.Ch D.uI;obtain⟨n,rfl,_⟩:=h1.Ch D.uI;obtain⟨co,rfl,hc⟩:=Sh.trees T h2;obtain⟨na,rfl⟩:=h3.uJ T.uS;obtain⟨st,rfl⟩:=h4.uJ T.uS;exact⟨⟨k,n,co,na,st⟩,rfl,by simp only[IV.wt,k9] at hc ⊢;omega⟩
theorem Sh.opL {T:Ci P} (D:TyO P T):∀(ys:List IV),(∀y∈ys,Sh P D.tO y)→∃d:List Op,ys=d.map Op.iv∧d.length≤k9 ys∧∀x∈d,dE x.content+x.name.length+x.s.length≤k9 ys
 |[],_=>⟨[],rfl,by simp[k9],by simp⟩
 |y::r,h=>by
  obtain⟨x,rfl,h1⟩:=(h y (by simp)).op D;obtain⟨d,rfl,h2,h3⟩:=Sh.opL D r (fun z hz=>h z (by simp[hz]));refine⟨x::d,rfl,by simp only[cG,k9];omega,?_⟩;intro z hz;simp only[k9];rcases bb.1 hz with rfl|hz
  ·omega
  have:=h3 z hz;omega
def Sh.ops {T:Ci P} (D:TyO P T) {y:IV} (h:Sh P D.tOs y):∃l:List Op,y= .list (l.map Op.iv)∧l.length≤y.wt∧∀x∈l,dE x.content+x.name.length+x.s.length≤y.wt:=by
 obtain⟨z,rfl,g⟩:=h.ZY D.uOs;obtain⟨d,rfl,w,w2⟩:=Sh.opL D z g;exact⟨d,rfl,by simp only[IV.wt];omega,fun x hx=>by have:=w2 x hx;simp only[IV.wt];omega⟩
end

def zb (G:Nat→Option (List IV)) (I:Nat→Prop) (w:World):Prop:=∀g cs,G g=some cs→da w I cs g
def oT {P:Program} {G:Nat→Option (List IV)} {f:Nat} {args:List AV} {res:AV} (ha:ah args=[]) (hr:res.an=[])
   (h:∀(w:World) (I:Nat→Prop) (vs:List Value),zb G I w→br w iI Hp.none I args vs →
     Calls P f vs.toArray w fun e w'=>∃v,e= .returned v∧Below w.heap.size w w'∧∀I':Nat→Prop,RV w' iI Hp.none I' res v):au P G f args res:=by
 refine⟨ha,hr,fun w A β vs ju hv=> ?_⟩
 have hg:zb G (Im (b8 P G w A β Hp.none) β Hp.none) w:=fun g cs hg=>(ju.W5 g cs hg).2.2
 have hk:ND w w β iI Hp.none Hp.none (Im (b8 P G w A β Hp.none) β Hp.none) (Im (b8 P G w A β Hp.none) β Hp.none) (ah args):=
   {im:=fun k hk hs=>⟨hk,hs,rfl⟩,lb:=fun l _ ⟨r,h⟩=>by simp[Hp.none] at h}
 refine(h w _ vs hg (br.mono _ _ hk hv)).mono ?_
 rintro e w' ⟨v,rfl,hb,hx⟩
 have hi:W4 w w' (Im (b8 P G w A β Hp.none) β Hp.none) (Im (b8 P G w A β Hp.none) β Hp.none):=
   ⟨fun k hk hs=>⟨hk,iK hs hb.size,hb.block k hs⟩⟩
 refine⟨v,res,Hp.none,β,rfl,rfl,?_,?_,by simp[hr]⟩
 · exact { defers := rfl,size := rfl
           N8:=fun n=>by simp[Env.any,RV]
           rows:=fun l r h=>by simp[Hp.none] at h
           own:=fun l g ⟨r,h⟩=>by simp[Hp.none] at h
           inj:=fun l l' g ⟨r,h⟩=>by simp[Hp.none] at h
           eI:=fun n=>by simp[Env.any,AV.an]
           cH:=fun l r h=>by simp[Hp.none] at h
           frame:=ju.frame.wD hb
           gA:=fun l ⟨r,h⟩=>by simp[b8,Hp.none] at h
           fr:=fun l g ⟨r,h⟩=>by simp[Hp.none] at h
           W5:=fun g cs hg=>by
             obtain⟨k1,k2,k3⟩:=ju.W5 g cs hg
             exact⟨k1,iK k2 hb.size,da.mono hi k1 k2 k3⟩}
 refine RV.mono _ _ ?_ (hx (Im (b8 P G w A β Hp.none) β Hp.none))
 exact {im:=fun k hk hs=>⟨hk,hs,rfl⟩,lb:=fun l hl=>by simp[hr] at hl}

def JL (t s:Bs):Bs:=if t.isSuffixOf s then s.take (s.length - t.length) else s
def JM (n:Bs):Option Int:=match Lib.atoiAll n with
 | .ok k=>if Lib.itoa k=n∧1≤k then some k else none
 |_=>none
def JN (w:Bs):Option Int:=if(Bj 91 w).2.2 then(if [93].isSuffixOf (Bj 91 w).2.1 then JM (JL [93] (Bj 91 w).2.1) else none) else some 0
def Hb (nm:Bs):Option Bs:=if nm=[] then none else if nm=[35] then some [] else some nm
def Hc (w:Bs):Option Step:=(JN w).bind fun k=>(Hb (Bj 91 w).1).map fun nm=>⟨nm,k⟩
def zc:List Bs→Option (List Step)
 |[]=>some []
 |w::r=>(Hc w).bind fun x=>(zc r).map fun l=>x::l
structure L7 (ws:List Bs) where
 i:Nat
 l:List Step
 hi:i≤ws.length
 h:zc (ws.take i)=some l
section
variable {P:Program} {G:Nat→Option (List IV)}
end
end Go.Am

namespace Go.Am
open Go Go.RowKit Go.Shelf Go.Proofs
section
variable {P:Program} {G:Nat→Option (List IV)} {ρ:Ren}
def Qk (s:Bs):(⟨s.toArray⟩:ByteArray).size=s.length:=by simp[ByteArray.size]
def QG {w:World} {I:Nat→Prop} {g:Nat} {m:Int} (hG:zb G I w) (h1:G g=some [.int .i64 m]):w.cell? ⟨g,0,none⟩=some (.int .i64 m):=by
 obtain⟨⟨⟨v,e1,e2⟩,_⟩,_⟩:=hG _ _ h1;simp only[NN] at e2;rw[e1,e2]
def To (L:Lays.n143 P ρ) {m:Int} (h1:G (ρ.g 1)=some [.int .i64 m]) (s t:Bs) (hs:s.length≤2^24):au P G (ρ.f 143) [.str s,.str t] (.int .i64 (Lib.index s t)):=by
 refine oT (by simp[ah,AV.an]) (by simp[AV.an]) fun w I vs hG hv=> ?_;simp only[br,RV] at hv;obtain⟨v1,u1,rfl,rfl,v2,u2,rfl,rfl,rfl⟩:=hv;refine(Any.strings_Index L ⟨s.toArray⟩ ⟨t.toArray⟩ m w (by rw[Qk];omega) (QG hG h1)).mono ?_;rintro e w' ⟨rfl,rfl⟩;exact⟨_,rfl,Below.refl _ _,fun I'=>by simp[RV]⟩
end
end Go.Am

namespace Go.Am
open Go Go.RowKit
abbrev akr (P:Program) (G:Nat→Option (List IV)) (f:Nat) (args:List AV) (F:Lb→AV) (sz:Nat) (xs:List IV):Prop:=
 Jg P G f args aeI [] fun X R2=>X=(fun lab=>F (lab 0))∧R2=adx sz xs
def aj5 {P:Program} {G:Nat→Option (List IV)} {f:Nat} {n:Nat} {rs:List RO} {ac:AC} {args:List AV} {sz:Nat} {xs:List IV} (F:Lb→AV)
  (hF:aw P G f=some (n,rs,ac.bare)) (hn:args.length≤n) (ha:ah args=[]) (hr:∀(ρ:Lb→Lb) L,bJ ρ (F L)=F (ρ L)) (hl:∀L,(F L).an=[L])
  (hg:go ⟨P,G,n⟩ (fX rs fun x H'=>∃L,x=F L∧H' L= .live ⟨sz,aB xs⟩) [.code ac] (jP args) Hp.none):akr P G f args F sz xs:=by
 refine⟨by rw[ha];simp,?_⟩;rw[agU];refine(WY hF hn (by intro l ⟨r,h⟩;simp[Hp.none] at h) (by rw[ha];simp) hg).mono ?_;rintro x H ⟨L,hx,hL⟩;refine⟨⟨fun lab=>F (lab 0),adx sz xs,fun _=>L⟩,⟨rfl,rfl⟩,fun ρ=>hr ρ L,fun l h=>⟨0,Y7.2 rfl,?_⟩,hx,⟨fun p r hr=> ?_,fun p q hp hq _=>(Y7.1 hp).trans (Y7.1 hq).symm⟩,by simp⟩
 ·rw[hx,hl] at h;simpa using h
 simp only[adx] at hr;by_cases h:p=0
 ·simp[h] at hr;subst hr;exact hL
 simp[h] at hr
def ajm {S:St} {f:Nat} {args:List AV} {sz:Nat} {xs:List IV} {H:Hp} {k:AV→Hp→Prop} {u:Tw k} {F:Lb→AV} (c:Nat) (h:akr S.P S.G f args F sz xs) (ha:ah args=[]) (hN:∀l,H (NW c l)= .unused)
  (hk:∀l,k (F (NW c l)) (bD H (NW c l) (.live ⟨sz,aB xs⟩))):C7 S f args H k u:=by
 refine WV (lab:=Lb.par) (N:=NW c) h (fZ _ _ ha).symm ⟨fun p r hr=>by simp[aeI] at hr,fun p q hp=>absurd hp Y8⟩ hN (aeH c) (fun l _=> .inr fun p hp=>absurd hp Y8) (by simp) ?_;rintro X R2 U9 H2 ⟨rfl,rfl⟩ g1 g2 g3 g4 g5 g6;obtain⟨l,hl⟩:∃l,U9 0=NW c l:=by
  rcases g3 0 (Y7.2 rfl) with⟨p,hp,_⟩|h
  ·exact absurd hp Y8
  exact h
 have e:H2=bD H (NW c l) (.live ⟨sz,aB xs⟩):=by
  funext q;by_cases hq:q=NW c l
  ·subst hq;rw[ae,bf rfl,←hl];exact g1.row 0 _ (by simp[adx])
  rw[aq _ _ hq];by_cases wx:∃l',q=NW c l'
  ·obtain⟨l',rfl⟩:=wx;rw[hN l',g6 l' fun p hp=>by rw[Y7.1 hp,hl];exact dL hq]
  exact g4 q (fun p hp=>absurd hp Y8) fun l' e=>wx ⟨l',e⟩
 rw[e];have:=hk l;simpa only[hl] using this

def afy (H:Lb→Slot) (l l':Lb) (x:Slot) (h:l'.fresh=false∧l.fresh=true):bD H l x l'=H l':=aq _ _ (by rintro rfl;rw[h.1] at h;cases h.2)
def aaT {S:St} {Q:gI} {c:AC} {k:List It} {env:Env} {H:Hp} (ls:List Lb) (u:Lb→Bool) (ps:List (Nat×AV)) (rs:List (Lb×Row)) (lr:rs.map Prod.fst=ls) (hp:∀l∈ah (ps.map Prod.snd),l∈ls)
  (hr:∀q∈rs,∀cs∈q.2.els,∀l∈ah cs,l∈ls) (h0:∃m,WU ls u ps rs env H m) (hg:go S Q (.code c::k) (o9 ps) (ie u rs)):go S Q (.code (.gh .vk c)::k) env H:=by
 rw[Ox];obtain⟨m,h⟩:=h0;exact⟨_,_,nQ.ago (h.wk lr hp hr),hg⟩
def ajx {sz b d n:Nat} {l:Lb} {xs ys:List IV} {x:AV} {H:Hp} (hs:kU sz x H=some (aB ys)) (hl:H l= .live ⟨sz,aB xs⟩) (hn:xs.length=n) (Hr:l.fresh=true) (hf:Flat ys) (hb:(n+ys.length)*b≤140737488355328) (h0:0<b)
  (hd:l≠ .loc d) (hu:H (.loc d)= .unused) :
  jN sz b d (.sl l sz 0 n) x H=some (.sl (.loc d) sz 0 (n+ys.length),bD (bD H l .dead) (.loc d) (.live ⟨sz,aB (xs++ys)⟩)):=by
 have e:l.app d= .loc d:=by simp[Lb.app,Hr]
 rw[←e] at hd hu ⊢;have h1:(aB ys).length=ys.length:=lQ ys;have h2:(aB xs).length=n:=by rw[lQ,hn]
 unfold jN;rw[hs,cu,a_ (by simpa using hf.one)];simp only[hl];rw[bf ⟨rfl,rfl,rfl,by omega,by rw[h1];exact hb,h0,hd,hu⟩,h1,bo (by omega),lR]
def ajB {sz n:Nat} {l:Lb} {xs:List IV} {H:Hp} (hl:H l= .live ⟨sz,aB xs⟩) (hn:xs.length=n):kU sz (.sl l sz 0 n) H=some (aB xs):=by
 have h2:(aB xs).length=n:=by rw[lQ,hn]
 simp only[kU,hl,e_,bM,dK];rw[bf (by omega),bo (by omega)]
end Go.Am

set_option maxRecDepth 20000
namespace Go.Am
open Go Go.RowKit
def Xa (k:Int):Bs:=(([(1,[99]),(2,[99]),(3,[99]),(4,[99]),(5,[]),(6,[99]),(7,[116]),(8,[110]),(9,[110,116]),(10,[110])]:List (Int×Bs)).lookup k).getD []
def agf (k:Int):(([(1,[99]),(2,[99]),(3,[99]),(4,[99]),(5,[]),(6,[99]),(7,[116]),(8,[110]),(9,[110,116]),(10,[110])]:List (Int×List UInt8)).lookup k).getD []=Xa k:=rfl
def hasB (m c:Bs):Bool:=decide (Lib.index m c≥0)
def aii {k:Int} (h1:1≤k) (h2:k≤10):hasB (Xa k) [99]=kC k∧hasB (Xa k) [110]=kN k∧hasB (Xa k) [116]=kT k∧(Xa k).length≤2:=by
 have:k=1∨k=2∨k=3∨k=4∨k=5∨k=6∨k=7∨k=8∨k=9∨k=10:=by omega
 rcases this with rfl|rfl|rfl|rfl|rfl|rfl|rfl|rfl|rfl|rfl<;>decide
def agh {d:Doc} (h:Vo d=true) {n:Nat} {x:Node} (hx:d[n]?=some x):decide (x.parent<0)=(n==0):=by
 obtain⟨t,hg,rfl⟩:=XW.1 h;rcases Z6 hx with⟨rfl,h⟩|⟨h1,h2,_⟩
 ·rw[h];rfl
 have h3:¬x.parent<0:=by omega
 simp[h3];omega
def aiY {p q r:Bool} (h:((p||q)||r)=true) (X:Int):(if p=true then(1:Int) else if q=true then 1 else if r=true then 1 else X)=1:=by cases p<;>cases q<;>cases r<;>simp_all
def aiZ {p q r:Bool} (h:((p||q)||r)=false) (X:Int):(if p=true then(1:Int) else if q=true then 1 else if r=true then 1 else X)=X:=by cases p<;>cases q<;>cases r<;>simp_all
section
variable {P:Program} {G:Nat→Option (List IV)}
def W2 (NY:Nat):AC:=
(aM [jM 4 false] (aM [MR 5 0,MR 6 1,aQ 7 (.call NY [(.t 5),(.t 6)]),eY 8 .geq 7 0,MR 4 8] .ret))
def agi {Vn NY:Nat} (hF:aw P G Vn=some (9,[(none,4)],(W2 NY).bare)) (s t:Bs) (h:au P G NY [.str s,.str t] (.int .i64 (Lib.index s t))):au P G Vn [.str s,.str t] (.bool (hasB s t)):=by
 refine aR hF (by simp) (by simp[ah,AV.an]) (by simp[AV.an]) ?_;unfold W2;simp only[↓aX,mX,seval];refine ay h ?_;simp only[↓aX,mX,seval];rfl
def WN (Vn:Nat):AC:=
(aM [jM 3 false] (aM [fm 4 1,MR 5 0,aQ 6 (.call Vn [(.t 4),(.t 5)]),MR 3 6] .ret))
def ahi {U' Vn:Nat} (hF:aw P G U'=some (7,[(none,3)],(WN Vn).bare)) (s t:Bs) (h:au P G Vn [.str s,.str t] (.bool (hasB s t))):au P G U' [.str t,.lptr [.str s]] (.bool (hasB s t)):=by
 refine aR hF (by simp) (by simp[ah,AV.an]) (by simp[AV.an]) ?_;unfold WN;simp only[↓aX,mX,seval];refine ay h ?_;simp only[↓aX,mX,seval]
def V8 (eN:Nat):List bh:=
[⟨some 74,none,.iC (.t 73)⟩,⟨some 75,(some (74,false)),(.iC (.t 6))⟩,⟨some 76,(some (74,false)),(.fM (.t 75) [(.c (.str [116]))])⟩,⟨some 77,(some (74,false)),(.iC (.t 76))⟩,⟨some 78,(some (77,true)),(.wj (.t 3) 4)⟩,⟨some 79,(some (77,true)),(.load none (.t 78))⟩,⟨some 80,(some (77,true)),(.call eN [(.t 79)])⟩,⟨some 81,(some (77,true)),(.not (.t 80))⟩,⟨some 82,(some (74,false)),(.pick (.t 77) (.t 81) (.c (.bool false)))⟩,⟨some 83,none,.pick (.t 74) (.c (.bool true)) (.t 82)⟩,⟨some 84,none,.iC (.t 83)⟩,⟨some 85,(some (84,false)),(.iC (.t 6))⟩,⟨some 86,(some (84,false)),(.fM (.t 85) [(.c (.str [116]))])⟩,⟨some 87,(some (84,false)),(.not (.t 86))⟩,⟨some 88,(some (84,false)),(.iC (.t 87))⟩,⟨some 89,(some (88,true)),(.wj (.t 3) 4)⟩,⟨some 90,(some (88,true)),(.load none (.t 89))⟩,⟨some 91,(some (88,true)),(.bin .neq (.t 90) (.c (.str [])))⟩,⟨some 92,(some (84,false)),(.pick (.t 88) (.t 91) (.c (.bool false)))⟩,⟨some 93,none,.pick (.t 84) (.c (.bool true)) (.t 92)⟩]
def V9 (bd eN:Nat):List bh:=
([⟨some 54,none,.iC (.t 53)⟩,⟨some 55,(some (54,false)),(.iC (.t 6))⟩,⟨some 56,(some (54,false)),(.fM (.t 55) [(.c (.str [110]))])⟩,⟨some 57,(some (54,false)),(.iC (.t 56))⟩,⟨some 58,(some (57,true)),(.wj (.t 3) 3)⟩,⟨some 59,(some (57,true)),(.load none (.t 58))⟩,⟨some 60,(some (57,true)),(.call bd [(.t 59)])⟩,⟨some 61,(some (57,true)),(.not (.t 60))⟩,⟨some 62,(some (54,false)),(.pick (.t 57) (.t 61) (.c (.bool false)))⟩,⟨some 63,none,.pick (.t 54) (.c (.bool true)) (.t 62)⟩,⟨some 64,none,.iC (.t 63)⟩,⟨some 65,(some (64,false)),(.iC (.t 6))⟩,⟨some 66,(some (64,false)),(.fM (.t 65) [(.c (.str [110]))])⟩,⟨some 67,(some (64,false)),(.not (.t 66))⟩,⟨some 68,(some (64,false)),(.iC (.t 67))⟩,⟨some 69,(some (68,true)),(.wj (.t 3) 3)⟩,⟨some 70,(some (68,true)),(.load none (.t 69))⟩,⟨some 71,(some (68,true)),(.bin .neq (.t 70) (.c (.str [])))⟩,⟨some 72,(some (64,false)),(.pick (.t 68) (.t 71) (.c (.bool false)))⟩,⟨some 73,none,.pick (.t 64) (.c (.bool true)) (.t 72)⟩]++(V8 eN))
def WO (M4 bd eN:Nat):List bh:=
([⟨some 35,none,.iC (.t 6)⟩,⟨some 36,none,.fM (.t 35) [(.c (.str [99]))]⟩,⟨some 37,none,.iC (.t 36)⟩,⟨some 38,(some (37,true)),(.wj (.t 3) 2)⟩,⟨some 39,(some (37,true)),(.load none (.t 38))⟩,⟨some 40,(some (37,true)),(.call M4 [(.t 39)])⟩,⟨some 41,(some (37,true)),(.not (.t 40))⟩,⟨some 42,none,.pick (.t 37) (.t 41) (.c (.bool false))⟩,⟨some 43,none,.iC (.t 42)⟩,⟨some 44,(some (43,false)),(.iC (.t 6))⟩,⟨some 45,(some (43,false)),(.fM (.t 44) [(.c (.str [99]))])⟩,⟨some 46,(some (43,false)),(.not (.t 45))⟩,⟨some 47,(some (43,false)),(.iC (.t 46))⟩,⟨some 48,(some (47,true)),(.wj (.t 3) 2)⟩,⟨some 49,(some (47,true)),(.load none (.t 48))⟩,⟨some 50,(some (47,true)),(.len (.t 49))⟩,⟨some 51,(some (47,true)),(.bin .neq (.t 50) (.c (.int .i64 0)))⟩,⟨some 52,(some (43,false)),(.pick (.t 47) (.t 51) (.c (.bool false)))⟩,⟨some 53,none,.pick (.t 43) (.c (.bool true)) (.t 52)⟩]++(V9 bd eN))
def V':AC:=
(.seq (aM [ep 107 2 0,fm 108 107,ep 109 3 1,fm 110 109,jL 111 108 110 5,ep 112 111 0,fm 113 112,MR 114 113,Wb 115 114 3 0,jm 116 114 115,dW 117 114 (.bin .lss (.t 116) (jS 3)),cU 118 114 117,oH 119 118 3 0,oG 120 118 119,iR 121 118 (.bin .gtr (.t 120) (jS 7)),dW 122 114 (.pick (.t 118) (me true) (.t 121)),jT 123 114 122] (.cond (.t 123) (aM [gH 4 4] .ret) .skip)) (aM [gH 4 0] .ret))
def WQ:AC:=
(.seq (aM [ep 94 3 1,fm 95 94,eY 96 .eql 95 0,MR 97 96,Wb 98 97 3 0,jm 99 97 98,dW 100 97 (.bin .geq (.t 99) (jS 3)),jT 101 97 100,MR 102 101,Wb 103 102 3 0,jm 104 102 103,dW 105 102 (.bin .leq (.t 104) (jS 6)),jT 106 102 105] (.cond (.t 106) (aM [gH 4 6] .ret) .skip)) (.gh .vk V'))
def Xb (va U' M4 bd eN:Nat):AC:=
(aM [sC 2 0,sC 3 1,gH 4 0] (.seq (aM [gz 7 1 2,aQ 8 (.call va [(.t 7)]),sB 9 8] (.cond (.t 9) (aM [gH 4 1] .ret) .skip)) (.seq (aM [ep 10 3 0,fm 11 10,eY 12 .lss 11 1,MR 13 12,oH 14 13 3 0,oG 15 13 14,iR 16 13 (.bin .gtr (.t 15) (jS 10)),sj 17 13 16] (.cond (.t 17) (aM [gH 4 4] .ret) .skip)) (.seq (aM [ep 18 3 1,fm 19 18,eY 20 .lss 19 0,MR 21 20,oH 22 21 3 1,oG 23 21 22,oH 24 21 2 0,oG 25 21 24,iR 26 21 (.len (.t 25)),iR 27 21 (.bin .geq (.t 23) (.t 26)),sj 28 21 27] (.cond (.t 28) (aM [gH 4 3] .ret) .skip)) (aM [aQ 29 (.qM [(1,[99]),(2,[99]),(3,[99]),(4,[99]),(5,[]),(6,[99]),(7,[116]),(8,[110]),(9,[110,116]),(10,[110])]),MR 30 29,ep 31 3 0,fm 32 31,aQ 33 (.sy (.t 30) (.t 32)),aQ 5 (.new [(.str [])]),gg (.store 1 (.t 5) (.t 33))] (.gh .vk (aM [aQ 34 (.zw U' [(.t 5)]),MR 6 34] (.seq (.seq (.cq ([]++(WO M4 bd eN))) (.cond (.t 93) (aM [gH 4 1] .ret) .skip)) (.gh .vk WQ)))))))))
def StO (f1:Nat) (d:Doc) (o:Op) (env:Env) (H:Hp):Prop:=env 2= .ptr (.loc 2) 1 0 0∧env 3= .ptr (.loc 3) 5 0 0∧env 6= .fn f1 [] [.lptr [.str (Xa o.kind)]] ∧
 H (.loc 2)= .live ⟨1,[[.list (d.map Node.iv)]]⟩∧H (.loc 3)= .live ⟨5,[[.int .i64 o.kind,.int .i64 o.target,.list (dq o.content),.str o.name,.str o.s]]⟩
def ahj {f1 eN:Nat} {K:Env→Hp→Prop} (d:Doc) (o:Op) (a:Bool) (e:Bool) {env:Env} {H:Hp} (hs:StO f1 d o env H) (hi:env 73= .bool a)
  (hB:fU P f1=true) (hH:au P G f1 [.str [116],.lptr [.str (Xa o.kind)]] (.bool e)) (hP:au P G eN [.str o.s] (.bool (plain o.s)))
  (hk:∀env',StO f1 d o env' H→env' 93= .bool (a||(if e then !plain o.s else !(o.s==[])))→K env' H):AO ⟨P,G,124⟩ (V8 eN) env H K:=by
 obtain⟨e2,e3,e6,r2,r3⟩:=hs;unfold V8;cases a with
 |true=>
  simp only[yE,Ek,↓aX,mX,seval,List.nil_append,bO,tQ,bG,bx,e2,e3,e6,r2,r3,hi];refine hk _ ⟨by simp[put,e2],by simp[put,e3],by simp[put,e6],r2,r3⟩ ?_;simp[put]
 |false=>
 simp only[yE,Ek,↓aX,mX,seval,List.nil_append,bO,tQ,bG,bx,e2,e3,e6,r2,r3,hi];refine⟨hB,ay hH ?_⟩;cases e with
 |true=>
  simp only[yE,Ek,↓aX,mX,seval,List.nil_append,bO,tQ,bG,bx,e2,e3,e6,r2,r3];refine ay hP ?_;cases hv:plain o.s with
  |false=>
   simp only[yE,Ek,↓aX,mX,seval,List.nil_append,bO,tQ,bG,bx,e2,e3,e6,r2,r3];refine hk _ ⟨by simp[put,e2],by simp[put,e3],by simp[put,e6],r2,r3⟩ ?_;simp[put,hv]
  |true=>
  simp only[yE,Ek,↓aX,mX,seval,List.nil_append,bO,tQ,bG,bx,e2,e3,e6,r2,r3];refine⟨hB,ay hH ?_⟩;simp only[yE,Ek,↓aX,mX,seval,List.nil_append,bO,tQ,bG,bx,e2,e3,e6,r2,r3];refine hk _ ⟨by simp[put,e2],by simp[put,e3],by simp[put,e6],r2,r3⟩ ?_;simp[put,hv]
 |false=>
 simp only[yE,Ek,↓aX,mX,seval,List.nil_append,bO,tQ,bG,bx,e2,e3,e6,r2,r3];refine⟨hB,ay hH ?_⟩;simp only[yE,Ek,↓aX,mX,seval,List.nil_append,bO,tQ,bG,bx,e2,e3,e6,r2,r3];refine hk _ ⟨by simp[put,e2],by simp[put,e3],by simp[put,e6],r2,r3⟩ ?_;simp[put]
def ahk {f1 bd eN:Nat} {K:Env→Hp→Prop} (d:Doc) (o:Op) (a:Bool) (e:Bool) {env:Env} {H:Hp} (hs:StO f1 d o env H) (hi:env 53= .bool a)
  (hB:fU P f1=true) (hH:au P G f1 [.str [110],.lptr [.str (Xa o.kind)]] (.bool e)) (hP:au P G bd [.str o.name] (.bool (named o.name)))
  (hk:∀env',StO f1 d o env' H→env' 73= .bool (a||(if e then !named o.name else !(o.name==[])))→AO ⟨P,G,124⟩ (V8 eN) env' H K):AO ⟨P,G,124⟩ (V9 bd eN) env H K:=by
 obtain⟨e2,e3,e6,r2,r3⟩:=hs;unfold V9;cases a with
 |true=>
  simp only[yE,Ek,↓aX,mX,seval,List.nil_append,bO,tQ,bG,bx,e2,e3,e6,r2,r3,hi];refine hk _ ⟨by simp[put,e2],by simp[put,e3],by simp[put,e6],r2,r3⟩ ?_;simp[put]
 |false=>
 simp only[yE,Ek,↓aX,mX,seval,List.nil_append,bO,tQ,bG,bx,e2,e3,e6,r2,r3,hi];refine⟨hB,ay hH ?_⟩;cases e with
 |true=>
  simp only[yE,Ek,↓aX,mX,seval,List.nil_append,bO,tQ,bG,bx,e2,e3,e6,r2,r3];refine ay hP ?_;cases hv:named o.name with
  |false=>
   simp only[yE,Ek,↓aX,mX,seval,List.nil_append,bO,tQ,bG,bx,e2,e3,e6,r2,r3];refine hk _ ⟨by simp[put,e2],by simp[put,e3],by simp[put,e6],r2,r3⟩ ?_;simp[put,hv]
  |true=>
  simp only[yE,Ek,↓aX,mX,seval,List.nil_append,bO,tQ,bG,bx,e2,e3,e6,r2,r3];refine⟨hB,ay hH ?_⟩;simp only[yE,Ek,↓aX,mX,seval,List.nil_append,bO,tQ,bG,bx,e2,e3,e6,r2,r3];refine hk _ ⟨by simp[put,e2],by simp[put,e3],by simp[put,e6],r2,r3⟩ ?_;simp[put,hv]
 |false=>
 simp only[yE,Ek,↓aX,mX,seval,List.nil_append,bO,tQ,bG,bx,e2,e3,e6,r2,r3];refine⟨hB,ay hH ?_⟩;simp only[yE,Ek,↓aX,mX,seval,List.nil_append,bO,tQ,bG,bx,e2,e3,e6,r2,r3];refine hk _ ⟨by simp[put,e2],by simp[put,e3],by simp[put,e6],r2,r3⟩ ?_;simp[put]
def ahl {f1 M4 bd eN:Nat} {K:Env→Hp→Prop} (d:Doc) (o:Op) (e:Bool) {env:Env} {H:Hp} (hs:StO f1 d o env H)
  (hB:fU P f1=true) (hH:au P G f1 [.str [99],.lptr [.str (Xa o.kind)]] (.bool e)) (hP:au P G M4 [.list (dq o.content)] (.bool (content o.content)))
  (hk:∀env',StO f1 d o env' H→env' 53= .bool (if e then !content o.content else((o.content.length:Int) !=0))→AO ⟨P,G,124⟩ (V9 bd eN) env' H K):AO ⟨P,G,124⟩ (WO M4 bd eN) env H K:=by
 obtain⟨e2,e3,e6,r2,r3⟩:=hs;unfold WO;simp only[yE,Ek,↓aX,mX,seval,List.nil_append,bO,tQ,bG,bx,e2,e3,e6,r2,r3];refine⟨hB,ay hH ?_⟩;cases e with
 |true=>
  simp only[yE,Ek,↓aX,mX,seval,List.nil_append,bO,tQ,bG,bx,e2,e3,e6,r2,r3];refine ay hP ?_;cases hv:content o.content with
  |false=>
   simp only[yE,Ek,↓aX,mX,seval,List.nil_append,bO,tQ,bG,bx,e2,e3,e6,r2,r3];refine hk _ ⟨by simp[put,e2],by simp[put,e3],by simp[put,e6],r2,r3⟩ ?_;simp[put,hv]
  |true=>
  simp only[yE,Ek,↓aX,mX,seval,List.nil_append,bO,tQ,bG,bx,e2,e3,e6,r2,r3];refine⟨hB,ay hH ?_⟩;simp only[yE,Ek,↓aX,mX,seval,List.nil_append,bO,tQ,bG,bx,e2,e3,e6,r2,r3];refine hk _ ⟨by simp[put,e2],by simp[put,e3],by simp[put,e6],r2,r3⟩ ?_;simp[put,hv]
 |false=>
 simp only[yE,Ek,↓aX,mX,seval,List.nil_append,bO,tQ,bG,bx,e2,e3,e6,r2,r3];refine⟨hB,ay hH ?_⟩;simp only[yE,Ek,↓aX,mX,seval,List.nil_append,bO,tQ,bG,bx,e2,e3,e6,r2,r3];refine hk _ ⟨by simp[put,e2],by simp[put,e3],by simp[put,e6],r2,r3⟩ ?_;simp[put]
def ab4:List (Nat×AV):=[(2,.ptr (.loc 2) 1 0 0),(3,.ptr (.loc 3) 5 0 0)]
def YQ (d:Doc) (o:Op):List (Lb×Row):=[(.loc 2,⟨1,[[.list (d.map Node.iv)]]⟩),(.loc 3,⟨5,[[.int .i64 o.kind,.int .i64 o.target,.list (dq o.content),.str o.name,.str o.s]]⟩)]
def aaU (d:Doc) (o:Op):∀r∈YQ d o,∀cs∈r.2.els,∀z∈ah cs,z∈[Lb.loc 2,.loc 3]:=by
 intro r hr cs bV z hz;simp only[YQ,bb,b5,b7] at hr;rcases hr with rfl|rfl<;>simp only[aW] at bV<;>subst bV<;>simp[ah,AV.an] at hz
def ahm (d:Doc) (o:Op) (x:Node) (hx:d[o.target.toNat]?=some x) (h0:0≤o.target) :
  go ⟨P,G,124⟩ (fX [(none,4)] fun y _=>y= .int .i64 (if(x.text&&(decide (o.kind<3)||decide (7<o.kind)))=true then 4 else 0)) [.code V'] (o9 ab4) (ie (fun _=>false) (YQ d o)):=by
 have hgd:(d.map Node.iv)[o.target.toNat]?=some x.iv:=by rw[cn,hx];rfl
 rw[Cf];unfold V' ab4 YQ;simp only[↓aX,mX,seval,cF,bW,h0,hgd,Xx,Node.cJ,Node.cs,tQ];cases x.text with
 |false=>simp only[↓aX,mX,seval,tQ,kc]
 |true=>
 simp only[↓aX,mX,seval,tQ,jh];cases decide (o.kind<3) with
 |true=>simp only[↓aX,mX,seval,tQ,Bool.true_or]
 |false=>
 simp only[↓aX,mX,seval,tQ,qy];cases decide (7<o.kind) with
 |true=>simp only[↓aX,mX,seval,tQ,qy]
 |false=>simp only[↓aX,mX,seval,tQ,tw]
def ahn (d:Doc) (o:Op) (x:Node) (hx:d[o.target.toNat]?=some x) (h0:0≤o.target) :
  go ⟨P,G,124⟩ (fX [(none,4)] fun y _=>y= .int .i64 (if((o.target==0)&&decide (3≤o.kind)&&decide (o.kind≤6))=true then 6 else if(x.text&&(decide (o.kind<3)||decide (7<o.kind)))=true then 4 else 0)) [.code WQ] (o9 ab4) (ie (fun _=>false) (YQ d o)):=by
 have hY:=ahm (P:=P) (G:=G) d o x hx h0;have fin:∀env,env 2= .ptr (.loc 2) 1 0 0→env 3= .ptr (.loc 3) 5 0 0→go ⟨P,G,124⟩ (fX [(none,4)] fun y _=>y= .int .i64 (if(x.text&&(decide (o.kind<3)||decide (7<o.kind)))=true then 4 else 0)) [.code (.gh .vk V')] env (ie (fun _=>false) (YQ d o)):=fun env e2 e3=>
  aaT [.loc 2,.loc 3] (fun _=>false) _ _ rfl (by simp[ah,AV.an,ab4]) (aaU d o) ⟨[],by
   rw[Cf];intro l' hf hu;refine absurd ?_ hu;simp[YQ,bW,cF,afy,hf,Lb.fresh,Hp.none],by simp[k_,dn,bJ,ab4,e2,e3],by rw[Cf];simp[tc,YQ,bW,dn,ae,dO,bu,bJ],by simp[dn],fun l _=>⟨id,fun _=>rfl⟩⟩ hY
 rw[Cf] at fin ⊢;unfold WQ ab4;unfold YQ at fin ⊢;simp only[↓aX,mX,seval,cF,bW,tQ] at fin ⊢;cases (o.target==0) with
 |false=>
  simp only[↓aX,mX,seval,tQ,kc];exact fin _ (by simp[put]) (by simp[put])
 |true=>
 simp only[↓aX,mX,seval,tQ,jh];cases decide (3≤o.kind) with
 |false=>
  simp only[↓aX,mX,seval,tQ,kc];exact fin _ (by simp[put]) (by simp[put])
 |true=>
 simp only[↓aX,mX,seval,tQ,jh];cases decide (o.kind≤6) with
 |true=>simp only[↓aX,mX,seval,tQ]
 |false=>
 simp only[↓aX,mX,seval,tQ];exact fin _ (by simp[put]) (by simp[put])
def aij {E3 va U' M4 bd eN:Nat} (hF:aw P G E3=some (124,[(none,4)],(Xb va U' M4 bd eN).bare)) (d:Doc) (o:Op) (hD:au P G va [Doc.av d] (.bool (Vo d)))
  (hB:fU P U'=true) (hH:∀m c:Bs,m.length≤2→au P G U' [.str c,.lptr [.str m]] (.bool (hasB m c)))
  (hC:au P G M4 [.list (dq o.content)] (.bool (content o.content))) (hN:au P G bd [.str o.name] (.bool (named o.name))) (hP:au P G eN [.str o.s] (.bool (plain o.s))) :
  au P G E3 [Doc.av d,o.av] (.int .i64 (U5 d o)):=by
 refine aR hF (by simp) (by simp[ah,AV.an,Op.av,Doc.av]) (by simp[AV.an]) ?_;unfold Xb;simp only[↓aX,mX,seval,Op.av,Doc.av];refine ay hD ?_;cases hd:Vo d with
 |false=>
  simp only[↓aX,mX,seval,bx];unfold U5;rw[a_ (by rw[hd];decide)]
 |true=>
 simp only[↓aX,mX,seval,bG,Op.av,Doc.av];cases h1:decide (o.kind<1) with
 |true=>
  simp only[↓aX,mX,seval,h1,Op.av,Doc.av];have:o.kind<1:=by simpa using h1
  unfold U5;simp[hd,this]
 |false=>
 simp only[↓aX,mX,seval,h1,Op.av,Doc.av,tK];cases h2:decide (10<o.kind) with
 |true=>
  simp only[↓aX,mX,seval,h1,h2,Op.av,Doc.av];have:10<o.kind:=by simpa using h2
  unfold U5;simp[hd,this]
 |false=>
 simp only[↓aX,mX,seval,h1,h2,Op.av,Doc.av];have k1:¬o.kind<1:=by simpa using h1
 have k2:¬10<o.kind:=by simpa using h2
 cases h3:decide (o.target<0) with
 |true=>
  simp only[↓aX,mX,seval,h1,h2,h3,Op.av,Doc.av];have:o.target<0:=by simpa using h3
  unfold U5;simp[hd,k1,k2,this]
 |false=>
 simp only[↓aX,mX,seval,h1,h2,h3,Op.av,Doc.av,rU,ax];have k3:¬o.target<0:=by simpa using h3
 cases h4:decide ((d.length:Int)≤o.target) with
 |true=>
  simp only[↓aX,mX,seval,h1,h2,h3,h4,Op.av,Doc.av];have:(d.length:Int)≤o.target:=by simpa using h4
  unfold U5;simp[hd,k1,k2,k3,this]
 |false=>
 have k4:¬(d.length:Int)≤o.target:=by simpa using h4
 obtain⟨x,hx⟩:∃x,d[o.target.toNat]?=some x:=⟨_,aC (by omega)⟩;have hgd:(d.map Node.iv)[o.target.toNat]?=some x.iv:=by rw[cn,hx];rfl
 have k5:0≤o.target:=by omega
 obtain⟨m1,m2,m3,m4⟩:=aii (k:=o.kind) (by omega) (by omega);have ag_:=agh hd hx;have aik:decide (x.parent<0)=(o.target==0):=by
  rw[ag_];by_cases h:o.target=0
  ·simp[h]
  have:o.target.toNat≠0:=by omega
  rw[cA.2 h,cA.2 this]
 have hlen:decide ((o.content.length:Int)>0)=((o.content.length:Int) !=0):=by
  by_cases h:o.content.length=0
  ·simp[h]
  have h1:(o.content.length:Int)>0:=by omega
  have h2:(o.content.length:Int)≠0:=by omega
  simp only[h1,rW,sd.2 h2]
 have qE:(kB o.kind&&(o.target==0))=((o.target==0)&&decide (3≤o.kind)&&decide (o.kind≤6)):=by unfold kB;cases (o.target==0)<;>simp
 have nL:(!kB o.kind&&o.kind !=7)=(decide (o.kind<3)||decide (7<o.kind)):=by
  rw[ky];simp[kB];omega
 have wv:U5 d o=(if(if hasB (Xa o.kind) [99]=true then !content o.content else((o.content.length:Int) !=0))=true then 1
  else if(if hasB (Xa o.kind) [110]=true then !named o.name else !(o.name==[]))=true then 1
  else if(if hasB (Xa o.kind) [116]=true then !plain o.s else !(o.s==[]))=true then 1
  else if((o.target==0)&&decide (3≤o.kind)&&decide (o.kind≤6))=true then 6 else if(x.text&&(decide (o.kind<3)||decide (7<o.kind)))=true then 4 else 0):=by
  unfold U5;rw[m1,m2,m3,bf hd,a_ (by omega),a_ (by omega),hx];simp only[XS,aik,hlen,qE,nL];rfl
 clear m1 m2 m3;have hHc:=hH (Xa o.kind) [99] m4;have hHn:=hH (Xa o.kind) [110] m4;have hHt:=hH (Xa o.kind) [116] m4;generalize hasB (Xa o.kind) [99]=a at *;generalize hasB (Xa o.kind) [110]=b at *;generalize hasB (Xa o.kind) [116]=e at *;simp only[↓aX,mX,seval,h1,h2,h3,h4,Op.av,Doc.av,k5,hgd,Xx,Node.cJ,Node.cs,agf,Ox];refine⟨_,_,Yv (d:=5) (l:= .loc 5) (sz:=1) (y:= .str (Xa o.kind)) (by simp[put]) (by simp[ae];rfl) rfl (by simp[Flat,IV.cells]),?_⟩;simp only[↓aX,mX,seval,IV.cells,List.nil_append];clear hF hD hH;refine ahl d o a ⟨by simp[put],by simp[put],by simp[put],by simp[ae],by simp[ae]⟩ hB hHc hC fun ai3 s1 h53=> ?_;refine ahk d o _ b s1 h53 hB hHn hN fun env2 s2 h73=> ?_;refine ahj d o _ e s2 h73 hB hHt hP fun GD s3 h93=> ?_;obtain⟨e2,e3,_,r2,r3⟩:=s3;rw[wv];cases hv:(((if a then !content o.content else((o.content.length:Int) !=0))||(if b then !named o.name else !(o.name==[])))||(if e then !plain o.s else !(o.s==[]))) with
 |true=>
  rw[hv] at h93;rw[aiY hv];simp only[↓aX,mX,seval,h93]
 |false=>
 rw[hv] at h93;rw[aiZ hv];simp only[↓aX,mX,seval,h93];refine aaT [.loc 2,.loc 3] (fun _=>false) _ _ rfl (by simp[ah,AV.an,ab4]) (aaU d o) ⟨[],?_,?_,?_,by simp[dn],fun l _=>⟨id,fun _=>rfl⟩⟩ (ahn (P:=P) (G:=G) d o x hx k5)
 ·intro l' hf hu;refine absurd ?_ hu;simp[afy,hf,Lb.fresh,Hp.none]
 ·simp[k_,dn,bJ,ab4,e2,e3]
 simp[tc,YQ,dn,ae,dO,bu,bJ]
end
end Go.Am

set_option maxRecDepth 20000
namespace Go.Am
open Go Go.RowKit
section
variable {P:Program} {G:Nat→Option (List IV)}
def Op.as (x:Op):List AV:=[.int .i64 x.kind,.int .i64 x.target,.list (dq x.content),.str x.name,.str x.s]
def Wj:AC:=
(aM [sC 2 0,sC 3 1,jM 4 false] (.seq (aM [ep 7 2 1,fm 8 7,ep 9 3 1,fm 10 9,et 11 .neq 8 10] (.cond (.t 11) (aM [jM 4 false] .ret) .skip)) (.seq (aM [aQ 12 (.lits 3 1 [(.int .i64 0)] [(0,(jS 6)),(1,(jS 7)),(2,(jS 8))]),oy 13 12,gH 14 0] (.block 0 (.loop (aM [et 15 .lss 14 13] (.seq (.cond (.t 15) .skip (.exit 0)) (.seq (.block 1 (aM [jL 16 12 14 1,fm 17 16,MR 6 17] (aM [ep 18 2 0,fm 19 18,MR 20 6,et 21 .eql 19 20,MR 22 21,Wb 23 22 3 0,jm 24 22 23,cU 25 22 6,dW 26 22 (.bin .eql (.t 24) (.t 25)),jT 27 22 26] (.cond (.t 27) (aM [jM 4 true] .ret) .skip)))) (.cq [eY 28 .add 14 1,MR 14 28]))))))) (aM [ep 29 2 0,fm 30 29,eY 31 .eql 30 9,MR 32 31,oH 33 32 2 0,oG 34 32 33,iR 35 32 (.bin .eql (.t 34) (jS 10)),sj 36 32 35,MR 37 36,Wb 38 37 3 0,jm 39 37 38,dW 40 37 (.bin .eql (.t 39) (jS 9)),cU 41 37 40,oH 42 41 3 0,oG 43 41 42,iR 44 41 (.bin .eql (.t 43) (jS 10)),dW 45 37 (.pick (.t 41) (me true) (.t 44)),jT 46 37 45,MR 47 46,Wb 48 47 2 3,jm 49 47 48,Wb 50 47 3 3,jm 51 47 50,dW 52 47 (.bin .eql (.t 49) (.t 51)),jT 53 47 52,MR 4 53] .ret))))
def aas {o2:Nat} (hF:aw P G o2=some (54,[(none,4)],Wj.bare)) (a b:Op):au P G o2 [a.av,b.av] (.bool (eO a b)):=by
 refine aR hF (by simp) (by simp[ah,AV.an,Op.av]) (by simp[AV.an]) ?_;unfold Wj;simp only[↓aX,mX,seval,Op.av];cases ht:(a.target !=b.target) with
 |true=>
  simp only[↓aX,mX,seval,ht];have:(a.target==b.target)=false:=by simpa[bne] using ht
  simp[eO,this]
 |false=>
 have ht':(a.target==b.target)=true:=by simpa[bne] using ht
 simp only[↓aX,mX,seval,ht,List.replicate,uM,u4,bO,cy,cG,fE];refine pe (σ:={i:Nat // i≤3∧∀j:Nat,j<i→((a.kind==(6+j:Int))&&(b.kind==(6+j:Int)))=false}) (fun _=>[.loc 2,.loc 3]) (fun _ _=>false)
  (fun q=>[(2,.ptr (.loc 2) 5 0 0),(3,.ptr (.loc 3) 5 0 0),(12,.list [.int .i64 6,.int .i64 7,.int .i64 8]),(13,.int .i64 3),(14,.int .i64 q.1)])
  (fun q=>[(.loc 2,⟨5,[a.as]⟩),(.loc 3,⟨5,[b.as]⟩)]) (fun q=>3 - q.1) ⟨0,by simp⟩ (fun _=>rfl) (fun q=>by simp[ah,AV.an]) ?_ ⟨[],?_⟩ ?_
 ·rintro q r hr cs bV l' kR;simp only[bb,b5,b7] at hr;rcases hr with rfl|rfl<;>(simp only[aW] at bV;subst bV;simp[ah,AV.an,Op.as] at kR)
 ·refine⟨?_,?_,?_,by simp[dn],fun l _=>⟨id,fun _=>rfl⟩⟩
  ·intro l' hf hu;exfalso;apply hu;cases l'<;>simp_all[Lb.fresh,ae,Hp.none]
  ·simp[k_,dn,bJ,put,jP]
  simp[tc,dn,ae,dO,bu,bJ,Op.as]
 rintro⟨i,hi,hs⟩;rw[Cf];simp only[↓aX,mX,seval,cF,bW,Op.as];by_cases bI:i<3
 ·rw[show decide ((i:Int)<3)=true by simp;omega];have jY:([IV.int .i64 6,.int .i64 7,.int .i64 8]:List IV)[i]?=some (.int .i64 (6+(i:Int))):=by
   have:i=0∨i=1∨i=2:=(by omega);rcases this with rfl|rfl|rfl<;>rfl
  have ll:jV 1 [IV.int .i64 6,.int .i64 7,.int .i64 8]:=by simp[jV,IV.cells]
  have hw:IntKind.i64.wrap ((i:Int)+1)=((i+1:Nat):Int):=wrap64 (by omega) (by omega);have agF:((a.kind==(6+i:Int))&&(b.kind==(6+i:Int)))=false→∀j:Nat,j<i+1→((a.kind==(6+j:Int))&&(b.kind==(6+j:Int)))=false:=by
   intro h j hj;rcases Nat.lt_succ_iff_lt_or_eq.1 hj with h1|rfl
   ·exact hs j h1
   exact h
  simp only[↓aX,mX,seval,jY,ll,IV.cells,cG,fE];cases hk:(a.kind==(6+i:Int)) with
  |false=>
   simp only[↓aX,mX,seval,hk,hw];refine⟨⟨i+1,bI,agF (by simp[hk])⟩,by simp only;omega,[],?_⟩;refine⟨?_,?_,?_,by simp[dn],fun l _=>⟨id,fun _=>rfl⟩⟩
   ·intro l' hf hu;exfalso;apply hu;cases l'<;>simp_all[Lb.fresh,ae,Hp.none]
   ·simp[k_,dn,bJ,put,o9]
   simp[tc,dn,ae,dO,bu,bJ,Op.as]
  |true=>
  simp only[↓aX,mX,seval,hk];cases FA:(b.kind==(6+i:Int)) with
  |false=>
   simp only[↓aX,mX,seval,FA,hw];refine⟨⟨i+1,bI,agF (by simp[FA])⟩,by simp only;omega,[],?_⟩;refine⟨?_,?_,?_,by simp[dn],fun l _=>⟨id,fun _=>rfl⟩⟩
   ·intro l' hf hu;exfalso;apply hu;cases l'<;>simp_all[Lb.fresh,ae,Hp.none]
   ·simp[k_,dn,bJ,put,o9]
   simp[tc,dn,ae,dO,bu,bJ,Op.as]
  |true=>
  simp only[↓aX,mX,seval,FA];simp only[iA] at hk FA ht';have:a.kind=b.kind:=by omega
  have h6:6≤b.kind:=by omega
  have h8:b.kind≤8:=by omega
  simp[eO,ht',this,h6,h8]
 rw[show decide ((i:Int)<3)=false by simp;omega];have hi3:i=3:=by omega
 subst hi3;have s0:=hs 0 (by decide);have s1:=hs 1 (by decide);have s2:=hs 2 (by decide);have e:eO a b=((a.kind==9||a.kind==10)&&(b.kind==9||b.kind==10)&&a.name==b.name):=by
  unfold eO;have:(a.kind==b.kind&&decide (6≤a.kind)&&decide (a.kind≤8))=false:=by
   cases h:(a.kind==b.kind&&decide (6≤a.kind)&&decide (a.kind≤8)) with
   |false=>rfl
   |true=>
   exfalso;simp only[bw,iA,dj] at h;simp only[r_,cA] at s0 s1 s2;omega
  rw[this,ht',tw,jh];rfl
 rw[e];simp only[↓aX,mX,seval];cases h1:(a.kind==9)<;>cases h2:(a.kind==10)<;>cases h3:(b.kind==9)<;>cases h4:(b.kind==10)<;>simp only[↓aX,mX,seval,h1,h2,h3,h4,tw,qy,Bool.or_true,Bool.true_or,tv,jh,Bool.and_false,kc]
def Wn (va E3 o2:Nat):AC:=
(aM [sC 2 0,gH 4 0] (.seq (aM [gz 10 1 2,aQ 11 (.call va [(.t 10)]),sB 12 11] (.cond (.t 12) (aM [gH 4 1] .ret) .skip)) (.seq (aM [MR 13 1,oy 14 13,eY 15 .gtr 14 20] (.cond (.t 15) (aM [gH 4 2] .ret) .skip)) (.seq (aM [MR 16 1,oy 17 16,gH 18 0] (.block 0 (.loop (aM [et 19 .lss 18 17] (.seq (.cond (.t 19) .skip (.exit 0)) (.seq (.block 1 (aM [jL 20 16 18 5,gz 21 5 20,aQ 6 (.new [(.int .i64 0),(.int .i64 0),.nil0,(.str []),(.str [])]),gg (.store 5 (.t 6) (.t 21))] (aM [gz 22 1 2,gz 23 5 6,aQ 24 (.call E3 [(.t 22),(.t 23)]),MR 7 24] (aM [MR 25 7,eY 26 .neq 25 0] (.cond (.t 26) (aM [MR 27 7,MR 4 27] .ret) .skip))))) (.cq [eY 28 .add 18 1,MR 18 28]))))))) (.seq (aM [MR 29 1,oy 30 29,gH 31 0] (.block 2 (.loop (aM [et 32 .lss 31 30] (.seq (.cond (.t 32) .skip (.exit 2)) (.seq (.block 3 (aM [MR 33 31,MR 8 33] (aM [MR 34 8,gH 35 0] (.block 4 (.loop (aM [et 36 .lss 35 34] (.seq (.cond (.t 36) .skip (.exit 4)) (.seq (.block 5 (aM [MR 37 35,MR 9 37] (.seq (.VL [MR 38 1,MR 39 8,jL 40 38 39 5,gz 41 5 40,MR 42 1,MR 43 9,jL 44 42 43 5,gz 45 5 44,aQ 46 (.call o2 [(.t 41),(.t 45)])] [[],[],[0,1],[2],[],[],[4,5],[6],[3,7]] [.no,.no,.no,.no,.no,.no,.no,.no,.no]) (.cond (.t 46) (aM [gH 4 5] .ret) .skip)))) (.cq [eY 47 .add 35 1,MR 35 47]))))))))) (.cq [eY 48 .add 31 1,MR 31 48]))))))) (aM [gH 4 0] .ret))))))
def adY {U_ va E3 o2:Nat} (hF:aw P G U_=some (49,[(none,4)],(Wn va E3 o2).bare)) (d:Doc) (l:List Op) (hl:l.length≤B) (hD:au P G va [Doc.av d] (.bool (Vo d)))
  (hO:∀o∈l,au P G E3 [Doc.av d,o.av] (.int .i64 (U5 d o)))
  (hA:∀a b:Op,au P G o2 [a.av,b.av] (.bool (eO a b))):au P G U_ [Doc.av d,.list (l.map Op.iv)] (.int .i64 (VU d l)):=by
 refine aR hF (by simp) (by simp[ah,AV.an,Op.av,Doc.av]) (by simp[AV.an]) ?_;unfold Wn;have zo:B=1073741824:=rfl;simp only[↓aX,mX,seval,Op.av,Doc.av];refine ay hD ?_;unfold VU;cases hd:Vo d with
 |false=>simp only[↓aX,mX,seval,bx];try rfl
 |true=>
 simp only[↓aX,mX,seval,bG,Op.av,Doc.av,ax,tK];cases h1:decide ((20:Int)<(l.length:Int)) with
 |true=>
  simp only[↓aX,mX,seval];have:20<l.length:=by simp at h1;omega
  simp[this]
 |false=>
 simp only[↓aX,mX,seval,ax];have k1:¬20<l.length:=by simp at h1;omega
 rw[a_ k1];refine pe (σ:={i:Nat // i≤l.length∧∀o∈l.take i,U5 d o=0}) (fun _=>[.loc 2]) (fun _ _=>false)
  (fun q=>[(1,.list (l.map Op.iv)),(2,.ptr (.loc 2) 1 0 0),(16,.list (l.map Op.iv)),(17,.int .i64 l.length),(18,.int .i64 q.1)])
  (fun q=>[(.loc 2,⟨1,[[.list (d.map Node.iv)]]⟩)]) (fun q=>l.length - q.1) ⟨0,by simp⟩ (fun _=>rfl) (fun q=>by simp[ah,AV.an]) ?_ ⟨[],?_⟩ ?_
 ·rintro q r hr cs bV l' kR;simp only[aW] at hr;subst hr;simp only[aW] at bV;subst bV;simp[ah,AV.an] at kR
 ·refine⟨?_,?_,?_,by simp[dn],fun l _=>⟨id,fun _=>rfl⟩⟩
  ·intro l' hf hu;exfalso;apply hu;cases l'<;>simp_all[Lb.fresh,ae,Hp.none]
  ·simp[k_,dn,bJ,put,jP]
  simp[tc,dn,ae,dO,bu,bJ]
 rintro⟨i,hi,hs⟩;rw[Cf];simp only[↓aX,mX,seval,cF,bW,ax];by_cases bI:i<l.length
 ·rw[show decide ((i:Int)<(l.length:Int))=true by simpa using bI];obtain⟨o,ho⟩:∃o,l[i]?=some o:=⟨_,aC bI⟩;have hw:IntKind.i64.wrap ((i:Int)+1)=((i+1:Nat):Int):=wrap64 (by omega) (by omega);have E0:l.take (i+1)=l.take i++[o]:=Vl ho;simp only[↓aX,mX,seval,YO,ho,bT,Ys,Op.cJ,Op.cs];refine ay (hO o (aV ho)) ?_;simp only[↓aX,mX,seval];cases h0:(U5 d o !=0) with
  |true=>
   simp only[↓aX,mX,seval,h0];have hf:l.find? (fun o=>U5 d o !=0)=some o:=by
    rw[pJ];refine⟨h0,l.take i,l.drop (i+1),?_,fun a ha=>by simp[hs a ha]⟩;rw[←drop_eq ho,dM]
   rw[hf]
  |false=>
  simp only[↓aX,mX,seval,h0,hw];refine⟨⟨i+1,bI,fun a ha=> ?_⟩,by simp only;omega,[],?_⟩
  ·rw[E0,aY] at ha;rcases ha with ha|ha
   ·exact hs a ha
   simp only[aW] at ha;subst ha;simpa using h0
  refine⟨?_,?_,?_,by simp[dn],fun l _=>⟨id,fun _=>rfl⟩⟩
  ·intro l' hf hu;exfalso;apply hu;cases l'<;>simp_all[Lb.fresh,ae,Hp.none]
  ·simp[k_,dn,bJ,put,o9]
  simp[tc,dn,ae,dO,bu,bJ]
 have XV:i=l.length:=by omega
 rw[show decide ((i:Int)<(l.length:Int))=false by simpa using bI];have hf:l.find? (fun o=>U5 d o !=0)=none:=by
  rw[pw];intro a ha;rw[XV,ea] at hs;simp[hs a ha]
 rw[hf];simp only[↓aX,mX,seval,ax];refine VR (σ:={j:Nat // j≤l.length∧WM [] l=WM (l.take j) (l.drop j)}) (fun q=>[(1,.list (l.map Op.iv)),(30,.int .i64 l.length),(31,.int .i64 q.1)]) (fun q=>l.length - q.1) ⟨0,by simp⟩ (fun _=>by simp[ah,AV.an]) ?_ ?_
 ·refine⟨?_,?_⟩
  ·simp only[↓aX,mX,seval]
  simp[sv,put,o9]
 rintro⟨j,hj,LV⟩;simp only[↓aX,mX,seval,ax];by_cases iG:j<l.length
 ·rw[show decide ((j:Int)<(l.length:Int))=true by simpa using iG];obtain⟨o,ho⟩:∃o,l[j]?=some o:=⟨_,aC iG⟩;have hw:IntKind.i64.wrap ((j:Int)+1)=((j+1:Nat):Int):=wrap64 (by omega) (by omega);have E0:l.take (j+1)=l.take j++[o]:=Vl ho;have Mx:WM (l.take j) (l.drop j)=((l.take j).any (eO o)||WM (l.take (j+1)) (l.drop (j+1))):=by
   rw[drop_eq ho,E0];rfl
  simp only[↓aX,mX,seval];refine VR (σ:={i:Nat // i≤j∧(l.take i).any (eO o)=false}) (fun q=>[(1,.list (l.map Op.iv)),(8,.int .i64 j),(30,.int .i64 l.length),(31,.int .i64 j),(34,.int .i64 j),(35,.int .i64 q.1)]) (fun q=>j - q.1) ⟨0,by simp⟩ (fun _=>by simp[ah,AV.an]) ?_ ?_
  ·refine⟨?_,?_⟩
   ·simp only[↓aX,mX,seval]
   simp[sv,put,o9]
  rintro⟨i,hi,Kt⟩;simp only[↓aX,mX,seval,ax];by_cases agj:i<j
  ·rw[show decide ((i:Int)<(j:Int))=true by simpa using agj];obtain⟨o',FY⟩:∃o,l[i]?=some o:=⟨_,aC (by omega)⟩;have wB:IntKind.i64.wrap ((i:Int)+1)=((i+1:Nat):Int):=wrap64 (by omega) (by omega);simp only[↓aX,mX,seval,YO,ho,FY,bT,Ys,Op.cJ,Op.cs];refine⟨rfl,jw (hA o o') ?_⟩;simp only[↓aX,mX,seval];cases h0:eO o o' with
   |true=>
    simp only[↓aX,mX,seval];have:(l.take j).any (eO o)=true:=by
     rw[rO];refine⟨o',?_,h0⟩;rw[List.mem_iff_getElem?];exact⟨i,by rw[cf,bf agj,FY]⟩
    rw[LV,Mx,this];simp
   |false=>
   simp only[↓aX,mX,seval,wB];refine⟨⟨i+1,agj,by rw[Vl FY,List.any_append,Kt];simp[h0]⟩,by simp only;omega,rfl⟩
  rw[show decide ((i:Int)<(j:Int))=false by simpa using agj];have:i=j:=by omega
  subst this;simp only[↓aX,mX,seval,hw];refine⟨⟨i+1,iG,by rw[LV,Mx,Kt];simp⟩,by simp only;omega,rfl⟩
 rw[show decide ((j:Int)<(l.length:Int))=false by simpa using iG];have zk:j=l.length:=by omega
 simp only[↓aX,mX,seval];rw[LV,zk]
 try simp[WM]
end
end Go.Am

set_option maxRecDepth 20000
namespace Go.Am
open Go Go.RowKit
def ajs:Option Op→List AV
 |none=>[.int .i64 0,.int .i64 0,.nil0,.str [],.str []]
 |some o=>o.as
def ajf (x:Option Op):(ajs x).length=5:=by cases x<;>rfl
def ai8 (ρ:Lb→Lb) (x:Option Op):bu ρ (ajs x)=ajs x:=by cases x<;>simp[ajs,Op.as,bu,bJ]
def ajg (ρ:Lb→Lb) (xs:List IV):(aB xs).map (bu ρ)=aB xs:=by have:=dy ρ 1 xs;simpa[dO] using this
def aji (x:Option Op):(ajs x).take 5=ajs x:=bo (om (ajf x))
def ajh (x:Option Op):(ajs x).drop 5=[]:=vZ (om (ajf x))
def ajo (x:Option Op):(ajs x).all AV.one=true:=by cases x<;>rfl
def ajz (x:Option Op):ah (ajs x)=[]:=by cases x<;>simp[ajs,Op.as,ah,AV.an]
def aks (a b:List Op):ZK (a++b)=ZK a+ZK b:=by simp[ZK]
def ako (l:List Op) (i:Nat):ZK (l.take i)≤ZK l:=by
 have:=aks (l.take i) (l.drop i);rw[dM] at this;omega
def akt {env:Env} {H:Hp} (m:Option Nat) (t u v:Nat) (R:AV→Hp→Prop):fX [(none,t),(none,u),(some m,v)] R .ret env H=cw (Wl m (env v) H) (fun x=>R (.gf [env t,env u,x]) H) .mk:=by
 simp only[fX,ef,oO,cw];cases Wl m (env v) H<;>simp[gD]
section
variable {P:Program} {G:Nat→Option (List IV)}
def ajr (VQ:Nat):AC:=
(aM [zi 6,jM 7 false,aQ 8 (.new [(.int .i64 0),(.int .i64 0),.nil0,(.str []),(.str [])])] (aM [zi 9] (.gh (.own 9 4) (aM [aQ 10 (.new [(.int .i64 0),(.int .i64 0),.nil0,(.str []),(.str [])])] (aM [jM 11 false] (.seq (aM [MR 14 0,oy 15 14,gH 16 0] (.block 0 (.loop (aM [et 17 .lss 16 15] (.seq (.cond (.t 17) .skip (.exit 0)) (.seq (.block 1 (aM [jL 18 14 16 5,gz 19 5 18,aQ 13 (.new [(.int .i64 0),(.int .i64 0),.nil0,(.str []),(.str [])]),gg (.store 5 (.t 13) (.t 19))] (aM [ep 20 13 0,fm 21 20,MR 22 1,et 23 .eql 21 22,MR 24 23,Wb 25 24 13 1,jm 26 24 25,cU 27 24 2,dW 28 24 (.bin .eql (.t 26) (.t 27)),jT 29 24 28] (.cond (.t 29) (aM [MR 30 9,ep 31 13 2,fm 32 31,aQ 33 (.call VQ [(.t 32)]),aQ 34 (.app (.t 30) (.t 33) 4 72),MR 9 34] (.cq [gz 35 5 13,gg (.store 5 (.t 10) (.t 35)),jM 11 true])) .skip)))) (.cq [eY 36 .add 16 1,MR 16 36]))))))) (.seq (.VL [MR 37 9,MR 38 11,gz 39 5 10,MR 6 37,MR 7 38,gg (.store 5 (.t 8) (.t 39))] [[],[],[],[0,0],[1,3,0,1,3],[2,4,0,1,2,3,4]] [.no,.no,.rw [.loc 10] [],.no,.no,.rw [] [.loc 8]]) .ret)))))))
def ofV (l:List Op) (k:Int) (n:Nat) (L:Lb):AV:= .gf [.sl L 4 0 (gl l k n).length,.bool (VA l k n),.agg (ajs (ofK l k n).getLast?)]
def oOf {ai4 VQ:Nat} (hF:aw P G ai4=some (40,[(none,6),(none,7),((some (some 5)),8)],(ajr VQ).bare)) (l:List Op) (k:Int) (n:Nat) (hl:l.length≤B) (hw:ZK l≤B) (hn:n≤B)
  (hC:∀o∈l,au P G VQ [.list (dq o.content)] (.list (dq o.content))) :
  akr P G ai4 [.list (l.map Op.iv),.int .i64 k,.int .i64 (n:Int)] (ofV l k n) 4 (dq (gl l k n)):=by
 refine aj5 (ofV l k n) hF (by simp) (by simp[ah,AV.an]) (fun ρ L=>by simp[ofV,bJ,bu,ai8]) (fun L=>by simp[ofV,AV.an,ah,ajz]) ?_;unfold ajr;have zo:B=1073741824:=rfl;simp only[↓aX,mX,seval,ax];refine pe (σ:={i:Nat // i≤l.length}) (fun _=>[.loc 8,.loc 9,.loc 10]) (fun _ _=>false)
  (fun q=>[(1,.int .i64 k),(2,.int .i64 (n:Int)),(8,.ptr (.loc 8) 5 0 0),(9,.sl (.loc 9) 4 0 (gl (l.take q.1) k n).length),(10,.ptr (.loc 10) 5 0 0),(11,.bool (VA (l.take q.1) k n)),(14,.list (l.map Op.iv)),(15,.int .i64 l.length),(16,.int .i64 q.1)])
  (fun q=>[(.loc 8,⟨5,[ajs none]⟩),(.loc 9,⟨4,aB (dq (gl (l.take q.1) k n))⟩),(.loc 10,⟨5,[ajs (ofK (l.take q.1) k n).getLast?]⟩)]) (fun q=>l.length - q.1) ⟨0,by simp⟩ (fun _=>rfl) (fun q=>by simp[ah,AV.an]) ?_ ⟨[],?_⟩ ?_
 ·rintro q r hr cs bV l' kR;simp only[bb,b5,b7] at hr;rcases hr with rfl|rfl|rfl
  ·simp only[aW] at bV;subst bV;rw[ajz] at kR;simp at kR
  ·rw[bU bV] at kR;simp at kR
  simp only[aW] at bV;subst bV;rw[ajz] at kR;simp at kR
 ·refine⟨?_,?_,?_,by simp[dn],fun l _=>⟨id,fun _=>rfl⟩⟩
  ·intro l' hf hu;exfalso;apply hu;cases l'<;>simp_all[Lb.fresh,ae,Hp.none]
  ·simp[k_,dn,bJ,put,jP,gl,VA,ofK]
  simp[tc,dn,ae,dO,bu,bJ,gl,ofK,ajs,aB,dq]
 rintro⟨i,hi⟩;rw[Cf];simp only[↓aX,mX,seval,cF,bW,ax];by_cases bI:i<l.length
 ·rw[show decide ((i:Int)<(l.length:Int))=true by simpa using bI];obtain⟨o,ho⟩:∃o,l[i]?=some o:=⟨_,aC bI⟩;have hom:=aV ho;have pU:IntKind.i64.wrap ((i:Int)+1)=((i+1:Nat):Int):=wrap64 (by omega) (by omega);have E0:l.take (i+1)=l.take i++[o]:=Vl ho;have I9:(gl (l.take (i+1)) k n).length≤B:=by
   have:=eZ (gl (l.take (i+1)) k n);have:=Xu k n (l.take (i+1));have:=ako l (i+1);omega
  simp only[↓aX,mX,seval,YO,ho,bT,Ys,Op.cJ,Op.cs];cases h1:(o.kind==k) with
  |false=>
   simp only[↓aX,mX,seval,h1];have hc:¬(o.kind=k∧o.target=(n:Int)):=(by rintro⟨c1,c2⟩;simp[c1,c2] at h1);have e1:gl (l.take (i+1)) k n=gl (l.take i) k n:=(by rw[E0,r6,a_ hc,bO]);have e2:VA (l.take (i+1)) k n=VA (l.take i) k n:=(by rw[E0,Vk,vV hc,tw]);have e3:ofK (l.take (i+1)) k n=ofK (l.take i) k n:=(by rw[E0,Y_,a_ hc,bO]);simp only[pU];refine⟨⟨i+1,bI⟩,by simp only;omega,[],?_⟩;refine⟨?_,?_,?_,by simp[dn],fun l _=>⟨id,fun _=>rfl⟩⟩
   ·intro l' hf hu;exfalso;apply hu;cases l'<;>simp_all[Lb.fresh,ae,Hp.none]
   ·simp[k_,dn,bJ,put,o9,e1,e2]
   simp[tc,dn,ae,dO,e1,e3,ajg,ai8]
  |true=>
  simp only[↓aX,mX,seval,h1];cases h2:(o.target==(n:Int)) with
  |false=>
   simp only[↓aX,mX,seval,h2];have hc:¬(o.kind=k∧o.target=(n:Int)):=(by rintro⟨c1,c2⟩;simp[c1,c2] at h2);have e1:gl (l.take (i+1)) k n=gl (l.take i) k n:=(by rw[E0,r6,a_ hc,bO]);have e2:VA (l.take (i+1)) k n=VA (l.take i) k n:=(by rw[E0,Vk,vV hc,tw]);have e3:ofK (l.take (i+1)) k n=ofK (l.take i) k n:=(by rw[E0,Y_,a_ hc,bO]);simp only[pU];refine⟨⟨i+1,bI⟩,by simp only;omega,[],?_⟩;refine⟨?_,?_,?_,by simp[dn],fun l _=>⟨id,fun _=>rfl⟩⟩
   ·intro l' hf hu;exfalso;apply hu;cases l'<;>simp_all[Lb.fresh,ae,Hp.none]
   ·simp[k_,dn,bJ,put,o9,e1,e2]
   simp[tc,dn,ae,dO,e1,e3,ajg,ai8]
  |true=>
  simp only[↓aX,mX,seval,h2];refine ay (hC o hom) ?_;have hc:o.kind=k∧o.target=(n:Int):=⟨by simpa using h1,by simpa using h2⟩;have e1:gl (l.take (i+1)) k n=gl (l.take i) k n++o.content:=by rw[E0,r6,bf hc]
  have e2:VA (l.take (i+1)) k n=true:=by rw[E0,Vk,v8 hc,Bool.or_true]
  have e3:(ofK (l.take (i+1)) k n).getLast?=some o:=by rw[E0,Y_,bf hc,sf]
  rw[e1,cy] at I9;simp only[↓aX,mX,seval];rw[ym 4 72 34 9 (dq (gl (l.take i) k n)) (dq o.content) (by simp[ae]) (by rw[bF]) (lT _) (pa _) (by rw[bF];omega) (by decide) (by decide) (by simp[ae,Hp.none])];simp only[↓aX,mX,seval,pU,ajf,ajh,bm];refine⟨⟨i+1,bI⟩,by simp only;omega,[(.loc 9,.loc 34)],?_⟩;refine⟨?_,?_,?_,by simp[dn],?_⟩
  ·intro l' hf hu;exfalso;apply hu;cases l'<;>simp_all[Lb.fresh,ae,Hp.none]
  ·simp[k_,dn,bJ,put,o9,e1,e2,bF]
  ·simp[tc,dn,ae,dO,bu,bJ,e1,e3,qh,ajs,Op.as,bu,bJ];rw[ajg]
  intro q hq;simp only[bb,b5,b7] at hq;rcases hq with rfl|rfl|rfl<;>simp[dn,Lb.fresh]
 rw[show decide ((i:Int)<(l.length:Int))=false by simpa using bI];have:i=l.length:=by omega
 subst this;simp only[↓aX,mX,seval,ea];refine⟨rfl,?_⟩;simp only[↓aX,mX,seval,e_,ajf,aji,ajh,ajo,bm,↓akt];exact⟨.loc 9,rfl,by simp[ae]⟩
end
end Go.Am
