import Derived.Test.YtfinkeaikbmpgaaGreatDoorKP2
import Derived.Lib.AtoiAllCases
import Derived.Lib.ItoaNum
set_option linter.unusedSimpArgs false
set_option linter.unusedVariables false
set_option linter.unnecessarySimpa false
set_option linter.defProp false
/- Splitting, as strings.Split does it. -/
namespace Go.Am
open Go Go.RowKit
def WM {sz b d:Nat} {z:List AV} {m:Nat} {k k':IntKind} {H:Hp} (h1:m*b≤140737488355328) (h2:H (.loc d)= .unused) :
  z8 sz b d z (.int k (m:Int)) (.int k' (m:Int)) H=some (.sl (.loc d) sz 0 m,bF H (.loc d) (.live ⟨sz,List.replicate m z⟩)):=by
 unfold z8;simp only;rw[adv ⟨rfl,by omega,by simpa using h1,h2⟩,ag9]
def BW (ws:List Bs):List (List AV):=ws.map fun w=>[AV.str w]
def Fv (ws:List Bs):BW ws=ar (ws.map IV.str):=by simp[BW,ar,IV.cells,IV.gK]
def Oq {ws:List Bs} {cs:List AV} (h:cs∈BW ws):ah cs=[]:=by rw[Fv] at h;exact bT h
def Fw (ws:List Bs) (i:Nat) (w:Bs):(BW ws).set i [.str w]=BW (ws.set i w):=by simp[BW,af2]
def Fx (ws:List Bs) (i:Nat):(BW ws)[i]?=ws[i]?.map fun w=>[AV.str w]:=by simp[BW]
def aag (ws:List Bs):Flat (ws.map IV.str):=by
 intro y hy z hz cs;obtain⟨w,_,rfl⟩:=adY.1 hy;simp only[IV.cells,adr] at hz;subst hz;simp
def mm (ws:List Bs) (n i:Nat):List Bs:=ws.take i++List.replicate (n - i) []
def Fy {ws:List Bs} {n i:Nat} (h:i≤ws.length) (h2:i≤n):(mm ws n i).length=n:=by simp[mm];omega
def yL {ws:List Bs} {n i:Nat} {w:Bs} (h:ws[i]?=some w) (h2:i<n):(mm ws n i).set i w=mm ws n (i+1):=by
 have hl:=(ag6.1 h).1;have hlen:(ws.take i).length=i:=by rw[adP];omega
 unfold mm;rw[afQ _ _ (by omega),hlen,ae_,aei,h,show n - i=(n - (i+1))+1 by omega,agZ,List.set_cons_zero];simp
def Fz {ws:List Bs} {n:Nat} (h:ws.length=n):mm ws n n=ws:=by
 unfold mm;rw[ae_,agY,adN,ads (by omega)]
def mv (nk ib eu:Nat):AC:=
(ay [oQ 8] (.seq (ay [af 12 3,db 13 .eql 12 0] (.cond (.t 13) (ay [oQ 8] .ret) .skip)) (.seq (ay [af 14 1,aE 15 (.bin .eql (.t 14) (.c (.str [])))] (.cond (.t 15) (ay [af 16 0,af 17 3,aE 18 (.call nk [(.t 16),(.t 17)]),af 8 18] .ret) .skip)) (.seq (ay [af 19 3,db 20 .lss 19 0] (.cond (.t 20) (.ec [af 21 0,af 22 1,aE 23 (.call ib [(.t 21),(.t 22)]),db 24 .add 23 1,af 3 24]) .skip)) (ay [af 25 3,af 26 0,wg 27 26,db 28 .add 27 1,aE 29 (.min (.t 25) (.t 28)),af 3 29] (ay [af 30 3,aE 31 (.Ej (.t 30) (.t 30) 1 16 [(.str [])]),af 9 31] (ay [af 32 3,db 33 .sub 32 1,af 3 33] (ay [eX 10 0] (.seq (.block 0 (.loop (.seq (ay [af 34 10,af 35 3,eS 36 .lss 34 35] (.cond (.t 36) .skip (.exit 0))) (.block 1 (ay [af 37 0,af 38 1,aE 39 (.call eu [(.t 37),(.t 38)]),af 11 39] (.seq (ay [af 40 11,db 41 .lss 40 0] (.cond (.t 41) (.exit 0) .skip)) (ay [af 42 9,af 43 10,af 44 0,af 45 11,af 46 2,eS 47 .add 45 46,aE 48 (.ot (.t 44) none (some (.t 47))),ig 49 42 43 1,dT (.store 1 (.t 49) (.t 48))] (ay [af 50 0,af 51 11,af 52 1,wg 53 52,eS 54 .add 51 53,aE 55 (.ot (.t 50) (some (.t 54)) none),af 0 55] (.ec [af 56 10,db 57 .add 56 1,af 10 57]))))))))) (ay [af 58 9,af 59 10,af 60 0,ig 61 58 59 1,dT (.store 1 (.t 61) (.t 60))] (ay [af 62 9,af 63 10,db 64 .add 63 1,aE 65 (.qd (.t 62) none (some (.t 64)) none 1),af 8 65] (.gh (.Ch (.loc 31) 8) .ret))))))))))))
structure ab' (c:UInt8) (s:Bs) where
 i:Nat
 r:Bs
 hc:r.count c+i=s.count c
 hs:ej c s=(ej c s).take i++ej c r
 hl:r.length≤s.length
def Ll {P:Program} {G:Nat→Option (List IV)} {fJ nk ib eu:Nat} (hF:an P G fJ=some (66,[(none,8)],(mv nk ib eu).bare)) (s:Bs) (c:UInt8) (hs:s.length≤B)
  (hC:aw P G ib [.str s,.str [c]] (.int .i64 ((s.count c:Nat):Int))) (hX:∀r:Bs,aw P G eu [.str r,.str [c]] (.int .i64 (Lib.indexByte r c))) :
  aw P G fJ [.str s,.str [c],.int .i64 0,.int .i64 (-1)] (.list ((ej c s).map IV.str)):=by
 refine aM hF (by simp) (by simp[ah,AV.aB]) (by simp[AV.aB]) ?_;have BE:s.count c≤s.length:=agP;have nM:B=1073741824:=rfl;have Ol:=x7 c _ s rfl;have oU:IntKind.i64.wrap (((s.count c:Nat):Int)+1)=((s.count c+1:Nat):Int):=wrap64 (by omega) (by omega);have BQ:IntKind.i64.wrap (((s.length:Nat):Int)+1)=((s.length+1:Nat):Int):=wrap64 (by omega) (by omega);have BR:IntKind.i64.wrap (((s.count c+1:Nat):Int) - 1)=((s.count c:Nat):Int):=by rw[wrap64 (by omega) (by omega)];omega
 have ab_:¬(((s.length+1:Nat):Int)<((s.count c+1:Nat):Int)):=by omega
 unfold mv;simp only[↓aX,mX,seval,show((-1:Int)==0)=false from rfl,show(([c]:Bs)==[])=false from rfl,aeB];refine aq hC ?_;simp only[↓aX,mX,seval,oU,BQ,ab_];rw[WM (by omega) (by simp[Hp.none])];simp only[↓aX,mX,seval,BR];refine eB (σ:=ab' c s) [.loc 31] (fun q=>[(0,.str q.r),(1,.str [c]),(2,.int .i64 0),(3,.int .i64 ((s.count c:Nat):Int)),(9,.sl (.loc 31) 1 0 (s.count c+1)),(10,.int .i64 q.i)])
  (fun q=>[(.loc 31,⟨1,BW (mm (ej c s) (s.count c+1) q.i)⟩)]) (fun q=>s.count c - q.i) ⟨0,s,rfl,by simp,adw _⟩ (fun _=>rfl) (by decide) (by simp[ah,AV.aB]) (by
   intro q r hr cs bS l hl;simp only[adr] at hr;subst hr;rw[Oq bS] at hl;simp at hl) ?_ ?_
 ·refine jI (by simp only[qo,ox]) (by repeat' constructor) ⟨?_,trivial⟩;simp[mm,BW,ae]
 rintro⟨i,r,hc,Ey,hl⟩;have hlen:(mm (ej c s) (s.count c+1) i).length=s.count c+1:=Fy (by omega) (by omega);simp only[↓aX,mX,seval,ed,dk];by_cases bO:i<s.count c
 ·rw[show decide (((i:Nat):Int)<((s.count c:Nat):Int))=true by simpa using bO];simp only[↓aX,mX,seval];refine aq (hX r) ?_;rcases pt c r with⟨_,h2,_⟩|⟨m,h1,h2,h3,h4⟩
  ·omega
  rw[h1];have dO:(ej c s)[i]?=some (r.take m):=by
   rw[Ey,adU (by rw[adP];omega),h4,adP,ael (by omega),ae_];rfl
  obtain⟨w0,GK⟩:∃w0,(mm (ej c s) (s.count c+1) i)[i]?=some w0:=⟨_,ag7 (by omega)⟩;have oV:=yL (n:=s.count c+1) dO (by omega);have Uf:IntKind.i64.wrap (((m:Nat):Int)+0)=((m:Nat):Int):=by rw[wrap64 (by omega) (by omega)];omega
  have hwb:IntKind.i64.wrap (((m:Nat):Int)+1)=((m+1:Nat):Int):=wrap64 (by omega) (by omega);have hwc:IntKind.i64.wrap (((i:Nat):Int)+1)=((i+1:Nat):Int):=wrap64 (by omega) (by omega);simp only[↓aX,mX,seval,show ¬(((m:Nat):Int)<0) by omega,aeL,Uf,mW,xI,adt,ag9,adF,show m≤r.length by omega,ad1,Fw,Fx,hlen,GK,adB,adA,aet,List.drop_nil,oV,show i<s.count c+1 by omega,adC,
   adK,aek,show((1:Nat):Int)=1 from rfl,hwb,show m+1≤r.length by omega,aee,hwc]
  exact⟨⟨i+1,r.drop (m+1),by omega,by
    have h5:(ej c s).take (i+1)=(ej c s).take i++[r.take m]:=(by rw[aei,dO];rfl);rw[h5,adV];rw[h4] at Ey;exact Ey,by rw[aen];omega⟩,by simp only;omega,jI (by simp only[qo,ox]) (by repeat' constructor) ⟨by simp[ae],trivial⟩⟩
 have hi:i=s.count c:=by omega
 subst hi;have hz:r.count c=0:=by omega
 have hr:ej c r=[r]:=by
  rcases pt c r with⟨_,_,h3⟩|⟨m,_,_,h3,_⟩
  ·exact h3
  omega
 have dO:(ej c s)[s.count c]?=some r:=by
  rw[Ey,hr,adU (by rw[adP];omega),adP,ael (by omega),ae_];rfl
 obtain⟨w0,GK⟩:∃w0,(mm (ej c s) (s.count c+1) (s.count c))[s.count c]?=some w0:=⟨_,ag7 (by omega)⟩;have oV:=yL (n:=s.count c+1) dO (by omega);rw[Fz Ol] at oV;rw[show decide (((s.count c:Nat):Int)<((s.count c:Nat):Int))=false by simp];simp only[↓aX,mX,seval,mW,xI,adt,ag9,adF,Fx,GK,adB,adA,adK,aek,aet,ad1,List.drop_nil,adC,Fw,oV,oU,
  show s.count c<s.count c+1 by omega,adw]
 simp only[↓aX,mX,seval,nG,rK,mW,xI,adt,ag9,adF,adw,ad3,adA,adB,ad7,aeq,ae0,adC];refine⟨1,(ej c s).map IV.str,0,s.count c+1,rfl,?_,by simp[Ol],aag _,?_⟩
 ·rw[←Fv];try simp[ae]
 simp only[↓aX,mX,seval,ad1,ads (show((ej c s).map IV.str).length≤s.count c+1 by rw[ag5];omega)]
def o1 (fJ:Nat):AC:=
(ay [oQ 4] (ay [af 5 0,af 6 1,aE 7 (.call fJ [(.t 5),(.t 6),(ij 0),(.c (.int .i64 (-1)))]),af 4 7] .ret))
def WN {P:Program} {G:Nat→Option (List IV)} {ic fJ:Nat} (hF:an P G ic=some (8,[(none,4)],(o1 fJ).bare)) (s:Bs) (c:UInt8)
  (hX:aw P G fJ [.str s,.str [c],.int .i64 0,.int .i64 (-1)] (.list ((ej c s).map IV.str))):aw P G ic [.str s,.str [c]] (.list ((ej c s).map IV.str)):=by
 refine aM hF (by simp) (by simp[ah,AV.aB]) (by simp[AV.aB]) ?_;unfold o1;simp only[↓aX,mX,seval];refine aq hX ?_;simp only[↓aX,mX,seval]

def A2 (t s:Bs):Bs:=if t.isSuffixOf s then s.take (s.length - t.length) else s
def Lm (n:Bs):Option Int:=match Lib.atoiAll n with
 | .ok k=>if Lib.itoa k=n∧1≤k then some k else none
 |_=>none
def x8 (w:Bs):Option Int:=if(cU 91 w).2.2 then(if [93].isSuffixOf (cU 91 w).2.1 then Lm (A2 [93] (cU 91 w).2.1) else none) else some 0
def qw (nm:Bs):Option Bs:=if nm=[] then none else if nm=[35] then some [] else some nm
def lQ (w:Bs):Option Step:=(x8 w).bind fun k=>(qw (cU 91 w).1).map fun nm=>⟨nm,k⟩
def iT:List Bs→Option (List Step)
 |[]=>some []
 |w::r=>(lQ w).bind fun x=>(iT r).map fun l=>x::l
def tH (s:Bs):Option (List Step):=
 if [47].isPrefixOf s∧s.length≤2500 then(iT (ej 47 (s.drop 1))).bind fun l=>if gN l then some l else none else none
def sS (s:Bs):AV:=match tH s with
 |some l=> .dM [.list (l.map Step.iv),.int .i64 0]
 |none=> .dM [.nil0,.int .i64 1]
theorem yM:∀(ws:List Bs) (w:Bs),iT (ws++[w])=(iT ws).bind fun l=>(lQ w).map fun x=>l++[x]
 |[],w=>by cases h:lQ w<;>simp[iT,h]
 |v::r,w=>by
  simp only[adR,iT,yM r w];cases lQ v<;>simp;cases iT r<;>simp;cases lQ w<;>simp
def FA {ws:List Bs} {i:Nat} {w:Bs} {l:List Step} (h:ws[i]?=some w) (hl:iT (ws.take i)=some l):iT (ws.take (i+1))=(lQ w).map fun x=>l++[x]:=by
 rw[aei,h,afA,yM,hl];rfl
theorem yN:∀{ws:List Bs} {w:Bs},w∈ws→lQ w=none→iT ws=none
 |v::r,w,hm,h=>by
  rcases adz.1 hm with rfl|hm
  ·simp[iT,h]
  simp only[iT,yN hm h];cases lQ v<;>rfl
theorem A3:∀{ws:List Bs} {l:List Step},iT ws=some l→l.length=ws.length
 |[],l,h=>by simp[iT] at h;subst h;rfl
 |v::r,l,h=>by
  simp only[iT,adx,ag4] at h;obtain⟨x,_,l',h2,rfl⟩:=h;simp[A3 h2]
def Ln (c:UInt8) (s:Bs):(ej c s).length=s.count c+1:=x7 c _ s rfl
def nn (c:UInt8) (w:Bs):(cU c w).1.length≤w.length∧(cU c w).2.1.length≤w.length:=by
 unfold cU;split
 ·simp only[adP,aen];omega
 simp
def Ot (t s:Bs):(A2 t s).length≤s.length:=by
 unfold A2;split
 ·simp only[adP];omega
 exact adw _
def HI {w:Bs} {x:Step} (h:lQ w=some x):x.name.length≤w.length:=by
 simp only[lQ,adx,ag4] at h;obtain⟨k,_,nm,hn,rfl⟩:=h;have:=(nn 91 w).1;unfold qw at hn;split at hn
 ·cases hn
 split at hn
 ·cases hn;exact ad3 _
 cases hn;exact this
theorem yO:∀{ws:List Bs} {l:List Step},iT ws=some l→∀x∈l,∃w∈ws,x.name.length≤w.length
 |[],l,h=>by simp[iT] at h;subst h;simp
 |v::r,l,h=>by
  simp only[iT,adx,ag4] at h;obtain⟨x,hx,l',h2,rfl⟩:=h;intro y hy;rcases adz.1 hy with rfl|hy
  ·exact⟨v,by simp,HI hx⟩
  obtain⟨w,h3,h4⟩:=yO h2 y hy;exact⟨w,by simp[h3],h4⟩
theorem x9 (c:UInt8):∀(s:Bs),∀w∈ej c s,w.length≤s.length
 |[],w,h=>by simp[ej] at h;subst h;simp
 |b::r,w,h=>by
  have ih:=x9 c r;simp only[ej] at h;split at h
  ·rcases adz.1 h with rfl|h
   ·simp
   have:=ih w h;simp;omega
  split at h
  ·rename_i v vs e;rw[e] at ih;rcases adz.1 h with rfl|h
   ·have:=ih v (by simp);simp;omega
   have:=ih w (by simp[h]);simp;omega
  simp at h;subst h;simp
structure WO (ws:List Bs) where
 i:Nat
 l:List Step
 hi:i≤ws.length
 h:iT (ws.take i)=some l
def yP (ws:List Bs) (q:WO ws):List (Nat×AV):=
 [(6,.sl (.loc 6) 2 0 q.i),(30,.list (ws.map IV.str)),(31,.int .i64 ws.length),(32,.int .i64 q.i)]
def yQ (ws:List Bs) (q:WO ws):List (Lb×Row):=[(.loc 6,⟨2,ar (q.l.map Step.iv)⟩)]
section
variable {P:Program} {G:Nat→Option (List IV)}
def Ug (P:Program) (G:Nat→Option (List IV)) (f:Nat):Prop:=∀n:Bs,n.length≤B→∃k e,aw P G f [.str n] (.dM [.int .i64 k,e])∧((e= .mH∧Lib.atoiAll n= .ok k)∨((∃t,e= .ifc t .any)∧∀v,Lib.atoiAll n≠ .ok v))
def Ou (P:Program) (G:Nat→Option (List IV)) (f:Nat):Prop:=∀k:Int,-9223372036854775808≤k→k≤9223372036854775807→aw P G f [.int .i64 k] (.str (Lib.itoa k))
def sa (cG ic ef fh np nq gH:Nat):AC:=
(ay [oQ 2,eX 3 0] (ay [af 18 0,aE 19 (.call cG [(.t 18),(.c (.str [47]))]),af 17 19,gQ 20 17 0,gQ 21 17 1,af 4 20,af 5 21] (.seq (ay [af 22 5,uk 23 22,af 24 23,gj 25 24 0,hQ 26 24 (.lens (.t 25)),hQ 27 24 (.bin .gtr (.t 26) (ij 2500)),nC 28 24 27] (.cond (.t 28) (ay [oQ 2,eX 3 1] .ret) .skip)) (ay [oQ 6] (.gh (.own 6 2) (.seq (ay [af 29 4,aE 30 (.call ic [(.t 29),(.c (.str [47]))]),ky 31 30,eX 32 0] (.block 0 (.loop (ay [eS 33 .lss 32 31] (.seq (.cond (.t 33) .skip (.exit 0)) (.seq (.block 1 (ay [ig 34 30 32 1,cS 35 34,af 8 35] (ay [aE 9 (.new [(.str []),(.int .i64 0)])] (ay [af 37 8,aE 38 (.call ef [(.t 37),(.c (.str [91]))]),af 36 38,gQ 39 36 0,gQ 40 36 1,gQ 41 36 2,af 10 39,af 11 40,af 12 41] (.seq (ay [af 42 12] (.cond (.t 42) (ay [af 44 11,aE 45 (.call fh [(.t 44),(.c (.str [93]))]),af 43 45,gQ 46 43 0,gQ 47 43 1,af 13 46,af 14 47] (ay [af 49 13,aE 50 (.call np [(.t 49)]),af 48 50,gQ 51 48 0,gQ 52 48 1,af 15 51,af 16 52] (.seq (ay [af 53 14,uk 54 53,af 55 54,gj 56 55 16,hQ 57 55 (.Qn true (.t 56) (.c .mH)),nC 58 55 57,af 59 58,gj 60 59 15,hQ 61 59 (.call nq [(.t 60)]),gj 62 59 13,hQ 63 59 (.bin .neq (.t 61) (.t 62)),nC 64 59 63,af 65 64,gj 66 65 15,hQ 67 65 (.bin .lss (.t 66) (ij 1)),nC 68 65 67] (.cond (.t 68) (ay [oQ 2,eX 3 1] .ret) .skip)) (.ec [af 69 15,b7 70 9 1,dT (.store 1 (.t 70) (.t 69))])))) .skip)) (ay [af 71 10,b7 72 9 0,dT (.store 1 (.t 72) (.t 71))] (.seq (ay [af 73 10] (.block 2 (ay [aE 75 (.bin .eql (.t 73) (.c (.str []))),af 74 75] (.cond (.t 74) (ay [oQ 2,eX 3 1] .ret) (ay [aE 77 (.bin .eql (.t 73) (.c (.str [35]))),af 76 77] (.cond (.t 76) (.ec [b7 78 9 0,dT (.store 1 (.t 78) (.c (.str [])))]) .skip)))))) (.ec [af 79 6,gd 80 2 9,aE 81 (.lits 1 2 [(.str []),(.int .i64 0)] [(0,(.t 80))]),aE 82 (.app (.t 79) (.t 81) 2 24),af 6 82])))))))) (.ec [db 83 .add 32 1,af 32 83]))))))) (.seq (.gh (.Ch (.loc 6) 6) (ay [af 84 6,aE 85 (.call gH [(.t 84)]),uk 86 85] (.cond (.t 86) (ay [oQ 2,eX 3 1] .ret) .skip))) (ay [af 87 6,af 2 87,eX 3 0] .ret))))))))
def HJ {kh cG ic ef fh np nq gH:Nat} (hF:an P G kh=some (88,[(none,2),(none,3)],(sa cG ic ef fh np nq gH).bare)) (s:Bs) (hs:s.length≤2^24)
  (hCP:aw P G cG [.str s,.str [47]] (.dM [.str (if [47].isPrefixOf s then s.drop 1 else s),.bool ([47].isPrefixOf s)]))
  (Yr:aw P G ic [.str (s.drop 1),.str [47]] (.list ((ej 47 (s.drop 1)).map IV.str)))
  (hCu:∀w∈ej 47 (s.drop 1),aw P G ef [.str w,.str [91]] (.dM [.str (cU 91 w).1,.str (cU 91 w).2.1,.bool (cU 91 w).2.2]))
  (hCS:∀w∈ej 47 (s.drop 1),aw P G fh [.str (cU 91 w).2.1,.str [93]] (.dM [.str (A2 [93] (cU 91 w).2.1),.bool ([93].isSuffixOf (cU 91 w).2.1)]))
  (hA:∀w∈ej 47 (s.drop 1),∃k e,aw P G np [.str (A2 [93] (cU 91 w).2.1)] (.dM [.int .i64 k,e])∧((e= .mH∧Lib.atoiAll (A2 [93] (cU 91 w).2.1)= .ok k)∨((∃t,e= .ifc t .any)∧∀v,Lib.atoiAll (A2 [93] (cU 91 w).2.1)≠ .ok v)))
  (hI:Ou P G nq) (hG:∀l:List Step,l.length≤B→(∀x∈l,x.name.length≤s.length)→aw P G gH [.list (l.map Step.iv)] (.bool (gN l))) :
  aw P G kh [.str s] (sS s):=by
 refine aM hF (by simp) (by simp[ah,AV.aB]) (by unfold sS;split<;>simp[AV.aB,ah]) ?_;have nM:B=1073741824:=rfl;unfold sa;simp only[↓aX,mX,seval];refine aq hCP ?_;simp only[↓aX,mX,seval];cases hp:([47]:Bs).isPrefixOf s with
 |false=>simp only[↓aX,mX,seval,adI,↓eQ,sS,tH,hp,adQ,false_and,af']
 |true=>
 simp only[↓aX,mX,seval,adL];rcases Nat.lt_or_ge 2500 s.length with hlen|hlen
 ·simp only[↓aX,mX,seval,show decide ((s.length:Int)>2500)=true by simp;omega,↓eQ,sS,tH,show ¬s.length≤2500 by omega,and_false,af']
 simp only[↓aX,mX,seval,show decide ((s.length:Int)>2500)=false by simp;omega];refine aq Yr ?_;obtain⟨ws,Ys⟩:∃ws,ej 47 (s.drop 1)=ws:=⟨_,rfl⟩;have hwl:ws.length≤2501:=by
  rw[←Ys,Ln];have:=agP (a:=(47:UInt8)) (l:=s.drop 1);simp only[aen] at this;omega
 have YY:tH s=(iT ws).bind fun l=>if gN l then some l else none:=by simp only[tH,hp,show s.length≤2500 from hlen,Ys,adF,agQ]
 rw[Ys] at hCu hCS hA ⊢;simp only[↓aX,mX,seval,ag5];refine jj (σ:=WO ws) (fun _=>[.loc 6]) (fun _ _=>false) (yP ws) (yQ ws) (fun q=>ws.length - q.i) ⟨0,[],by omega,rfl⟩ (fun _=>rfl) (fun q=>by simp[ah,AV.aB,yP]) ?_ ⟨[],?_⟩ ?_
 ·intro q w hw cs bS z hz;simp only[yQ,adr] at hw;subst hw;rw[bT bS] at hz;simp at hz
 ·refine⟨?_,?_,?_,by simp[bZ],fun l _=>⟨id,fun _=>rfl⟩⟩
  ·intro l hf hu;exfalso;apply hu;cases l<;>simp_all[Lb.fresh,ae,Hp.none]
  ·simp[kv,bZ,e7,put,yP]
  simp[qe,bZ,ae,cV,aY,e7,ar,yQ]
 rintro⟨i,l,hi,h⟩;rw[vt];have G8:l.length=i:=by have:=A3 h;simp only[adP] at this;omega
 have hr:∀(ρ:Lb→Lb) (xs:List IV),cV ρ ⟨2,ar xs⟩=⟨2,ar xs⟩:=fun ρ xs=>b5 _ _ _;simp only[↓aX,mX,seval,yP,yQ,ed,dk];by_cases bO:i<ws.length
 ·obtain⟨w,hw⟩:∃w,ws[i]?=some w:=⟨_,ag7 bO⟩;have Qw:=adu hw;have oU:IntKind.i64.wrap ((i:Int)+1)=((i+1:Nat):Int):=wrap64 (by omega) (by omega);have zn:(ws.map IV.str)[i]?=some (.str w):=by simp[hw]
  have oS:ko 1 (ws.map IV.str):=by intro y hy;simp only[adY] at hy;obtain⟨w',_,rfl⟩:=hy;rfl
  have vI:lQ w=none→sS s= .dM [.nil0,.int .i64 1]:=fun e=>by simp only[sS,YY,yN Qw e];rfl
  have next:∀x:Step,lQ w=some x→iT (ws.take (i+1))=some (l++[x]):=fun x e=>by rw[FA hw h,e];rfl
  simp only[↓aX,mX,seval,show decide ((i:Int)<(ws.length:Int))=true by simpa using bO,zn,oS,IV.cells,adt,ag9,G8];refine aq (hCu w Qw) ?_;simp only[↓aX,mX,seval];cases hth:(cU 91 w).2.2 with
  |false=>
   have x_:x8 w=some 0:=(by simp only[x8,hth];rfl);simp only[↓aX,mX,seval];cases qX:((cU 91 w).1==[]) with
   |true=>
    have A4:qw (cU 91 w).1=none:=(by simp only[qw,show(cU 91 w).1=[] by simpa using qX,agQ]);simp only[↓aX,mX,seval,↓eQ,vI (by simp only[lQ,A4];cases x8 w<;>rfl)]
   |false=>
   have IQ:(cU 91 w).1≠[]:=(by intro e;simp[e] at qX);cases G2:((cU 91 w).1==[35]) with
   |true=>
    have A4:qw (cU 91 w).1=some []:=(by simp only[qw,show(cU 91 w).1=[35] by simpa using G2];rfl);simp only[↓aX,mX,seval,G2];rw[gU 2 24 82 6 (l.map Step.iv) (.agg [.str [],.int .i64 0]) (by simp[ae]) (by simp[G8]) rfl (by simp[IV.cells]) (by omega) (by omega) (by omega) (by simp[ae,Hp.none])];simp only[↓aX,mX,seval,oU];refine⟨⟨i+1,l++[⟨[],0⟩],bO,next _ (by simp only[lQ,x_,A4];rfl)⟩,by simp only;omega,[(.loc 6,.loc 82)],?_⟩;refine⟨?_,?_,?_,by simp[bZ],?_⟩
    ·intro l hf hu;exfalso;apply hu;cases l<;>simp_all[Lb.fresh,ae,Hp.none]
    ·simp[kv,bZ,e7,put,yP]
    ·simp only[qe,hr,yQ];simp[bZ,ae,cV,aY,e7,Step.iv,Step.cs]
    intro l hl;simp only[adr] at hl;subst hl;exact⟨fun _=>rfl,fun h=>by simp[Lb.fresh] at h⟩
   |false=>
   have hn3:(cU 91 w).1≠[35]:=(by intro e;simp[e] at G2);have A4:qw (cU 91 w).1=some (cU 91 w).1:=(by simp only[qw,IQ,hn3,af']);simp only[↓aX,mX,seval,G2];rw[gU 2 24 82 6 (l.map Step.iv) (.agg [.str (cU 91 w).1,.int .i64 0]) (by simp[ae]) (by simp[G8]) rfl (by simp[IV.cells]) (by omega) (by omega) (by omega) (by simp[ae,Hp.none])];simp only[↓aX,mX,seval,oU];refine⟨⟨i+1,l++[⟨(cU 91 w).1,0⟩],bO,next _ (by simp only[lQ,x_,A4];rfl)⟩,by simp only;omega,[(.loc 6,.loc 82)],?_⟩;refine⟨?_,?_,?_,by simp[bZ],?_⟩
   ·intro l hf hu;exfalso;apply hu;cases l<;>simp_all[Lb.fresh,ae,Hp.none]
   ·simp[kv,bZ,e7,put,yP]
   ·simp only[qe,hr,yQ];simp[bZ,ae,cV,aY,e7,Step.iv,Step.cs]
   intro l hl;simp only[adr] at hl;subst hl;exact⟨fun _=>rfl,fun h=>by simp[Lb.fresh] at h⟩
  |true=>
  simp only[↓aX,mX,seval];refine aq (hCS w Qw) ?_;simp only[↓aX,mX,seval];obtain⟨k,e,Jx,bS⟩:=hA w Qw;refine aq Jx ?_;have oS:e.aB=[]:=by rcases bS with⟨rfl,_⟩|⟨⟨t,rfl⟩,_⟩<;>rfl
  cases HK:([93]:Bs).isSuffixOf (cU 91 w).2.1 with
  |false=>
   have x_:x8 w=none:=(by simp only[x8,hth,HK];rfl);simp only[↓aX,mX,seval,adI,↓eQ,vI (by simp only[lQ,x_];rfl)]
  |true=>
  have Lp:x8 w=Lm (A2 [93] (cU 91 w).2.1):=by simp only[x8,hth,HK,adH]
  rcases bS with⟨rfl,u7⟩|⟨⟨t,rfl⟩,aca⟩
  ·obtain⟨Dn,Sg⟩:=Lib.atoiAll_bounds u7;simp only[↓aX,mX,seval,adL];refine aq (hI k Dn Sg) ?_;cases hit:(Lib.itoa k==A2 [93] (cU 91 w).2.1) with
   |false=>
    have x_:x8 w=none:=(by rw[Lp];simp only[Lm,u7,show ¬Lib.itoa k=A2 [93] (cU 91 w).2.1 by intro e;simp[e] at hit,false_and,af']);simp only[↓aX,mX,seval,hit,adI,↓eQ,vI (by simp only[lQ,x_];rfl)]
   |true=>
   have aah:Lib.itoa k=A2 [93] (cU 91 w).2.1:=(by simpa using hit);by_cases hk:k<1
   ·have x_:x8 w=none:=(by rw[Lp];simp only[Lm,u7,aah,show ¬1≤k by omega,and_false,af']);simp only[↓aX,mX,seval,hit,adL,hk,aeB,↓eQ,vI (by simp only[lQ,x_];rfl)]
   have x_:x8 w=some k:=(by rw[Lp];simp only[Lm,u7,aah,show 1≤k by omega,ad8,agQ]);simp only[↓aX,mX,seval,hit,adL,hk,aeL];cases qX:((cU 91 w).1==[]) with
   |true=>
    have A4:qw (cU 91 w).1=none:=(by simp only[qw,show(cU 91 w).1=[] by simpa using qX,agQ]);simp only[↓aX,mX,seval,↓eQ,vI (by simp only[lQ,A4];cases x8 w<;>rfl)]
   |false=>
   have IQ:(cU 91 w).1≠[]:=(by intro e;simp[e] at qX);cases G2:((cU 91 w).1==[35]) with
   |true=>
    have A4:qw (cU 91 w).1=some []:=(by simp only[qw,show(cU 91 w).1=[35] by simpa using G2];rfl);simp only[↓aX,mX,seval,G2];rw[gU 2 24 82 6 (l.map Step.iv) (.agg [.str [],.int .i64 k]) (by simp[ae]) (by simp[G8]) rfl (by simp[IV.cells]) (by omega) (by omega) (by omega) (by simp[ae,Hp.none])];simp only[↓aX,mX,seval,oU];refine⟨⟨i+1,l++[⟨[],k⟩],bO,next _ (by simp only[lQ,x_,A4];rfl)⟩,by simp only;omega,[(.loc 6,.loc 82)],?_⟩;refine⟨?_,?_,?_,by simp[bZ],?_⟩
    ·intro l hf hu;exfalso;apply hu;cases l<;>simp_all[Lb.fresh,ae,Hp.none]
    ·simp[kv,bZ,e7,put,yP]
    ·simp only[qe,hr,yQ];simp[bZ,ae,cV,aY,e7,Step.iv,Step.cs]
    intro l hl;simp only[adr] at hl;subst hl;exact⟨fun _=>rfl,fun h=>by simp[Lb.fresh] at h⟩
   |false=>
   have hn3:(cU 91 w).1≠[35]:=(by intro e;simp[e] at G2);have A4:qw (cU 91 w).1=some (cU 91 w).1:=(by simp only[qw,IQ,hn3,af']);simp only[↓aX,mX,seval,G2];rw[gU 2 24 82 6 (l.map Step.iv) (.agg [.str (cU 91 w).1,.int .i64 k]) (by simp[ae]) (by simp[G8]) rfl (by simp[IV.cells]) (by omega) (by omega) (by omega) (by simp[ae,Hp.none])];simp only[↓aX,mX,seval,oU];refine⟨⟨i+1,l++[⟨(cU 91 w).1,k⟩],bO,next _ (by simp only[lQ,x_,A4];rfl)⟩,by simp only;omega,[(.loc 6,.loc 82)],?_⟩;refine⟨?_,?_,?_,by simp[bZ],?_⟩
   ·intro l hf hu;exfalso;apply hu;cases l<;>simp_all[Lb.fresh,ae,Hp.none]
   ·simp[kv,bZ,e7,put,yP]
   ·simp only[qe,hr,yQ];simp[bZ,ae,cV,aY,e7,Step.iv,Step.cs]
   intro l hl;simp only[adr] at hl;subst hl;exact⟨fun _=>rfl,fun h=>by simp[Lb.fresh] at h⟩
  have x_:x8 w=none:=by
   rw[Lp];unfold Lm;split
   ·rename_i v hv;exact absurd hv (aca v)
   rfl
  simp only[↓aX,mX,seval,adL,↓eQ,vI (by simp only[lQ,x_];rfl)]
 have hiw:i=ws.length:=by omega
 subst hiw;have mZ:iT ws=some l:=by rw[aee] at h;exact h
 simp only[↓aX,mX,seval,show decide ((ws.length:Int)<(ws.length:Int))=false by simp];have s4:List.take ws.length (l.map Step.iv)=l.map Step.iv:=ads (by simp[G8]);refine⟨2,l.map Step.iv,0,ws.length,rfl,rfl,by simp[G8],WG _,?_⟩;simp only[↓aX,mX,seval,ad1,s4];refine aq (hG l (by omega) (fun x hx=>by
  obtain⟨w,hw,hq⟩:=yO mZ x hx;have h2:=x9 47 (s.drop 1) w (by rw[Ys];exact hw);rw[aen] at h2;omega)) ?_
 cases hg:gN l with
 |false=>simp only[↓aX,mX,seval,adI,↓eQ,sS,YY,mZ,adA,hg,adQ,af']
 |true=>simp only[↓aX,mX,seval,adL,↓eQ,s4,sS,YY,mZ,adA,hg,agQ]
end
end Go.Am
