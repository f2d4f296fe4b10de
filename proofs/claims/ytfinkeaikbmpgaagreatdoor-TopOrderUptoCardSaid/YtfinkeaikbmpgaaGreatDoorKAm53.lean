import Derived.Test.YtfinkeaikbmpgaaGreatDoorKAm48
import Derived.Test.YtfinkeaikbmpgaaGreatDoorKT35
import Derived.Shelf.Strconv.AtoiAll
import Derived.Shelf.Strconv.Itoa3
import Derived.Test.YtfinkeaikbmpgaaGreatDoorKT67
import Derived.Test.YtfinkeaikbmpgaaGreatDoorKT80
import Derived.Test.YtfinkeaikbmpgaaGreatDoorKC7
import Derived.Test.YtfinkeaikbmpgaaGreatDoorKP2
import Derived.Test.YtfinkeaikbmpgaaGreatDoorKAm47
import Derived.Test.YtfinkeaikbmpgaaGreatDoorKT90
set_option linter.unusedSimpArgs false
set_option linter.unusedVariables false
set_option linter.unnecessarySimpa false
set_option linter.defProp false
/- THE ABSTRACT MACHINE, part 53: a contract of the kit's, as a contract of the machine's. -/
namespace Go.Am
open Go Go.RowKit
def IB (G:Nat→Option (List IV)) (I:Nat→Prop) (w:World):Prop:=∀g cs,G g=some cs→gX w I cs g
def oo {P:Program} {G:Nat→Option (List IV)} {f:Nat} {args:List AV} {res:AV} (ha:ah args=[]) (hr:res.aB=[])
   (h:∀(w:World) (I:Nat→Prop) (vs:List Value),IB G I w→cM w pL Hp.none I args vs →
     Calls P f vs.toArray w fun e w'=>∃v,e= .returned v∧Below w.heap.size w w'∧∀I':Nat→Prop,RV w' pL Hp.none I' res v):aw P G f args res:=by
 refine⟨ha,hr,fun w A β vs qD hv=> ?_⟩
 have hg:IB G (Im (fm P G w A β Hp.none) β Hp.none) w:=fun g cs hg=>(qD.l_ g cs hg).2.2
 have hk:kR w w β pL Hp.none Hp.none (Im (fm P G w A β Hp.none) β Hp.none) (Im (fm P G w A β Hp.none) β Hp.none) (ah args):=
   {im:=fun k hk hs=>⟨hk,hs,rfl⟩,lb:=fun l _ ⟨r,h⟩=>by simp[Hp.none] at h}
 refine(h w _ vs hg (cM.mono _ _ hk hv)).mono ?_
 rintro e w' ⟨v,rfl,hb,hx⟩
 have hi:mV w w' (Im (fm P G w A β Hp.none) β Hp.none) (Im (fm P G w A β Hp.none) β Hp.none):=
   ⟨fun k hk hs=>⟨hk,ae3 hs hb.size,hb.block k hs⟩⟩
 refine⟨v,res,Hp.none,β,rfl,rfl,?_,?_,by simp[hr]⟩
 · exact { defers := rfl,size := rfl
           mS:=fun n=>by simp[Env.any,RV]
           rows:=fun l r h=>by simp[Hp.none] at h
           own:=fun l g ⟨r,h⟩=>by simp[Hp.none] at h
           inj:=fun l l' g ⟨r,h⟩=>by simp[Hp.none] at h
           kL:=fun n=>by simp[Env.any,AV.aB]
           fk:=fun l r h=>by simp[Hp.none] at h
           frame:=qD.frame.MF hb
           nF:=fun l ⟨r,h⟩=>by simp[fm,Hp.none] at h
           fr:=fun l g ⟨r,h⟩=>by simp[Hp.none] at h
           l_:=fun g cs hg=>by
             obtain⟨k1,k2,k3⟩:=qD.l_ g cs hg
             exact⟨k1,ae3 k2 hb.size,gX.mono hi k1 k2 k3⟩}
 refine RV.mono _ _ ?_ (hx (Im (fm P G w A β Hp.none) β Hp.none))
 exact {im:=fun k hk hs=>⟨hk,hs,rfl⟩,lb:=fun l hl=>by simp[hr] at hl}
end Go.Am

namespace Go.Am
open Go Go.RowKit Go.Shelf Go.Proofs
def XQ {w:World} {I:Nat→Prop} {s:Bs} {v:Value} (h:RV w pL Hp.none I (.str s) v):v= .string ⟨s.toArray⟩:=by simpa[RV] using h
def Ec {w:World} {I:Nat→Prop} {s:Bs} {vs:List Value} (h:cM w pL Hp.none I [.str s] vs):vs=[.string ⟨s.toArray⟩]:=by
 simp only[cM] at h;obtain⟨v,us,rfl,h1,rfl⟩:=h;rw[XQ h1]
def IC (w:World) (k:Nat) (os:Array Obj):Below w.heap.size w (Sort.grow (w.drewN k) os):=by
 refine⟨rfl,rfl,rfl,by simp[Sort.grow,World.drewN],fun i hi=> ?_⟩;simp only[Sort.grow,World.drewN];rw[afC hi]
theorem Gv {w:World} {I:Nat→Prop} {g:Nat}:∀(cs:List IV) (o i:Nat) (x:IV),dF w I cs g o→cs[i]?=some x→∃v,w.cell? ⟨g,o+i,none⟩=some v∧kP w I x v
 |y::r,o,0,x,h,hx=>by
  simp only[dF] at h;simp only[aem,jl] at hx;subst hx;exact h.1
 |y::r,o,i+1,x,h,hx=>by
  simp only[dF] at h;obtain⟨v,h1,h2⟩:=Gv r (o+1) i x h.2 (by simpa using hx);exact⟨v,by rw[show o+(i+1)=o+1+i by omega];exact h1,h2⟩
def XR {P:Program} {w:World} {I:Nat→Prop} {g:Nat} {name:String} {k:IntKind} {zs:List Int} (hg:P.globalNamed name=some g) (h:gX w I (zs.map fun z=>IV.int k z) g):Lib.TabIs P w name k zs:=by
 obtain⟨h1,h2⟩:=h;unfold Lib.TabIs World.var?;rw[hg];simp only[adA];unfold qU at h2;split at h2
 ·rename_i c a b hc;simp only[hc,jl] at h2 ⊢;simp only[ag5] at h2;apply Array.ext
  ·simpa using h2
  intro i JJ Eu;obtain⟨v,k1,k2⟩:=Gv _ 0 i (IV.int k (zs[i]'(by omega))) h1 (by rw[adX,ag7 (by omega)];rfl)
  simp only[kP] at k2;subst k2;have:w.cell? ⟨g,0+i,none⟩=c[i]?:=by simp[World.cell?,hc]
  rw[this,aeM JJ] at k1;simpa using k1
 cases h2
section
variable {P:Program} {G:Nat→Option (List IV)} {ρ:Ren}
def abe (L:LaysC.n172 P ρ) {t1 t2:Nat} (h1:G (ρ.g 15)=some [.ifc t1]) (h2:G (ρ.g 16)=some [.ifc t2]):Ug P G (ρ.f 172):=by
 intro n hn;have nM:B=1073741824:=rfl;have pC:(⟨n.toArray⟩:ByteArray).size=n.length:=by simp[ByteArray.size]
 have Mx:(⟨n.toArray⟩:ByteArray).data.toList=n:=by simp
 have cell:∀(w:World) (I:Nat→Prop) (g t:Nat),IB G I w→G g=some [.ifc t]→∃u,w.cell? ⟨g,0,none⟩=some (.iface t u):=by
  intro w I g t hg he;obtain⟨⟨⟨v,e1,e2⟩,_⟩,_⟩:=hg g _ he;simp only[kP] at e2;obtain⟨u,rfl⟩:=e2;exact⟨u,e1⟩
 cases hc:Lib.atoiAll n with
 |ok k=>
  refine⟨k,.mH,oo (by simp[ah,AV.aB]) (by simp[AV.aB,ah]) fun w I vs hg hv=> ?_,.inl ⟨rfl,rfl⟩⟩;rw[Ec hv];refine(Any.strconv_Atoi_ok L _ (by rw[pC];omega) k (by rw[Mx];exact hc) w).mono ?_;rintro e w' ⟨rfl,hw⟩;refine⟨_,rfl,?_,fun I'=>by simp[RV,cM]⟩;rcases hw with rfl|⟨t,rfl⟩
  ·exact Below.refl _ _
  exact Lib.bytesWorld_below _ _ _
 |range=>
  refine⟨Lib.atoiSat n,.ifc (ρ.t 168) .any,oo (by simp[ah,AV.aB]) (by simp[AV.aB,ah]) fun w I vs hg hv=> ?_,.inr ⟨⟨_,rfl⟩,fun v=>by simp⟩⟩;rw[Ec hv];obtain⟨u,hu⟩:=cell w I _ _ hg h2;refine(Any.strconv_Atoi_range L _ (by rw[pC];omega) (by rw[Mx];exact hc) _ w hu (.inr ⟨_,_,rfl⟩)).mono ?_;rintro e w' ⟨N,rfl,_,_,hb⟩;exact⟨_,rfl,hb,fun I'=>by simp only[RV,cM,Mx];exact⟨[_,_],rfl,_,_,rfl,rfl,_,_,rfl,⟨_,rfl,trivial⟩,rfl⟩⟩
 |_=>
  refine⟨0,.ifc (ρ.t 168) .any,oo (by simp[ah,AV.aB]) (by simp[AV.aB,ah]) fun w I vs hg hv=> ?_,.inr ⟨⟨_,rfl⟩,fun v=>by simp⟩⟩;rw[Ec hv];obtain⟨u,hu⟩:=cell w I _ _ hg h1;refine(Any.strconv_Atoi_syntax L _ (by rw[pC];omega) (by rw[Mx];exact hc) _ w hu (.inr ⟨_,_,rfl⟩)).mono ?_;rintro e w' ⟨N,rfl,_,_,hb⟩;exact⟨_,rfl,hb,fun I'=>by simp only[RV,cM];exact⟨[_,_],rfl,_,_,rfl,rfl,_,_,rfl,⟨_,rfl,trivial⟩,rfl⟩⟩
def abf (L:LaysM.n171 P ρ) {g:Nat} (hg:P.globalNamed "internal/strconv.uint64pow10"=some g) (h1:G g=some (Lib.pow10Tab.map fun z=>IV.int .u64 z)):Ou P G (ρ.f 171):=by
 intro k h0 hk;refine oo (by simp[ah,AV.aB]) (by simp[AV.aB]) fun w I vs hG hv=> ?_;simp only[cM,RV] at hv;obtain⟨v,us,rfl,rfl,rfl⟩:=hv;refine(Any.strconv_Itoa L k h0 hk w (XR hg (hG g _ h1))).mono ?_;rintro e w' ⟨rfl,n,os,rfl⟩;exact⟨_,rfl,IC _ _ _,fun I'=>by simp[RV]⟩
end
end Go.Am

namespace Go.Am
open Go Go.RowKit
noncomputable def nz (s:Bs):Bs×Int:=
 if 2500<s.length then([],2) else match cC false s with
 |some (t,[])=>if plain t then(t,0) else([],1)
 |_=>([],1)
section
variable {P:Program} {G:Nat→Option (List IV)}
def uc (bL dV:Nat):AC:=
(ay [aE 2 (.nE (.c (.str []))),eX 3 0] (.seq (ay [af 6 0,wg 7 6,db 8 .gtr 7 2500] (.cond (.t 8) (ay [aE 2 (.nE (.c (.str []))),eX 3 2] .ret) .skip)) (ay [af 9 0,aE 10 (.oa [(.str []),(.bool false)] [(0,(1,(.t 9)))]),oN 11 10,af 4 11] (ay [af 12 4,aE 13 (.call bL [(.t 12),(vC false)]),af 5 13] (.seq (ay [af 14 4,aE 15 (.dc (.t 14)),b7 16 15 1,cS 17 16,af 18 17,gj 19 18 4,hQ 20 18 (.dc (.t 19)),j3 21 18 20 0,jP 22 18 21,hQ 23 18 (.bin .neq (.t 22) (.c (.str []))),nC 24 18 23,af 25 24,gj 26 25 5,hQ 27 25 (.call dV [(.t 26)]),hQ 28 25 (.not (.t 27)),nC 29 25 28] (.cond (.t 29) (ay [aE 2 (.nE (.c (.str []))),eX 3 1] .ret) .skip)) (ay [af 30 5,af 2 30,eX 3 0] .ret))))))
def S' {j7 bL dV:Nat} (hF:an P G j7=some (31,[(none,2),(none,3)],(uc bL dV).bare)) (s:Bs) (hs:s.length≤B) (hT:∀s:Bs,s.length≤B→ez P G bL [.ptr (.par 0) 2 0 0,.bool false] (gE s false) (CV false s false))
  (hP:∀t:Bs,t.length≤2500→aw P G dV [.str t] (.bool (plain t))) :
  aw P G j7 [.str s] (.dM [.str (nz s).1,.int .i64 (nz s).2]):=by
 refine aM hF (by simp) (by simp[ah,AV.aB]) (by simp[AV.aB,ah]) ?_;unfold uc nz;simp only[↓aX,mX,seval];by_cases hl:2500<s.length
 ·simp only[↓aX,mX,seval,show(((s.length:Nat):Int)>2500)=True by simp;omega,aeB,↓eQ,hl,adH]
 simp only[↓aX,mX,seval,show(((s.length:Nat):Int)>2500)=False by simp;omega,aeL];refine a7 (l:= .loc 11) (hT s hs) (by simp[aY,e7,iH]) (by simp[ae]) ?_;rintro x1 jm ⟨t,r,b',rfl,rfl,oU,_,oP⟩ _ _ _;have oP:=oP rfl;simp only[↓aX,mX,seval,hl,adS];cases b' with
 |true=>
  have e:cC false s=none:=by
   cases h:cC false s with
   |none=>rfl
   |some y=>rw[h] at oP;cases oP.1
  simp only[↓aX,mX,seval,↓eQ,hl,adS,e]
 |false=>
 have e:cC false s=some (t,r):=by
  cases h:cC false s with
  |none=>rw[h] at oP;cases oP
  |some y=>rw[h] at oP;rw[oP.2]
 simp only[↓aX,mX,seval];cases CI:(r==[]) with
 |false=>
  have hr:r≠[]:=by simpa using CI
  obtain⟨c,q,rfl⟩:=List.exists_cons_of_ne_nil hr;simp only[↓aX,mX,seval,adI,↓eQ,hl,adS,e]
 |true=>
 have hr:r=[]:=by simpa using CI
 subst hr;simp only[↓aX,mX,seval,adL];refine aq (hP t (by simp at oU;omega)) ?_;cases hg:plain t with
 |false=>simp only[↓aX,mX,seval,adI,↓eQ,hl,adS,adH,e,hg]
 |true=>simp only[↓aX,mX,seval,adL,↓eQ,hl,adS,adH,e,hg]
end

def qS:List Bs:=[[],[102,105,114,115,116],[108,97,115,116],[98,101,102,111,114,101],[97,102,116,101,114],[100,101,108,101,116,101],[114,101,112,108,97,99,101],[118,97,108,117,101],[114,101,110,97,109,101],[115,101,116],[100,114,111,112]]
def ud:List Bs→Bs→Int
 |[],_=> -1
 |v::r,w=>if w=v then 0 else if ud r w<0 then -1 else ud r w+1
theorem Ka:∀(l:List Bs) (w:Bs),-1≤ud l w∧ud l w<l.length
 |[],w=>by simp[ud]
 |v::r,w=>by
  have:=Ka r w;simp only[ud,adK];split
  ·omega
  split<;>omega
theorem Kb:∀{l:List Bs} {w:Bs} {i:Nat},l[i]?=some w→(∀j,j<i→l[j]?≠some w)→ud l w=(i:Int)
 |v::r,w,0,h,_=>by simp at h;subst h;simp[ud]
 |v::r,w,i+1,h,hn=>by
  have h0:w≠v:=fun e=>hn 0 (by omega) (by simp[e]);have ih:=Kb (l:=r) (i:=i) (by simpa using h) (fun j hj=>by have:=hn (j+1) (by omega);simpa using this);simp only[ud,h0,adS,ih];split<;>omega
theorem Da:∀{l:List Bs} {w:Bs},(∀j,j<l.length→l[j]?≠some w)→ud l w= -1
 |[],w,_=>rfl
 |v::r,w,hn=>by
  have h0:w≠v:=fun e=>hn 0 (by simp) (by simp[e]);have ih:=Da (l:=r) (fun j hj=>by have:=hn (j+1) (by simp;omega);simpa using this);simp only[ud,h0,adS,ih];rfl
def wa:Op:=⟨0,0,[],[],[]⟩
noncomputable def cQ (s:Bs):Op×List Step×Int:=
 let kd:=ud qS (cU 32 s).1
 let a:=cU 32 (cU 32 s).2.1
 if kd<1∨2500<s.length then(wa,[],1) else match tH a.1 with
 |none=>(wa,[],1)
 |some l=>
  if a.2.2=decide (kd=5) then(wa,[],1)
  else if kd=8∨kd=10 then(⟨kd,0,[],a.2.1,[]⟩,l,0)
  else if kd=9 then
   if(cU 61 a.2.1).2.2 then(if(nz (cU 61 a.2.1).2.1).2=0 then(⟨kd,0,[],(cU 61 a.2.1).1,(nz (cU 61 a.2.1).2.1).1⟩,l,0) else(wa,[],(nz (cU 61 a.2.1).2.1).2)) else(wa,[],1)
  else if kd=7 then(if(nz a.2.1).2=0 then(⟨kd,0,[],[],(nz a.2.1).1⟩,l,0) else(wa,[],(nz a.2.1).2))
  else if kd=5 then(⟨kd,0,[],[],[]⟩,l,0)
  else if(iq a.2.1).2=0 then(⟨kd,0,(iq a.2.1).1,[],[]⟩,l,0) else(wa,[],(iq a.2.1).2)
noncomputable def sX (s:Bs):AV:= .dM [(cQ s).1.av,.list ((cQ s).2.1.map Step.iv),.int .i64 (cQ s).2.2]
def eo {env:Env} {H:Hp} (m:Option Nat) (t u v:Nat) (R:AV→Hp→Prop):kX [(some m,t),(none,u),(none,v)] R .ret env H=ga (jR m (env t) H) (fun x=>R (.dM [x,env u,env v]) H) .mk:=by
 simp only[kX,jc,vM,ga];cases jR m (env t) H<;>simp[jf]
section
variable {P:Program} {G:Nat→Option (List IV)}
def ie:AC:=
(ay [eX 4 0] (.seq (ay [af 6 0,ky 7 6,eX 8 0] (.block 0 (.loop (ay [eS 9 .lss 8 7] (.seq (.cond (.t 9) .skip (.exit 0)) (.seq (.block 1 (ay [af 10 8,af 5 10] (ay [af 11 1,af 12 0,af 13 5,ig 14 12 13 1,cS 15 14,eS 16 .eql 11 15] (.cond (.t 16) (ay [af 17 5,af 4 17] .ret) .skip)))) (.ec [db 18 .add 8 1,af 8 18]))))))) (ay [aE 4 (.nE (.c (.int .i64 (-1))))] .ret)))
def S_ {cY:Nat} (hF:an P G cY=some (19,[(none,4)],ie.bare)) (l:List Bs) (hl:l.length≤B) (w:Bs):aw P G cY [.list (l.map IV.str),.str w] (.int .i64 (ud l w)):=by
 refine aM hF (by simp) (by simp[ah,AV.aB]) (by simp[AV.aB]) ?_;have nM:B=1073741824:=rfl;unfold ie;simp only[↓aX,mX,seval,ag5];refine mK (σ:={i:Nat // i≤l.length∧∀j,j<i→l[j]?≠some w}) (fun q=>[(0,.list (l.map IV.str)),(1,.str w),(7,.int .i64 l.length),(8,.int .i64 q.1)]) (fun q=>l.length - q.1) ⟨0,by simp⟩ (fun _=>rfl) ?_ ?_
 ·exact⟨by simp only[↓aX,mX,seval],by repeat' constructor⟩
 rintro⟨i,hi,hn⟩;simp only[↓aX,mX,seval,ag5];by_cases bO:i<l.length
 ·rw[show decide ((i:Int)<(l.length:Int))=true by simpa using bO];obtain⟨x,hx⟩:∃x,l[i]?=some x:=⟨_,ag7 bO⟩;have hw:IntKind.i64.wrap ((i:Int)+1)=((i+1:Nat):Int):=wrap64 (by omega) (by omega);have Yk:(l.map IV.str)[i]?=some (.str x):=by simp[hx]
  have oS:ko 1 (l.map IV.str):=by intro y hy;simp only[adY] at hy;obtain⟨w',_,rfl⟩:=hy;rfl
  simp only[↓aX,mX,seval,Yk,oS,IV.cells,adt,ag9];cases Yq:(w==x) with
  |true=>
   have:w=x:=(by simpa using Yq);subst this;simp only[↓aX,mX,seval,Kb hx hn]
  |false=>
  have ff:w≠x:=by intro e;simp[e] at Yq
  simp only[↓aX,mX,seval,hw];refine⟨⟨i+1,bO,fun j hj=> ?_⟩,by simp only;omega,rfl⟩;by_cases e:j=i
  ·subst e;rw[hx];simpa using aef ff
  exact hn j (by omega)
 rw[show decide ((i:Int)<(l.length:Int))=false by simpa using bO];simp only[↓aX,mX,seval,Da (fun j hj=>hn j (by omega))]
def sE (ef cY kh j7 iY:Nat):AC:=
(ay [aE 2 (.new [(.int .i64 0),(.int .i64 0),.nil0,(.str []),(.str [])]),oQ 3,eX 4 0] (ay [af 15 0,aE 16 (.call ef [(.t 15),(.c (.str [32]))]),af 14 16,gQ 17 14 0,gQ 18 14 1,gQ 19 14 2,af 5 17,af 6 18,af 7 19] (ay [af 21 6,aE 22 (.call ef [(.t 21),(.c (.str [32]))]),af 20 22,gQ 23 20 0,gQ 24 20 1,gQ 25 20 2,af 8 23,af 6 24,af 9 25] (ay [aE 26 (.zN (.c (.lptr [(.str []),(.str [102,105,114,115,116]),(.str [108,97,115,116]),(.str [98,101,102,111,114,101]),(.str [97,102,116,101,114]),(.str [100,101,108,101,116,101]),(.str [114,101,112,108,97,99,101]),(.str [118,97,108,117,101]),(.str [114,101,110,97,109,101]),(.str [115,101,116]),(.str [100,114,111,112])])) 11 1),af 27 5,aE 28 (.call cY [(.t 26),(.t 27)]),aE 29 (.oa [(.int .i64 0),(.int .i64 0),.nil0,(.str []),(.str [])] [(0,(1,(.t 28)))]),aE 10 (.new [(.int .i64 0),(.int .i64 0),.nil0,(.str []),(.str [])]),dT (.store 5 (.t 10) (.t 29))] (.seq (ay [b7 30 10 0,cS 31 30,db 32 .lss 31 1,af 33 32,gj 34 33 0,hQ 35 33 (.lens (.t 34)),hQ 36 33 (.bin .gtr (.t 35) (ij 2500)),nC 37 33 36] (.cond (.t 37) (ay [aE 38 (.oa [(.int .i64 0),(.int .i64 0),.nil0,(.str []),(.str [])] []),dT (.store 5 (.t 2) (.t 38)),oQ 3,eX 4 1] .ret) .skip)) (ay [af 40 8,aE 41 (.call kh [(.t 40)]),af 39 41,gQ 42 39 0,gQ 43 39 1,af 11 42,af 12 43] (.seq (ay [af 44 12,db 45 .neq 44 0] (.cond (.t 45) (ay [aE 46 (.oa [(.int .i64 0),(.int .i64 0),.nil0,(.str []),(.str [])] []),af 47 12,dT (.store 5 (.t 2) (.t 46)),oQ 3,af 4 47] .ret) .skip)) (.seq (ay [af 48 9,b7 49 10 0,cS 50 49,db 51 .eql 50 5,aE 52 (.Mr false (.t 48) (.t 51))] (.cond (.t 52) (ay [aE 53 (.oa [(.int .i64 0),(.int .i64 0),.nil0,(.str []),(.str [])] []),dT (.store 5 (.t 2) (.t 53)),oQ 3,eX 4 1] .ret) .skip)) (.seq (ay [b7 54 10 0,cS 55 54] (.block 0 (.seq (ay [db 63 .eql 55 8,af 62 63] (.cond (.t 62) .skip (.ec [db 64 .eql 55 10,af 62 64]))) (.cond (.t 62) (.ec [af 65 6,b7 66 10 3,dT (.store 1 (.t 66) (.t 65))]) (ay [db 68 .eql 55 9,af 67 68] (.cond (.t 67) (ay [jK 13 false] (.seq (ay [af 70 6,aE 71 (.call ef [(.t 70),(.c (.str [61]))]),af 69 71,gQ 72 69 0,gQ 73 69 1,gQ 74 69 2,b7 75 10 3,dT (.store 1 (.t 75) (.t 72)),af 6 73,af 13 74] (ay [af 76 13,uk 77 76] (.cond (.t 77) (ay [aE 78 (.oa [(.int .i64 0),(.int .i64 0),.nil0,(.str []),(.str [])] []),dT (.store 5 (.t 2) (.t 78)),oQ 3,eX 4 1] .ret) .skip))) (.ec [af 80 6,aE 81 (.call j7 [(.t 80)]),af 79 81,gQ 82 79 0,gQ 83 79 1,b7 84 10 4,dT (.store 1 (.t 84) (.t 82)),af 12 83]))) (ay [db 86 .eql 55 7,af 85 86] (.cond (.t 85) (.ec [af 88 6,aE 89 (.call j7 [(.t 88)]),af 87 89,gQ 90 87 0,gQ 91 87 1,b7 92 10 4,dT (.store 1 (.t 92) (.t 90)),af 12 91]) (ay [db 94 .eql 55 5,af 93 94] (.cond (.t 93) .skip (.ec [af 57 6,aE 58 (.call iY [(.t 57)]),af 56 58,gQ 59 56 0,gQ 60 56 1,b7 61 10 2,dT (.store 1 (.t 61) (.t 59)),af 12 60]))))))))))) (.seq (ay [af 95 12,db 96 .neq 95 0] (.cond (.t 96) (ay [aE 97 (.oa [(.int .i64 0),(.int .i64 0),.nil0,(.str []),(.str [])] []),af 98 12,dT (.store 5 (.t 2) (.t 97)),oQ 3,af 4 98] .ret) .skip)) (ay [gd 99 5 10,af 100 11,dT (.store 5 (.t 2) (.t 99)),af 3 100,eX 4 0] .ret)))))))))))
set_option maxHeartbeats 2000000 in
def abg {e8 ef cY kh j7 iY:Nat} (hF:an P G e8=some (101,[((some (some 5)),2),(none,3),(none,4)],(sE ef cY kh j7 iY).bare)) (s:Bs) (hs:s.length≤B)
  (Ow:∀(t:Bs) (c:UInt8),t.length≤s.length→aw P G ef [.str t,.str [c]] (.dM [.str (cU c t).1,.str (cU c t).2.1,.bool (cU c t).2.2]))
  (hIdx:∀w:Bs,aw P G cY [.list (qS.map IV.str),.str w] (.int .i64 (ud qS w)))
  (hP:∀t:Bs,t.length≤s.length→aw P G kh [.str t] (sS t))
  (hT:∀t:Bs,t.length≤s.length→aw P G j7 [.str t] (.dM [.str (nz t).1,.int .i64 (nz t).2]))
  (hC:∀t:Bs,t.length≤s.length→aw P G iY [.str t] (.dM [.list (eR (iq t).1),.int .i64 (iq t).2])) :
  aw P G e8 [.str s] (sX s):=by
 refine iC hF (by simp) (by simp[ah,AV.aB]) (by simp[AV.aB,ah,sX,Op.av]) ?_;have nM:B=1073741824:=rfl;have l1:=(nn 32 s).2;have l2:=nn 32 (cU 32 s).2.1;have l3:=nn 61 (cU 32 (cU 32 s).2.1).2.1;obtain⟨kd,zG⟩:∃kd,ud qS (cU 32 s).1=kd:=⟨_,rfl⟩;have hrg:=Ka qS (cU 32 s).1;rw[zG] at hrg;obtain⟨a,ha⟩:∃a,cU 32 (cU 32 s).2.1=a:=⟨_,rfl⟩;have c1:=Ow s 32 (Nat.le_refl _);have c2:=Ow (cU 32 s).2.1 32 l1;have c3:=hIdx (cU 32 s).1;rw[ha] at c2 l2 l3;rw[zG] at c3;unfold sE;simp only[↓aX,mX,seval];refine aq c1 ?_;simp only[↓aX,mX,seval];refine aq c2 ?_;simp only[↓aX,mX,seval];simp only[qS,List.map_cons,List.map_nil] at c3;rw[if_pos ⟨rfl,by decide,by simp[IV.cells]⟩];simp only[↓aX,mX,seval];refine aq c3 ?_;simp only[↓aX,mX,seval];have fZ:∀(o:Op) (l':List Step),cQ s=(o,l',0)→sX s= .dM [o.av,.list (l'.map Step.iv),.int .i64 0]:=fun o l' h=>by simp only[sX,h]
 have bad:∀e:Int,cQ s=(wa,[],e)→sX s= .dM [.agg [.int .i64 0,.int .i64 0,.list [],.str [],.str []],.list [],.int .i64 e]:=fun e h=>by simp only[sX,h];rfl
 by_cases Sg:kd<1
 ·have hl:cQ s=(wa,[],1):=by simp only[cQ,zG,Sg,true_or,ite_true]
  simp only[↓aX,mX,seval,Sg,decide_true,Bool.not_true,bad 1 hl,↓eo,norm,dC]
 simp only[↓aX,mX,seval,Sg,decide_false,Bool.not_false];rcases Nat.lt_or_ge 2500 s.length with hlen|hlen
 ·have hl:cQ s=(wa,[],1):=by simp only[cQ,zG,hlen,or_true,ite_true]
  simp only[↓aX,mX,seval,show decide ((s.length:Int)>2500)=true by simp;omega,bad 1 hl,↓eo,norm,dC]
 simp only[↓aX,mX,seval,show decide ((s.length:Int)>2500)=false by simp;omega];have c4:=hP a.1 (by omega);have I1:¬(kd<1∨2500<s.length):=by omega
 have yA:cQ s=(match tH a.1 with
  |none=>(wa,[],1)
  |some l=>
   if a.2.2=decide (kd=5) then(wa,[],1)
   else if kd=8∨kd=10 then(⟨kd,0,[],a.2.1,[]⟩,l,0)
   else if kd=9 then
    if(cU 61 a.2.1).2.2 then(if(nz (cU 61 a.2.1).2.1).2=0 then(⟨kd,0,[],(cU 61 a.2.1).1,(nz (cU 61 a.2.1).2.1).1⟩,l,0) else(wa,[],(nz (cU 61 a.2.1).2.1).2)) else(wa,[],1)
   else if kd=7 then(if(nz a.2.1).2=0 then(⟨kd,0,[],[],(nz a.2.1).1⟩,l,0) else(wa,[],(nz a.2.1).2))
   else if kd=5 then(⟨kd,0,[],[],[]⟩,l,0)
   else if(iq a.2.1).2=0 then(⟨kd,0,(iq a.2.1).1,[],[]⟩,l,0) else(wa,[],(iq a.2.1).2)):=by
  unfold cQ;simp only[zG,ha];rw[if_neg I1]
 refine aq c4 ?_;cases hp:tH a.1 with
 |none=>
  have hl:cQ s=(wa,[],1):=by rw[yA,hp]
  simp only[↓aX,mX,seval,sS,hp,show((1:Int) !=0)=true from rfl,bad 1 hl,↓eo,norm,dC]
 |some l=>
 rw[hp] at yA;simp only at yA;simp only[↓aX,mX,seval,sS,hp,show((0:Int) !=0)=false from rfl];have bS:kd=1∨kd=2∨kd=3∨kd=4∨kd=5∨kd=6∨kd=7∨kd=8∨kd=9∨kd=10:=by
  have:(qS.length:Int)=11:=rfl;omega
 rcases bS with hk|hk|hk|hk|hk|hk|hk|hk|hk|hk
 ·subst hk;cases hm:a.2.2 with
  |false=>
   have hl:cQ s=(wa,[],1):=(by rw[yA,hm];rfl);simp only[↓aX,mX,seval,show((1:Int)==8)=false from rfl,show((1:Int)==10)=false from rfl,show((1:Int)==9)=false from rfl,show((1:Int)==7)=false from rfl,show((1:Int)==5)=false from rfl,beq_self_eq_true,bad 1 hl,↓eo,norm,dC]
  |true=>
  have mD:=yA;rw[hm] at mD;simp only[show((true=decide ((1:Int)=5))=False) from by simp,if_false,show ¬((1:Int)=5) by decide,show ¬((1:Int)=7) by decide,show ¬((1:Int)=8) by decide,show ¬((1:Int)=9) by decide,show ¬((1:Int)=10) by decide,or_false,false_or,if_true] at mD;simp only[↓aX,mX,seval,show((1:Int)==8)=false from rfl,show((1:Int)==10)=false from rfl,show((1:Int)==9)=false from rfl,show((1:Int)==7)=false from rfl,show((1:Int)==5)=false from rfl,show(true==false)=false from rfl];refine aq (hC a.2.1 (by omega)) ?_;cases he:(iq a.2.1).2==0 with
  |true=>
   have p9:(iq a.2.1).2=0:=(by simpa using he);rw[if_pos p9] at mD;simp only[↓aX,mX,seval,bne,he,Bool.not_true,↓eo,fZ _ _ mD,Op.av,norm,dC]
  |false=>
  have p9:(iq a.2.1).2≠0:=by simpa using he
  rw[if_neg p9] at mD;simp only[↓aX,mX,seval,bne,he,Bool.not_false,bad _ mD,↓eo,norm,dC]
 ·subst hk;cases hm:a.2.2 with
  |false=>
   have hl:cQ s=(wa,[],1):=(by rw[yA,hm];rfl);simp only[↓aX,mX,seval,show((2:Int)==8)=false from rfl,show((2:Int)==10)=false from rfl,show((2:Int)==9)=false from rfl,show((2:Int)==7)=false from rfl,show((2:Int)==5)=false from rfl,beq_self_eq_true,bad 1 hl,↓eo,norm,dC]
  |true=>
  have mD:=yA;rw[hm] at mD;simp only[show((true=decide ((2:Int)=5))=False) from by simp,if_false,show ¬((2:Int)=5) by decide,show ¬((2:Int)=7) by decide,show ¬((2:Int)=8) by decide,show ¬((2:Int)=9) by decide,show ¬((2:Int)=10) by decide,or_false,false_or,if_true] at mD;simp only[↓aX,mX,seval,show((2:Int)==8)=false from rfl,show((2:Int)==10)=false from rfl,show((2:Int)==9)=false from rfl,show((2:Int)==7)=false from rfl,show((2:Int)==5)=false from rfl,show(true==false)=false from rfl];refine aq (hC a.2.1 (by omega)) ?_;cases he:(iq a.2.1).2==0 with
  |true=>
   have p9:(iq a.2.1).2=0:=(by simpa using he);rw[if_pos p9] at mD;simp only[↓aX,mX,seval,bne,he,Bool.not_true,↓eo,fZ _ _ mD,Op.av,norm,dC]
  |false=>
  have p9:(iq a.2.1).2≠0:=by simpa using he
  rw[if_neg p9] at mD;simp only[↓aX,mX,seval,bne,he,Bool.not_false,bad _ mD,↓eo,norm,dC]
 ·subst hk;cases hm:a.2.2 with
  |false=>
   have hl:cQ s=(wa,[],1):=(by rw[yA,hm];rfl);simp only[↓aX,mX,seval,show((3:Int)==8)=false from rfl,show((3:Int)==10)=false from rfl,show((3:Int)==9)=false from rfl,show((3:Int)==7)=false from rfl,show((3:Int)==5)=false from rfl,beq_self_eq_true,bad 1 hl,↓eo,norm,dC]
  |true=>
  have mD:=yA;rw[hm] at mD;simp only[show((true=decide ((3:Int)=5))=False) from by simp,if_false,show ¬((3:Int)=5) by decide,show ¬((3:Int)=7) by decide,show ¬((3:Int)=8) by decide,show ¬((3:Int)=9) by decide,show ¬((3:Int)=10) by decide,or_false,false_or,if_true] at mD;simp only[↓aX,mX,seval,show((3:Int)==8)=false from rfl,show((3:Int)==10)=false from rfl,show((3:Int)==9)=false from rfl,show((3:Int)==7)=false from rfl,show((3:Int)==5)=false from rfl,show(true==false)=false from rfl];refine aq (hC a.2.1 (by omega)) ?_;cases he:(iq a.2.1).2==0 with
  |true=>
   have p9:(iq a.2.1).2=0:=(by simpa using he);rw[if_pos p9] at mD;simp only[↓aX,mX,seval,bne,he,Bool.not_true,↓eo,fZ _ _ mD,Op.av,norm,dC]
  |false=>
  have p9:(iq a.2.1).2≠0:=by simpa using he
  rw[if_neg p9] at mD;simp only[↓aX,mX,seval,bne,he,Bool.not_false,bad _ mD,↓eo,norm,dC]
 ·subst hk;cases hm:a.2.2 with
  |false=>
   have hl:cQ s=(wa,[],1):=(by rw[yA,hm];rfl);simp only[↓aX,mX,seval,show((4:Int)==8)=false from rfl,show((4:Int)==10)=false from rfl,show((4:Int)==9)=false from rfl,show((4:Int)==7)=false from rfl,show((4:Int)==5)=false from rfl,beq_self_eq_true,bad 1 hl,↓eo,norm,dC]
  |true=>
  have mD:=yA;rw[hm] at mD;simp only[show((true=decide ((4:Int)=5))=False) from by simp,if_false,show ¬((4:Int)=5) by decide,show ¬((4:Int)=7) by decide,show ¬((4:Int)=8) by decide,show ¬((4:Int)=9) by decide,show ¬((4:Int)=10) by decide,or_false,false_or,if_true] at mD;simp only[↓aX,mX,seval,show((4:Int)==8)=false from rfl,show((4:Int)==10)=false from rfl,show((4:Int)==9)=false from rfl,show((4:Int)==7)=false from rfl,show((4:Int)==5)=false from rfl,show(true==false)=false from rfl];refine aq (hC a.2.1 (by omega)) ?_;cases he:(iq a.2.1).2==0 with
  |true=>
   have p9:(iq a.2.1).2=0:=(by simpa using he);rw[if_pos p9] at mD;simp only[↓aX,mX,seval,bne,he,Bool.not_true,↓eo,fZ _ _ mD,Op.av,norm,dC]
  |false=>
  have p9:(iq a.2.1).2≠0:=by simpa using he
  rw[if_neg p9] at mD;simp only[↓aX,mX,seval,bne,he,Bool.not_false,bad _ mD,↓eo,norm,dC]
 ·subst hk;cases hm:a.2.2 with
  |true=>
   have hl:cQ s=(wa,[],1):=(by rw[yA,hm];rfl);simp only[↓aX,mX,seval,show((5:Int)==8)=false from rfl,show((5:Int)==10)=false from rfl,show((5:Int)==9)=false from rfl,show((5:Int)==7)=false from rfl,show((5:Int)==5)=true from rfl,beq_self_eq_true,bad 1 hl,↓eo,norm,dC]
  |false=>
  have hl:cQ s=(⟨5,0,[],[],[]⟩,l,0):=by rw[yA,hm];rfl
  simp only[↓aX,mX,seval,show((5:Int)==8)=false from rfl,show((5:Int)==10)=false from rfl,show((5:Int)==9)=false from rfl,show((5:Int)==7)=false from rfl,show((5:Int)==5)=true from rfl,show(false==true)=false from rfl,show((0:Int) !=0)=false from rfl,↓eo,fZ _ _ hl,Op.av,eR,norm,dC]
 ·subst hk;cases hm:a.2.2 with
  |false=>
   have hl:cQ s=(wa,[],1):=(by rw[yA,hm];rfl);simp only[↓aX,mX,seval,show((6:Int)==8)=false from rfl,show((6:Int)==10)=false from rfl,show((6:Int)==9)=false from rfl,show((6:Int)==7)=false from rfl,show((6:Int)==5)=false from rfl,beq_self_eq_true,bad 1 hl,↓eo,norm,dC]
  |true=>
  have mD:=yA;rw[hm] at mD;simp only[show((true=decide ((6:Int)=5))=False) from by simp,if_false,show ¬((6:Int)=5) by decide,show ¬((6:Int)=7) by decide,show ¬((6:Int)=8) by decide,show ¬((6:Int)=9) by decide,show ¬((6:Int)=10) by decide,or_false,false_or,if_true] at mD;simp only[↓aX,mX,seval,show((6:Int)==8)=false from rfl,show((6:Int)==10)=false from rfl,show((6:Int)==9)=false from rfl,show((6:Int)==7)=false from rfl,show((6:Int)==5)=false from rfl,show(true==false)=false from rfl];refine aq (hC a.2.1 (by omega)) ?_;cases he:(iq a.2.1).2==0 with
  |true=>
   have p9:(iq a.2.1).2=0:=(by simpa using he);rw[if_pos p9] at mD;simp only[↓aX,mX,seval,bne,he,Bool.not_true,↓eo,fZ _ _ mD,Op.av,norm,dC]
  |false=>
  have p9:(iq a.2.1).2≠0:=by simpa using he
  rw[if_neg p9] at mD;simp only[↓aX,mX,seval,bne,he,Bool.not_false,bad _ mD,↓eo,norm,dC]
 ·subst hk;cases hm:a.2.2 with
  |false=>
   have hl:cQ s=(wa,[],1):=(by rw[yA,hm];rfl);simp only[↓aX,mX,seval,show((7:Int)==8)=false from rfl,show((7:Int)==10)=false from rfl,show((7:Int)==9)=false from rfl,show((7:Int)==7)=true from rfl,show((7:Int)==5)=false from rfl,beq_self_eq_true,bad 1 hl,↓eo,norm,dC]
  |true=>
  have mD:=yA;rw[hm] at mD;simp only[show((true=decide ((7:Int)=5))=False) from by simp,if_false,show ¬((7:Int)=5) by decide,show ¬((7:Int)=8) by decide,show ¬((7:Int)=9) by decide,show ¬((7:Int)=10) by decide,or_false,false_or,if_true] at mD;simp only[↓aX,mX,seval,show((7:Int)==8)=false from rfl,show((7:Int)==10)=false from rfl,show((7:Int)==9)=false from rfl,show((7:Int)==7)=true from rfl,show((7:Int)==5)=false from rfl,show(true==false)=false from rfl];refine aq (hT a.2.1 (by omega)) ?_;cases he:(nz a.2.1).2==0 with
  |true=>
   have p9:(nz a.2.1).2=0:=(by simpa using he);rw[if_pos p9] at mD;simp only[↓aX,mX,seval,bne,he,Bool.not_true,↓eo,fZ _ _ mD,Op.av,eR,norm,dC]
  |false=>
  have p9:(nz a.2.1).2≠0:=by simpa using he
  rw[if_neg p9] at mD;simp only[↓aX,mX,seval,bne,he,Bool.not_false,bad _ mD,↓eo,norm,dC]
 ·subst hk;cases hm:a.2.2 with
  |false=>
   have hl:cQ s=(wa,[],1):=(by rw[yA,hm];rfl);simp only[↓aX,mX,seval,show((8:Int)==8)=true from rfl,show((8:Int)==10)=false from rfl,show((8:Int)==9)=false from rfl,show((8:Int)==7)=false from rfl,show((8:Int)==5)=false from rfl,beq_self_eq_true,bad 1 hl,↓eo,norm,dC]
  |true=>
  have mD:=yA;rw[hm] at mD;simp only[show((true=decide ((8:Int)=5))=False) from by simp,if_false,show ¬((8:Int)=5) by decide,show ¬((8:Int)=7) by decide,show ¬((8:Int)=9) by decide,show ¬((8:Int)=10) by decide,or_false,false_or,if_true] at mD;simp only[↓aX,mX,seval,show((8:Int)==8)=true from rfl,show((8:Int)==10)=false from rfl,show((8:Int)==9)=false from rfl,show((8:Int)==7)=false from rfl,show((8:Int)==5)=false from rfl,show(true==false)=false from rfl];simp only[↓aX,mX,seval,show((0:Int) !=0)=false from rfl,↓eo,fZ _ _ mD,Op.av,eR,norm,dC]
 ·subst hk;cases hm:a.2.2 with
  |false=>
   have hl:cQ s=(wa,[],1):=(by rw[yA,hm];rfl);simp only[↓aX,mX,seval,show((9:Int)==8)=false from rfl,show((9:Int)==10)=false from rfl,show((9:Int)==9)=true from rfl,show((9:Int)==7)=false from rfl,show((9:Int)==5)=false from rfl,beq_self_eq_true,bad 1 hl,↓eo,norm,dC]
  |true=>
  have mD:=yA;rw[hm] at mD;simp only[show((true=decide ((9:Int)=5))=False) from by simp,if_false,show ¬((9:Int)=5) by decide,show ¬((9:Int)=7) by decide,show ¬((9:Int)=8) by decide,show ¬((9:Int)=10) by decide,or_false,false_or,if_true] at mD;simp only[↓aX,mX,seval,show((9:Int)==8)=false from rfl,show((9:Int)==10)=false from rfl,show((9:Int)==9)=true from rfl,show((9:Int)==7)=false from rfl,show((9:Int)==5)=false from rfl,show(true==false)=false from rfl];refine aq (Ow a.2.1 61 (by omega)) ?_;simp only[↓aX,mX,seval];cases hc:(cU 61 a.2.1).2.2 with
  |false=>
   rw[hc] at mD;simp only[Bool.false_eq_true,if_false] at mD;simp only[↓aX,mX,seval,Bool.not_false,bad 1 mD,↓eo,norm,dC]
  |true=>
  rw[hc] at mD;simp only[if_true] at mD;simp only[↓aX,mX,seval,Bool.not_true];refine aq (hT (cU 61 a.2.1).2.1 (by omega)) ?_;cases he:(nz (cU 61 a.2.1).2.1).2==0 with
  |true=>
   have p9:(nz (cU 61 a.2.1).2.1).2=0:=(by simpa using he);rw[if_pos p9] at mD;simp only[↓aX,mX,seval,bne,he,Bool.not_true,↓eo,fZ _ _ mD,Op.av,eR,norm,dC]
  |false=>
  have p9:(nz (cU 61 a.2.1).2.1).2≠0:=by simpa using he
  rw[if_neg p9] at mD;simp only[↓aX,mX,seval,bne,he,Bool.not_false,bad _ mD,↓eo,norm,dC]
 subst hk;cases hm:a.2.2 with
 |false=>
  have hl:cQ s=(wa,[],1):=by rw[yA,hm];rfl
  simp only[↓aX,mX,seval,show((10:Int)==8)=false from rfl,show((10:Int)==10)=true from rfl,show((10:Int)==9)=false from rfl,show((10:Int)==7)=false from rfl,show((10:Int)==5)=false from rfl,beq_self_eq_true,bad 1 hl,↓eo,norm,dC]
 |true=>
 have mD:=yA;rw[hm] at mD;simp only[show((true=decide ((10:Int)=5))=False) from by simp,if_false,show ¬((10:Int)=5) by decide,show ¬((10:Int)=7) by decide,show ¬((10:Int)=8) by decide,show ¬((10:Int)=9) by decide,or_false,false_or,if_true] at mD;simp only[↓aX,mX,seval,show((10:Int)==8)=false from rfl,show((10:Int)==10)=true from rfl,show((10:Int)==9)=false from rfl,show((10:Int)==7)=false from rfl,show((10:Int)==5)=false from rfl,show(true==false)=false from rfl];simp only[↓aX,mX,seval,show((0:Int) !=0)=false from rfl,↓eo,fZ _ _ mD,Op.av,eR,norm,dC]
end

def sF (o:Op) (ns:List Int):List Op:=ns.map fun n=>{o with target:=n}
noncomputable def dR (d:Doc):List Op→List Bs→Except Int (List Op)
 |acc,[]=> .ok acc
 |acc,x::r=>if(cQ x).2.2=0 then(if(gm d (cQ x).2.1).1=[] then .error 3 else dR d (acc++sF (cQ x).1 (gm d (cQ x).2.1).1) r) else .error (cQ x).2.2
structure l9 where
 code:Int
 n:Int
 text:Bs
def l9.av (r:l9):AV:= .agg [.int .i64 r.code,.int .i64 r.n,.str r.text]
noncomputable def adl (d:Doc) (ls:List Bs):Doc×l9:=
 if 6<ls.length then(d,⟨2,0,[]⟩) else match dR d [] ls with
 | .error e=>(d,⟨e,0,[]⟩)
 | .ok l=>if(eI d l).2=0 then((eI d l).1,⟨0,l.length,[]⟩) else(d,⟨(eI d l).2,0,[]⟩)
def opB (o:Op):Prop:=er o.content≤2^22∧o.name.length≤2^22∧o.s.length≤2^22
structure LsS (d:Doc) (ls:List Bs) where
 i:Nat
 ops:List Op
 hi:i≤ls.length
 hn:ops.length≤80*i
 hb:∀o∈ops,opB o
 h:dR d [] ls=dR d ops (ls.drop i)
structure CiS (d:Doc) (o:Op) (ns:List Int) where
 j:Nat
 t:Int
 hj:j≤ns.length
def dL (d:Doc) (gf:Int):List AV:=[.list (d.map Node.iv),.int .i64 gf]
section
variable {P:Program} {G:Nat→Option (List IV)}
def lu (e8 jE cP:Nat):AC:=
(ay [aE 4 (.new [(.int .i64 0),(.int .i64 0),(.str [])])] (.seq (ay [af 17 1,ky 18 17,db 19 .gtr 18 6] (.cond (.t 19) (ay [aE 20 (.oa [(.int .i64 0),(.int .i64 0),(.str [])] [(0,(1,(ij 2)))]),dT (.store 3 (.t 4) (.t 20))] .ret) .skip)) (ay [oQ 5] (.gh (.own 5 5) (.seq (ay [af 21 1,ky 22 21,eX 23 0] (.block 0 (.loop (ay [eS 24 .lss 23 22] (.seq (.cond (.t 24) .skip (.exit 0)) (.seq (.block 1 (ay [ig 25 21 23 1,cS 26 25,af 7 26] (ay [af 28 7,aE 29 (.call e8 [(.t 28)]),af 27 29,gQ 30 27 0,gQ 31 27 1,gQ 32 27 2,aE 8 (.new [(.int .i64 0),(.int .i64 0),.nil0,(.str []),(.str [])]),dT (.store 5 (.t 8) (.t 30)),af 9 31,af 10 32] (.seq (ay [af 33 10,db 34 .neq 33 0] (.cond (.t 34) (ay [af 35 10,aE 36 (.oa [(.int .i64 0),(.int .i64 0),(.str [])] [(0,(1,(.t 35)))]),dT (.store 3 (.t 4) (.t 36))] .ret) .skip)) (ay [af 38 0,aE 39 (.dc (.t 38)),b7 40 39 0,gd 41 1 40,af 42 9,aE 43 (.call jE [(.t 41),(.t 42)]),af 37 43,gQ 44 37 0,gQ 45 37 1,af 11 44,af 12 45] (.seq (ay [af 46 11,ky 47 46,db 48 .eql 47 0] (.cond (.t 48) (ay [aE 49 (.oa [(.int .i64 0),(.int .i64 0),(.str [])] [(0,(1,(ij 3)))]),dT (.store 3 (.t 4) (.t 49))] .ret) .skip)) (ay [af 50 11,ky 51 50,eX 52 0] (.block 2 (.loop (ay [eS 53 .lss 52 51] (.seq (.cond (.t 53) .skip (.exit 2)) (.seq (.block 3 (ay [ig 54 50 52 1,cS 55 54,af 14 55] (ay [af 56 14,b7 57 8 1,dT (.store 1 (.t 57) (.t 56))] (.ec [af 58 5,gd 59 5 8,aE 60 (.lits 1 5 [(.int .i64 0),(.int .i64 0),.nil0,(.str []),(.str [])] [(0,(.t 59))]),aE 61 (.app (.t 58) (.t 60) 5 72),af 5 61])))) (.ec [db 62 .add 52 1,af 52 62]))))))))))))) (.ec [db 63 .add 23 1,af 23 63]))))))) (.gh (.Ch (.loc 5) 5) (ay [af 65 0,aE 66 (.dc (.t 65)),b7 67 66 0,gd 68 1 67,af 69 5,aE 70 (.call cP [(.t 68),(.t 69)]),af 64 70,gQ 71 64 0,gQ 72 64 1,aE 15 (.new [.nil0]),dT (.store 1 (.t 15) (.t 71)),af 16 72] (.seq (ay [af 73 16,db 74 .neq 73 0] (.cond (.t 74) (ay [af 75 16,aE 76 (.oa [(.int .i64 0),(.int .i64 0),(.str [])] [(0,(1,(.t 75)))]),dT (.store 3 (.t 4) (.t 76))] .ret) .skip)) (ay [af 77 0,gd 78 1 15,aE 79 (.dc (.t 77)),b7 80 79 0,dT (.store 1 (.t 80) (.t 78))] (ay [af 81 5,ky 82 81,aE 83 (.oa [(.int .i64 0),(.int .i64 0),(.str [])] [(1,(1,(.t 82)))]),dT (.store 3 (.t 4) (.t 83))] .ret))))))))))
def L9 {eV e8 jE cP:Nat} (hF:an P G eV=some (84,[((some (some 3)),4)],(lu e8 jE cP).bare)) (d:Doc) (hd:cW d=true) (gf:Int) (ls:List Bs) (rH:ls.length≤B)
  (hL:∀s∈ls,aw P G e8 [.str s] (sX s)) (hLb:∀s∈ls,opB (cQ s).1)
  (hS:∀s∈ls,aw P G jE [Doc.av d,.list ((cQ s).2.1.map Step.iv)] (.dM [.list ((gm d (cQ s).2.1).1.map aW),.int .i64 (gm d (cQ s).2.1).2]))
  (hA:∀l:List Op,aaX l→aw P G cP [Doc.av d,.list (l.map Op.iv)] (.dM [Doc.av (eI d l).1,.int .i64 (eI d l).2])) :
  ez P G eV [.ptr (.par 0) 2 0 0,.list (ls.map IV.str)] (dL d gf) (fun x cs=>x=(adl d ls).2.av∧cs=dL (adl d ls).1 gf):=by
 refine ft hF (by simp) (by simp[ah,AV.aB]) (by simp[ah,AV.aB,dL]) ?_;have nM:B=1073741824:=rfl;unfold lu;simp only[↓aX,mX,seval,kY,dL,ag5];rcases Nat.lt_or_ge 6 ls.length with h6|h6
 ·have hc:adl d ls=(d,⟨2,0,[]⟩):=by unfold adl;rw[adv h6]
  simp only[↓aX,mX,seval,show decide ((ls.length:Int)>6)=true by simp;omega,hc,l9.av];exact⟨_,rfl,by simp[AV.aB,ah],by simp[ah,AV.aB],rfl,by simp[ae]⟩
 have ff:¬6<ls.length:=by omega
 have B6:adl d ls=(match dR d [] ls with
  | .error e=>(d,⟨e,0,[]⟩)
  | .ok l=>if(eI d l).2=0 then((eI d l).1,⟨0,l.length,[]⟩) else(d,⟨(eI d l).2,0,[]⟩)):=by unfold adl;rw[ag8 ff]
 have Mx:d.length≤80:=by
  obtain⟨t,ht,rfl⟩:=hZ.1 hd;have:=(oC t).1 ht;rw[jU];omega
 simp only[↓aX,mX,seval,show decide ((ls.length:Int)>6)=false by simp;omega,ag5];refine ki (σ:=LsS d ls) (fun _=>[.par 0,.loc 4,.loc 5]) (fun _ _=>false)
  (fun q=>[(0,.ptr (.par 0) 2 0 0),(4,.ptr (.loc 4) 3 0 0),(5,.sl (.loc 5) 5 0 q.ops.length),(21,.list (ls.map IV.str)),(22,.int .i64 ls.length),(23,.int .i64 q.i)])
  (fun q=>[(.par 0,⟨2,[dL d gf]⟩),(.loc 4,⟨3,[[.int .i64 0,.int .i64 0,.str []]]⟩),(.loc 5,⟨5,ar (q.ops.map Op.iv)⟩)]) (fun q=>ls.length - q.i) ⟨0,[],by omega,by simp,by simp,by simp⟩ (fun _=>rfl) (fun q=>by simp[ah,AV.aB]) ?_ ⟨[],?_⟩ ?_
 ·intro q w hw cs bS z hz;simp only[adz,adG,adO] at hw;rcases hw with rfl|rfl|rfl
  ·simp only[adr] at bS;subst bS;simp[ah,AV.aB,dL] at hz
  ·simp only[adr] at bS;subst bS;simp[ah,AV.aB] at hz
  rw[bT bS] at hz;simp at hz
 ·refine⟨?_,?_,?_,by simp[bZ],by simp[bZ]⟩
  ·intro l hf hu;left;cases l<;>simp[Lb.entry] at hf;rename_i n;by_cases e:n=0
   ·subst e;simp
   exfalso;apply hu;simp[ae,Hp.none,e]
  ·simp[kv,bZ,e7,put,lE]
  simp[qe,bZ,ae,cV,aY,e7,ar,dL]
 rintro⟨i,ops,hi,hn,hb,h⟩;simp only;obtain⟨Db,vc⟩:∃Db,Db=[(Lb.par 0,(⟨2,[dL d gf]⟩:Row)),(Lb.loc 4,⟨3,[[.int .i64 0,.int .i64 0,.str []]]⟩),(Lb.loc 5,⟨5,ar (ops.map Op.iv)⟩)]:=⟨_,rfl⟩;rw[←vc];have hU:∀d,d≠4→d≠5→fy (fun _=>false) Db (.loc d)= .unused:=fun d h4 h5=>by rw[vc,jT (by simp[h4,h5])];rfl
 have xc:∀d,d≠0→fy (fun _=>false) Db (.par d)= .unused:=fun d hd=>by rw[vc,jT (by simp[hd])];rfl
 have nh:fy (fun _=>false) Db (.par 0)= .live ⟨2,[dL d gf]⟩:=dm.2 (by simp[vc,kx,ae]);have hL4:fy (fun _=>false) Db (.loc 4)= .live ⟨3,[[.int .i64 0,.int .i64 0,.str []]]⟩:=dm.2 (by simp[vc,kx,ae]);have zo:fy (fun _=>false) Db (.loc 5)= .live ⟨5,ar (ops.map Op.iv)⟩:=dm.2 (by simp[vc,kx,ae]);generalize fy (fun _=>false) Db=H0 at *;clear vc Db;by_cases bO:i<ls.length
 ·obtain⟨s,hs⟩:∃s,ls[i]?=some s:=⟨_,ag7 bO⟩;have fl:=adu hs;have oU:IntKind.i64.wrap ((i:Int)+1)=((i+1:Nat):Int):=wrap64 (by omega) (by omega);have hse:(ls.map IV.str)[i]?=some (.str s):=by simp[hs]
  have oS:ko 1 (ls.map IV.str):=by intro y hy;simp only[adY] at hy;obtain⟨w',_,rfl⟩:=hy;rfl
  have abh:ls.drop i=s::ls.drop (i+1):=by rw[aeN bO];congr 1;exact(ag6.1 hs).2
  rw[abh] at h;obtain⟨o,so,e,hle⟩:∃o so e,cQ s=(o,so,e):=⟨_,_,_,rfl⟩;have hLs:=hL s fl;have hSs:=hS s fl;have hob:=hLb s fl;simp only[sX,hle,Op.av] at hLs;simp only[hle,Doc.av] at hSs hob;simp only[dR,hle] at h;simp only[↓aX,mX,seval,show decide ((i:Int)<(ls.length:Int))=true by simpa using bO,hse,oS,IV.cells,adt,ag9];refine aq hLs ?_;simp only[↓aX,mX,seval,hU 8 (by decide) (by decide)];cases he:(e==0) with
  |false=>
   have p9:e≠0:=(by simpa using he);rw[ag8 p9] at h;rw[h] at B6;simp only at B6;simp only[↓aX,mX,seval,bne,he,adI,hL4];exact⟨dL d gf,⟨by rw[B6];rfl,by rw[B6];rfl⟩,by simp[AV.aB,ah],by simp[ah,AV.aB,dL],rfl,by simp[ae,nh]⟩
  |true=>
  have p9:e=0:=by simpa using he
  rw[adv p9] at h;simp only[↓aX,mX,seval,bne,he,adL,nh,dL];refine aq hSs ?_;obtain⟨ns,xp⟩:∃ns,(gm d so).1=ns:=⟨_,rfl⟩;rw[xp] at h;simp only[↓aX,mX,seval,xp,ag5];have Dp:ns.length≤80:=by
   rw[←xp];unfold gm;split
   ·rename_i hc;have:=(DN hd (show so≠[] by intro e;subst e;simp[gN] at hc)).1;simp only;omega
   simp
  by_cases qX:ns=[]
  ·rw[adv qX] at h;rw[h] at B6;simp only at B6;simp only[↓aX,mX,seval,show(((ns.length:Nat):Int)==0)=true by simp[qX],hL4];exact⟨dL d gf,⟨by rw[B6];rfl,by rw[B6];rfl⟩,by simp[AV.aB,ah],by simp[ah,AV.aB,dL],rfl,by simp[ae,nh]⟩
  rw[ag8 qX] at h;simp only[↓aX,mX,seval,show(((ns.length:Nat):Int)==0)=false by simpa using qX,ag5];have G3:∀j,j≤ns.length→(ops++sF o (ns.take j)).length=ops.length+j:=fun j hj=>by simp[sF,ael hj]
  refine ki (σ:=CiS d o ns) (fun _=>[.par 0,.loc 4,.loc 5,.loc 8]) (fun _ _=>false)
   (fun q=>[(0,.ptr (.par 0) 2 0 0),(4,.ptr (.loc 4) 3 0 0),(5,.sl (.loc 5) 5 0 (ops.length+q.j)),(8,.ptr (.loc 8) 5 0 0),(21,.list (ls.map IV.str)),(22,.int .i64 ls.length),(23,.int .i64 i),(50,.list (ns.map aW)),(51,.int .i64 ns.length),(52,.int .i64 q.j)])
   (fun q=>[(.par 0,⟨2,[dL d gf]⟩),(.loc 4,⟨3,[[.int .i64 0,.int .i64 0,.str []]]⟩),(.loc 5,⟨5,ar ((ops++sF o (ns.take q.j)).map Op.iv)⟩),(.loc 8,⟨5,[[.int .i64 o.kind,.int .i64 q.t,.list (eR o.content),.str o.name,.str o.s]]⟩)])
   (fun q=>ns.length - q.j) ⟨0,o.target,by omega⟩ (fun _=>rfl) (fun q=>by simp[ah,AV.aB]) ?_ ⟨[],?_⟩ ?_
  ·intro q w hw cs bS z hz;simp only[adz,adG,adO] at hw;rcases hw with rfl|rfl|rfl|rfl
   ·simp only[adr] at bS;subst bS;simp[ah,AV.aB,dL] at hz
   ·simp only[adr] at bS;subst bS;simp[ah,AV.aB] at hz
   ·rw[bT bS] at hz;simp at hz
   simp only[adr] at bS;subst bS;simp[ah,AV.aB] at hz
  ·refine⟨?_,?_,?_,by simp[bZ],by simp[bZ]⟩
   ·intro l hf hu;left;cases l<;>simp[Lb.entry] at hf;rename_i n;by_cases e:n=0
    ·subst e;simp
    exfalso;apply hu;simp[ae,xc n e]
   ·simp[kv,bZ,e7,put,lE]
   have hr5:∀(ρ:Lb→Lb) (xs:List IV),cV ρ ⟨5,ar xs⟩=⟨5,ar xs⟩:=fun ρ xs=>b5 _ _ _;simp only[qe,agI,sF,aeW,adN,hr5];simp[bZ,ae,cV,aY,e7,dL,nh,hL4,zo]
  rintro⟨j,tg,hj⟩;simp only;obtain⟨QB,Gw⟩:∃QB,QB=[(Lb.par 0,(⟨2,[dL d gf]⟩:Row)),(Lb.loc 4,⟨3,[[.int .i64 0,.int .i64 0,.str []]]⟩),(Lb.loc 5,⟨5,ar ((ops++sF o (ns.take j)).map Op.iv)⟩),(Lb.loc 8,⟨5,[[.int .i64 o.kind,.int .i64 tg,.list (eR o.content),.str o.name,.str o.s]]⟩)]:=⟨_,rfl⟩;rw[←Gw];have kU:∀d,d≠4→d≠5→d≠8→fy (fun _=>false) QB (.loc d)= .unused:=fun d h4 h5 h8=>by rw[Gw,jT (by simp[h4,h5,h8])];rfl
  have kUp:∀d,d≠0→fy (fun _=>false) QB (.par d)= .unused:=fun d hd=>by rw[Gw,jT (by simp[hd])];rfl
  have k0:fy (fun _=>false) QB (.par 0)= .live ⟨2,[dL d gf]⟩:=dm.2 (by simp[Gw,kx,ae]);have k4:fy (fun _=>false) QB (.loc 4)= .live ⟨3,[[.int .i64 0,.int .i64 0,.str []]]⟩:=dm.2 (by simp[Gw,kx,ae]);have k5:fy (fun _=>false) QB (.loc 5)= .live ⟨5,ar ((ops++sF o (ns.take j)).map Op.iv)⟩:=dm.2 (by simp[Gw,kx,ae]);have k8:fy (fun _=>false) QB (.loc 8)= .live ⟨5,[[.int .i64 o.kind,.int .i64 tg,.list (eR o.content),.str o.name,.str o.s]]⟩:=dm.2 (by simp[Gw,kx,ae]);generalize fy (fun _=>false) QB=H1 at *;clear Gw QB;by_cases wu:j<ns.length
  ·obtain⟨n,hn⟩:∃n,ns[j]?=some n:=⟨_,ag7 wu⟩;have BQ:IntKind.i64.wrap ((j:Int)+1)=((j+1:Nat):Int):=wrap64 (by omega) (by omega);have mZ:ops++sF o (ns.take (j+1))=(ops++sF o (ns.take j))++[{o with target:=n}]:=(by rw[aei,hn];simp[sF]);simp only[↓aX,mX,seval,show decide ((j:Int)<(ns.length:Int))=true by simpa using wu,xT,hn,rj,adB,AS,adt,ag9,k8];rw[gU 5 72 61 5 ((ops++sF o (ns.take j)).map Op.iv) (.agg [.int .i64 o.kind,.int .i64 n,.list (eR o.content),.str o.name,.str o.s]) (by simp[ae,k5]) (by rw[ag5];exact G3 j hj) rfl (by intro z hz cs;simp only[IV.cells,adz,adG,adO] at hz;rcases hz with rfl|rfl|rfl|rfl|rfl<;>simp) (by omega) (by decide) (by decide) (by simp[ae,kU])];simp only[↓aX,mX,seval,BQ];have hr5:∀(ρ:Lb→Lb) (xs:List IV),cV ρ ⟨5,ar xs⟩=⟨5,ar xs⟩:=fun ρ xs=>b5 _ _ _;refine⟨⟨j+1,n,wu⟩,by simp only;omega,[(.loc 5,.loc 61)],?_,?_,?_,by simp[bZ],?_⟩
   ·intro z hf hu;left;cases z<;>simp[Lb.entry] at hf;rename_i m;by_cases e:m=0
    ·subst e;simp
    exfalso;apply hu;simp[ae,kUp m e]
   ·simp[kv,bZ,e7,put];omega
   ·simp only[qe,mZ,hr5,aeQ];simp[bZ,ae,cV,aY,e7,dL,k0,k4,Op.iv,Op.cs]
   intro z hz;simp only[adz,adG,adO] at hz;rcases hz with rfl|rfl|rfl|rfl<;>simp[bZ,Lb.fresh,Lb.entry]
  have hjn:j=ns.length:=by omega
  subst hjn;simp only[↓aX,mX,seval,show decide ((ns.length:Int)<(ns.length:Int))=false by simp,oU];rw[aee] at k5;have hr5:∀(ρ:Lb→Lb) (xs:List IV),cV ρ ⟨5,ar xs⟩=⟨5,ar xs⟩:=fun ρ xs=>b5 _ _ _;refine⟨⟨i+1,ops++sF o ns,bO,by simp only[adE,sF,ag5];omega,fun o' ho=> ?_,h⟩,by simp only;omega,[],?_,?_,?_,by simp[bZ],by simp[bZ]⟩
  ·rcases adD.1 ho with ho|ho
   ·exact hb o' ho
   simp only[sF,adY] at ho;obtain⟨n,_,rfl⟩:=ho;exact hob
  ·intro z hf hu;left;cases z<;>simp[Lb.entry] at hf;rename_i m;by_cases e:m=0
   ·subst e;simp
   exfalso;apply hu;simp[kUp m e]
  ·simp[kv,bZ,e7,put,sF]
  simp only[qe,hr5];simp[bZ,cV,aY,e7,dL,k0,k4,k5]
 have qW:i=ls.length:=by omega
 subst qW;rw[agx] at h;simp only[dR] at h;rw[h] at B6;simp only at B6;simp only[↓aX,mX,seval,show decide ((ls.length:Int)<(ls.length:Int))=false by simp];have s4:List.take ops.length (ops.map Op.iv)=ops.map Op.iv:=ads (by simp);refine⟨5,ops.map Op.iv,0,ops.length,rfl,zo,by simp,Ul ops,?_⟩;simp only[↓aX,mX,seval,ad1,s4,ae,nh,dL];have hAp:=hA ops ⟨by omega,hb⟩;simp only[Doc.av] at hAp;refine aq hAp ?_;cases he:((eI d ops).2==0) with
 |false=>
  have p9:(eI d ops).2≠0:=by simpa using he
  rw[ag8 p9] at B6;simp only[↓aX,mX,seval,hU 15 (by decide) (by decide),bne,he,adI,hL4];exact⟨dL d gf,⟨by rw[B6];rfl,by rw[B6];rfl⟩,by simp[AV.aB,ah],by simp[ah,AV.aB,dL],rfl,by simp[ae,nh,dL]⟩
 |true=>
 have p9:(eI d ops).2=0:=by simpa using he
 rw[adv p9] at B6;simp only[↓aX,mX,seval,hU 15 (by decide) (by decide),bne,he,adL,nh,hL4,dL,s4,ag5];exact⟨dL (eI d ops).1 gf,⟨by rw[B6];rfl,by rw[B6];rfl⟩,by simp[AV.aB,ah],by simp[ah,AV.aB,dL],rfl,by simp[ae,nh,dL]⟩
end

noncomputable def kt (d:Doc) (a:bK):Doc×l9:=
 if a.kind=1 then(match a.lines with
  |[s]=>if(dQ s).2=0 then((jJ (dQ s).1).1,⟨0,(jJ (dQ s).1).1.length,[]⟩) else(d,⟨(dQ s).2,0,[]⟩)
  |_=>(d,⟨1,0,[]⟩))
 else if a.kind=2 then adl d a.lines
 else if a.kind=3 then(if(dZ (e_ d 0).1).2=0 then(d,⟨0,d.length,(dZ (e_ d 0).1).1⟩) else(d,⟨(dZ (e_ d 0).1).2,0,[]⟩))
 else(d,⟨4,0,[]⟩)
noncomputable def mQ (d:Doc) (gf:Int) (a:bK):(Doc×Int)×l9:=
 if 100≤gf then((d,gf),⟨7,0,[]⟩) else(((kt d a).1,gf+1),(kt d a).2)
section
variable {P:Program} {G:Nat→Option (List IV)}
def abi {aF eU fE cy eV de fG:Nat} (hF:an P G aF=some (106,[((some (some 3)),4)],(nV eU fE cy eV de fG).bare)) (d:Doc) (gf:Int) (h0:0≤gf) (h1:gf≤100) (a:bK) (rH:a.lines.length≤B)
  (hN:∀c:Int,aw P G eU [.int .i64 c] (vv c)) (hB:jQ P eU=true)
  (hP:∀s∈a.lines,aw P G fE [.str s] (.dM [(dQ s).1.av,.int .i64 (dQ s).2]))
  (hM:∀s∈a.lines,aw P G cy [(dQ s).1.av] (.dM [Doc.av (jJ (dQ s).1).1,.int .i64 (jJ (dQ s).1).2]))
  (hC:∀n:Int,ez P G eV [.ptr (.par 0) 2 0 0,.list (a.lines.map IV.str)] (dL d n) (fun x cs=>x=(adl d a.lines).2.av∧cs=dL (adl d a.lines).1 n))
  (hT:aw P G de [Doc.av d,.int .i64 0] (.dM [(e_ d 0).1.av,.int .i64 (e_ d 0).2]))
  (XS:aw P G fG [(e_ d 0).1.av] (.dM [.str (dZ (e_ d 0).1).1,.int .i64 (dZ (e_ d 0).1).2])) :
  ez P G aF [.ptr (.par 0) 2 0 0,a.av] (dL d gf) (fun x cs=>x=(mQ d gf a).2.av∧cs=dL (mQ d gf a).1.1 (mQ d gf a).1.2):=by
 refine ft hF (by simp) (by simp[ah,AV.aB,bK.av]) (by simp[ah,AV.aB,dL]) ?_;unfold nV;simp only[↓aX,mX,seval,kY,dL,bK.av,YI];by_cases Zo:100≤gf
 ·have BZ:mQ d gf a=((d,gf),⟨7,0,[]⟩):=by unfold mQ;rw[adv Zo]
  simp only[↓aX,mX,seval,show decide (gf≥100)=true by simpa using Zo];simp only[lh,pP,↓aX,mX,seval,aec,adN];refine⟨hB,aq (hN 7) ?_⟩;simp only[↓aX,mX,seval,vv];exact⟨dL d gf,⟨by rw[BZ];rfl,by rw[BZ];rfl⟩,by simp[AV.aB,ah],by simp[ah,AV.aB,dL],rfl,by simp[ae,dL]⟩
 have BZ:mQ d gf a=(((kt d a).1,gf+1),(kt d a).2):=by unfold mQ;rw[ag8 Zo]
 have hw:IntKind.i64.wrap (gf+1)=gf+1:=wrap64 (by omega) (by omega);simp only[↓aX,mX,seval,show decide (gf≥100)=false by simp;omega,hw];by_cases k1:a.kind=1
 ·simp only[↓aX,mX,seval,show(a.kind==1)=true by simp[k1],ag5]
  match hl:a.lines with
  |[]=>
   have n_:kt d a=(d,⟨1,0,[]⟩):=(by unfold kt;rw[adv k1,hl]);simp only[↓aX,mX,seval,hl,aek,show(((0:Nat):Int) !=1)=true from rfl];simp only[lh,pP,↓aX,mX,seval,aec,adN];refine⟨hB,aq (hN 1) ?_⟩;simp only[↓aX,mX,seval,vv];exact⟨dL (kt d a).1 (gf+1),⟨by rw[BZ,n_];rfl,by rw[BZ];rfl⟩,by simp[AV.aB,ah],by simp[ah,AV.aB,dL],rfl,by simp[ae,dL,n_]⟩
  |s::s2::r=>
   have n_:kt d a=(d,⟨1,0,[]⟩):=(by unfold kt;rw[adv k1,hl]);rw[show((((s::s2::r).length:Nat):Int) !=1)=true by simp[bne];omega];simp only[↓aX,mX,seval];simp only[lh,pP,↓aX,mX,seval,aec,adN];refine⟨hB,aq (hN 1) ?_⟩;simp only[↓aX,mX,seval,vv];exact⟨dL (kt d a).1 (gf+1),⟨by rw[BZ,n_];rfl,by rw[BZ];rfl⟩,by simp[AV.aB,ah],by simp[ah,AV.aB,dL],rfl,by simp[ae,dL,n_]⟩
  |[s]=>
   have hPs:=hP s (by simp[hl]);have hMs:=hM s (by simp[hl]);simp only[Tree.av] at hPs hMs;have oS:ko 1 [IV.str s]:=(by intro y hy;simp only[adr] at hy;subst hy;rfl);have YD:kt d a=if(dQ s).2=0 then((jJ (dQ s).1).1,⟨0,(jJ (dQ s).1).1.length,[]⟩) else(d,⟨(dQ s).2,0,[]⟩):=(by unfold kt;rw[adv k1,hl]);simp only[↓aX,mX,seval,hl,adK,aek,adC,show(((1:Nat):Int) !=1)=false from rfl,ad5,aeW,aem,oS,IV.cells,show(0:Int).toNat=0 from rfl];refine aq hPs ?_;simp only[↓aX,mX,seval];cases he:((dQ s).2==0) with
   |false=>
    have p9:(dQ s).2≠0:=(by simpa using he);have n_:=YD;rw[ag8 p9] at n_;simp only[↓aX,mX,seval,bne,he,adI];simp only[lh,pP,↓aX,mX,seval,aec,adN];refine⟨hB,aq (hN _) ?_⟩;simp only[↓aX,mX,seval,vv];exact⟨dL (kt d a).1 (gf+1),⟨by rw[BZ,n_];rfl,by rw[BZ];rfl⟩,by simp[AV.aB,ah],by simp[ah,AV.aB,dL],rfl,by simp[ae,dL,n_]⟩
   |true=>
   have p9:(dQ s).2=0:=(by simpa using he);have n_:=YD;rw[adv p9] at n_;simp only[↓aX,mX,seval,bne,he,adL];refine aq hMs ?_;simp only[↓aX,mX,seval,Doc.av,ag5];exact⟨dL (kt d a).1 (gf+1),⟨by rw[BZ,n_];rfl,by rw[BZ];rfl⟩,by simp[AV.aB,ah],by simp[ah,AV.aB,dL],rfl,by simp[ae,dL,n_]⟩
 by_cases k2:a.kind=2
 ·have n_:kt d a=adl d a.lines:=by unfold kt;rw[ag8 k1,adv k2]
  simp only[↓aX,mX,seval,show(a.kind==1)=false by simp[k1],show(a.kind==2)=true by simp[k2]];refine a7 (l:= .par 0) (hC (gf+1)) (by simp[aY,e7,iH]) (by simp[ae,dL]) ?_;rintro x jm ⟨rfl,rfl⟩ _ _ _;simp only[↓aX,mX,seval,l9.av];exact⟨dL (kt d a).1 (gf+1),⟨by rw[BZ,n_],by rw[BZ];rfl⟩,by simp[AV.aB,ah],by simp[ah,AV.aB,dL],rfl,by simp[ae,dL,n_]⟩
 by_cases k3:a.kind=3
 ·have ha3:kt d a=if(dZ (e_ d 0).1).2=0 then(d,⟨0,d.length,(dZ (e_ d 0).1).1⟩) else(d,⟨(dZ (e_ d 0).1).2,0,[]⟩):=by unfold kt;rw[ag8 k1,ag8 k2,adv k3]
  simp only[Tree.av,Doc.av] at hT XS;simp only[↓aX,mX,seval,show(a.kind==1)=false by simp[k1],show(a.kind==2)=false by simp[k2],show(a.kind==3)=true by simp[k3]];refine aq hT ?_;simp only[↓aX,mX,seval];refine aq XS ?_;simp only[↓aX,mX,seval];cases he:((dZ (e_ d 0).1).2==0) with
  |false=>
   have p9:(dZ (e_ d 0).1).2≠0:=(by simpa using he);have n_:=ha3;rw[ag8 p9] at n_;simp only[↓aX,mX,seval,bne,he,adI];simp only[lh,pP,↓aX,mX,seval,aec,adN];refine⟨hB,aq (hN _) ?_⟩;simp only[↓aX,mX,seval,vv];exact⟨dL (kt d a).1 (gf+1),⟨by rw[BZ,n_];rfl,by rw[BZ];rfl⟩,by simp[AV.aB,ah],by simp[ah,AV.aB,dL],rfl,by simp[ae,dL,n_]⟩
  |true=>
  have p9:(dZ (e_ d 0).1).2=0:=by simpa using he
  have n_:=ha3;rw[adv p9] at n_;simp only[↓aX,mX,seval,bne,he,adL,ag5];exact⟨dL (kt d a).1 (gf+1),⟨by rw[BZ,n_];rfl,by rw[BZ];rfl⟩,by simp[AV.aB,ah],by simp[ah,AV.aB,dL],rfl,by simp[ae,dL,n_]⟩
 have n_:kt d a=(d,⟨4,0,[]⟩):=by unfold kt;rw[ag8 k1,ag8 k2,ag8 k3]
 simp only[↓aX,mX,seval,show(a.kind==1)=false by simp[k1],show(a.kind==2)=false by simp[k2],show(a.kind==3)=false by simp[k3]];simp only[lh,pP,↓aX,mX,seval,aec,adN];refine⟨hB,aq (hN 4) ?_⟩;simp only[↓aX,mX,seval,vv];exact⟨dL (kt d a).1 (gf+1),⟨by rw[BZ,n_];rfl,by rw[BZ];rfl⟩,by simp[AV.aB,ah],by simp[ah,AV.aB,dL],rfl,by simp[ae,dL,n_]⟩
end

abbrev ID (P:Program) (G:Nat→Option (List IV)) (f:Nat) (args:List AV) (n:Nat) (cs:List IV):Prop:=
 uO P G f args DT [] fun X R2=>X=(fun lab=> .ptr (lab 0) n 0 0)∧R2=xa n [.agg cs]
def L_ {P:Program} {G:Nat→Option (List IV)} {f:Nat} {n:Nat} {rs:List RO} {ac:AC} {args:List AV} {m:Nat} {cs:List IV}
  (hF:an P G f=some (n,rs,ac.bare)) (hn:args.length≤n) (ha:ah args=[])
  (hg:go ⟨P,G,n⟩ (kX rs fun x H'=>∃L,x= .ptr L m 0 0∧H' L= .live ⟨m,[cs.map IV.gK]⟩) [.code ac] (lE args) Hp.none):ID P G f args m cs:=by
 refine⟨by rw[ha];simp,?_⟩;rw[HS];refine(jB hF hn (by intro l ⟨r,h⟩;simp[Hp.none] at h) (by rw[ha];simp) hg).mono ?_;rintro x H ⟨L,hx,hL⟩;refine⟨⟨fun lab=> .ptr (lab 0) m 0 0,xa m [.agg cs],fun _=>L⟩,⟨rfl,rfl⟩,fun ρ=>rfl,fun l hl=>⟨0,lH.2 rfl,?_⟩,hx,⟨fun p r hr=> ?_,fun p q hp hq _=>(lH.1 hp).trans (lH.1 hq).symm⟩,by simp⟩
 ·rw[hx] at hl;simpa[AV.aB] using hl
 simp only[xa] at hr;by_cases h:p=0
 ·simp[h] at hr;subst hr;exact hL
 simp[h] at hr
def lM {S:St} {f:Nat} {args:List AV} {H:Hp} {k:AV→Hp→Prop} {u:Tw k} {m:Nat} {cs:List IV} (c:Nat) (F:Lb→AV) (h:uO S.P S.G f args DT [] fun X R2=>X=(fun lab=>F (lab 0))∧R2=xa m [.agg cs]) (ha:ah args=[]) (hN:∀l,H (NW c l)= .unused)
  (hk:∀l,k (F (NW c l)) (bF H (NW c l) (.live ⟨m,[cs.map IV.gK]⟩))):He S f args H k u:=by
 refine lk (lab:=Lb.par) (N:=NW c) h (lF _ _ ha).symm ⟨fun p r hr=>by simp[DT] at hr,fun p q hp=>absurd hp pa⟩ hN (HR c) (fun l _=> .inr fun p hp=>absurd hp pa) (by simp) ?_;rintro X R2 et H2 ⟨rfl,rfl⟩ g1 g2 g3 g4 g5 g6;obtain⟨l,hl⟩:∃l,et 0=NW c l:=by
  rcases g3 0 (lH.2 rfl) with⟨p,hp,_⟩|h
  ·exact absurd hp pa
  exact h
 have e:H2=bF H (NW c l) (.live ⟨m,[cs.map IV.gK]⟩):=by
  funext q;by_cases hq:q=NW c l
  ·subst hq;rw[ae,adv rfl,←hl];exact g1.row 0 _ (by simp[xa,ar,IV.cells])
  rw[ax _ _ hq];by_cases Ep:∃l',q=NW c l'
  ·obtain⟨l',rfl⟩:=Ep;rw[hN l',g6 l' fun p hp=>by rw[lH.1 hp,hl];exact aef hq]
  exact g4 q (fun p hp=>absurd hp pa) fun l' e=>Ep ⟨l',e⟩
 rw[e];have:=hk l;simpa only[hl] using this
def yn {S:St} {f:Nat} {args:List AV} {H:Hp} {k:AV→Hp→Prop} {u:Tw k} {m:Nat} {cs:List IV} (c:Nat) (h:ID S.P S.G f args m cs) (ha:ah args=[]) (hN:∀l,H (NW c l)= .unused)
  (hk:∀l,k (.ptr (NW c l) m 0 0) (bF H (NW c l) (.live ⟨m,[cs.map IV.gK]⟩))):He S f args H k u:=
 lM c (fun l=> .ptr l m 0 0) h ha hN hk
end Go.Am
