import Derived.Test.YtfeijflhfhkbnaaGreatDoorKAm48
import Derived.Test.YtfeijflhfhkbnaaGreatDoorKP2
import Derived.Shelf.Strconv.AtoiAll
import Derived.Shelf.Strconv.Itoa3
import Derived.Test.YtfeijflhfhkbnaaGreatDoorKT67
import Derived.Test.YtfeijflhfhkbnaaGreatDoorKT84
import Derived.Test.YtfeijflhfhkbnaaGreatDoorKT91
import Derived.Test.YtfeijflhfhkbnaaGreatDoorKAm47
import Derived.Test.YtfeijflhfhkbnaaGreatDoorKT21
import Derived.Test.YtfeijflhfhkbnaaGreatDoorKAm25
import Derived.Test.YtfeijflhfhkbnaaGreatDoorKAm40
set_option linter.all false
/- THE ABSTRACT MACHINE, part 53: a contract of the kit's, az a contract of the machine's. -/
namespace Go.Am
open Go Go.RowKit
def zb (G:Nat->Option (List IV)) (I:Nat->Prop) (w:World):Prop:=∀g cs,G g=some cs->da w I cs g
def oT {P:Program} {G:Nat->Option (List IV)} {f:Nat} {args:List AV} {res:AV} (ha:ah args=[]) (hr:res.an=[])
   (h:∀(w:World) (I:Nat->Prop) (vs:List Value),zb G I w->br w iI Hp.none I args vs ->
     Calls P f vs.toArray w λe w'=>∃v,e= .returned v/\Below w.heap.size w w'/\∀I':Nat->Prop,RV w' iI Hp.none I' res v):au P G f args res:=by
 refine⟨ha,hr,λw A β vs ju hv=> ?_⟩
 have hg:zb G (Im (b8 P G w A β Hp.none) β Hp.none) w:=λg cs hg=>(ju.W5 g cs hg).2.2
 have hk:ND w w β iI Hp.none Hp.none (Im (b8 P G w A β Hp.none) β Hp.none) (Im (b8 P G w A β Hp.none) β Hp.none) (ah args):=
   {im:=λk hk hs=>⟨hk,hs,rfl⟩,lb:=λl _ ⟨r,h⟩=>by simp[Hp.none] at h}
 refine(h w _ vs hg (br.mono _ _ hk hv)).mono ?_
 rintro e w' ⟨v,rfl,hb,hx⟩
 have hi:W4 w w' (Im (b8 P G w A β Hp.none) β Hp.none) (Im (b8 P G w A β Hp.none) β Hp.none):=
   ⟨λk hk hs=>⟨hk,Uo hs hb.size,hb.block k hs⟩⟩
 refine⟨v,res,Hp.none,β,rfl,rfl,?_,?_,by simp[hr]⟩
 · exact { defers := rfl,size := rfl
           N8:=λn=>by simp[Env.any,RV]
           rows:=λl r h=>by simp[Hp.none] at h
           own:=λl g ⟨r,h⟩=>by simp[Hp.none] at h
           inj:=λl l' g ⟨r,h⟩=>by simp[Hp.none] at h
           eI:=λn=>by simp[Env.any,AV.an]
           cH:=λl r h=>by simp[Hp.none] at h
           frame:=ju.frame.wD hb
           gA:=λl ⟨r,h⟩=>by simp[b8,Hp.none] at h
           fr:=λl g ⟨r,h⟩=>by simp[Hp.none] at h
           W5:=λg cs hg=>by
             obtain⟨k1,k2,k3⟩:=ju.W5 g cs hg
             exact⟨k1,Uo k2 hb.size,da.mono hi k1 k2 k3⟩}
 refine RV.mono _ _ ?_ (hx (Im (b8 P G w A β Hp.none) β Hp.none))
 exact {im:=λk hk hs=>⟨hk,hs,rfl⟩,lb:=λl hl=>by simp[hr] at hl}
end Go.Am

namespace Go.Am
open Go Go.RowKit Go.Shelf Go.Proofs
def aqt {w:World} {I:Nat->Prop} {s:Bs} {v:Value} (h:RV w iI Hp.none I (.str s) v):v= .string ⟨s.toArray⟩:=by simpa[RV] using h
def anT {w:World} {I:Nat->Prop} {s:Bs} {vs:List Value} (h:br w iI Hp.none I [.str s] vs):vs=[.string ⟨s.toArray⟩]:=by
 simp only[br] at h;obtain⟨v,us,rfl,h1,rfl⟩:=h;rw[aqt h1]
def aox (w:World) (k:Nat) (os:Array Obj):Below w.heap.size w (Sort.grow (w.drewN k) os):=by
 refine⟨rfl,rfl,rfl,by simp[Sort.grow,World.drewN],λi hi=> ?_⟩;simp only[Sort.grow,World.drewN];rw[Wz hi]
theorem an_ {w:World} {I:Nat->Prop} {g:Nat}:∀(cs:List IV) (o i:Nat) (x:IV),bK w I cs g o->cs[i]?=some x->∃v,w.cell? ⟨g,o+i,none⟩=some v/\NN w I x v
 |y::r,o,0,x,h,hx=>by
  simp only[bK] at h;simp only[RA,di] at hx;subst hx;exact h.1
 |y::r,o,i+1,x,h,hx=>by
  simp only[bK] at h;obtain⟨v,h1,h2⟩:=an_ r (o+1) i x h.2 (by simpa using hx);exact⟨v,by rw[show o+(i+1)=o+1+i by omega];exact h1,h2⟩
def aqu {P:Program} {w:World} {I:Nat->Prop} {g:Nat} {name:String} {k:IntKind} {zs:List Int} (hg:P.globalNamed name=some g) (h:da w I (zs.map λz=>IV.int k z) g):Lib.TabIs P w name k zs:=by
 obtain⟨h1,h2⟩:=h;unfold Lib.TabIs World.var?;rw[hg];simp only[EF];unfold jl at h2;split at h2
 ·rename_i c a b hc;simp only[hc,di] at h2 ⊢;simp only[G_] at h2;apply Array.ext
  ·simpa using h2
  intro i LS A2;obtain⟨v,k1,k2⟩:=an_ _ 0 i (IV.int k (zs[i]' sf)) h1 (by rw[cn,rX sf];rfl)
  simp only[NN] at k2;subst k2;have:w.cell? ⟨g,0+i,none⟩=c[i]?:=by simp[World.cell?,hc]
  rw[this,ff LS] at k1;simpa using k1
 cases h2
section
variable {P:Program} {G:Nat->Option (List IV)} {ρ:Ren}
def aq1 (L:LaysC.n172 P ρ) {t1 t2:Nat} (h1:G (ρ.g 15)=some [.ifc t1]) (h2:G (ρ.g 16)=some [.ifc t2]):ap8 P G (ρ.f 172):=by
 intro n hn;have zo:B=1073741824:=rfl;have gm:(⟨n.toArray⟩:ByteArray).size=n.length:=abn
 have zR:(⟨n.toArray⟩:ByteArray).data.toList=n:=tM
 have cell:∀(w:World) (I:Nat->Prop) (g t:Nat),zb G I w->G g=some [.ifc t]->∃u,w.cell? ⟨g,0,none⟩=some (.iface t u):=by
  intro w I g t hg he;obtain⟨⟨⟨v,e1,e2⟩,_⟩,_⟩:=hg g _ he;simp only[NN] at e2;obtain⟨u,rfl⟩:=e2;exact⟨u,e1⟩
 cases hc:Lib.atoiAll n with
 |ok k=>
  refine⟨k,.iT,oT aae aao λw I vs hg hv=> ?_,.inl ⟨rfl,rfl⟩⟩;rw[anT hv];refine(Any.strconv_Atoi_ok L _ (by rw[gm];omega) k (by rw[zR];exact hc) w).mono ?_;rintro e w' ⟨rfl,hw⟩;refine⟨_,rfl,?_,λI'=>by simp[RV,br]⟩;rcases hw with rfl|⟨t,rfl⟩
  ·exact Below.refl _ _
  exact Lib.bytesWorld_below _ _ _
 |range=>
  refine⟨Lib.atoiSat n,.ifc (ρ.t 168) .any,oT aae aao λw I vs hg hv=> ?_,.inr ⟨⟨_,rfl⟩,λv=>by simp⟩⟩;rw[anT hv];obtain⟨u,hu⟩:=cell w I _ _ hg h2;refine(Any.strconv_Atoi_range L _ (by rw[gm];omega) (by rw[zR];exact hc) _ w hu (.inr ⟨_,_,rfl⟩)).mono ?_;rintro e w' ⟨N,rfl,_,_,hb⟩;exact⟨_,rfl,hb,λI'=>by simp only[RV,br,zR];exact⟨[_,_],rfl,_,_,rfl,rfl,_,_,rfl,⟨_,rfl,trivial⟩,rfl⟩⟩
 |_=>
 refine⟨0,.ifc (ρ.t 168) .any,oT aae aao λw I vs hg hv=> ?_,.inr ⟨⟨_,rfl⟩,λv=>by simp⟩⟩;rw[anT hv];obtain⟨u,hu⟩:=cell w I _ _ hg h1;refine(Any.strconv_Atoi_syntax L _ (by rw[gm];omega) (by rw[zR];exact hc) _ w hu (.inr ⟨_,_,rfl⟩)).mono ?_;rintro e w' ⟨N,rfl,_,_,hb⟩;exact⟨_,rfl,hb,λI'=>by simp only[RV,br];exact⟨[_,_],rfl,_,_,rfl,rfl,_,_,rfl,⟨_,rfl,trivial⟩,rfl⟩⟩
def aq2 (L:LaysM.n171 P ρ) {g:Nat} (hg:P.globalNamed "internal/strconv.uint64pow10"=some g) (h1:G g=some (Lib.pow10Tab.map fun z=>IV.int .u64 z)):apn P G (ρ.f 171):=by
 intro k h0 hk;refine oT aae aad λw I vs hG hv=> ?_;simp only[br,RV] at hv;obtain⟨v,us,rfl,rfl,rfl⟩:=hv;refine(Any.strconv_Itoa L k h0 hk w (aqu hg (hG g _ h1))).mono ?_;rintro e w' ⟨rfl,n,os,rfl⟩;exact⟨_,rfl,aox _ _ _,λI'=>by simp[RV]⟩
end
end Go.Am

namespace Go.Am
open Go Go.RowKit
noncomputable def OF (s:Bs):Bs×Int:=
 if 2500<s.length then([],2) else match bm false s with
 |some (t,[])=>if plain t then(t,0) else([],1)
 |_=>([],1)
section
variable {P:Program} {G:Nat->Option (List IV)}
def OP (bo Oo:Nat):AC:=
(aM [aQ 2 (.iC (.c (.str []))),gH 3 0] (.seq (aM [MR 6 0,oF 7 6,eY 8 .gtr 7 2500] (.cond (.t 8) (aM [aQ 2 (.iC (.c (.str []))),gH 3 2] .ret) .skip)) (aM [MR 9 0,aQ 10 (.sg [(.str []),(.bool false)] [(0,(1,(.t 9)))]),zzX 11 10,MR 4 11] (aM [MR 12 4,aQ 13 (.call bo [(.t 12),(me false)]),MR 5 13] (.seq (aM [MR 14 4,aQ 15 (.dp (.t 14)),ep 16 15 1,fm 17 16,MR 18 17,gV 19 18 4,iR 20 18 (.dp (.t 19)),oH 21 18 20 0,oG 22 18 21,iR 23 18 (.bin .neq (.t 22) (.c (.str []))),sj 24 18 23,MR 25 24,gV 26 25 5,iR 27 25 (.call Oo [(.t 26)]),iR 28 25 (.not (.t 27)),sj 29 25 28] (.cond (.t 29) (aM [aQ 2 (.iC (.c (.str []))),gH 3 1] .ret) .skip)) (aM [MR 30 5,MR 2 30,gH 3 0] .ret))))))
def SQ {NM bo Oo:Nat} (hF:aw P G NM=some (31,[(none,2),(none,3)],(OP bo Oo).bare)) (s:Bs) (hs:s.length<=B) (hT:∀s:Bs,s.length<=B->cR P G bo [.ptr (.par 0) 2 0 0,.bool false] (cG s false) (rO false s false))
  (hP:∀t:Bs,t.length<=2500->au P G Oo [.str t] (.bool (plain t))) :
  au P G NM [.str s] (.gf [.str (OF s).1,.int .i64 (OF s).2]):=by
 refine aR hF tM aae aao ?_;unfold OP OF;simp only[↓aX,mX,seval];by_cases hl:2500<s.length
 ·simp only[↓aX,mX,seval,show(((s.length:Nat):Int)>2500)=True by simp;omega,Ts,↓h_,hl,Rc]
 simp only[↓aX,mX,seval,show(((s.length:Nat):Int)>2500)=False by simp;omega,XG];refine bj (l:= .loc 11) (hT s hs) aas aai ?_;rintro x1 dF ⟨t,r,b',rfl,rfl,pU,_,ky⟩ _ _ _;have ky:=ky rfl;simp only[↓aX,mX,seval,hl,nX];cases b' with
 |true=>
  have e:bm false s=none:=by
   cases h:bm false s with
   |none=>rfl
   |some y=>rw[h] at ky;cases ky.1
  simp only[↓aX,mX,seval,↓h_,hl,nX,e]
 |false=>
 have e:bm false s=some (t,r):=by
  cases h:bm false s with
  |none=>rw[h] at ky;cases ky
  |some y=>rw[h] at ky;rw[ky.2]
 simp only[↓aX,mX,seval];cases I_:(r==[]) with
 |false=>
  have hr:r≠[]:=by simpa using I_
  obtain⟨c,q,rfl⟩:=List.exists_cons_of_ne_nil hr;simp only[↓aX,mX,seval,QI,↓h_,hl,nX,e]
 |true=>
 have hr:r=[]:=by simpa using I_
 subst hr;simp only[↓aX,mX,seval,QK];refine ay (hP t (by simp at pU;omega)) ?_;cases hg:plain t with
 |false=>simp only[↓aX,mX,seval,QI,↓h_,hl,nX,Rc,e,hg]
 |true=>simp only[↓aX,mX,seval,QK,↓h_,hl,nX,Rc,e,hg]
end

def al8:List Bs:=[[],[102,105,114,115,116],[108,97,115,116],[98,101,102,111,114,101],[97,102,116,101,114],[100,101,108,101,116,101],[114,101,112,108,97,99,101],[118,97,108,117,101],[114,101,110,97,109,101],[115,101,116],[100,114,111,112]]
def amt:List Bs->Bs->Int
 |[],_=> -1
 |v::r,w=>if w=v then 0 else if amt r w<0 then -1 else amt r w+1
theorem aoJ:∀(l:List Bs) (w:Bs),-1<=amt l w/\amt l w<l.length
 |[],w=>by simp[amt]
 |v::r,w=>by
  have:=aoJ r w;simp only[amt,gL];split
  ·omega
  split<;>omega
theorem aoK:∀{l:List Bs} {w:Bs} {i:Nat},l[i]?=some w->(∀j,j<i->l[j]?≠some w)->amt l w=(i:Int)
 |v::r,w,0,h,_=>by simp at h;subst h;simp[amt]
 |v::r,w,i+1,h,hn=>by
  have h0:w≠v:=λe=>hn 0 sf (by simp[e]);have ih:=aoK (l:=r) (i:=i) (by simpa using h) (λj hj=>by have:=hn (j+1) sf;simpa using this);simp only[amt,h0,nX,ih];split<;>omega
theorem anA:∀{l:List Bs} {w:Bs},(∀j,j<l.length->l[j]?≠some w)->amt l w= -1
 |[],w,_=>rfl
 |v::r,w,hn=>by
  have h0:w≠v:=λe=>hn 0 tM (by simp[e]);have ih:=anA (l:=r) (λj hj=>by have:=hn (j+1) aak;simpa using this);simp only[amt,h0,nX,ih];rfl
def op0:Op:=⟨0,0,[],[],[]⟩
noncomputable def ak8 (s:Bs):Op×List Step×Int:=
 let kd:=amt al8 (Bj 32 s).1
 let a:=Bj 32 (Bj 32 s).2.1
 if kd<1\/2500<s.length then(op0,[],1) else match ami a.1 with
 |none=>(op0,[],1)
 |some l=>
  if a.2.2=decide (kd=5) then(op0,[],1)
  else if kd=8\/kd=10 then(⟨kd,0,[],a.2.1,[]⟩,l,0)
  else if kd=9 then
   if(Bj 61 a.2.1).2.2 then(if(OF (Bj 61 a.2.1).2.1).2=0 then(⟨kd,0,[],(Bj 61 a.2.1).1,(OF (Bj 61 a.2.1).2.1).1⟩,l,0) else(op0,[],(OF (Bj 61 a.2.1).2.1).2)) else(op0,[],1)
  else if kd=7 then(if(OF a.2.1).2=0 then(⟨kd,0,[],[],(OF a.2.1).1⟩,l,0) else(op0,[],(OF a.2.1).2))
  else if kd=5 then(⟨kd,0,[],[],[]⟩,l,0)
  else if(NQ a.2.1).2=0 then(⟨kd,0,(NQ a.2.1).1,[],[]⟩,l,0) else(op0,[],(NQ a.2.1).2)
noncomputable def amF (s:Bs):AV:= .gf [(ak8 s).1.av,.list ((ak8 s).2.1.map Step.iv),.int .i64 (ak8 s).2.2]
def akV {env:Env} {H:Hp} (m:Option Nat) (t u v:Nat) (R:AV->Hp->Prop):fX [(some m,t),(none,u),(none,v)] R .ret env H=cw (Wl m (env t) H) (λx=>R (.gf [x,env u,env v]) H) .mk:=by
 simp only[fX,ef,oO,cw];cases Wl m (env t) H<;>simp[gD]
section
variable {P:Program} {G:Nat->Option (List IV)}
def aln:AC:=
(aM [gH 4 0] (.seq (aM [MR 6 0,oy 7 6,gH 8 0] (.block 0 (.loop (aM [et 9 .lss 8 7] (.seq (.cond (.t 9) .skip (.exit 0)) (.seq (.block 1 (aM [MR 10 8,MR 5 10] (aM [MR 11 1,MR 12 0,MR 13 5,jL 14 12 13 1,fm 15 14,et 16 .eql 11 15] (.cond (.t 16) (aM [MR 17 5,MR 4 17] .ret) .skip)))) (.cq [eY 18 .add 8 1,MR 8 18]))))))) (aM [aQ 4 (.iC (.c (.int .i64 (-1))))] .ret)))
def apR {akO:Nat} (hF:aw P G akO=some (19,[(none,4)],aln.bare)) (l:List Bs) (hl:l.length<=B) (w:Bs):au P G akO [.list (l.map IV.str),.str w] (.int .i64 (amt l w)):=by
 refine aR hF tM aae aad ?_;have zo:B=1073741824:=rfl;unfold aln;simp only[↓aX,mX,seval,G_];refine VR (σ:={i:Nat // i<=l.length/\∀j,j<i->l[j]?≠some w}) (λq=>[(0,.list (l.map IV.str)),(1,.str w),(7,.int .i64 l.length),(8,.int .i64 q.1)]) (λq=>l.length - q.1) ⟨0,tM⟩ (λ_=>rfl) ?_ ?_
 ·exact⟨by simp only[↓aX,mX,seval],aah⟩
 rintro⟨i,hi,hn⟩;simp only[↓aX,mX,seval,G_];by_cases bI:i<l.length
 ·rw[show decide ((i:Int)<(l.length:Int))=true by simpa using bI];obtain⟨x,hx⟩:∃x,l[i]?=some x:=⟨_,rX bI⟩;have hw:IntKind.i64.wrap ((i:Int)+1)=((i+1:Nat):Int):=wrap64 sf sf;have Hv:(l.map IV.str)[i]?=some (.str x):=by simp[hx]
  have ll:jV 1 (l.map IV.str):=by intro y hy;simp only[pb] at hy;obtain⟨w',_,rfl⟩:=hy;rfl
  simp only[↓aX,mX,seval,Hv,ll,IV.cells,QJ,Qj];cases hxw:(w==x) with
  |true=>
   have:w=x:=(by simpa using hxw);subst this;simp only[↓aX,mX,seval,aoK hx hn]
  |false=>
  have Vi:w≠x:=by intro e;simp[e] at hxw
  simp only[↓aX,mX,seval,hw];refine⟨⟨i+1,bI,λj hj=> ?_⟩,aac,rfl⟩;by_cases e:j=i
  ·subst e;rw[hx];simpa using Ss Vi
  exact hn j sf
 rw[show decide ((i:Int)<(l.length:Int))=false by simpa using bI];simp only[↓aX,mX,seval,anA (λj hj=>hn j sf)]
def amo (NX akO alw NM Nq:Nat):AC:=
(aM [aQ 2 (.new [(.int .i64 0),(.int .i64 0),.nil0,(.str []),(.str [])]),zi 3,gH 4 0] (aM [MR 15 0,aQ 16 (.call NX [(.t 15),(.c (.str [32]))]),MR 14 16,ox 17 14 0,ox 18 14 1,ox 19 14 2,MR 5 17,MR 6 18,MR 7 19] (aM [MR 21 6,aQ 22 (.call NX [(.t 21),(.c (.str [32]))]),MR 20 22,ox 23 20 0,ox 24 20 1,ox 25 20 2,MR 8 23,MR 6 24,MR 9 25] (aM [aQ 26 (.oD (.c (.lptr [(.str []),(.str [102,105,114,115,116]),(.str [108,97,115,116]),(.str [98,101,102,111,114,101]),(.str [97,102,116,101,114]),(.str [100,101,108,101,116,101]),(.str [114,101,112,108,97,99,101]),(.str [118,97,108,117,101]),(.str [114,101,110,97,109,101]),(.str [115,101,116]),(.str [100,114,111,112])])) 11 1),MR 27 5,aQ 28 (.call akO [(.t 26),(.t 27)]),aQ 29 (.sg [(.int .i64 0),(.int .i64 0),.nil0,(.str []),(.str [])] [(0,(1,(.t 28)))]),aQ 10 (.new [(.int .i64 0),(.int .i64 0),.nil0,(.str []),(.str [])]),gg (.store 5 (.t 10) (.t 29))] (.seq (aM [ep 30 10 0,fm 31 30,eY 32 .lss 31 1,MR 33 32,gV 34 33 0,iR 35 33 (.lens (.t 34)),iR 36 33 (.bin .gtr (.t 35) (jS 2500)),sj 37 33 36] (.cond (.t 37) (aM [aQ 38 (.sg [(.int .i64 0),(.int .i64 0),.nil0,(.str []),(.str [])] []),gg (.store 5 (.t 2) (.t 38)),zi 3,gH 4 1] .ret) .skip)) (aM [MR 40 8,aQ 41 (.call alw [(.t 40)]),MR 39 41,ox 42 39 0,ox 43 39 1,MR 11 42,MR 12 43] (.seq (aM [MR 44 12,eY 45 .neq 44 0] (.cond (.t 45) (aM [aQ 46 (.sg [(.int .i64 0),(.int .i64 0),.nil0,(.str []),(.str [])] []),MR 47 12,gg (.store 5 (.t 2) (.t 46)),zi 3,MR 4 47] .ret) .skip)) (.seq (aM [MR 48 9,ep 49 10 0,fm 50 49,eY 51 .eql 50 5,aQ 52 (.eqb false (.t 48) (.t 51))] (.cond (.t 52) (aM [aQ 53 (.sg [(.int .i64 0),(.int .i64 0),.nil0,(.str []),(.str [])] []),gg (.store 5 (.t 2) (.t 53)),zi 3,gH 4 1] .ret) .skip)) (.seq (aM [ep 54 10 0,fm 55 54] (.block 0 (.seq (aM [eY 63 .eql 55 8,MR 62 63] (.cond (.t 62) .skip (.cq [eY 64 .eql 55 10,MR 62 64]))) (.cond (.t 62) (.cq [MR 65 6,ep 66 10 3,gg (.store 1 (.t 66) (.t 65))]) (aM [eY 68 .eql 55 9,MR 67 68] (.cond (.t 67) (aM [jM 13 false] (.seq (aM [MR 70 6,aQ 71 (.call NX [(.t 70),(.c (.str [61]))]),MR 69 71,ox 72 69 0,ox 73 69 1,ox 74 69 2,ep 75 10 3,gg (.store 1 (.t 75) (.t 72)),MR 6 73,MR 13 74] (aM [MR 76 13,sB 77 76] (.cond (.t 77) (aM [aQ 78 (.sg [(.int .i64 0),(.int .i64 0),.nil0,(.str []),(.str [])] []),gg (.store 5 (.t 2) (.t 78)),zi 3,gH 4 1] .ret) .skip))) (.cq [MR 80 6,aQ 81 (.call NM [(.t 80)]),MR 79 81,ox 82 79 0,ox 83 79 1,ep 84 10 4,gg (.store 1 (.t 84) (.t 82)),MR 12 83]))) (aM [eY 86 .eql 55 7,MR 85 86] (.cond (.t 85) (.cq [MR 88 6,aQ 89 (.call NM [(.t 88)]),MR 87 89,ox 90 87 0,ox 91 87 1,ep 92 10 4,gg (.store 1 (.t 92) (.t 90)),MR 12 91]) (aM [eY 94 .eql 55 5,MR 93 94] (.cond (.t 93) .skip (.cq [MR 57 6,aQ 58 (.call Nq [(.t 57)]),MR 56 58,ox 59 56 0,ox 60 56 1,ep 61 10 2,gg (.store 1 (.t 61) (.t 59)),MR 12 60]))))))))))) (.seq (aM [MR 95 12,eY 96 .neq 95 0] (.cond (.t 96) (aM [aQ 97 (.sg [(.int .i64 0),(.int .i64 0),.nil0,(.str []),(.str [])] []),MR 98 12,gg (.store 5 (.t 2) (.t 97)),zi 3,MR 4 98] .ret) .skip)) (aM [gz 99 5 10,MR 100 11,gg (.store 5 (.t 2) (.t 99)),MR 3 100,gH 4 0] .ret)))))))))))
set_option maxHeartbeats 2000000 in
def aq3 {alx NX akO alw NM Nq:Nat} (hF:aw P G alx=some (101,[((some (some 5)),2),(none,3),(none,4)],(amo NX akO alw NM Nq).bare)) (s:Bs) (hs:s.length<=B)
  (apq:∀(t:Bs) (c:UInt8),t.length<=s.length->au P G NX [.str t,.str [c]] (.gf [.str (Bj c t).1,.str (Bj c t).2.1,.bool (Bj c t).2.2]))
  (hIdx:∀w:Bs,au P G akO [.list (al8.map IV.str),.str w] (.int .i64 (amt al8 w)))
  (hP:∀t:Bs,t.length<=s.length->au P G alw [.str t] (amr t))
  (hT:∀t:Bs,t.length<=s.length->au P G NM [.str t] (.gf [.str (OF t).1,.int .i64 (OF t).2]))
  (hC:∀t:Bs,t.length<=s.length->au P G Nq [.str t] (.gf [.list (dq (NQ t).1),.int .i64 (NQ t).2])) :
  au P G alx [.str s] (amF s):=by
 refine Ws hF tM aae (by simp[AV.an,ah,amF,Op.av]) ?_;have zo:B=1073741824:=rfl;have l1:=(alP 32 s).2;have l2:=alP 32 (Bj 32 s).2.1;have l3:=alP 61 (Bj 32 (Bj 32 s).2.1).2.1;obtain⟨kd,K2⟩:∃kd,amt al8 (Bj 32 s).1=kd:=⟨_,rfl⟩;have hrg:=aoJ al8 (Bj 32 s).1;rw[K2] at hrg;obtain⟨a,ha⟩:∃a,Bj 32 (Bj 32 s).2.1=a:=⟨_,rfl⟩;have c1:=apq s 32 (Nat.le_refl _);have c2:=apq (Bj 32 s).2.1 32 l1;have c3:=hIdx (Bj 32 s).1;rw[ha] at c2 l2 l3;rw[K2] at c3;unfold amo;simp only[↓aX,mX,seval];refine ay c1 ?_;simp only[↓aX,mX,seval];refine ay c2 ?_;simp only[↓aX,mX,seval];simp only[al8,List.map_cons,List.map_nil] at c3;rw[if_pos ⟨rfl,M3,aaw⟩];simp only[↓aX,mX,seval];refine ay c3 ?_;simp only[↓aX,mX,seval];have d_:∀(o:Op) (l':List Step),ak8 s=(o,l',0)->amF s= .gf [o.av,.list (l'.map Step.iv),.int .i64 0]:=λo l' h=>by simp only[amF,h]
 have bad:∀e:Int,ak8 s=(op0,[],e)->amF s= .gf [.agg [.int .i64 0,.int .i64 0,.list [],.str [],.str []],.list [],.int .i64 e]:=λe h=>by simp only[amF,h];rfl
 by_cases Jd:kd<1
 ·have hl:ak8 s=(op0,[],1):=by simp only[ak8,K2,Jd,true_or,ite_true]
  simp only[↓aX,mX,seval,Jd,decide_true,Bool.not_true,bad 1 hl,↓akV,norm,fi]
 simp only[↓aX,mX,seval,Jd,decide_false,Bool.not_false];rcases Nat.lt_or_ge 2500 s.length with hlen|hlen
 ·have hl:ak8 s=(op0,[],1):=by simp only[ak8,K2,hlen,or_true,ite_true]
  simp only[↓aX,mX,seval,show decide ((s.length:Int)>2500)=true by simp;omega,bad 1 hl,↓akV,norm,fi]
 simp only[↓aX,mX,seval,show decide ((s.length:Int)>2500)=false by simp;omega];have c4:=hP a.1 sf;have wv:¬(kd<1\/2500<s.length):=sf
 have Ka:ak8 s=(match ami a.1 with
  |none=>(op0,[],1)
  |some l=>
   if a.2.2=decide (kd=5) then(op0,[],1)
   else if kd=8\/kd=10 then(⟨kd,0,[],a.2.1,[]⟩,l,0)
   else if kd=9 then
    if(Bj 61 a.2.1).2.2 then(if(OF (Bj 61 a.2.1).2.1).2=0 then(⟨kd,0,[],(Bj 61 a.2.1).1,(OF (Bj 61 a.2.1).2.1).1⟩,l,0) else(op0,[],(OF (Bj 61 a.2.1).2.1).2)) else(op0,[],1)
   else if kd=7 then(if(OF a.2.1).2=0 then(⟨kd,0,[],[],(OF a.2.1).1⟩,l,0) else(op0,[],(OF a.2.1).2))
   else if kd=5 then(⟨kd,0,[],[],[]⟩,l,0)
   else if(NQ a.2.1).2=0 then(⟨kd,0,(NQ a.2.1).1,[],[]⟩,l,0) else(op0,[],(NQ a.2.1).2)):=by
  unfold ak8;simp only[K2,ha];rw[if_neg wv]
 refine ay c4 ?_;cases hp:ami a.1 with
 |none=>
  have hl:ak8 s=(op0,[],1):=by rw[Ka,hp]
  simp only[↓aX,mX,seval,amr,hp,show((1:Int) !=0)=true from rfl,bad 1 hl,↓akV,norm,fi]
 |some l=>
 rw[hp] at Ka;simp only at Ka;simp only[↓aX,mX,seval,amr,hp,show((0:Int) !=0)=false from rfl];have bV:kd=1\/kd=2\/kd=3\/kd=4\/kd=5\/kd=6\/kd=7\/kd=8\/kd=9\/kd=10:=by
  have:(al8.length:Int)=11:=rfl;omega
 rcases bV with hk|hk|hk|hk|hk|hk|hk|hk|hk|hk
 ·subst hk;cases hm:a.2.2 with
  |false=>
   have hl:ak8 s=(op0,[],1):=(by rw[Ka,hm];rfl);simp only[↓aX,mX,seval,show((1:Int)==8)=false from rfl,show((1:Int)==10)=false from rfl,show((1:Int)==9)=false from rfl,show((1:Int)==7)=false from rfl,show((1:Int)==5)=false from rfl,beq_self_eq_true,bad 1 hl,↓akV,norm,fi]
  |true=>
  have LR:=Ka;rw[hm] at LR;simp only[show((true=decide ((1:Int)=5))=False) from by simp,if_false,show ¬((1:Int)=5) by decide,show ¬((1:Int)=7) by decide,show ¬((1:Int)=8) by decide,show ¬((1:Int)=9) by decide,show ¬((1:Int)=10) by decide,or_false,false_or,if_true] at LR;simp only[↓aX,mX,seval,show((1:Int)==8)=false from rfl,show((1:Int)==10)=false from rfl,show((1:Int)==9)=false from rfl,show((1:Int)==7)=false from rfl,show((1:Int)==5)=false from rfl,show(true==false)=false from rfl];refine ay (hC a.2.1 sf) ?_;cases he:(NQ a.2.1).2==0 with
  |true=>
   have he':(NQ a.2.1).2=0:=(by simpa using he);rw[if_pos he'] at LR;simp only[↓aX,mX,seval,bne,he,Bool.not_true,↓akV,d_ _ _ LR,Op.av,norm,fi]
  |false=>
  have he':(NQ a.2.1).2≠0:=by simpa using he
  rw[if_neg he'] at LR;simp only[↓aX,mX,seval,bne,he,Bool.not_false,bad _ LR,↓akV,norm,fi]
 ·subst hk;cases hm:a.2.2 with
  |false=>
   have hl:ak8 s=(op0,[],1):=(by rw[Ka,hm];rfl);simp only[↓aX,mX,seval,show((2:Int)==8)=false from rfl,show((2:Int)==10)=false from rfl,show((2:Int)==9)=false from rfl,show((2:Int)==7)=false from rfl,show((2:Int)==5)=false from rfl,beq_self_eq_true,bad 1 hl,↓akV,norm,fi]
  |true=>
  have LR:=Ka;rw[hm] at LR;simp only[show((true=decide ((2:Int)=5))=False) from by simp,if_false,show ¬((2:Int)=5) by decide,show ¬((2:Int)=7) by decide,show ¬((2:Int)=8) by decide,show ¬((2:Int)=9) by decide,show ¬((2:Int)=10) by decide,or_false,false_or,if_true] at LR;simp only[↓aX,mX,seval,show((2:Int)==8)=false from rfl,show((2:Int)==10)=false from rfl,show((2:Int)==9)=false from rfl,show((2:Int)==7)=false from rfl,show((2:Int)==5)=false from rfl,show(true==false)=false from rfl];refine ay (hC a.2.1 sf) ?_;cases he:(NQ a.2.1).2==0 with
  |true=>
   have he':(NQ a.2.1).2=0:=(by simpa using he);rw[if_pos he'] at LR;simp only[↓aX,mX,seval,bne,he,Bool.not_true,↓akV,d_ _ _ LR,Op.av,norm,fi]
  |false=>
  have he':(NQ a.2.1).2≠0:=by simpa using he
  rw[if_neg he'] at LR;simp only[↓aX,mX,seval,bne,he,Bool.not_false,bad _ LR,↓akV,norm,fi]
 ·subst hk;cases hm:a.2.2 with
  |false=>
   have hl:ak8 s=(op0,[],1):=(by rw[Ka,hm];rfl);simp only[↓aX,mX,seval,show((3:Int)==8)=false from rfl,show((3:Int)==10)=false from rfl,show((3:Int)==9)=false from rfl,show((3:Int)==7)=false from rfl,show((3:Int)==5)=false from rfl,beq_self_eq_true,bad 1 hl,↓akV,norm,fi]
  |true=>
  have LR:=Ka;rw[hm] at LR;simp only[show((true=decide ((3:Int)=5))=False) from by simp,if_false,show ¬((3:Int)=5) by decide,show ¬((3:Int)=7) by decide,show ¬((3:Int)=8) by decide,show ¬((3:Int)=9) by decide,show ¬((3:Int)=10) by decide,or_false,false_or,if_true] at LR;simp only[↓aX,mX,seval,show((3:Int)==8)=false from rfl,show((3:Int)==10)=false from rfl,show((3:Int)==9)=false from rfl,show((3:Int)==7)=false from rfl,show((3:Int)==5)=false from rfl,show(true==false)=false from rfl];refine ay (hC a.2.1 sf) ?_;cases he:(NQ a.2.1).2==0 with
  |true=>
   have he':(NQ a.2.1).2=0:=(by simpa using he);rw[if_pos he'] at LR;simp only[↓aX,mX,seval,bne,he,Bool.not_true,↓akV,d_ _ _ LR,Op.av,norm,fi]
  |false=>
  have he':(NQ a.2.1).2≠0:=by simpa using he
  rw[if_neg he'] at LR;simp only[↓aX,mX,seval,bne,he,Bool.not_false,bad _ LR,↓akV,norm,fi]
 ·subst hk;cases hm:a.2.2 with
  |false=>
   have hl:ak8 s=(op0,[],1):=(by rw[Ka,hm];rfl);simp only[↓aX,mX,seval,show((4:Int)==8)=false from rfl,show((4:Int)==10)=false from rfl,show((4:Int)==9)=false from rfl,show((4:Int)==7)=false from rfl,show((4:Int)==5)=false from rfl,beq_self_eq_true,bad 1 hl,↓akV,norm,fi]
  |true=>
  have LR:=Ka;rw[hm] at LR;simp only[show((true=decide ((4:Int)=5))=False) from by simp,if_false,show ¬((4:Int)=5) by decide,show ¬((4:Int)=7) by decide,show ¬((4:Int)=8) by decide,show ¬((4:Int)=9) by decide,show ¬((4:Int)=10) by decide,or_false,false_or,if_true] at LR;simp only[↓aX,mX,seval,show((4:Int)==8)=false from rfl,show((4:Int)==10)=false from rfl,show((4:Int)==9)=false from rfl,show((4:Int)==7)=false from rfl,show((4:Int)==5)=false from rfl,show(true==false)=false from rfl];refine ay (hC a.2.1 sf) ?_;cases he:(NQ a.2.1).2==0 with
  |true=>
   have he':(NQ a.2.1).2=0:=(by simpa using he);rw[if_pos he'] at LR;simp only[↓aX,mX,seval,bne,he,Bool.not_true,↓akV,d_ _ _ LR,Op.av,norm,fi]
  |false=>
  have he':(NQ a.2.1).2≠0:=by simpa using he
  rw[if_neg he'] at LR;simp only[↓aX,mX,seval,bne,he,Bool.not_false,bad _ LR,↓akV,norm,fi]
 ·subst hk;cases hm:a.2.2 with
  |true=>
   have hl:ak8 s=(op0,[],1):=(by rw[Ka,hm];rfl);simp only[↓aX,mX,seval,show((5:Int)==8)=false from rfl,show((5:Int)==10)=false from rfl,show((5:Int)==9)=false from rfl,show((5:Int)==7)=false from rfl,show((5:Int)==5)=true from rfl,beq_self_eq_true,bad 1 hl,↓akV,norm,fi]
  |false=>
  have hl:ak8 s=(⟨5,0,[],[],[]⟩,l,0):=by rw[Ka,hm];rfl
  simp only[↓aX,mX,seval,show((5:Int)==8)=false from rfl,show((5:Int)==10)=false from rfl,show((5:Int)==9)=false from rfl,show((5:Int)==7)=false from rfl,show((5:Int)==5)=true from rfl,show(false==true)=false from rfl,show((0:Int) !=0)=false from rfl,↓akV,d_ _ _ hl,Op.av,dq,norm,fi]
 ·subst hk;cases hm:a.2.2 with
  |false=>
   have hl:ak8 s=(op0,[],1):=(by rw[Ka,hm];rfl);simp only[↓aX,mX,seval,show((6:Int)==8)=false from rfl,show((6:Int)==10)=false from rfl,show((6:Int)==9)=false from rfl,show((6:Int)==7)=false from rfl,show((6:Int)==5)=false from rfl,beq_self_eq_true,bad 1 hl,↓akV,norm,fi]
  |true=>
  have LR:=Ka;rw[hm] at LR;simp only[show((true=decide ((6:Int)=5))=False) from by simp,if_false,show ¬((6:Int)=5) by decide,show ¬((6:Int)=7) by decide,show ¬((6:Int)=8) by decide,show ¬((6:Int)=9) by decide,show ¬((6:Int)=10) by decide,or_false,false_or,if_true] at LR;simp only[↓aX,mX,seval,show((6:Int)==8)=false from rfl,show((6:Int)==10)=false from rfl,show((6:Int)==9)=false from rfl,show((6:Int)==7)=false from rfl,show((6:Int)==5)=false from rfl,show(true==false)=false from rfl];refine ay (hC a.2.1 sf) ?_;cases he:(NQ a.2.1).2==0 with
  |true=>
   have he':(NQ a.2.1).2=0:=(by simpa using he);rw[if_pos he'] at LR;simp only[↓aX,mX,seval,bne,he,Bool.not_true,↓akV,d_ _ _ LR,Op.av,norm,fi]
  |false=>
  have he':(NQ a.2.1).2≠0:=by simpa using he
  rw[if_neg he'] at LR;simp only[↓aX,mX,seval,bne,he,Bool.not_false,bad _ LR,↓akV,norm,fi]
 ·subst hk;cases hm:a.2.2 with
  |false=>
   have hl:ak8 s=(op0,[],1):=(by rw[Ka,hm];rfl);simp only[↓aX,mX,seval,show((7:Int)==8)=false from rfl,show((7:Int)==10)=false from rfl,show((7:Int)==9)=false from rfl,show((7:Int)==7)=true from rfl,show((7:Int)==5)=false from rfl,beq_self_eq_true,bad 1 hl,↓akV,norm,fi]
  |true=>
  have LR:=Ka;rw[hm] at LR;simp only[show((true=decide ((7:Int)=5))=False) from by simp,if_false,show ¬((7:Int)=5) by decide,show ¬((7:Int)=8) by decide,show ¬((7:Int)=9) by decide,show ¬((7:Int)=10) by decide,or_false,false_or,if_true] at LR;simp only[↓aX,mX,seval,show((7:Int)==8)=false from rfl,show((7:Int)==10)=false from rfl,show((7:Int)==9)=false from rfl,show((7:Int)==7)=true from rfl,show((7:Int)==5)=false from rfl,show(true==false)=false from rfl];refine ay (hT a.2.1 sf) ?_;cases he:(OF a.2.1).2==0 with
  |true=>
   have he':(OF a.2.1).2=0:=(by simpa using he);rw[if_pos he'] at LR;simp only[↓aX,mX,seval,bne,he,Bool.not_true,↓akV,d_ _ _ LR,Op.av,dq,norm,fi]
  |false=>
  have he':(OF a.2.1).2≠0:=by simpa using he
  rw[if_neg he'] at LR;simp only[↓aX,mX,seval,bne,he,Bool.not_false,bad _ LR,↓akV,norm,fi]
 ·subst hk;cases hm:a.2.2 with
  |false=>
   have hl:ak8 s=(op0,[],1):=(by rw[Ka,hm];rfl);simp only[↓aX,mX,seval,show((8:Int)==8)=true from rfl,show((8:Int)==10)=false from rfl,show((8:Int)==9)=false from rfl,show((8:Int)==7)=false from rfl,show((8:Int)==5)=false from rfl,beq_self_eq_true,bad 1 hl,↓akV,norm,fi]
  |true=>
  have LR:=Ka;rw[hm] at LR;simp only[show((true=decide ((8:Int)=5))=False) from by simp,if_false,show ¬((8:Int)=5) by decide,show ¬((8:Int)=7) by decide,show ¬((8:Int)=9) by decide,show ¬((8:Int)=10) by decide,or_false,false_or,if_true] at LR;simp only[↓aX,mX,seval,show((8:Int)==8)=true from rfl,show((8:Int)==10)=false from rfl,show((8:Int)==9)=false from rfl,show((8:Int)==7)=false from rfl,show((8:Int)==5)=false from rfl,show(true==false)=false from rfl];simp only[↓aX,mX,seval,show((0:Int) !=0)=false from rfl,↓akV,d_ _ _ LR,Op.av,dq,norm,fi]
 ·subst hk;cases hm:a.2.2 with
  |false=>
   have hl:ak8 s=(op0,[],1):=(by rw[Ka,hm];rfl);simp only[↓aX,mX,seval,show((9:Int)==8)=false from rfl,show((9:Int)==10)=false from rfl,show((9:Int)==9)=true from rfl,show((9:Int)==7)=false from rfl,show((9:Int)==5)=false from rfl,beq_self_eq_true,bad 1 hl,↓akV,norm,fi]
  |true=>
  have LR:=Ka;rw[hm] at LR;simp only[show((true=decide ((9:Int)=5))=False) from by simp,if_false,show ¬((9:Int)=5) by decide,show ¬((9:Int)=7) by decide,show ¬((9:Int)=8) by decide,show ¬((9:Int)=10) by decide,or_false,false_or,if_true] at LR;simp only[↓aX,mX,seval,show((9:Int)==8)=false from rfl,show((9:Int)==10)=false from rfl,show((9:Int)==9)=true from rfl,show((9:Int)==7)=false from rfl,show((9:Int)==5)=false from rfl,show(true==false)=false from rfl];refine ay (apq a.2.1 61 sf) ?_;simp only[↓aX,mX,seval];cases hc:(Bj 61 a.2.1).2.2 with
  |false=>
   rw[hc] at LR;simp only[Bool.false_eq_true,if_false] at LR;simp only[↓aX,mX,seval,Bool.not_false,bad 1 LR,↓akV,norm,fi]
  |true=>
  rw[hc] at LR;simp only[if_true] at LR;simp only[↓aX,mX,seval,Bool.not_true];refine ay (hT (Bj 61 a.2.1).2.1 sf) ?_;cases he:(OF (Bj 61 a.2.1).2.1).2==0 with
  |true=>
   have he':(OF (Bj 61 a.2.1).2.1).2=0:=(by simpa using he);rw[if_pos he'] at LR;simp only[↓aX,mX,seval,bne,he,Bool.not_true,↓akV,d_ _ _ LR,Op.av,dq,norm,fi]
  |false=>
  have he':(OF (Bj 61 a.2.1).2.1).2≠0:=by simpa using he
  rw[if_neg he'] at LR;simp only[↓aX,mX,seval,bne,he,Bool.not_false,bad _ LR,↓akV,norm,fi]
 subst hk;cases hm:a.2.2 with
 |false=>
  have hl:ak8 s=(op0,[],1):=by rw[Ka,hm];rfl
  simp only[↓aX,mX,seval,show((10:Int)==8)=false from rfl,show((10:Int)==10)=true from rfl,show((10:Int)==9)=false from rfl,show((10:Int)==7)=false from rfl,show((10:Int)==5)=false from rfl,beq_self_eq_true,bad 1 hl,↓akV,norm,fi]
 |true=>
 have LR:=Ka;rw[hm] at LR;simp only[show((true=decide ((10:Int)=5))=False) from by simp,if_false,show ¬((10:Int)=5) by decide,show ¬((10:Int)=7) by decide,show ¬((10:Int)=8) by decide,show ¬((10:Int)=9) by decide,or_false,false_or,if_true] at LR;simp only[↓aX,mX,seval,show((10:Int)==8)=false from rfl,show((10:Int)==10)=true from rfl,show((10:Int)==9)=false from rfl,show((10:Int)==7)=false from rfl,show((10:Int)==5)=false from rfl,show(true==false)=false from rfl];simp only[↓aX,mX,seval,show((0:Int) !=0)=false from rfl,↓akV,d_ _ _ LR,Op.av,dq,norm,fi]
end

def amb (o:Op) (ns:List Int):List Op:=ns.map λn=>{o with target:=n}
noncomputable def alE (d:Doc):List Op->List Bs->Except Int (List Op)
 |acc,[]=> .ok acc
 |acc,x::r=>if(ak8 x).2.2=0 then(if(ali d (ak8 x).2.1).1=[] then .error 3 else alE d (acc++amb (ak8 x).1 (ali d (ak8 x).2.1).1) r) else .error (ak8 x).2.2
structure Rep where
 code:Int
 n:Int
 text:Bs
def Rep.av (r:Rep):AV:= .agg [.int .i64 r.code,.int .i64 r.n,.str r.text]
noncomputable def alh (d:Doc) (ls:List Bs):Doc×Rep:=
 if 6<ls.length then(d,⟨2,0,[]⟩) else match alE d [] ls with
 | .error e=>(d,⟨e,0,[]⟩)
 | .ok l=>if(XU d l).2=0 then((XU d l).1,⟨0,l.length,[]⟩) else(d,⟨(XU d l).2,0,[]⟩)
def opB (o:Op):Prop:=dE o.content<=2^22/\o.name.length<=2^22/\o.s.length<=2^22
structure LsS (d:Doc) (ls:List Bs) where
 i:Nat
 ops:List Op
 hi:i<=ls.length
 hn:ops.length<=80*i
 hb:∀o∈ops,opB o
 h:alE d [] ls=alE d ops (ls.drop i)
structure CiS (d:Doc) (o:Op) (ns:List Int) where
 j:Nat
 t:Int
 hj:j<=ns.length
def stC (d:Doc) (alb:Int):List AV:=[.list (d.map Node.iv),.int .i64 alb]
def aa3 {p:Prop} (h:p:=by simp[ah,AV.an,stC]):p:=h
section
variable {P:Program} {G:Nat->Option (List IV)}
def alC (alx alu akN:Nat):AC:=
(aM [aQ 4 (.new [(.int .i64 0),(.int .i64 0),(.str [])])] (.seq (aM [MR 17 1,oy 18 17,eY 19 .gtr 18 6] (.cond (.t 19) (aM [aQ 20 (.sg [(.int .i64 0),(.int .i64 0),(.str [])] [(0,(1,(jS 2)))]),gg (.store 3 (.t 4) (.t 20))] .ret) .skip)) (aM [zi 5] (.gh (.own 5 5) (.seq (aM [MR 21 1,oy 22 21,gH 23 0] (.block 0 (.loop (aM [et 24 .lss 23 22] (.seq (.cond (.t 24) .skip (.exit 0)) (.seq (.block 1 (aM [jL 25 21 23 1,fm 26 25,MR 7 26] (aM [MR 28 7,aQ 29 (.call alx [(.t 28)]),MR 27 29,ox 30 27 0,ox 31 27 1,ox 32 27 2,aQ 8 (.new [(.int .i64 0),(.int .i64 0),.nil0,(.str []),(.str [])]),gg (.store 5 (.t 8) (.t 30)),MR 9 31,MR 10 32] (.seq (aM [MR 33 10,eY 34 .neq 33 0] (.cond (.t 34) (aM [MR 35 10,aQ 36 (.sg [(.int .i64 0),(.int .i64 0),(.str [])] [(0,(1,(.t 35)))]),gg (.store 3 (.t 4) (.t 36))] .ret) .skip)) (aM [MR 38 0,aQ 39 (.dp (.t 38)),ep 40 39 0,gz 41 1 40,MR 42 9,aQ 43 (.call alu [(.t 41),(.t 42)]),MR 37 43,ox 44 37 0,ox 45 37 1,MR 11 44,MR 12 45] (.seq (aM [MR 46 11,oy 47 46,eY 48 .eql 47 0] (.cond (.t 48) (aM [aQ 49 (.sg [(.int .i64 0),(.int .i64 0),(.str [])] [(0,(1,(jS 3)))]),gg (.store 3 (.t 4) (.t 49))] .ret) .skip)) (aM [MR 50 11,oy 51 50,gH 52 0] (.block 2 (.loop (aM [et 53 .lss 52 51] (.seq (.cond (.t 53) .skip (.exit 2)) (.seq (.block 3 (aM [jL 54 50 52 1,fm 55 54,MR 14 55] (aM [MR 56 14,ep 57 8 1,gg (.store 1 (.t 57) (.t 56))] (.cq [MR 58 5,gz 59 5 8,aQ 60 (.lits 1 5 [(.int .i64 0),(.int .i64 0),.nil0,(.str []),(.str [])] [(0,(.t 59))]),aQ 61 (.app (.t 58) (.t 60) 5 72),MR 5 61])))) (.cq [eY 62 .add 52 1,MR 52 62]))))))))))))) (.cq [eY 63 .add 23 1,MR 23 63]))))))) (.gh (.zS (.loc 5) 5) (aM [MR 65 0,aQ 66 (.dp (.t 65)),ep 67 66 0,gz 68 1 67,MR 69 5,aQ 70 (.call akN [(.t 68),(.t 69)]),MR 64 70,ox 71 64 0,ox 72 64 1,aQ 15 (.new [.nil0]),gg (.store 1 (.t 15) (.t 71)),MR 16 72] (.seq (aM [MR 73 16,eY 74 .neq 73 0] (.cond (.t 74) (aM [MR 75 16,aQ 76 (.sg [(.int .i64 0),(.int .i64 0),(.str [])] [(0,(1,(.t 75)))]),gg (.store 3 (.t 4) (.t 76))] .ret) .skip)) (aM [MR 77 0,gz 78 1 15,aQ 79 (.dp (.t 77)),ep 80 79 0,gg (.store 1 (.t 80) (.t 78))] (aM [MR 81 5,oy 82 81,aQ 83 (.sg [(.int .i64 0),(.int .i64 0),(.str [])] [(1,(1,(.t 82)))]),gg (.store 3 (.t 4) (.t 83))] .ret))))))))))
end

noncomputable def alS (d:Doc) (a:ak7):Doc×Rep:=
 if a.kind=1 then(match a.lines with
  |[s]=>if(jD s).2=0 then((Wo (jD s).1).1,⟨0,(Wo (jD s).1).1.length,[]⟩) else(d,⟨(jD s).2,0,[]⟩)
  |_=>(d,⟨1,0,[]⟩))
 else if a.kind=2 then alh d a.lines
 else if a.kind=3 then(if(dh (aec d 0).1).2=0 then(d,⟨0,d.length,(dh (aec d 0).1).1⟩) else(d,⟨(dh (aec d 0).1).2,0,[]⟩))
 else(d,⟨4,0,[]⟩)
noncomputable def doF (d:Doc) (alb:Int) (a:ak7):(Doc×Int)×Rep:=
 if 100<=alb then((d,alb),⟨7,0,[]⟩) else(((alS d a).1,alb+1),(alS d a).2)
section
variable {P:Program} {G:Nat->Option (List IV)}
end

abbrev ao6 (P:Program) (G:Nat->Option (List IV)) (f:Nat) (args:List AV) (n:Nat) (cs:List IV):Prop:=
 Jg P G f args aeI [] λX R2=>X=(λlab=> .ptr (lab 0) n 0 0)/\R2=adx n [.agg cs]
def ao7 {P:Program} {G:Nat->Option (List IV)} {f:Nat} {n:Nat} {rs:List RO} {ac:AC} {args:List AV} {m:Nat} {cs:List IV}
  (hF:aw P G f=some (n,rs,ac.bare)) (hn:args.length<=n) (ha:ah args=[])
  (hg:go ⟨P,G,n⟩ (fX rs λx H'=>∃L,x= .ptr L m 0 0/\H' L= .live ⟨m,[cs.map IV.dQ]⟩) [.code ac] (jP args) Hp.none):ao6 P G f args m cs:=by
 refine⟨by rw[ha];simp,?_⟩;rw[agU];refine(WY hF hn (by intro l ⟨r,h⟩;simp[Hp.none] at h) (by rw[ha];simp) hg).mono ?_;rintro x H ⟨L,hx,hL⟩;refine⟨⟨λlab=> .ptr (lab 0) m 0 0,adx m [.agg cs],λ_=>L⟩,⟨rfl,rfl⟩,λρ=>rfl,λl hl=>⟨0,Y7.2 rfl,?_⟩,hx,⟨λp r hr=> ?_,λp q hp hq _=>(Y7.1 hp).trans (Y7.1 hq).symm⟩,tM⟩
 ·rw[hx] at hl;simpa[AV.an] using hl
 simp only[adx] at hr;by_cases h:p=0
 ·simp[h] at hr;subst hr;exact hL
 simp[h] at hr
def anB {S:St} {f:Nat} {args:List AV} {H:Hp} {k:AV->Hp->Prop} {u:Tw k} {m:Nat} {cs:List IV} (c:Nat) (F:Lb->AV) (h:Jg S.P S.G f args aeI [] λX R2=>X=(λlab=>F (lab 0))/\R2=adx m [.agg cs]) (ha:ah args=[]) (hN:∀l,H (NW c l)= .unused)
  (hk:∀l,k (F (NW c l)) (bD H (NW c l) (.live ⟨m,[cs.map IV.dQ]⟩))):C7 S f args H k u:=by
 refine WV (lab:=Lb.par) (N:=NW c) h (fZ _ _ ha).symm ⟨λp r hr=>by simp[aeI] at hr,λp q hp=>absurd hp Y8⟩ hN (aeH c) (λl _=> .inr λp hp=>absurd hp Y8) tM ?_;rintro X R2 U9 H2 ⟨rfl,rfl⟩ g1 g2 g3 g4 g5 g6;obtain⟨l,hl⟩:∃l,U9 0=NW c l:=by
  rcases g3 0 (Y7.2 rfl) with⟨p,hp,_⟩|h
  ·exact absurd hp Y8
  exact h
 have e:H2=bD H (NW c l) (.live ⟨m,[cs.map IV.dQ]⟩):=by
  funext q;by_cases hq:q=NW c l
  ·subst hq;rw[ae,P8 rfl,<-hl];exact g1.row 0 _ (by simp[adx,aB,IV.cells])
  rw[aq _ _ hq];by_cases wx:∃l',q=NW c l'
  ·obtain⟨l',rfl⟩:=wx;rw[hN l',g6 l' λp hp=>by rw[Y7.1 hp,hl];exact Ss hq]
  exact g4 q (λp hp=>absurd hp Y8) λl' e=>wx ⟨l',e⟩
 rw[e];have:=hk l;simpa only[hl] using this
def anC {S:St} {f:Nat} {args:List AV} {H:Hp} {k:AV->Hp->Prop} {u:Tw k} {m:Nat} {cs:List IV} (c:Nat) (h:ao6 S.P S.G f args m cs) (ha:ah args=[]) (hN:∀l,H (NW c l)= .unused)
  (hk:∀l,k (.ptr (NW c l) m 0 0) (bD H (NW c l) (.live ⟨m,[cs.map IV.dQ]⟩))):C7 S f args H k u:=
 anB c (λl=> .ptr l m 0 0) h ha hN hk

section
variable {P:Program} {G:Nat->Option (List IV)}
def alK (iJ l4:Nat):AC:=
(aM [aQ 2 (.new [.nil0])] (.seq (aM [MR 6 0,aQ 7 (.zu false (.t 6) (.c .jK))] (.cond (.t 7) (aM [aQ 8 (.sg [.nil0] []),gg (.store 1 (.t 2) (.t 8))] .ret) .skip)) (aM [aQ 3 (.new [.nil0])] (.seq (.gh .vk (aM [MR 9 0,aQ 10 (.dp (.t 9)),ep 11 10 0,ep 12 11 0,fm 13 12,oy 14 13,gH 15 0] (.block 0 (.loop (aM [et 16 .lss 15 14] (.seq (.cond (.t 16) .skip (.exit 0)) (.seq (.block 1 (aM [jL 17 13 15 5,gz 18 5 17,aQ 5 (.new [(.bool false),(.str []),.nil0,(.int .i64 0),.nil0]),gg (.store 5 (.t 5) (.t 18))] (.seq (.VL [ep 19 5 2,fm 20 19,aQ 21 (.call iJ [(.t 20)]),ep 22 5 4,fm 23 22,aQ 24 (.call l4 [(.t 23)]),ep 25 5 2,gg (.store 1 (.t 25) (.t 21)),ep 26 5 4,gg (.store 1 (.t 26) (.t 24))] [[],[0],[1],[],[3],[4,2],[0,1,2,3,4],[6,2,5,0,1,2,3,4],[0,1,2,3,4,5,6,7],[8,5,7,0,1,2,3,4,5,6,7]] [.no,.rw [.loc 5] [],.no,.no,.rw [.loc 5] [],.no,.no,.rw [] [.loc 5],.no,.rw [] [.loc 5]]) (.cq [ep 27 3 0,fm 28 27,gz 29 5 5,aQ 30 (.lits 1 5 [(.bool false),(.str []),.nil0,(.int .i64 0),.nil0] [(0,(.t 29))]),aQ 31 (.app (.t 28) (.t 30) 5 80),ep 32 3 0,gg (.store 1 (.t 32) (.t 31))])))) (.cq [eY 33 .add 15 1,MR 15 33])))))))) (.gh (.xd (.loc 1000) (.loc 3) 0) (aM [gz 34 1 3,gg (.store 1 (.t 2) (.t 34))] .ret))))))
def aqv {mm iJ l4:Nat} (hF:aw P G mm=some (35,[((some (some 1)),2)],(amc iJ l4).bare)) (d:Doc) (hd:zn d<=B) (alb:Int)
  (hA:∀x∈d,au P G iJ [.list (cD x.attrs)] (.list (cD x.attrs))) (hI:∀x∈d,au P G l4 [.list (x.kids.map xX)] (.list (x.kids.map xX))) :
  cR P G mm [.ptr (.par 0) 2 0 0] (stC d alb) (λx cs=>x=Doc.av d/\cs=stC d alb):=by
 have hF':aw P G mm=some (35,[((some (some 1)),2)],(alK iJ l4).bare):=hF;refine ang hF' tM aae aa3 ?_;have zo:B=1073741824:=rfl;have zR:=XR d;unfold alK;simp only[↓aX,mX,seval,Oj,stC,JQ,G_];rw[Ox];refine⟨_,_,Qm (q:= .loc 3) (cs:=[.nil0]) (j:=0) (d:=1000) (sz:=5) rfl rfl aat M3,?_⟩;simp only[↓aX,mX,seval];refine gb (σ:={i:Nat // i<=d.length}) (λ_=>[.par 0,.loc 2,.loc 3,.loc 1000]) (λ_ _=>false)
  (λq=>[(0,.ptr (.par 0) 2 0 0),(2,.ptr (.loc 2) 1 0 0),(3,.ptr (.loc 3) 1 0 0),(13,.list (d.map Node.iv)),(14,.int .i64 d.length),(15,.int .i64 q.1)])
  (λq=>[(.par 0,⟨2,[stC d alb]⟩),(.loc 2,⟨1,[[.nil0]]⟩),(.loc 3,⟨1,[[.sl (.loc 1000) 5 0 q.1]]⟩),(.loc 1000,⟨5,aB ((d.take q.1).map Node.iv)⟩)])
  (λq=>d.length - q.1) ⟨0,zd _⟩ (λ_=>rfl) (λq=>by simp[ah,AV.an]) ?_ ⟨[],?_⟩ ?_
 ·rintro q r hr cs bV l hl;simp only[PY,QN,QV] at hr;rcases hr with rfl|rfl|rfl|rfl
  ·simp only[bY] at bV;subst bV;simp[ah,AV.an,stC] at hl
  ·simp only[bY] at bV;subst bV;simp[ah,AV.an] at hl
  ·simp only[bY] at bV;subst bV;simp[ah,AV.an] at hl;subst hl;simp
  rw[bU bV] at hl;simp at hl
 ·refine⟨?_,?_,?_,aar,aar⟩
  ·intro l hf hu;left;cases l<;>simp[Lb.entry] at hf;rename_i n;by_cases e:n=0
   ·subst e;simp
   exfalso;apply hu;simp[ae,Hp.none,e]
  ·simp[k_,dn,bJ,put,jP]
  simp[tc,dn,ae,dO,bu,bJ,aB,stC]
 rintro⟨i,hi⟩;simp only;obtain⟨rs0,al5⟩:∃rs0,rs0=[(Lb.par 0,(⟨2,[stC d alb]⟩:Row)),(Lb.loc 2,⟨1,[[.nil0]]⟩),(Lb.loc 3,⟨1,[[.sl (.loc 1000) 5 0 i]]⟩),(Lb.loc 1000,⟨5,aB ((d.take i).map Node.iv)⟩)]:=⟨_,rfl⟩;rw[<-al5];have hU:∀d,d≠2->d≠3->d≠1000->ie (λ_=>false) rs0 (.loc d)= .unused:=λd h4 h5 h6=>by rw[al5,fE (by simp[h4,h5,h6])];rfl
 have nk:∀d,d≠0->ie (λ_=>false) rs0 (.par d)= .unused:=λd hd=>by rw[al5,fE (by simp[hd])];rfl
 have ij:ie (λ_=>false) rs0 (.par 0)= .live ⟨2,[stC d alb]⟩:=cL.2 (by simp[al5,kl,ae]);have hL2:ie (λ_=>false) rs0 (.loc 2)= .live ⟨1,[[.nil0]]⟩:=cL.2 (by simp[al5,kl,ae]);have qI:ie (λ_=>false) rs0 (.loc 3)= .live ⟨1,[[.sl (.loc 1000) 5 0 i]]⟩:=cL.2 (by simp[al5,kl,ae]);have hL9:ie (λ_=>false) rs0 (.loc 1000)= .live ⟨5,aB ((d.take i).map Node.iv)⟩:=cL.2 (by simp[al5,kl,ae]);generalize ie (λ_=>false) rs0=H0 at *;clear al5 rs0;by_cases bI:i<d.length
 ·obtain⟨x,hx⟩:∃x,d[i]?=some x:=⟨_,rX bI⟩;have hw:IntKind.i64.wrap ((i:Int)+1)=((i+1:Nat):Int):=wrap64 sf sf;have zB:(d.take (i+1)).map Node.iv=(d.take i).map Node.iv++[x.iv]:=by rw[Ro,hx];simp
  have hl5:((d.take i).map Node.iv).length=i:=by rw[G_,tp];omega
  simp only[↓aX,mX,seval,show decide ((i:Int)<(d.length:Int))=true by simpa using bI,Doc.XF hx,Xx,Node.cJ,Node.cs,hU 5 M3 M3 M3];have Md:=PX hx;refine⟨rfl,jw (hA x Md) ?_⟩;simp only[↓aX,mX,seval];refine jw (hI x Md) ?_;simp only[↓aX,mX,seval,qI];rw[qg 5 80 31 1000 ((d.take i).map Node.iv) (.agg [.bool x.text,.str x.s,.list (cD x.attrs),.int .i64 x.parent,.list (x.kids.map xX)]) (by simp[ae,hL9]) hl5 rfl x.uy sf M3 M3 (by simp[ae,hU])];simp only[↓aX,mX,seval,hw,qI];refine⟨⟨i+1,bI⟩,aac,[(.loc 1000,.loc 31)],?_,?_,?_,aar,?_⟩
  ·intro z hf hu;left;cases z<;>simp[Lb.entry] at hf;rename_i m;by_cases e:m=0
   ·subst e;simp
   exfalso;apply hu;simp[ae,nk m e]
  ·simp[k_,dn,bJ,put]
  ·have hr:∀xs:List IV,dO (dn [(.loc 1000,.loc 31)]) ⟨5,aB xs⟩=⟨5,aB xs⟩:=λxs=>dy _ _ _;simp only[tc,hr,zB];simp[dn,ae,dO,bu,bJ,Node.iv,Node.cs,stC,ij,hL2]
  intro z hz;simp only[PY,QN,QV] at hz;rcases hz with rfl|rfl|rfl|rfl<;>simp[dn,Lb.fresh,Lb.entry]
 have XV:i=d.length:=sf
 subst XV;simp only[↓aX,mX,seval,show decide ((d.length:Int)<(d.length:Int))=false by simp,Rk];rw[Rk] at hL9;refine⟨5,d.map Node.iv,0,d.length,[.sl (.loc 1000) 5 0 d.length],by first|rfl|exact hL9|exact qI,by first|rfl|exact hL9|exact qI,by first|rfl|exact hL9|exact qI,by first|rfl|exact hL9|exact qI|simp,tM,acH _,?_⟩
 simp only[↓aX,mX,seval,tn,P5 (show(d.map Node.iv).length<=d.length by simp),hL2];exact⟨stC d alb,⟨rfl,rfl⟩,aao,aa3,rfl,by simp[ae,ij]⟩
def amQ:Tree:= .mk false [100,111,99] [] []
def amj:amQ.d_=true:=M3
def amp:Doc:=lW amQ
def anU:Vo amp=true:=Yj amj
def amw (Vj:Nat):AC:=
(aM [aQ 0 (.iC (.c .jK))] (aM [aQ 4 (.sg [(.bool false),(.str []),.nil0,.nil0] [(1,(1,(.c (.str [100,111,99]))))]),aQ 5 (.call Vj [(.t 4)]),MR 3 5,ox 6 3 0,ox 7 3 1,aQ 1 (.new [.nil0]),gg (.store 1 (.t 1) (.t 6)),MR 2 7] (aM [gz 8 1 1,aQ 9 (.sg [.nil0,(.int .i64 0)] [(0,(1,(.t 8)))]),zzX 10 9,MR 0 10] .ret)))
def aqw {alg Vj:Nat} (hF:aw P G alg=some (11,[(none,0)],(amw Vj).bare)) (hM:au P G Vj [amQ.av] (.gf [Doc.av (Wo amQ).1,.int .i64 (Wo amQ).2])) :
  ao6 P G alg [] 2 [.list (amp.map Node.iv),.int .i64 0]:=by
 refine ao7 hF tM rfl ?_;have e:Wo amQ=(amp,0):=by unfold Wo;rw[P8 amj];rfl
 rw[e] at hM;have LZ:au P G Vj [.agg [.bool false,.str [100,111,99],.list [],.list []]] (.gf [.agg [.list (amp.map Node.iv)],.int .i64 0]):=hM;have hM2:au P G Vj [.agg [.bool false,.str [100,111,99],.nil0,.nil0]] (.gf [.agg [.list (amp.map Node.iv)],.int .i64 0]):=aoT LZ aae λw β H I vs h=>by
  simp only[br,RV] at h ⊢;obtain⟨v,us,rfl,⟨vs,rfl,v1,u1,rfl,h1,v2,u2,rfl,h2,v3,u3,rfl,h3,v4,u4,rfl,h4,rfl⟩,rfl⟩:=h;exact⟨_,[],rfl,⟨_,rfl,v1,_,rfl,h1,v2,_,rfl,h2,v3,_,rfl,by have:=am6 (w:=w) (β:=β) (H:=H) (I:=I) (v:=v3) (by simpa[RV] using h3);simpa[RV] using this,v4,_,rfl,by have:=am6 (w:=w) (β:=β) (H:=H) (I:=I) (v:=v4) (by simpa[RV] using h4);simpa[RV] using this,rfl⟩,rfl⟩
 unfold amw;simp only[↓aX,mX,seval];refine ay hM2 ?_;simp only[↓aX,mX,seval];exact⟨.loc 10,rfl,by simp[IV.dQ]⟩
end

def ak7.cJ (a:ak7):a.iv.cells=a.cs:=rfl
section
variable {P:Program} {G:Nat->Option (List IV)}
end

def tA:Tree:= .mk false [97] [] [.mk true [120] [] []]
def lnA:Bs:=[108,97,115,116,32,47,100,111,99,32,60,97,62,120,60,47,97,62]
def stD:List Step:=[⟨[100,111,99],0⟩]
def ap':ami [47,100,111,99]=some stD:=abL
def aq7:NQ [60,97,62,120,60,47,97,62]=([tA],0):=
 apt (l:=[tA]) M3 M3 M3 M3 M3
def aq8:ak8 lnA=(⟨2,0,[tA],[],[]⟩,stD,0):=by
 have e1:amt al8 (Bj 32 lnA).1=2:=M3
 have e2:Bj 32 (Bj 32 lnA).2.1=([47,100,111,99],[60,97,62,120,60,47,97,62],true):=M3
 unfold ak8;simp only[e1,e2,ap',aq7];rfl
def aqy:ali amp stD=([0],0):=by
 unfold ali;rw[P8 ⟨anU,M3⟩];rfl
def opA:Op:=⟨2,0,[tA],[],[]⟩
section
variable {P:Program} {G:Nat->Option (List IV)}
def apy {f:Nat} {args Ca:List AV} {cs:List AV} {R:AV->List AV->Prop} (h:cR P G f args cs R) (hl:∀l∈ah Ca,l= .par 0)
  (hv:∀(w:World) β H I vs,br w β H I Ca vs->br w β H I args vs):cR P G f Ca cs R:=
 ⟨hl,h.2.1,λw A β vs hr hq=>h.2.2 w A β vs hr (hv _ _ _ _ _ hq)⟩
def apT {f:Nat} {k:Int} {cs:List AV} {R:AV->List AV->Prop} (h:cR P G f [.ptr (.par 0) 2 0 0,(⟨k,[]⟩:ak7).av] cs R):cR P G f [.ptr (.par 0) 2 0 0,.agg [.int .i64 k,.nil0]] cs R:=
 apy h aae λw β H I vs h=>by
  simp only[br,RV,ak7.av,Ww] at h ⊢;obtain⟨v,us,rfl,h1,v2,us2,rfl,⟨vs2,rfl,v3,u3,rfl,h3,v4,u4,rfl,h4,rfl⟩,rfl⟩:=h;have:=am6 (w:=w) (β:=β) (H:=H) (I:=I) (v:=v4) (by simpa[RV] using h4);exact⟨v,_,rfl,h1,_,[],rfl,⟨_,rfl,v3,_,rfl,h3,v4,_,rfl,by simpa[RV] using this,rfl⟩,rfl⟩
end

def aoN (s:Bs):(OF s).1.length<=40:=by
 unfold OF;split
 ·simp
 split
 ·split
  ·rename_i h;simp only[plain,QH,dj] at h;have:=h.2;simp only;omega
  simp
 simp
def apV (s:Bs):dE (NQ s).1<=2^22:=by
 unfold NQ Pm;split
 ·simp[dE]
 split
 ·split
  ·rename_i h;have:=acC h;simp only;omega
  simp[dE]
 simp[dE]
def apW (s:Bs) (hs:s.length<=2^22):opB (ak8 s).1:=by
 have l1:=(alP 32 s).2;have l2:=(alP 32 (Bj 32 s).2.1).2;have l3:=(alP 61 (Bj 32 (Bj 32 s).2.1).2.1).1;have h0:opB op0:=⟨by simp[op0,dE],by simp[op0],by simp[op0]⟩;unfold ak8;simp only;split
 ·exact h0
 split
 ·exact h0
 split
 ·exact h0
 split
 ·exact⟨abB,aac,tM⟩
 split
 ·split
  ·split
   ·exact⟨abB,aac,by have:=aoN (Bj 61 (Bj 32 (Bj 32 s).2.1).2.1).2.1;simp only;omega⟩
   exact h0
  exact h0
 split
 ·split
  ·exact⟨abB,tM,by have:=aoN (Bj 32 (Bj 32 s).2.1).2.1;simp only;omega⟩
  exact h0
 split
 ·exact⟨abB,tM,tM⟩
 split
 ·exact⟨apV _,tM,tM⟩
 exact h0
end Go.Am
