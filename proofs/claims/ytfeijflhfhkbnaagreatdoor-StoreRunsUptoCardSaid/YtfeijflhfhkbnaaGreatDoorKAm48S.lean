import Derived.Test.YtfeijflhfhkbnaaGreatDoorKAc0S
import Derived.FnData
import Derived.LaidLaws
import Derived.Lib.LaidTab
set_option linter.all false
/- THE ABSTRACT MACHINE, part 48: a law of a program whose package variables are known; a nil slice handed where an empty list is asked. -/
namespace Go.Am
open Go Go.RowKit Go.ChangeShapes
def FA {w:World} {β:Lb->Option Nat} {H:Hp} {I:Nat->Prop} {v:Value} (h:RV w β H I .nil0 v):RV w β H I (.list []) v:=by
 simp only[RV] at h;obtain⟨a,rfl⟩:=h;simp only[RV,iM,U_];exact⟨a,0,rfl,af6 _,agO _,.inl rfl⟩
def Md {P:Program} {G:Nat->Option (List IV)} {f:Nat} {args B9:List AV} {res:AV} (h:aj P G f args res) (hl:ai B9=[])
  (hv:∀(w:World) β H I vs,bA w β H I B9 vs->bA w β H I args vs):aj P G f B9 res:=
 ⟨hl,h.2.1,λw A β vs hr hq=>h.2.2 w A β vs hr (hv _ _ _ _ _ hq)⟩
section
variable {P:Program} {G:Nat->Option (List IV)}
def zR (P:Program) (G:Nat->Option (List IV)) (W:World):Prop:=∀g cs,G g=some cs->g<W.heap.size/\dD W (λ_=>True) cs g
def Me {W:World} (hG:zR P G W):aO (cH P G W (λ_=>True) mW Hp.none) mW Env.any Hp.none sO W:=by
 have hI:∀k,Im (cH P G W (λ_=>True) mW Hp.none) mW Hp.none k:=λk=>⟨.inl trivial,λl ⟨r,h⟩=>by simp[Hp.none] at h⟩
 exact { defers := rfl,size := rfl
         jc:=λn=>by simp[Env.any,RV]
         rows:=λl r h=>by simp[Hp.none] at h
         own:=λl g ⟨r,h⟩=>by simp[Hp.none] at h
         inj:=λl l' g ⟨r,h⟩=>by simp[Hp.none] at h
         iq:=λn=>by simp[Env.any,AV.aq]
         cB:=λl r h=>by simp[Hp.none] at h
         frame:=⟨rfl,rfl,rfl,af6 _,λ_ _ _=>rfl,λ_ _ h=>h⟩
         jv:=λl ⟨r,h⟩=>by simp[cH,Hp.none] at h
         fr:=λl g ⟨r,h⟩=>by simp[Hp.none] at h
         iO:=λg cs hg=>by
           obtain⟨h1,h2⟩:=hG g cs hg
           exact⟨hI g,h1,dD.mono ⟨λk _ hs=>⟨hI k,hs,rfl⟩⟩ trivial h1 h2⟩}
def Mf {f:Nat} {args:List AV} {res:AV} {vs:List Value} {W:World} (hG:zR P G W) (hp:aj P G f args res) (hv:bA W mW Hp.none (λ_=>True) args vs) :
  Calls P f vs.toArray W λe W'=>∃v,e= .returned v/\Below W.heap.size W W'/\RV W' mW Hp.none (λ_=>True) res v:=by
 have hI:∀k,Im (cH P G W (λ_=>True) mW Hp.none) mW Hp.none k:=λk=>⟨.inl trivial,λl ⟨r,h⟩=>by simp[Hp.none] at h⟩;refine(wm (Me hG) hp (bA.mono _ _ ?_ hv) trivial).mono ?_
 ·exact aak
 exact aaf
end
section
variable {H:Type} {enc:TypeId×Value->H} {P:Program} {G:Nat->Option (List IV)}
def sU (B:Bk H) {T:List TypeId} (hT:∀t∈T,XR P T t=true) {f:Nat} {fn:Func} {s:ChangeSpec} {apart fresh handsOn again:Bool} {tb:TypeId} (hl:laidOutB P=true)
  (hp:∀t∈fn.params.toList,t∈T) (hr:fn.params.toList.all (Dr P)=true) (Db:fn.resultTypes=#[tb]) (hub:P.underlying tb=some .bool) (E9:s.vars=[])
  (W:World) (base:Nat) (args:Array Value) (ds gs:List (DataW H)) (before:List MemPlace) (hG:zR P G W)
  (L2:∀ds:List (DataW H),ds.length=fn.params.toList.length->s.fn H ds={results:=[.lit (.bool true)],args:=ds})
  (tq:∀(j:Nat) t v,fn.params[j]?=some t->args[j]?=some v->Value.okWide P W .any base t v)
  (hW:DataW.Whole enc P fn.params.toList s.vars apart W args.toList ds gs before)
  (hg:∀ys,Shs P fn.params.toList ys->ox ys<=(ds.map B.bk).sum->aj P G f (ys.map IV.av) (.bool true)) :
  Calls P f args W λe W'=>∃v,e= .returned v/\s.post enc P fn apart fresh handsOn again W args v W':=by
 have hW':=hW;obtain⟨p,q,hA,hV,rfl,hz,hn⟩:=hW';obtain⟨ys,h1,h2,h3⟩:=J9 B hT hp (λj t v a b=>tq j t v (by simpa using a) (by simpa using b)) hA;have:=Mf hG (hg ys h1 h2) h3;simp only[Array.toArray_toList] at this;refine this.mono ?_;rintro e W' ⟨v,rfl,hb,hv⟩;simp only[RV] at hv;subst hv;exact⟨_,rfl,Pa hl hr Db hub E9 (L2 ds (xJ hA)) hW hb⟩
end
end Go.Am

namespace Go.Am
open Go Go.RowKit
theorem Cp {w:World} {I:Nat->Prop} {b:Nat}:∀(xs:List IV) (o:Nat),(∀(i:Nat) (x:IV),xs[i]?=some x->∃v,w.cell? ⟨b,o+i,none⟩=some v/\iM w I x v)->b7 w I xs b o
 |[],o,_=>by simp[b7]
 |x::r,o,h=>by
  simp only[b7];refine⟨by simpa using h 0 x rfl,Cp r (o+1) λi y hy=> ?_⟩;have:=h (i+1) y anT
  rwa[show o+(i+1)=o+1+i by omega] at this
def rP {P:Program} {W:World} {n:String} {g:Nat} {cs:Array Value} {xs:List IV} (hg:P.globalNamed n=some g) (hv:W.var? P n=some cs) (hl:cs.size=xs.length)
  (hx:∀(i:Nat) (x:IV),xs[i]?=some x->∃v,cs[i]?=some v/\iM W (λ_=>True) x v):g<W.heap.size/\dD W (λ_=>True) xs g:=by
 have HQ:=hv;unfold World.var? at HQ;rw[hg] at HQ;simp only[af_] at HQ;split at HQ
 ·rename_i c a b hc;simp only[afZ] at HQ;subst HQ;refine⟨(agS.1 hc).1,Cp xs 0 λi x hi=> ?_,?_⟩
  ·obtain⟨v,e1,e2⟩:=hx i x hi;exact⟨v,by rw[agh,World.var?_cell hg hv i];exact e1,e2⟩
  unfold oy;rw[hc];simp only[hl]
 cases HQ
def Yc {P:Program} {W:World} {n:String} {g:Nat} {cs:Array Value} {k:IntKind} {zs:List Int} (hg:P.globalNamed n=some g) (hv:W.var? P n=some cs) (h:cs.toList=zs.map λz=>Value.int k z) :
  g<W.heap.size/\dD W (λ_=>True) (zs.map λz=>IV.int k z) g:=by
 have hc:cs=(zs.map λz=>Value.int k z).toArray:=by rw[<-h]
 subst hc;refine rP hg hv ajL λi x hi=> ?_;rw[ago] at hi;obtain⟨z,hz,rfl⟩:=acF.1 hi;exact⟨.int k z,akI,by simp[iM]⟩
def Ps {P:Program} {W:World} {n:String} {g:Nat} {cs:Array Value} {zs:List (List UInt8)} (hg:P.globalNamed n=some g) (hv:W.var? P n=some cs) (h:cs.toList=zs.map λz=>Value.string ⟨z.toArray⟩) :
  g<W.heap.size/\dD W (λ_=>True) (zs.map IV.str) g:=by
 have hc:cs=(zs.map λz=>Value.string ⟨z.toArray⟩).toArray:=by rw[<-h]
 subst hc;refine rP hg hv ajL λi x hi=> ?_;rw[ago] at hi;obtain⟨z,hz,rfl⟩:=acF.1 hi;exact⟨.string ⟨z.toArray⟩,akI,by simp[iM]⟩
def Pt {P:Program} {W:World} {n:String} {g:Nat} {u:TypeId} {v:Value} {cs:Array Value} (hg:P.globalNamed n=some g) (hv:W.var? P n=some cs) (h:cs.toList=[.iface u v]) :
  g<W.heap.size/\dD W (λ_=>True) [.ifc u] g:=by
 have hc:cs=#[.iface u v]:=by cases cs;simp at h;subst h;rfl
 subst hc;refine rP hg hv rfl λi x hi=> ?_
 match i with
 |0=>simp at hi;subst hi;exact⟨_,rfl,⟨_,rfl⟩⟩
 |i+1=>simp at hi
def sV {H:Type} {enc:TypeId×Value->H} {P:Program} {w:World} {base:Nat} {sp:Nat->Bool} {held:Bool} {fuel:Nat} {t e:TypeId} {n:Nat} {cs:List Value} {zs:List (List UInt8)} {p:List MemPlace}
  (ht:P.underlying t=some (.array n e)) (he:P.underlying e=some .string) (Z1:P.cellsOf e=1) (hct:P.cellsOf t=n)
  (h:DataW.trod enc P w base sp held fuel t cs=some (.agg (zs.map λz=> .lit (.string z)),p)):cs=zs.map λz=>Value.string ⟨z.toArray⟩:=by
 cases fuel with
 |zero=>simp[DataW.trod] at h
 |succ fuel=>
 simp only[DataW.trod,ht,Z1,hct,ajp] at h;split at h
 ·rename_i hl;obtain⟨xs,hm,hx⟩:=acF.1 h;have JL:xs.map (·.1)=zs.map λz=>(DataW.lit (.string z):DataW H):=by
   have:=ahp Prod.fst hx;simpa using this
  have Sg:xs.length=n:=by simpa using Lib.mapM_length hm
  have SC:zs.length=n:=by
   have:=ahp List.length JL;simp at this;omega
  apply agV;intro i;by_cases hi:i<n
  ·obtain⟨b,hb,hf⟩:=Lib.mapM_at hm i i amy;obtain⟨z,hc,hz,_⟩:=DataW.trod_string he hf;have h1:cs[i]?=some (.string z):=by
    have:=ahp (·[0]?) hc;simpa[agG,ahv] using this
   have h2:(xs.map (·.1))[i]?=some b.1:=(by simp[hb]);rw[JL,hz] at h2;simp only[ago,acF,DataW.lit.injEq,Lit.string.injEq] at h2;obtain⟨z',hz',e⟩:=h2;simp only[h1,ago,hz',af9];cases z with
   |mk a=>simp only at e;subst e;simp
  rw[agK ajK,agK ajY]
 cases h
end Go.Am
