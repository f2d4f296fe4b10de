import Derived.Test.YtfinkeaikbmpgaaDoorKAm25
import Derived.FnData
import Derived.LaidLaws
import Derived.Lib.LaidTab
set_option linter.unusedSimpArgs false
set_option linter.unusedVariables false
set_option linter.unnecessarySimpa false
set_option linter.defProp false
/- THE ABSTRACT MACHINE, part 48: a law of a program whose package variables are known; a nil slice handed where an empty list is asked. -/
namespace Go.Am
open Go Go.RowKit Go.ChangeShapes
def nr {w:World} {β:Lb→Option Nat} {H:Hp} {I:Nat→Prop} {v:Value} (h:RV w β H I .nil0 v):RV w β H I (.list []) v:=by
 simp only[RV] at h;obtain⟨a,rfl⟩:=h;simp only[RV,de,vS];exact⟨a,0,rfl,FJ _,HL _,.inl rfl⟩
def qj {P:Program} {G:Nat→Option (List IV)} {f:Nat} {args lr:List AV} {res:AV} (h:aw P G f args res) (hl:af lr=[])
  (hv:∀(w:World) β H I vs,aI w β H I lr vs→aI w β H I args vs):aw P G f lr res:=
 ⟨hl,h.2.1,fun w A β vs hr hq=>h.2.2 w A β vs hr (hv _ _ _ _ _ hq)⟩
section
variable {P:Program} {G:Nat→Option (List IV)}
def l_ (P:Program) (G:Nat→Option (List IV)) (W:World):Prop:=∀g cs,G g=some cs→g<W.heap.size∧b8 W (fun _=>True) cs g
def qk {W:World} (hG:l_ P G W):au (bO P G W (fun _=>True) eM Hp.none) eM Env.any Hp.none jq W:=by
 have hI:∀k,Im (bO P G W (fun _=>True) eM Hp.none) eM Hp.none k:=fun k=>⟨.inl trivial,fun l ⟨r,h⟩=>by simp[Hp.none] at h⟩
 exact { defers := rfl,size := rfl
         ey:=fun n=>by simp[Env.any,RV]
         rows:=fun l r h=>by simp[Hp.none] at h
         own:=fun l g ⟨r,h⟩=>by simp[Hp.none] at h
         inj:=fun l l' g ⟨r,h⟩=>by simp[Hp.none] at h
         dp:=fun n=>by simp[Env.any,AV.ax]
         bL:=fun l r h=>by simp[Hp.none] at h
         frame:=⟨rfl,rfl,rfl,FJ _,fun _ _ _=>rfl,fun _ _ h=>h⟩
         eD:=fun l ⟨r,h⟩=>by simp[bO,Hp.none] at h
         fr:=fun l g ⟨r,h⟩=>by simp[Hp.none] at h
         eh:=fun g cs hg=>by
           obtain⟨h1,h2⟩:=hG g cs hg
           exact⟨hI g,h1,b8.mono ⟨fun k _ hs=>⟨hI k,hs,rfl⟩⟩ trivial h1 h2⟩}
def ql {f:Nat} {args:List AV} {res:AV} {vs:List Value} {W:World} (hG:l_ P G W) (hp:aw P G f args res) (hv:aI W eM Hp.none (fun _=>True) args vs) :
  Calls P f vs.toArray W fun e W'=>∃v,e= .returned v∧Below W.heap.size W W'∧RV W' eM Hp.none (fun _=>True) res v:=by
 have hI:∀k,Im (bO P G W (fun _=>True) eM Hp.none) eM Hp.none k:=fun k=>⟨.inl trivial,fun l ⟨r,h⟩=>by simp[Hp.none] at h⟩;refine(iU (qk hG) hp (aI.mono _ _ ?_ hv) trivial).mono ?_
 ·exact {im:=fun k _ hs=>⟨hI k,hs,rfl⟩,lb:=fun l _ ⟨r,h⟩=>by simp[Hp.none] at h}
 rintro e W' ⟨v,rfl,h1,h2⟩;refine⟨v,rfl,h1,RV.mono _ _ ?_ h2⟩;exact {im:=fun k _ hs=>⟨trivial,hs,rfl⟩,lb:=fun l _ ⟨r,h⟩=>by simp[Hp.none] at h}
end
section
variable {H:Type} {enc:TypeId×Value→H} {P:Program} {G:Nat→Option (List IV)}
def kS (B:Bk H) {T:List TypeId} (hT:∀t∈T,yc P T t=true) {f:Nat} {fn:Func} {s:ChangeSpec} {apart fresh handsOn again:Bool} {tb:TypeId} (hl:laidOutB P=true)
  (hp:∀t∈fn.params.toList,t∈T) (hr:fn.params.toList.all (l5 P)=true) (mO:fn.resultTypes=#[tb]) (BB:P.underlying tb=some .bool) (ng:s.vars=[])
  (W:World) (base:Nat) (args:Array Value) (ds gs:List (DataW H)) (before:List MemPlace) (hG:l_ P G W)
  (rq:∀ds:List (DataW H),ds.length=fn.params.toList.length→s.fn H ds={results:=[.lit (.bool true)],args:=ds})
  (ko:∀(j:Nat) t v,fn.params[j]?=some t→args[j]?=some v→Value.okWide P W .any base t v)
  (hW:DataW.Whole enc P fn.params.toList s.vars apart W args.toList ds gs before)
  (hg:∀ys,AF P fn.params.toList ys→kQ ys≤(ds.map B.bk).sum→aw P G f (ys.map IV.av) (.bool true)) :
  Calls P f args W fun e W'=>∃v,e= .returned v∧s.post enc P fn apart fresh handsOn again W args v W':=by
 have BC:=hW;obtain⟨p,q,hA,hV,rfl,hz,hn⟩:=BC;obtain⟨ys,h1,h2,h3⟩:=pd B hT hp (fun j t v a b=>ko j t v (by simpa using a) (by simpa using b)) hA;have:=ql hG (hg ys h1 h2) h3;simp only[Array.toArray_toList] at this;refine this.mono ?_;rintro e W' ⟨v,rfl,hb,hv⟩;simp only[RV] at hv;subst hv;exact⟨_,rfl,r9 hl hr mO BB ng (rq ds (jx hA)) hW hb⟩
end
end Go.Am

namespace Go.Am
open Go Go.RowKit
theorem lA {w:World} {I:Nat→Prop} {b:Nat}:∀(xs:List IV) (o:Nat),(∀(i:Nat) (x:IV),xs[i]?=some x→∃v,w.cell? ⟨b,o+i,none⟩=some v∧de w I x v)→aR w I xs b o
 |[],o,_=>by simp[aR]
 |x::r,o,h=>by
  simp only[aR];refine⟨by simpa using h 0 x rfl,lA r (o+1) fun i y hy=> ?_⟩;have:=h (i+1) y (by simpa using hy)
  rwa[show o+(i+1)=o+1+i by omega] at this
def lB {P:Program} {W:World} {n:String} {g:Nat} {cs:Array Value} {xs:List IV} (hg:P.globalNamed n=some g) (hv:W.var? P n=some cs) (hl:cs.size=xs.length)
  (hx:∀(i:Nat) (x:IV),xs[i]?=some x→∃v,cs[i]?=some v∧de W (fun _=>True) x v):g<W.heap.size∧b8 W (fun _=>True) xs g:=by
 have uf:=hv;unfold World.var? at uf;rw[hg] at uf;simp only[Fy] at uf;split at uf
 ·rename_i c a b hc;simp only[cQ] at uf;subst uf;refine⟨(FL.1 hc).1,lA xs 0 fun i x hi=> ?_,?_⟩
  ·obtain⟨v,e1,e2⟩:=hx i x hi;exact⟨v,by rw[F1,World.var?_cell hg hv i];exact e1,e2⟩
  unfold fi;rw[hc];simp only[hl]
 cases uf
def yE {P:Program} {W:World} {n:String} {g:Nat} {cs:Array Value} {k:IntKind} {zs:List Int} (hg:P.globalNamed n=some g) (hv:W.var? P n=some cs) (h:cs.toList=zs.map fun z=>Value.int k z) :
  g<W.heap.size∧b8 W (fun _=>True) (zs.map fun z=>IV.int k z) g:=by
 have hc:cs=(zs.map fun z=>Value.int k z).toArray:=by rw[←h]
 subst hc;refine lB hg hv (by simp) fun i x hi=> ?_;rw[F9] at hi;obtain⟨z,hz,rfl⟩:=Fu.1 hi;exact⟨.int k z,by simp[hz],by simp[de]⟩
def sG {P:Program} {W:World} {n:String} {g:Nat} {u:TypeId} {v:Value} {cs:Array Value} (hg:P.globalNamed n=some g) (hv:W.var? P n=some cs) (h:cs.toList=[.iface u v]) :
  g<W.heap.size∧b8 W (fun _=>True) [.ifc u] g:=by
 have hc:cs=#[.iface u v]:=by cases cs;simp at h;subst h;rfl
 subst hc;refine lB hg hv rfl fun i x hi=> ?_
 match i with
 |0=>simp at hi;subst hi;exact⟨_,rfl,⟨_,rfl⟩⟩
 |i+1=>simp at hi
end Go.Am
