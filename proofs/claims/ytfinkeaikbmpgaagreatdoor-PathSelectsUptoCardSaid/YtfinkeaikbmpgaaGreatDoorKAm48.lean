import Derived.Test.YtfinkeaikbmpgaaGreatDoorKAm25
import Derived.FnData
import Derived.LaidLaws
import Derived.Lib.LaidTab
set_option linter.unusedSimpArgs false
set_option linter.unusedVariables false
set_option linter.unnecessarySimpa false
set_option linter.defProp false
/- THE ABSTRACT MACHINE, part 48: a law of a program whose package variables are known; a nil slice handed where an empty list is asked. -/
namespace Go.Am
open Go Go.RowKit Go.ChangeShapes
theorem sV {w:World} {β:Lb→Option Nat} {H:Hp} {I:Nat→Prop} {v:Value} (h:RV w β H I .nil0 v):RV w β H I (.list []) v:=by
 simp only[RV] at h;obtain⟨a,rfl⟩:=h;simp only[RV,eT,B8];exact⟨a,0,rfl,Nat.le_refl _,Nat.zero_le _,.inl rfl⟩
theorem wV {P:Program} {G:Nat→Option (List IV)} {f:Nat} {args pH:List AV} {res:AV} (h:ai P G f args res) (hl:ah pH=[])
  (hv:∀(w:World) β H I vs,bo w β H I pH vs→bo w β H I args vs):ai P G f pH res:=
 ⟨hl,h.2.1,fun w A β vs hr hq=>h.2.2 w A β vs hr (hv _ _ _ _ _ hq)⟩
section
variable {P:Program} {G:Nat→Option (List IV)}
def qX (P:Program) (G:Nat→Option (List IV)) (W:World):Prop:=∀g cs,G g=some cs→g<W.heap.size∧da W (fun _=>True) cs g
theorem wW {W:World} (hG:qX P G W):aM (cV P G W (fun _=>True) il Hp.none) il Env.any Hp.none mW W:=by
 have hI:∀k,Im (cV P G W (fun _=>True) il Hp.none) il Hp.none k:=fun k=>⟨.inl trivial,fun l ⟨r,h⟩=>by simp[Hp.none] at h⟩
 exact { defers := rfl,size := rfl
         gg:=fun n=>by simp[Env.any,RV]
         rows:=fun l r h=>by simp[Hp.none] at h
         own:=fun l g ⟨r,h⟩=>by simp[Hp.none] at h
         inj:=fun l l' g ⟨r,h⟩=>by simp[Hp.none] at h
         eB:=fun n=>by simp[Env.any,AV.ar]
         cB:=fun l r h=>by simp[Hp.none] at h
         frame:=⟨rfl,rfl,rfl,Nat.le_refl _,fun _ _ _=>rfl,fun _ _ h=>h⟩
         fX:=fun l ⟨r,h⟩=>by simp[cV,Hp.none] at h
         fr:=fun l g ⟨r,h⟩=>by simp[Hp.none] at h
         fI:=fun g cs hg=>by
           obtain⟨h1,h2⟩:=hG g cs hg
           exact⟨hI g,h1,da.mono ⟨fun k _ hs=>⟨hI k,hs,rfl⟩⟩ trivial h1 h2⟩}
theorem wX {f:Nat} {args:List AV} {res:AV} {vs:List Value} {W:World} (hG:qX P G W) (hp:ai P G f args res) (hv:bo W il Hp.none (fun _=>True) args vs) :
  Calls P f vs.toArray W fun e W'=>∃v,e= .returned v∧Below W.heap.size W W'∧RV W' il Hp.none (fun _=>True) res v:=by
 have hI:∀k,Im (cV P G W (fun _=>True) il Hp.none) il Hp.none k:=fun k=>⟨.inl trivial,fun l ⟨r,h⟩=>by simp[Hp.none] at h⟩
 refine(mA (wW hG) hp (bo.mono _ _ ?_ hv) trivial).mono ?_
 ·exact {im:=fun k _ hs=>⟨hI k,hs,rfl⟩,lb:=fun l _ ⟨r,h⟩=>by simp[Hp.none] at h}
 ·rintro e W' ⟨v,rfl,h1,h2⟩;refine⟨v,rfl,h1,RV.mono _ _ ?_ h2⟩;exact {im:=fun k _ hs=>⟨trivial,hs,rfl⟩,lb:=fun l _ ⟨r,h⟩=>by simp[Hp.none] at h}
end
section
variable {H:Type} {enc:TypeId×Value→H} {P:Program} {G:Nat→Option (List IV)}
theorem pq (B:Bk H) {T:List TypeId} (hT:∀t∈T,DR P T t=true) {f:Nat} {fn:Func} {s:ChangeSpec} {apart fresh handsOn again:Bool} {tb:TypeId} (hl:laidOutB P=true)
  (hp:∀t∈fn.params.toList,t∈T) (hr:fn.params.toList.all (qA P)=true) (rG:fn.resultTypes=#[tb]) (Hq:P.underlying tb=some .bool) (rS:s.vars=[])
  (W:World) (base:Nat) (args:Array Value) (ds gs:List (DataW H)) (before:List MemPlace) (hG:qX P G W)
  (xK:∀ds:List (DataW H),ds.length=fn.params.toList.length→s.fn H ds={results:=[.lit (.bool true)],args:=ds})
  (od:∀(j:Nat) t v,fn.params[j]?=some t→args[j]?=some v→Value.okWide P W .any base t v)
  (hW:DataW.Whole enc P fn.params.toList s.vars apart W args.toList ds gs before)
  (hg:∀ys,Gd P fn.params.toList ys→jE ys≤(ds.map B.bk).sum→ai P G f (ys.map IV.av) (.bool true)) :
  Calls P f args W fun e W'=>∃v,e= .returned v∧s.post enc P fn apart fresh handsOn again W args v W':=by
 have Hr:=hW;obtain⟨p,q,hA,hV,rfl,hz,hn⟩:=Hr;obtain⟨ys,h1,h2,h3⟩:=vf B hT hp (fun j t v a b=>od j t v (by simpa using a) (by simpa using b)) hA;have:=wX hG (hg ys h1 h2) h3;simp only[Array.toArray_toList] at this;refine this.mono ?_;rintro e W' ⟨v,rfl,hb,hv⟩;simp only[RV] at hv;subst hv;exact⟨_,rfl,yk hl hr rG Hq rS (xK ds (nb hA)) hW hb⟩
end
end Go.Am

/- THE ABSTRACT MACHINE, part 54: what a row lays, as what is known of the package variables. -/
namespace Go.Am
open Go Go.RowKit
theorem qc {w:World} {I:Nat→Prop} {b:Nat}:∀(xs:List IV) (o:Nat),(∀(i:Nat) (x:IV),xs[i]?=some x→∃v,w.cell? ⟨b,o+i,none⟩=some v∧eT w I x v)→bH w I xs b o
 |[],o,_=>by simp[bH]
 |x::r,o,h=>by
  simp only[bH];refine⟨by simpa using h 0 x rfl,qc r (o+1) fun i y hy=> ?_⟩;have:=h (i+1) y (by simpa using hy)
  rwa[show o+(i+1)=o+1+i by omega] at this
theorem qd {P:Program} {W:World} {n:String} {g:Nat} {cs:Array Value} {xs:List IV} (hg:P.globalNamed n=some g) (hv:W.var? P n=some cs) (hl:cs.size=xs.length)
  (hx:∀(i:Nat) (x:IV),xs[i]?=some x→∃v,cs[i]?=some v∧eT W (fun _=>True) x v):g<W.heap.size∧da W (fun _=>True) xs g:=by
 have Aw:=hv;unfold World.var? at Aw;rw[hg] at Aw;simp only[Option.bind_some] at Aw;split at Aw
 ·rename_i c a b hc;simp only[Option.some.injEq] at Aw;subst Aw;refine⟨(Array.getElem?_eq_some_iff.1 hc).1,qc xs 0 fun i x hi=> ?_,?_⟩
  ·obtain⟨v,e1,e2⟩:=hx i x hi;exact⟨v,by rw[Nat.zero_add,World.var?_cell hg hv i];exact e1,e2⟩
  ·unfold iX;rw[hc];simp only[hl]
 ·cases Aw
theorem ER {P:Program} {W:World} {n:String} {g:Nat} {cs:Array Value} {k:IntKind} {zs:List Int} (hg:P.globalNamed n=some g) (hv:W.var? P n=some cs) (h:cs.toList=zs.map fun z=>Value.int k z) :
  g<W.heap.size∧da W (fun _=>True) (zs.map fun z=>IV.int k z) g:=by
 have hc:cs=(zs.map fun z=>Value.int k z).toArray:=by rw[←h]
 subst hc;refine qd hg hv (by simp) fun i x hi=> ?_
 rw[List.getElem?_map] at hi;obtain⟨z,hz,rfl⟩:=Option.map_eq_some_iff.1 hi;exact⟨.int k z,by simp[hz],by simp[eT]⟩
theorem zK {P:Program} {W:World} {n:String} {g:Nat} {u:TypeId} {v:Value} {cs:Array Value} (hg:P.globalNamed n=some g) (hv:W.var? P n=some cs) (h:cs.toList=[.iface u v]) :
  g<W.heap.size∧da W (fun _=>True) [.ifc u] g:=by
 have hc:cs=#[.iface u v]:=by cases cs;simp at h;subst h;rfl
 subst hc;refine qd hg hv rfl fun i x hi=> ?_
 match i with
 |0=>simp at hi;subst hi;exact⟨_,rfl,⟨_,rfl⟩⟩
 |i+1=>simp at hi
end Go.Am
