import Derived.Test.YtfinkeaikbmpgaaGreatDoorKAm25
import Derived.FnData
import Derived.LaidLaws
import Derived.Lib.LaidTab
set_option linter.unusedSimpArgs false
set_option linter.unusedVariables false
set_option linter.unnecessarySimpa false
set_option linter.defProp false
/- THE ABSTRACT MACHINE, part 48: a law of a program whose package variables are known; a nil slice handed where an empty list is asked. -/
namespace Go.Am
open Go Go.RowKit Go.ChangeShapes
def AI {w:World} {β:Lb→Option Nat} {H:Hp} {I:Nat→Prop} {v:Value} (h:RV w β H I .nil0 v):RV w β H I (.list []) v:=by
 simp only[RV] at h;obtain⟨a,rfl⟩:=h;simp only[RV,kP,Ts];exact⟨a,0,rfl,adw _,ad3 _,.inl rfl⟩
def KZ {P:Program} {G:Nat→Option (List IV)} {f:Nat} {args vm:List AV} {res:AV} (h:aw P G f args res) (hl:ah vm=[])
  (hv:∀(w:World) β H I vs,cM w β H I vm vs→cM w β H I args vs):aw P G f vm res:=
 ⟨hl,h.2.1,fun w A β vs hr hq=>h.2.2 w A β vs hr (hv _ _ _ _ _ hq)⟩
section
variable {P:Program} {G:Nat→Option (List IV)}
def DI (P:Program) (G:Nat→Option (List IV)) (W:World):Prop:=∀g cs,G g=some cs→g<W.heap.size∧gX W (fun _=>True) cs g
def K0 {W:World} (hG:DI P G W):bu (fm P G W (fun _=>True) pL Hp.none) pL Env.any Hp.none wv W:=by
 have hI:∀k,Im (fm P G W (fun _=>True) pL Hp.none) pL Hp.none k:=fun k=>⟨.inl trivial,fun l ⟨r,h⟩=>by simp[Hp.none] at h⟩
 exact { defers := rfl,size := rfl
         mS:=fun n=>by simp[Env.any,RV]
         rows:=fun l r h=>by simp[Hp.none] at h
         own:=fun l g ⟨r,h⟩=>by simp[Hp.none] at h
         inj:=fun l l' g ⟨r,h⟩=>by simp[Hp.none] at h
         kL:=fun n=>by simp[Env.any,AV.aB]
         fk:=fun l r h=>by simp[Hp.none] at h
         frame:=⟨rfl,rfl,rfl,adw _,fun _ _ _=>rfl,fun _ _ h=>h⟩
         nF:=fun l ⟨r,h⟩=>by simp[fm,Hp.none] at h
         fr:=fun l g ⟨r,h⟩=>by simp[Hp.none] at h
         l_:=fun g cs hg=>by
           obtain⟨h1,h2⟩:=hG g cs hg
           exact⟨hI g,h1,gX.mono ⟨fun k _ hs=>⟨hI k,hs,rfl⟩⟩ trivial h1 h2⟩}
def K1 {f:Nat} {args:List AV} {res:AV} {vs:List Value} {W:World} (hG:DI P G W) (hp:aw P G f args res) (hv:cM W pL Hp.none (fun _=>True) args vs) :
  Calls P f vs.toArray W fun e W'=>∃v,e= .returned v∧Below W.heap.size W W'∧RV W' pL Hp.none (fun _=>True) res v:=by
 have hI:∀k,Im (fm P G W (fun _=>True) pL Hp.none) pL Hp.none k:=fun k=>⟨.inl trivial,fun l ⟨r,h⟩=>by simp[Hp.none] at h⟩;refine(xE (K0 hG) hp (cM.mono _ _ ?_ hv) trivial).mono ?_
 ·exact {im:=fun k _ hs=>⟨hI k,hs,rfl⟩,lb:=fun l _ ⟨r,h⟩=>by simp[Hp.none] at h}
 rintro e W' ⟨v,rfl,h1,h2⟩;refine⟨v,rfl,h1,RV.mono _ _ ?_ h2⟩;exact {im:=fun k _ hs=>⟨trivial,hs,rfl⟩,lb:=fun l _ ⟨r,h⟩=>by simp[Hp.none] at h}
end
section
variable {H:Type} {enc:TypeId×Value→H} {P:Program} {G:Nat→Option (List IV)}
def iE (B:Bk H) {T:List TypeId} (hT:∀t∈T,VX P T t=true) {f:Nat} {fn:Func} {s:ChangeSpec} {apart fresh handsOn again:Bool} {tb:TypeId} (hl:laidOutB P=true)
  (hp:∀t∈fn.params.toList,t∈T) (hr:fn.params.toList.all (DC P)=true) (BN:fn.resultTypes=#[tb]) (hub:P.underlying tb=some .bool) (EX:s.vars=[])
  (W:World) (base:Nat) (args:Array Value) (ds gs:List (DataW H)) (before:List MemPlace) (hG:DI P G W)
  (vi:∀ds:List (DataW H),ds.length=fn.params.toList.length→s.fn H ds={results:=[.lit (.bool true)],args:=ds})
  (ka:∀(j:Nat) t v,fn.params[j]?=some t→args[j]?=some v→Value.okWide P W .any base t v)
  (hW:DataW.Whole enc P fn.params.toList s.vars apart W args.toList ds gs before)
  (hg:∀ys,ZB P fn.params.toList ys→rI ys≤(ds.map B.bk).sum→aw P G f (ys.map IV.av) (.bool true)) :
  Calls P f args W fun e W'=>∃v,e= .returned v∧s.post enc P fn apart fresh handsOn again W args v W':=by
 have hW':=hW;obtain⟨p,q,hA,hV,rfl,hz,hn⟩:=hW';obtain⟨ys,h1,h2,h3⟩:=I9 B hT hp (fun j t v a b=>ka j t v (by simpa using a) (by simpa using b)) hA;have:=K1 hG (hg ys h1 h2) h3;simp only[Array.toArray_toList] at this;refine this.mono ?_;rintro e W' ⟨v,rfl,hb,hv⟩;simp only[RV] at hv;subst hv;exact⟨_,rfl,Nx hl hr BN hub EX (vi ds (yB hA)) hW hb⟩
end
end Go.Am

namespace Go.Am
open Go Go.RowKit
theorem CA {w:World} {I:Nat→Prop} {b:Nat}:∀(xs:List IV) (o:Nat),(∀(i:Nat) (x:IV),xs[i]?=some x→∃v,w.cell? ⟨b,o+i,none⟩=some v∧kP w I x v)→dF w I xs b o
 |[],o,_=>by simp[dF]
 |x::r,o,h=>by
  simp only[dF];refine⟨by simpa using h 0 x rfl,CA r (o+1) fun i y hy=> ?_⟩;have:=h (i+1) y (by simpa using hy)
  rwa[show o+(i+1)=o+1+i by omega] at this
def xU {P:Program} {W:World} {n:String} {g:Nat} {cs:Array Value} {xs:List IV} (hg:P.globalNamed n=some g) (hv:W.var? P n=some cs) (hl:cs.size=xs.length)
  (hx:∀(i:Nat) (x:IV),xs[i]?=some x→∃v,cs[i]?=some v∧kP W (fun _=>True) x v):g<W.heap.size∧gX W (fun _=>True) xs g:=by
 have MY:=hv;unfold World.var? at MY;rw[hg] at MY;simp only[adA] at MY;split at MY
 ·rename_i c a b hc;simp only[jl] at MY;subst MY;refine⟨(aed.1 hc).1,CA xs 0 fun i x hi=> ?_,?_⟩
  ·obtain⟨v,e1,e2⟩:=hx i x hi;exact⟨v,by rw[adC,World.var?_cell hg hv i];exact e1,e2⟩
  unfold qU;rw[hc];simp only[hl]
 cases MY
def Wz {P:Program} {W:World} {n:String} {g:Nat} {cs:Array Value} {k:IntKind} {zs:List Int} (hg:P.globalNamed n=some g) (hv:W.var? P n=some cs) (h:cs.toList=zs.map fun z=>Value.int k z) :
  g<W.heap.size∧gX W (fun _=>True) (zs.map fun z=>IV.int k z) g:=by
 have hc:cs=(zs.map fun z=>Value.int k z).toArray:=by rw[←h]
 subst hc;refine xU hg hv (by simp) fun i x hi=> ?_;rw[adX] at hi;obtain⟨z,hz,rfl⟩:=ag4.1 hi;exact⟨.int k z,by simp[hz],by simp[kP]⟩
def N3 {P:Program} {W:World} {n:String} {g:Nat} {cs:Array Value} {zs:List (List UInt8)} (hg:P.globalNamed n=some g) (hv:W.var? P n=some cs) (h:cs.toList=zs.map fun z=>Value.string ⟨z.toArray⟩) :
  g<W.heap.size∧gX W (fun _=>True) (zs.map IV.str) g:=by
 have hc:cs=(zs.map fun z=>Value.string ⟨z.toArray⟩).toArray:=by rw[←h]
 subst hc;refine xU hg hv (by simp) fun i x hi=> ?_;rw[adX] at hi;obtain⟨z,hz,rfl⟩:=ag4.1 hi;exact⟨.string ⟨z.toArray⟩,by simp[hz],by simp[kP]⟩
def N4 {P:Program} {W:World} {n:String} {g:Nat} {u:TypeId} {v:Value} {cs:Array Value} (hg:P.globalNamed n=some g) (hv:W.var? P n=some cs) (h:cs.toList=[.iface u v]) :
  g<W.heap.size∧gX W (fun _=>True) [.ifc u] g:=by
 have hc:cs=#[.iface u v]:=by cases cs;simp at h;subst h;rfl
 subst hc;refine xU hg hv rfl fun i x hi=> ?_
 match i with
 |0=>simp at hi;subst hi;exact⟨_,rfl,⟨_,rfl⟩⟩
 |i+1=>simp at hi
def vu {H:Type} {enc:TypeId×Value→H} {P:Program} {w:World} {base:Nat} {sp:Nat→Bool} {held:Bool} {fuel:Nat} {t e:TypeId} {n:Nat} {cs:List Value} {zs:List (List UInt8)} {p:List MemPlace}
  (ht:P.underlying t=some (.array n e)) (he:P.underlying e=some .string) (UX:P.cellsOf e=1) (ZV:P.cellsOf t=n)
  (h:DataW.trod enc P w base sp held fuel t cs=some (.agg (zs.map fun z=> .lit (.string z)),p)):cs=zs.map fun z=>Value.string ⟨z.toArray⟩:=by
 cases fuel with
 |zero=>simp[DataW.trod] at h
 |succ fuel=>
 simp only[DataW.trod,ht,UX,ZV,agF] at h;split at h
 ·rename_i hl;obtain⟨xs,hm,hx⟩:=ag4.1 h;have GW:xs.map (·.1)=zs.map fun z=>(DataW.lit (.string z):DataW H):=by
   have:=afb Prod.fst hx;simpa using this
  have T8:xs.length=n:=by simpa using Lib.mapM_length hm
  have QQ:zs.length=n:=by
   have:=afb List.length GW;simp at this;omega
  apply aeU;intro i;by_cases hi:i<n
  ·obtain⟨b,hb,hf⟩:=Lib.mapM_at hm i i (by simp[hi]);obtain⟨z,hc,hz,_⟩:=DataW.trod_string he hf;have h1:cs[i]?=some (.string z):=by
    have:=afb (·[0]?) hc;simpa[adT,aeD] using this
   have h2:(xs.map (·.1))[i]?=some b.1:=(by simp[hb]);rw[GW,hz] at h2;simp only[adX,ag4,DataW.lit.injEq,Lit.string.injEq] at h2;obtain⟨z',hz',e⟩:=h2;simp only[h1,adX,hz',adB];cases z with
   |mk a=>simp only at e;subst e;simp
  rw[aes (by omega),aes (by simp;omega)]
 cases h
end Go.Am
