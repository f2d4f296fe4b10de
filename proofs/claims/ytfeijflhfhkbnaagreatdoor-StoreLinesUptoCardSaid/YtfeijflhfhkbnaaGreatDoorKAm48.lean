import Derived.Test.YtfeijflhfhkbnaaGreatDoorKAm25
import Derived.FnData
import Derived.LaidLaws
import Derived.Lib.LaidTab
set_option linter.all false
/- THE ABSTRACT MACHINE, part 48: a law of a program whose package variables are known; a nil slice handed where an empty list is asked. -/
namespace Go.Am
open Go Go.RowKit Go.ChangeShapes
def am6 {w:World} {β:Lb->Option Nat} {H:Hp} {I:Nat->Prop} {v:Value} (h:RV w β H I .nil0 v):RV w β H I (.list []) v:=by
 simp only[RV] at h;obtain⟨a,rfl⟩:=h;simp only[RV,NN,Cr];exact⟨a,0,rfl,PW _,zd _,.inl rfl⟩
def aoT {P:Program} {G:Nat->Option (List IV)} {f:Nat} {args Ca:List AV} {res:AV} (h:au P G f args res) (hl:ah Ca=[])
  (hv:∀(w:World) β H I vs,br w β H I Ca vs->br w β H I args vs):au P G f Ca res:=
 ⟨hl,h.2.1,λw A β vs hr hq=>h.2.2 w A β vs hr (hv _ _ _ _ _ hq)⟩
section
variable {P:Program} {G:Nat->Option (List IV)}
def qn (P:Program) (G:Nat->Option (List IV)) (W:World):Prop:=∀g cs,G g=some cs->g<W.heap.size/\da W (λ_=>True) cs g
def vJ {W:World} (hG:qn P G W):aH (b8 P G W (λ_=>True) iI Hp.none) iI Env.any Hp.none lB W:=by
 have hI:∀k,Im (b8 P G W (λ_=>True) iI Hp.none) iI Hp.none k:=λk=>⟨.inl trivial,λl ⟨r,h⟩=>by simp[Hp.none] at h⟩
 exact { defers := rfl,size := rfl
         N8:=λn=>by simp[Env.any,RV]
         rows:=λl r h=>by simp[Hp.none] at h
         own:=λl g ⟨r,h⟩=>by simp[Hp.none] at h
         inj:=λl l' g ⟨r,h⟩=>by simp[Hp.none] at h
         eI:=λn=>by simp[Env.any,AV.an]
         cH:=λl r h=>by simp[Hp.none] at h
         frame:=⟨rfl,rfl,rfl,PW _,λ_ _ _=>rfl,λ_ _ h=>h⟩
         gA:=λl ⟨r,h⟩=>by simp[b8,Hp.none] at h
         fr:=λl g ⟨r,h⟩=>by simp[Hp.none] at h
         W5:=λg cs hg=>by
           obtain⟨h1,h2⟩:=hG g cs hg
           exact⟨hI g,h1,da.mono ⟨λk _ hs=>⟨hI k,hs,rfl⟩⟩ trivial h1 h2⟩}
def vK {f:Nat} {args:List AV} {res:AV} {vs:List Value} {W:World} (hG:qn P G W) (hp:au P G f args res) (hv:br W iI Hp.none (λ_=>True) args vs) :
  Calls P f vs.toArray W λe W'=>∃v,e= .returned v/\Below W.heap.size W W'/\RV W' iI Hp.none (λ_=>True) res v:=by
 have hI:∀k,Im (b8 P G W (λ_=>True) iI Hp.none) iI Hp.none k:=λk=>⟨.inl trivial,λl ⟨r,h⟩=>by simp[Hp.none] at h⟩;refine(ml (vJ hG) hp (br.mono _ _ ?_ hv) trivial).mono ?_
 ·exact {im:=λk _ hs=>⟨hI k,hs,rfl⟩,lb:=λl _ ⟨r,h⟩=>by simp[Hp.none] at h}
 rintro e W' ⟨v,rfl,h1,h2⟩;refine⟨v,rfl,h1,RV.mono _ _ ?_ h2⟩;exact {im:=λk _ hs=>⟨trivial,hs,rfl⟩,lb:=λl _ ⟨r,h⟩=>by simp[Hp.none] at h}
end
section
variable {H:Type} {enc:TypeId×Value->H} {P:Program} {G:Nat->Option (List IV)}
def oQ (B:Bk H) {T:List TypeId} (hT:∀t∈T,DF P T t=true) {f:Nat} {fn:Func} {s:ChangeSpec} {apart fresh handsOn again:Bool} {tb:TypeId} (hl:laidOutB P=true)
  (hp:∀t∈fn.params.toList,t∈T) (hr:fn.params.toList.all (qf P)=true) (q_:fn.resultTypes=#[tb]) (Hy:P.underlying tb=some .bool) (ar3:s.vars=[])
  (W:World) (base:Nat) (args:Array Value) (ds gs:List (DataW H)) (before:List MemPlace) (hG:qn P G W)
  (hfn:∀ds:List (DataW H),ds.length=fn.params.toList.length->s.fn H ds={results:=[.lit (.bool true)],args:=ds})
  (nU:∀(j:Nat) t v,fn.params[j]?=some t->args[j]?=some v->Value.okWide P W .any base t v)
  (hW:DataW.Whole enc P fn.params.toList s.vars apart W args.toList ds gs before)
  (hg:∀ys,Gd P fn.params.toList ys->wtI ys<=(ds.map B.bk).sum->au P G f (ys.map IV.av) (.bool true)) :
  Calls P f args W λe W'=>∃v,e= .returned v/\s.post enc P fn apart fresh handsOn again W args v W':=by
 have Hz:=hW;obtain⟨p,q,hA,hV,rfl,hz,hn⟩:=Hz;obtain⟨ys,h1,h2,h3⟩:=ur B hT hp (λj t v a b=>nU j t v (by simpa using a) (by simpa using b)) hA;have:=vK hG (hg ys h1 h2) h3;simp only[Array.toArray_toList] at this;refine this.mono ?_;rintro e W' ⟨v,rfl,hb,hv⟩;simp only[RV] at hv;subst hv;exact⟨_,rfl,xI hl hr q_ Hy ar3 (hfn ds (arV hA)) hW hb⟩
end
end Go.Am

namespace Go.Am
open Go Go.RowKit
theorem pj {w:World} {I:Nat->Prop} {b:Nat}:∀(xs:List IV) (o:Nat),(∀(i:Nat) (x:IV),xs[i]?=some x->∃v,w.cell? ⟨b,o+i,none⟩=some v/\NN w I x v)->bK w I xs b o
 |[],o,_=>by simp[bK]
 |x::r,o,h=>by
  simp only[bK];refine⟨by simpa using h 0 x rfl,pj r (o+1) λi y hy=> ?_⟩;have:=h (i+1) y (by simpa using hy)
  rwa[show o+(i+1)=o+1+i by omega] at this
def pk {P:Program} {W:World} {n:String} {g:Nat} {cs:Array Value} {xs:List IV} (hg:P.globalNamed n=some g) (hv:W.var? P n=some cs) (hl:cs.size=xs.length)
  (hx:∀(i:Nat) (x:IV),xs[i]?=some x->∃v,cs[i]?=some v/\NN W (λ_=>True) x v):g<W.heap.size/\da W (λ_=>True) xs g:=by
 have wW:=hv;unfold World.var? at wW;rw[hg] at wW;simp only[EF] at wW;split at wW
 ·rename_i c a b hc;simp only[di] at wW;subst wW;refine⟨(Rv.1 hc).1,pj xs 0 λi x hi=> ?_,?_⟩
  ·obtain⟨v,e1,e2⟩:=hx i x hi;exact⟨v,by rw[bM,World.var?_cell hg hv i];exact e1,e2⟩
  unfold jl;rw[hc];simp only[hl]
 cases wW
def aqd {P:Program} {W:World} {n:String} {g:Nat} {cs:Array Value} {k:IntKind} {zs:List Int} (hg:P.globalNamed n=some g) (hv:W.var? P n=some cs) (h:cs.toList=zs.map λz=>Value.int k z) :
  g<W.heap.size/\da W (λ_=>True) (zs.map λz=>IV.int k z) g:=by
 have hc:cs=(zs.map λz=>Value.int k z).toArray:=by rw[<-h]
 subst hc;refine pk hg hv tM λi x hi=> ?_;rw[cn] at hi;obtain⟨z,hz,rfl⟩:=jF.1 hi;exact⟨.int k z,by simp[hz],by simp[NN]⟩
def D4 {P:Program} {W:World} {n:String} {g:Nat} {cs:Array Value} {zs:List (List UInt8)} (hg:P.globalNamed n=some g) (hv:W.var? P n=some cs) (h:cs.toList=zs.map λz=>Value.string ⟨z.toArray⟩) :
  g<W.heap.size/\da W (λ_=>True) (zs.map IV.str) g:=by
 have hc:cs=(zs.map λz=>Value.string ⟨z.toArray⟩).toArray:=by rw[<-h]
 subst hc;refine pk hg hv tM λi x hi=> ?_;rw[cn] at hi;obtain⟨z,hz,rfl⟩:=jF.1 hi;exact⟨.string ⟨z.toArray⟩,by simp[hz],by simp[NN]⟩
def apf {P:Program} {W:World} {n:String} {g:Nat} {u:TypeId} {v:Value} {cs:Array Value} (hg:P.globalNamed n=some g) (hv:W.var? P n=some cs) (h:cs.toList=[.iface u v]) :
  g<W.heap.size/\da W (λ_=>True) [.ifc u] g:=by
 have hc:cs=#[.iface u v]:=by cases cs;simp at h;subst h;rfl
 subst hc;refine pk hg hv rfl λi x hi=> ?_
 match i with
 |0=>simp at hi;subst hi;exact⟨_,rfl,⟨_,rfl⟩⟩
 |i+1=>simp at hi
def oR {H:Type} {enc:TypeId×Value->H} {P:Program} {w:World} {base:Nat} {sp:Nat->Bool} {held:Bool} {fuel:Nat} {t e:TypeId} {n:Nat} {cs:List Value} {zs:List (List UInt8)} {p:List MemPlace}
  (ht:P.underlying t=some (.array n e)) (he:P.underlying e=some .string) (CD:P.cellsOf e=1) (Lp:P.cellsOf t=n)
  (h:DataW.trod enc P w base sp held fuel t cs=some (.agg (zs.map λz=> .lit (.string z)),p)):cs=zs.map λz=>Value.string ⟨z.toArray⟩:=by
 cases fuel with
 |zero=>simp[DataW.trod] at h
 |succ fuel=>
 simp only[DataW.trod,ht,CD,Lp,Zk] at h;split at h
 ·rename_i hl;obtain⟨xs,hm,hx⟩:=jF.1 h;have sM:xs.map (·.1)=zs.map λz=>(DataW.lit (.string z):DataW H):=by
   have:=VZ Prod.fst hx;simpa using this
  have Ms:xs.length=n:=by simpa using Lib.mapM_length hm
  have zL:zs.length=n:=by
   have:=VZ List.length sM;simp at this;omega
  apply fe;intro i;by_cases hi:i<n
  ·obtain⟨b,hb,hf⟩:=Lib.mapM_at hm i i (by simp[hi]);obtain⟨z,hc,hz,_⟩:=DataW.trod_string he hf;have h1:cs[i]?=some (.string z):=by
    have:=VZ (·[0]?) hc;simpa[Rd,Ba] using this
   have h2:(xs.map (·.1))[i]?=some b.1:=(by simp[hb]);rw[sM,hz] at h2;simp only[cn,jF,DataW.lit.injEq,Lit.string.injEq] at h2;obtain⟨z',HZ,e⟩:=h2;simp only[h1,cn,HZ,bT];cases z with
   |mk a=>simp only at e;subst e;simp
  rw[dV sf,dV aak]
 cases h
end Go.Am
