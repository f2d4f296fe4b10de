import Derived.Test.YtfinkeaikbmpgaaKT92
import Derived.Laws.Externs
import Derived.Test.YtfinkeaikbmpgaaKT8
import Derived.Test.YtfinkeaikbmpgaaKAm33
import Derived.Test.YtfinkeaikbmpgaaKAm25
import Derived.Test.YtfinkeaikbmpgaaKT15
import Derived.Lib.Bytealg
import Derived.Test.YtfinkeaikbmpgaaKAm27
import Derived.Test.YtfinkeaikbmpgaaKT4
set_option linter.unusedSimpArgs false
set_option linter.unusedVariables false
set_option linter.unnecessarySimpa false
set_option linter.defProp false
/- THE ABSTRACT MACHINE, part 45: slices whose room was looked at, handed back; slices.overlaps. -/
namespace Go.Am
open Go Go.RowKit
section
variable {K:Kx} {β:Lb→Option Nat} {env:Env} {H:Hp} {a:Act} {w:World}
theorem bj.trim (hr:bj K β env H a w) {l:Lb} {sz:Nat} {els:List (List AV)} (k:Nat) (hl:H l= .live ⟨sz,els⟩):bj K β env (bG H l (.live ⟨sz,els.take k⟩)) a w:=by
 cases hb:β l with
 |none=>
  have:=(hr.rows l _ hl).2.2;simp only[hb] at this;subst this;simp only[List.take_nil];rw[tH hl];exact hr
 |some g=>
  refine hr.wo hl g hb ?_ ?_ ?_ ?_
  ·intro cur e cap k1 k2 k4;rw[List.length_take];omega
  ·exact fun cs b5=>(hr.rows l _ hl).2.1 cs (List.mem_of_mem_take b5)
  ·exact fun cs b5=>hr.dA l _ hl cs (List.mem_of_mem_take b5)
  ·intro i j cs x hi hj;rw[List.getElem?_take] at hi;split at hi
   ·exact .inr ⟨cs,hi,hj⟩
   ·simp at hi
end
theorem lP {P:Program} {G:Nat→Option (List IV)} {f:Nat} {n:Nat} {rs:List RO} {ac:AC} {args:List AV} {sz:Nat} {xs ys:List IV}
  (hF:aA P G f=some (n,rs,ac.bare)) (hn:args.length≤n) (ha:∀l∈ax args,l= .par 0)
  (hg:go ⟨P,G,n⟩ (iP rs fun x H'=>∃L c els,(x= .sl L sz 0 ys.length∨x= .slk L sz 0 ys.length c)∧H' L= .live ⟨sz,ay ys++els⟩) [.code ac] (b7 args) (kh sz xs)):rV P G sz f args xs ys:=by
 refine⟨ha,?_⟩;have h0:=hQ hF hn ?_ ?_ hg
 ·intro w A β vs hr hv;refine(h0 w A β vs hr hv).mono ?_;rintro e w' ⟨v,x,H1,β',rfl,⟨L,c,els,hx,hL⟩,mq,Bm,hm⟩;have ht:=mq.trim ys.length hL;rw[show(ay ys++els).take ys.length=ay ys by rw[←cB ys,List.take_left]] at ht
  have bz:∀q,live (bG H1 L (.live ⟨sz,ay ys⟩)) q→live H1 q:=by
   rintro q ⟨r,hq⟩;by_cases e:q=L
   ·subst e;exact⟨_,hL⟩
   ·rw[aq _ _ e] at hq;exact⟨r,hq⟩
  refine⟨v,.sl L sz 0 ys.length,_,β',rfl,⟨L,rfl,by simp⟩,ht,?_,by simp[AV.aI]⟩;simp only[RV];rcases hx with rfl|rfl
  ·simp only[RV] at Bm;obtain⟨ad,c,g1,g2,g3,g4,g5⟩:=Bm;exact⟨ad,c,g1,g2,g3,g4,fun hl=>g5 (bz _ hl)⟩
  ·simp only[RV] at Bm;obtain⟨ad,g1,g2,g3,g4,g5⟩:=Bm;exact⟨ad,c,g1,g2,g3,fun h=>g4 (by omega),fun hl=>g5 (bz _ hl)⟩
 ·rintro l ⟨r,h⟩;by_cases e:l= .par 0
  ·subst e;rfl
  ·rw[kh,aq _ _ e] at h;simp[Hp.none] at h
 ·intro l hl;rw[ha l hl];simp[kh]
theorem oU {S : St} {f : Nat} {fn : Func} (hf : S.P.funcs[f]? = some fn) (wq : (fn.name == "runtime.NumGoroutine") = false) (hb : fn.body.isNone = true)
   (hn:Extern.findNext fn=none) {tS tR e:TypeId} (he:Extern.find fn=some (Extern.SlicesOverlaps.overlaps #[tS,tS] #[tR])) (ht:S.P.underlying tS=some (.slice e)) {size:Nat} (hz:∀w,(Go.sizeOf e).run S.P w= .ok size w)
   {vs:List IV} (hv:vs≠[]) {l:Lb} {sz i n c:Nat} {r:Row} {H:Hp} (hl:H l= .live r) (h0:0<n):mu S f [.list vs,.slk l sz i n c] H (.bool false):=by
 intro K β env a w ws hS nO Rr
 subst hS
 match ws,Rr with
 |[u,v],h=>
   simp only[b8] at h
   obtain⟨_,_,e0,h1,_,_,e2,h3,e4⟩:=h
   cases e0;cases e2;cases e4
   simp only[RV,ic] at h1 h3
   obtain⟨ad,c1,rfl,g1,g2,g3⟩:=h1
   obtain⟨SA,rfl,k1,k2,k3,k4⟩:=h3
   have vn:vs.length≠0:=fun e=>hv (List.length_eq_zero_iff.1 e)
   rcases g3 with g3|⟨b,o,s2,rfl,g4,g5,g6,g7⟩
   · exact absurd g3 vn
   rcases k4 ⟨_,hl⟩ with k4|⟨g,Sz,q1,rfl,q3,q4⟩
   · omega
   have kP:=nO.rows l r hl
   obtain⟨cur,ee,cap,p1,p2,p3,p4,p5⟩:=kP.block q1
   obtain⟨y,BB,rfl⟩:∃y BB,vs=y::BB:=by cases vs with|nil=>exact absurd rfl hv|cons y q=>exact⟨y,q,rfl⟩
   simp only[cD] at g7
   have l6:∃z,w.cell? ⟨b,o,none⟩=some z:=by
     have:=g7.1
     rw[gx] at this
     obtain⟨hs,hc⟩:=this
     cases b5:y.cells with
     |nil=>rw[b5] at hs;simp at hs;omega
     |cons c0 cr=>
       rw[b5] at hc
       simp only[ca] at hc
       obtain⟨⟨z,hz,_⟩,_⟩:=hc
       exact⟨z,hz⟩
   obtain⟨z,DY⟩:=l6
   obtain⟨cb,eb,fb,Mk⟩:∃cb eb fb,w.heap[b]?=some (.cells cb eb fb):=by
     unfold World.cell? at DY
     simp only at DY
     split at DY
     · rename_i cb eb fb hb
       exact⟨cb,eb,fb,hb⟩
     · cases DY
   have SB:cb.size≠0:=by
     intro e
     unfold World.cell? at DY
     simp only[Mk] at DY
     simp at DY
     have:cb=#[]:=Array.eq_empty_of_size_eq_zero e
     subst this
     simp at DY
   have dm:b≠g:=by
     rintro rfl
     exact g4.2 l ⟨_,hl⟩ q1
   have Ks:(b !=g)=true:=by simpa using dm
   have OO:(b==g)=false:=by simpa using dm
   refine⟨.bool false,w,?_,Below.refl _ _,by simp[RV],by simp[AV.aI]⟩
   rw[run_callFunc_extern hf wq hb hn he]
   have Ml:(Extern.SlicesOverlaps.overlaps #[tS,tS] #[tR] #[.slice (some ⟨b,o,none⟩) (y::BB).length c1,.slice (some ⟨g,i*sz,none⟩) n c]).run K.P w= .ok (.bool false) w:=by
     unfold Extern.SlicesOverlaps.overlaps
     rw[show ∀(p:Option Addr) (k d:Nat) (q:Option Addr) (k' d':Nat) (h1:Option Addr→Nat→Nat→Option Addr→Nat→Nat→Sem Value) (h2:Array Value→Sem Value),Extern.SlicesOverlaps.overlaps.match_4 (fun _=>Sem Value) #[.slice p k d,.slice q k' d'] h1 h2=h1 p k d q k' d' from fun _ _ _ _ _ _ _ _=>rfl]
     have Rs:w.shape? b=some (eb,cb.size):=by simp[World.shape?,Mk]
     have Ru:w.shape? g=some (ee,cur.size):=by simp[World.shape?,p1]
     have Rv:∀off,w.frozen? ⟨g,off,none⟩=false:=fun off=>by simp[World.frozen?,p1]
     obtain⟨kB,Mm⟩:∃kB,cb.size=kB+1:=⟨cb.size - 1,by omega⟩
     by_cases h0:(y::BB).length=0∨n=0∨size=0
     · simp[run_underlying ht,hz,h0]
       rcases h0 with h0|h0|h0
       · simp at h0
       · omega
       · simp[h0]
     · have GH:size≠0:=fun e=>h0 (.inr (.inr e))
       have sX:n≠0:=by omega
       cases Rw:w.frozen? ⟨b,o,none⟩<;>cases Nd:w.frozen? ⟨b,cb.size,none⟩ <;>
         simp[run_underlying ht,hz,h0,Ks,OO,frozen,noView,viewAt,mayBeOne,stringish,shape,Sem.run,Rs,Ru,Rv,Mm,Rw,GH,sX]<;>rw[Mm] at Nd<;>simp[Nd]
   rw[Ml]
   rfl
end Go.Am

/- The bench: a document's nodes at work, as rows. -/
namespace Go.Am
open Go Go.RowKit
structure Bn where
 n0:Nat
 nodes:List Node
 fs:List Int
 as:List Int
def Bn.at (b:Bn) (i:Nat):List Attr:=match b.nodes[i]? with|some x=>x.attrs|none=>[]
def Bn.kd (b:Bn) (i:Nat):List Int:=match b.nodes[i]? with|some x=>x.kids|none=>[]
theorem Bn.lQ {b:Bn} {i:Nat} {x:Node} (h:b.nodes[i]?=some x):b.at i=x.attrs:=by simp[Bn.at,h]
theorem Bn.i_ {b:Bn} {i:Nat} {x:Node} (h:b.nodes[i]?=some x):b.kd i=x.kids:=by simp[Bn.kd,h]
def cx (n0:Nat) (lab:Nat→Lb) (i:Nat) (x:Node):List AV:=
 [.bool x.text,.str x.s,if i<n0 then .sl (lab (4+2*i)) 2 0 x.attrs.length else .list (dY x.attrs),.int .i64 x.parent,if i<n0 then .sl (lab (5+2*i)) 1 0 x.kids.length else .list (x.kids.map a6)]
def qo (b:Bn) (lab:Nat→Lb) (p:Nat):Option Row:=
 if p=0 then some ⟨3,[[.sl (lab 1) 5 0 b.nodes.length,.sl (lab 2) 1 0 b.fs.length,.sl (lab 3) 1 0 b.as.length]]⟩
 else if p=1 then some ⟨5,b.nodes.mapIdx (cx b.n0 lab)⟩
 else if p=2 then some ⟨1,ay (b.fs.map a6)⟩
 else if p=3 then some ⟨1,ay (b.as.map a6)⟩
 else if p<4+2*b.n0 then(if p%2=0 then some ⟨2,ay (dY (b.at ((p - 4)/2)))⟩ else some ⟨1,ay ((b.kd ((p - 5)/2)).map a6)⟩)
 else none
theorem AL (n0:Nat) (lab:Nat→Lb) (ρ:Lb→Lb) (i:Nat) (x:Node):cn ρ (cx n0 lab i x)=cx n0 (fun i=>ρ (lab i)) i x:=by
 unfold cx;by_cases h:i<n0<;>simp[cn,cG,h]
theorem AM {n0:Nat} {lab:Nat→Lb} {i:Nat} {x:Node} {q:Lb} (h:q∈ax (cx n0 lab i x)):i<n0∧(q=lab (4+2*i)∨q=lab (5+2*i)):=by
 unfold cx at h;by_cases hi:i<n0
 ·simpa[ax,AV.aI,hi] using h
 ·simp[ax,AV.aI,hi] at h
theorem iV {b:Bn} {lab:Nat→Lb} {p:Nat}:(qo b lab p).isSome=true↔p<4+2*b.n0:=by
 unfold qo;by_cases h0:p=0
 ·simp[h0];omega
 by_cases h1:p=1
 ·simp[h1];omega
 by_cases h2:p=2
 ·simp[h2];omega
 by_cases h3:p=3
 ·simp[h3];omega
 by_cases h4:p<4+2*b.n0
 ·by_cases h5:p%2=0<;>simp[h0,h1,h2,h3,h4,h5]
 ·simp[h0,h1,h2,h3,h4]
def cz (b:Bn):kS where
 row:=qo b
 nat lab ρ p:=by
  unfold qo;by_cases h0:p=0
  ·simp[h0,dB,cn,cG]
  by_cases h1:p=1
  ·simp only[h1,if_neg (show ¬(1:Nat)=0 by decide),if_true,Option.map_some,Option.some.injEq,dB,Row.mk.injEq,true_and];refine List.ext_getElem? fun i=> ?_
   simp only[List.getElem?_map,List.getElem?_mapIdx,Option.map_map]
   congr 1
   funext x;exact(AL _ _ _ _ _).symm
  by_cases h2:p=2
  ·simp[h2,de]
  by_cases h3:p=3
  ·simp[h3,de]
  by_cases h4:p<4+2*b.n0
  ·by_cases h5:p%2=0<;>simp[h0,h1,h2,h3,h4,h5,de]
  ·simp[h0,h1,h2,h3,h4]
 aI lab p r hr cs b5 q hq:=by
  unfold qo at hr;by_cases h0:p=0
  ·simp[h0] at hr;subst hr;simp only[List.mem_singleton] at b5;subst b5;simp[ax,AV.aI] at hq;rcases hq with rfl|rfl|rfl
   ·exact⟨1,iV.2 (by omega),rfl⟩
   ·exact⟨2,iV.2 (by omega),rfl⟩
   ·exact⟨3,iV.2 (by omega),rfl⟩
  by_cases h1:p=1
  ·simp[h1] at hr;subst hr;simp only at b5;obtain⟨i,hi⟩:=List.getElem?_of_mem b5;rw[List.getElem?_mapIdx] at hi;obtain⟨x,_,rfl⟩:=Option.map_eq_some_iff.1 hi;obtain⟨h5,h6⟩:=AM hq;rcases h6 with rfl|rfl
   ·exact⟨4+2*i,iV.2 (by omega),rfl⟩
   ·exact⟨5+2*i,iV.2 (by omega),rfl⟩
  have key:∀(sz:Nat) (xs:List IV),r=⟨sz,ay xs⟩→False:=by
   rintro sz xs rfl;rw[dK b5] at hq;simp at hq
  exfalso;by_cases h2:p=2
  ·simp[h2] at hr;exact key _ _ hr.symm
  by_cases h3:p=3
  ·simp[h3] at hr;exact key _ _ hr.symm
  by_cases h4:p<4+2*b.n0
  ·by_cases h5:p%2=0
   ·simp[h0,h1,h2,h3,h4,h5] at hr;exact key _ _ hr.symm
   ·simp[h0,h1,h2,h3,h4,h5] at hr;exact key _ _ hr.symm
  ·simp[h0,h1,h2,h3,h4] at hr
theorem a9 {b:Bn} {p:Nat}:(cz b).ok p↔p<4+2*b.n0:=iV
theorem jS {b:Bn} {lab:Nat→Lb} {i:Nat} (h:i<b.n0):qo b lab (4+2*i)=some ⟨2,ay (dY (b.at i))⟩:=by
 unfold qo;rw[if_neg (by omega),if_neg (by omega),if_neg (by omega),if_neg (by omega),if_pos (by omega),if_pos (by omega),show(4+2*i - 4)/2=i by omega]
theorem jT {b:Bn} {lab:Nat→Lb} {i:Nat} (h:i<b.n0):qo b lab (5+2*i)=some ⟨1,ay ((b.kd i).map a6)⟩:=by
 unfold qo;rw[if_neg (by omega),if_neg (by omega),if_neg (by omega),if_neg (by omega),if_pos (by omega),if_neg (by omega),show(5+2*i - 5)/2=i by omega]
abbrev bW (lab:Nat→Lb) (b:Bn) (H:Hp):Prop:=jx lab (cz b) H
section
variable {lab:Nat→Lb} {b:Bn} {H H2:Hp}
theorem bW.s (h:bW lab b H):H (lab 0)= .live ⟨3,[[.sl (lab 1) 5 0 b.nodes.length,.sl (lab 2) 1 0 b.fs.length,.sl (lab 3) 1 0 b.as.length]]⟩:=h.row 0 _ rfl
theorem bW.n (h:bW lab b H):H (lab 1)= .live ⟨5,b.nodes.mapIdx (cx b.n0 lab)⟩:=h.row 1 _ rfl
theorem bW.f (h:bW lab b H):H (lab 2)= .live ⟨1,ay (b.fs.map a6)⟩:=h.row 2 _ rfl
theorem bW.a (h:bW lab b H):H (lab 3)= .live ⟨1,ay (b.as.map a6)⟩:=h.row 3 _ rfl
theorem bW.at' (h:bW lab b H) {i:Nat} {x:Node} (hi:i<b.n0) (hx:b.nodes[i]?=some x):H (lab (4+2*i))= .live ⟨2,ay (dY x.attrs)⟩:=by
 have:=h.row _ _ (jS hi)
 rwa[Bn.lQ hx] at this
theorem bW.kd (h:bW lab b H) {i:Nat} {x:Node} (hi:i<b.n0) (hx:b.nodes[i]?=some x):H (lab (5+2*i))= .live ⟨1,ay (x.kids.map a6)⟩:=by
 have:=h.row _ _ (jT hi)
 rwa[Bn.i_ hx] at this
theorem bW.ne (h:bW lab b H) {p q:Nat} (hp:p<4+2*b.n0) (hq:q<4+2*b.n0) (e:p≠q):lab p≠lab q:=fun e2=>e (h.inj p q (a9.2 hp) (a9.2 hq) e2)
def Bn.set (b:Bn) (i:Nat) (y:Node):Bn:={b with nodes:=b.nodes.set i y}
def Bn.put (b:Bn) (y:Node):Bn:={b with nodes:=b.nodes++[y]}
theorem Bn.zx (b:Bn) (i:Nat) (y:Node) (lab:Nat→Lb):(b.set i y).nodes.mapIdx (cx (b.set i y).n0 lab)=(b.nodes.mapIdx (cx b.n0 lab)).set i (cx b.n0 lab i y):=by
 refine List.ext_getElem? fun j=> ?_
 simp only[Bn.set,List.getElem?_mapIdx,List.getElem?_set,List.length_mapIdx];by_cases e:i=j
 ·subst e;by_cases hl:i<b.nodes.length<;>simp[hl]
 ·simp[e]
theorem Bn.Mn (b:Bn) (y:Node) (lab:Nat→Lb):(b.put y).nodes.mapIdx (cx (b.put y).n0 lab)=b.nodes.mapIdx (cx b.n0 lab)++[cx b.n0 lab b.nodes.length y]:=by
 simp[Bn.put,List.mapIdx_append]
theorem bW.lists (h:bW lab b H) {p:Nat} (h4:4≤p) (hp:p<4+2*b.n0):∃i,i<b.n0∧(p=4+2*i∨p=5+2*i):=by
 by_cases e:p%2=0
 ·exact⟨(p - 4)/2,by omega,by omega⟩
 ·exact⟨(p - 5)/2,by omega,by omega⟩
theorem bW.mk' {lab:Nat→Lb} {b:Bn} {H:Hp} (hi:∀p q,p<4+2*b.n0→q<4+2*b.n0→lab p=lab q→p=q)
  (h0:H (lab 0)= .live ⟨3,[[.sl (lab 1) 5 0 b.nodes.length,.sl (lab 2) 1 0 b.fs.length,.sl (lab 3) 1 0 b.as.length]]⟩) (h1:H (lab 1)= .live ⟨5,b.nodes.mapIdx (cx b.n0 lab)⟩)
  (h2:H (lab 2)= .live ⟨1,ay (b.fs.map a6)⟩) (h3:H (lab 3)= .live ⟨1,ay (b.as.map a6)⟩)
  (h4:∀i,i<b.n0→H (lab (4+2*i))= .live ⟨2,ay (dY (b.at i))⟩) (h5:∀i,i<b.n0→H (lab (5+2*i))= .live ⟨1,ay ((b.kd i).map a6)⟩):bW lab b H:=by
 refine⟨fun p r hp=> ?_,fun p q hp hq=>hi p q (a9.1 hp) (a9.1 hq)⟩;have cj:p<4+2*b.n0:=iV.1 (show(qo b lab p).isSome=true by change qo b lab p=some r at hp;rw[hp];rfl);change qo b lab p=some r at hp;by_cases e0:p=0
 ·subst e0;cases hp;exact h0
 by_cases e1:p=1
 ·subst e1;cases hp;exact h1
 by_cases e2:p=2
 ·subst e2;cases hp;exact h2
 by_cases e3:p=3
 ·subst e3;cases hp;exact h3
 by_cases e:p%2=0
 ·obtain⟨i,rfl⟩:∃i,p=4+2*i:=⟨(p - 4)/2,by omega⟩;rw[jS (by omega)] at hp;cases hp;exact h4 i (by omega)
 ·obtain⟨i,rfl⟩:∃i,p=5+2*i:=⟨(p - 5)/2,by omega⟩;rw[jT (by omega)] at hp;cases hp;exact h5 i (by omega)
theorem Bn.lR (b:Bn) {i:Nat} {x y:Node} (hx:b.nodes[i]?=some x) (j:Nat):(b.set i y).at j=if j=i then y.attrs else b.at j:=by
 have hl:=(List.getElem?_eq_some_iff.1 hx).1;simp only[Bn.at,Bn.set,List.getElem?_set];by_cases e:i=j
 ·subst e;simp[hl]
 ·simp[e,Ne.symm e]
theorem Bn.uZ (b:Bn) {i:Nat} {x y:Node} (hx:b.nodes[i]?=some x) (j:Nat):(b.set i y).kd j=if j=i then y.kids else b.kd j:=by
 have hl:=(List.getElem?_eq_some_iff.1 hx).1;simp only[Bn.kd,Bn.set,List.getElem?_set];by_cases e:i=j
 ·subst e;simp[hl]
 ·simp[e,Ne.symm e]
theorem bW.Mo (h:bW lab b H) {i:Nat} {x:Node} {s:Bs} (hx:b.nodes[i]?=some x)
  (h1:H2 (lab 1)= .live ⟨5,(b.nodes.mapIdx (cx b.n0 lab)).set i (cx b.n0 lab i {x with s:=s})⟩) (h2:∀q,q≠lab 1→H2 q=H q):bW lab (b.set i {x with s:=s}) H2:=by
 have dm:∀p,p<4+2*b.n0→p≠1→lab p≠lab 1:=fun p hp e=>h.ne hp (by omega) e
 refine bW.mk' (fun p q hp hq=>h.inj p q (a9.2 hp) (a9.2 hq)) ?_ ?_ ?_ ?_ ?_ ?_
 ·rw[h2 _ (dm 0 (by omega) (by omega)),h.s];simp[Bn.set]
 ·rw[h1,Bn.zx]
 ·rw[h2 _ (dm 2 (by omega) (by omega)),h.f];rfl
 ·rw[h2 _ (dm 3 (by omega) (by omega)),h.a];rfl
 ·intro j hj;change j<b.n0 at hj;rw[h2 _ (dm _ (by omega) (by omega)),h.row _ _ (jS hj),b.lR hx];split
  ·rename_i e;subst e;rw[Bn.lQ hx]
  ·rfl
 ·intro j hj;change j<b.n0 at hj;rw[h2 _ (dm _ (by omega) (by omega)),h.row _ _ (jT hj),b.uZ hx];split
  ·rename_i e;subst e;rw[Bn.i_ hx]
  ·rfl
theorem bW.FP (h:bW lab b H) {i:Nat} {x:Node} {ys:List Int} {N:Lb} (hi:i<b.n0) (hx:b.nodes[i]?=some x) (hN:N=lab (5+2*i)∨∀p,p<4+2*b.n0→lab p≠N)
  (h1:H2 (lab 1)= .live ⟨5,(b.nodes.mapIdx (cx b.n0 lab)).set i [.bool x.text,.str x.s,.sl (lab (4+2*i)) 2 0 x.attrs.length,.int .i64 x.parent,.sl N 1 0 ys.length]⟩)
  (h2:H2 N= .live ⟨1,ay (ys.map a6)⟩) (h3:∀q,q≠lab 1→q≠N→q≠lab (5+2*i)→H2 q=H q) :
  bW (fun p=>if p=5+2*i then N else lab p) (b.set i {x with kids:=ys}) H2:=by
 have dm:∀p,p<4+2*b.n0→p≠1→lab p≠lab 1:=fun p hp e=>h.ne hp (by omega) e
 have xY:∀p,p<4+2*b.n0→p≠5+2*i→lab p≠lab (5+2*i):=fun p hp e=>h.ne hp (by omega) e
 have rZ:∀p,p<4+2*b.n0→p≠5+2*i→lab p≠N:=fun p hp e=>by
  rcases hN with rfl|hN
  ·exact xY p hp e
  ·exact hN p hp
 have dM:∀p,p<4+2*b.n0→p≠1→p≠5+2*i→H2 (lab p)=H (lab p):=fun p hp e1 e2=>h3 _ (dm p hp e1) (rZ p hp e2) (xY p hp e2)
 have hj:∀p,p≠5+2*i→(if p=5+2*i then N else lab p)=lab p:=fun p e=>if_neg e
 refine bW.mk' ?_ ?_ ?_ ?_ ?_ ?_ ?_
 ·intro p q hp hq e;change p<4+2*b.n0 at hp;change q<4+2*b.n0 at hq;by_cases e1:p=5+2*i<;>by_cases e2:q=5+2*i
  ·rw[e1,e2]
  ·rw[if_pos e1,if_neg e2] at e;exact absurd e.symm (rZ q hq e2)
  ·rw[if_neg e1,if_pos e2] at e;exact absurd e (rZ p hp e1)
  ·rw[if_neg e1,if_neg e2] at e;exact h.inj p q (a9.2 hp) (a9.2 hq) e
 ·simp only[hj 0 (by omega),hj 1 (by omega),hj 2 (by omega),hj 3 (by omega)];rw[dM 0 (by omega) (by omega) (by omega),h.s];simp[Bn.set]
 ·simp only[hj 1 (by omega)];rw[h1,Bn.zx]
  congr 2
  refine List.ext_getElem? fun j=> ?_
  simp only[List.getElem?_set,List.length_mapIdx,List.getElem?_mapIdx];by_cases e:i=j
  ·subst e;simp only[if_true]
   congr 1
   simp[cx,hi,hj (4+2*i) (by omega)]
  ·simp only[e,if_false]
   congr 1
   funext z;simp only[cx];rw[if_neg (show ¬4+2*j=5+2*i by omega),if_neg (show ¬5+2*j=5+2*i by omega)]
 ·simp only[hj 2 (by omega)];rw[dM 2 (by omega) (by omega) (by omega),h.f];rfl
 ·simp only[hj 3 (by omega)];rw[dM 3 (by omega) (by omega) (by omega),h.a];rfl
 ·intro j s3;change j<b.n0 at s3;simp only[hj (4+2*j) (by omega)];rw[dM _ (by omega) (by omega) (by omega),h.row _ _ (jS s3),b.lR hx];split
  ·rename_i e;subst e;rw[Bn.lQ hx]
  ·rfl
 ·intro j s3;change j<b.n0 at s3;rw[b.uZ hx];by_cases e:j=i
  ·subst e;simp only[if_true];exact h2
  ·simp only[hj (5+2*j) (by omega),e,if_false];rw[dM _ (by omega) (by omega) (by omega),h.row _ _ (jT s3)]
theorem bW.Mp (h:bW lab b H) {i:Nat} {x:Node} {ys:List Attr} {N:Lb} (hi:i<b.n0) (hx:b.nodes[i]?=some x) (hN:N=lab (4+2*i)∨∀p,p<4+2*b.n0→lab p≠N)
  (h1:H2 (lab 1)= .live ⟨5,(b.nodes.mapIdx (cx b.n0 lab)).set i [.bool x.text,.str x.s,.sl N 2 0 ys.length,.int .i64 x.parent,.sl (lab (5+2*i)) 1 0 x.kids.length]⟩)
  (h2:H2 N= .live ⟨2,ay (dY ys)⟩) (h3:∀q,q≠lab 1→q≠N→q≠lab (4+2*i)→H2 q=H q) :
  bW (fun p=>if p=4+2*i then N else lab p) (b.set i {x with attrs:=ys}) H2:=by
 have dm:∀p,p<4+2*b.n0→p≠1→lab p≠lab 1:=fun p hp e=>h.ne hp (by omega) e
 have xY:∀p,p<4+2*b.n0→p≠4+2*i→lab p≠lab (4+2*i):=fun p hp e=>h.ne hp (by omega) e
 have rZ:∀p,p<4+2*b.n0→p≠4+2*i→lab p≠N:=fun p hp e=>by
  rcases hN with rfl|hN
  ·exact xY p hp e
  ·exact hN p hp
 have dM:∀p,p<4+2*b.n0→p≠1→p≠4+2*i→H2 (lab p)=H (lab p):=fun p hp e1 e2=>h3 _ (dm p hp e1) (rZ p hp e2) (xY p hp e2)
 have hj:∀p,p≠4+2*i→(if p=4+2*i then N else lab p)=lab p:=fun p e=>if_neg e
 refine bW.mk' ?_ ?_ ?_ ?_ ?_ ?_ ?_
 ·intro p q hp hq e;change p<4+2*b.n0 at hp;change q<4+2*b.n0 at hq;by_cases e1:p=4+2*i<;>by_cases e2:q=4+2*i
  ·rw[e1,e2]
  ·rw[if_pos e1,if_neg e2] at e;exact absurd e.symm (rZ q hq e2)
  ·rw[if_neg e1,if_pos e2] at e;exact absurd e (rZ p hp e1)
  ·rw[if_neg e1,if_neg e2] at e;exact h.inj p q (a9.2 hp) (a9.2 hq) e
 ·simp only[hj 0 (by omega),hj 1 (by omega),hj 2 (by omega),hj 3 (by omega)];rw[dM 0 (by omega) (by omega) (by omega),h.s];simp[Bn.set]
 ·simp only[hj 1 (by omega)];rw[h1,Bn.zx]
  congr 2
  refine List.ext_getElem? fun j=> ?_
  simp only[List.getElem?_set,List.length_mapIdx,List.getElem?_mapIdx];by_cases e:i=j
  ·subst e;simp only[if_true]
   congr 1
   simp[cx,hi,hj (5+2*i) (by omega)]
  ·simp only[e,if_false]
   congr 1
   funext z;simp only[cx];rw[if_neg (show ¬4+2*j=4+2*i by omega),if_neg (show ¬5+2*j=4+2*i by omega)]
 ·simp only[hj 2 (by omega)];rw[dM 2 (by omega) (by omega) (by omega),h.f];rfl
 ·simp only[hj 3 (by omega)];rw[dM 3 (by omega) (by omega) (by omega),h.a];rfl
 ·intro j s3;change j<b.n0 at s3;rw[b.lR hx];by_cases e:j=i
  ·subst e;simp only[if_true];exact h2
  ·simp only[hj (4+2*j) (by omega),e,if_false];rw[dM _ (by omega) (by omega) (by omega),h.row _ _ (jS s3)]
 ·intro j s3;change j<b.n0 at s3;simp only[hj (5+2*j) (by omega)];rw[dM _ (by omega) (by omega) (by omega),h.row _ _ (jT s3),b.uZ hx];split
  ·rename_i e;subst e;rw[Bn.i_ hx]
  ·rfl
theorem bW.push (h:bW lab b H) {y:Node} {N:Lb} (hn:b.n0≤b.nodes.length) (hN:N=lab 1∨∀p,p<4+2*b.n0→lab p≠N)
  (h0:H2 (lab 0)= .live ⟨3,[[.sl N 5 0 (b.nodes.length+1),.sl (lab 2) 1 0 b.fs.length,.sl (lab 3) 1 0 b.as.length]]⟩)
  (h1:H2 N= .live ⟨5,b.nodes.mapIdx (cx b.n0 lab)++[[.bool y.text,.str y.s,.list (dY y.attrs),.int .i64 y.parent,.list (y.kids.map a6)]]⟩) (h3:∀q,q≠lab 0→q≠lab 1→q≠N→H2 q=H q) :
  bW (fun p=>if p=1 then N else lab p) (b.put y) H2:=by
 have rZ:∀p,p<4+2*b.n0→p≠1→lab p≠N:=fun p hp e=>by
  rcases hN with rfl|hN
  ·exact h.ne hp (by omega) e
  ·exact hN p hp
 have dM:∀p,p<4+2*b.n0→p≠0→p≠1→H2 (lab p)=H (lab p):=fun p hp e0 e1=>h3 _ (h.ne hp (by omega) e0) (h.ne hp (by omega) e1) (rZ p hp e1)
 have hj:∀p,p≠1→(if p=1 then N else lab p)=lab p:=fun p e=>if_neg e
 have hlen:(b.put y).nodes.length=b.nodes.length+1:=by simp[Bn.put]
 have Mq:∀j,j<b.n0→(b.put y).nodes[j]?=b.nodes[j]?:=fun j hj=>by simp only[Bn.put];rw[List.getElem?_append_left (by omega)]
 refine bW.mk' ?_ ?_ ?_ ?_ ?_ ?_ ?_
 ·intro p q hp hq e;change p<4+2*b.n0 at hp;change q<4+2*b.n0 at hq;by_cases e1:p=1<;>by_cases e2:q=1
  ·rw[e1,e2]
  ·rw[if_pos e1,if_neg e2] at e;exact absurd e.symm (rZ q hq e2)
  ·rw[if_neg e1,if_pos e2] at e;exact absurd e (rZ p hp e1)
  ·rw[if_neg e1,if_neg e2] at e;exact h.inj p q (a9.2 hp) (a9.2 hq) e
 ·simp only[hj 0 (by omega),if_true,hj 2 (by omega),hj 3 (by omega),hlen];exact h0
 ·show H2 N=_;rw[h1,Bn.Mn]
  have xm:cx b.n0 (fun p=>if p=1 then N else lab p)=cx b.n0 lab:=by
   funext j z;simp only[cx];rw[if_neg (show ¬4+2*j=1 by omega),if_neg (show ¬5+2*j=1 by omega)]
  rw[xm];simp[cx,show ¬b.nodes.length<b.n0 by omega]
 ·simp only[hj 2 (by omega)];rw[dM 2 (by omega) (by omega) (by omega),h.f];rfl
 ·simp only[hj 3 (by omega)];rw[dM 3 (by omega) (by omega) (by omega),h.a];rfl
 ·intro j s3;change j<b.n0 at s3;simp only[hj (4+2*j) (by omega)];rw[dM _ (by omega) (by omega) (by omega),h.row _ _ (jS s3)];simp only[Bn.at,Mq j s3]
 ·intro j s3;change j<b.n0 at s3;simp only[hj (5+2*j) (by omega)];rw[dM _ (by omega) (by omega) (by omega),h.row _ _ (jT s3)];simp only[Bn.kd,Mq j s3]
theorem bW.OP (h:bW lab b H) {i:Nat} {x:Node} {ys:List Int} (hi:b.n0≤i) (hx:b.nodes[i]?=some x)
  (h1:H2 (lab 1)= .live ⟨5,(b.nodes.mapIdx (cx b.n0 lab)).set i [.bool x.text,.str x.s,.list (dY x.attrs),.int .i64 x.parent,.list (ys.map a6)]⟩) (h2:∀q,q≠lab 1→H2 q=H q):bW lab (b.set i {x with kids:=ys}) H2:=by
 have dm:∀p,p<4+2*b.n0→p≠1→lab p≠lab 1:=fun p hp e=>h.ne hp (by omega) e
 refine bW.mk' (fun p q hp hq=>h.inj p q (a9.2 hp) (a9.2 hq)) ?_ ?_ ?_ ?_ ?_ ?_
 ·rw[h2 _ (dm 0 (by omega) (by omega)),h.s];simp[Bn.set]
 ·rw[h1,Bn.zx];simp[cx,show ¬i<b.n0 by omega]
 ·rw[h2 _ (dm 2 (by omega) (by omega)),h.f];rfl
 ·rw[h2 _ (dm 3 (by omega) (by omega)),h.a];rfl
 ·intro j hj;change j<b.n0 at hj;rw[h2 _ (dm _ (by omega) (by omega)),h.row _ _ (jS hj),b.lR hx,if_neg (by omega)]
 ·intro j hj;change j<b.n0 at hj;rw[h2 _ (dm _ (by omega) (by omega)),h.row _ _ (jT hj),b.uZ hx,if_neg (by omega)]
theorem bW.OQ (h:bW lab b H) {fs:List Int} (hl:fs.length=b.fs.length) (h1:H2 (lab 2)= .live ⟨1,ay (fs.map a6)⟩) (h2:∀q,q≠lab 2→H2 q=H q):bW lab {b with fs:=fs} H2:=by
 have dm:∀p,p<4+2*b.n0→p≠2→lab p≠lab 2:=fun p hp e=>h.ne hp (by omega) e
 refine bW.mk' (fun p q hp hq=>h.inj p q (a9.2 hp) (a9.2 hq)) ?_ ?_ ?_ ?_ ?_ ?_
 ·rw[h2 _ (dm 0 (by omega) (by omega)),h.s];simp[hl]
 ·rw[h2 _ (dm 1 (by omega) (by omega)),h.n]
 ·exact h1
 ·rw[h2 _ (dm 3 (by omega) (by omega)),h.a]
 ·intro j hj;change j<b.n0 at hj;rw[h2 _ (dm _ (by omega) (by omega)),h.row _ _ (jS hj)];rfl
 ·intro j hj;change j<b.n0 at hj;rw[h2 _ (dm _ (by omega) (by omega)),h.row _ _ (jT hj)];rfl
theorem bW.Mr (h:bW lab b H) {as:List Int} (hl:as.length=b.as.length) (h1:H2 (lab 3)= .live ⟨1,ay (as.map a6)⟩) (h2:∀q,q≠lab 3→H2 q=H q):bW lab {b with as:=as} H2:=by
 have dm:∀p,p<4+2*b.n0→p≠3→lab p≠lab 3:=fun p hp e=>h.ne hp (by omega) e
 refine bW.mk' (fun p q hp hq=>h.inj p q (a9.2 hp) (a9.2 hq)) ?_ ?_ ?_ ?_ ?_ ?_
 ·rw[h2 _ (dm 0 (by omega) (by omega)),h.s];simp[hl]
 ·rw[h2 _ (dm 1 (by omega) (by omega)),h.n]
 ·rw[h2 _ (dm 2 (by omega) (by omega)),h.f]
 ·exact h1
 ·intro j hj;change j<b.n0 at hj;rw[h2 _ (dm _ (by omega) (by omega)),h.row _ _ (jS hj)];rfl
 ·intro j hj;change j<b.n0 at hj;rw[h2 _ (dm _ (by omega) (by omega)),h.row _ _ (jT hj)];rfl
theorem bW.get (h:bW lab b H) {i:Nat} {x:Node} (hx:b.nodes[i]?=some x):(b.nodes.mapIdx (cx b.n0 lab))[i]?=some (cx b.n0 lab i x):=by
 rw[List.getElem?_mapIdx,hx];rfl
end
end Go.Am

/- The bench: copies of one's own; where a number stands. -/
set_option pp.deepTerms false
set_option pp.deepTerms.threshold 5
namespace Go.Am
open Go Go.RowKit
section
variable {P:Program} {G:Nat→Option (List IV)}
def gK:AC:=
(.seq (.aM [⟨some 2,none,.ak (.c .nil0)⟩]) (.seq (.seq (.aM [⟨some 3,none,.ak (.t 0)⟩,⟨some 4,none,.zZ false (.t 3)⟩]) (.cond (.t 4) (.seq (.aM [⟨some 2,none,.ak (.c .nil0)⟩]) (.gh (.own 2 2) .ret)) .skip)) (.seq (.aM [⟨some 5,none,.lits 0 2 [(.str []),(.str [])] []⟩,⟨some 6,none,.ak (.t 0)⟩,⟨some 7,none,.app (.t 5) (.t 6) 2 32⟩,⟨some 2,none,.ak (.t 7)⟩]) .ret)))
def iq:AC:=
(.seq (.aM [⟨some 2,none,.ak (.c .nil0)⟩]) (.seq (.seq (.aM [⟨some 3,none,.ak (.t 0)⟩,⟨some 4,none,.zZ false (.t 3)⟩]) (.cond (.t 4) (.seq (.aM [⟨some 2,none,.ak (.c .nil0)⟩]) (.gh (.own 2 1) .ret)) .skip)) (.seq (.aM [⟨some 5,none,.lits 0 1 [(.int .i64 0)] []⟩,⟨some 6,none,.ak (.t 0)⟩,⟨some 7,none,.app (.t 5) (.t 6) 1 8⟩,⟨some 2,none,.ak (.t 7)⟩]) .ret)))
theorem FQ {ah:Nat} (hF:aA P G ah=some (8,[(none,2)],cP.bare)) (xs:List Attr) (hx:xs.length≤B):uY P G ah [.list (dY xs)] 2 (dY xs):=by
 refine tG (ac:=gK) hF (by simp) (by simp[ax,AV.aI]) ?_;unfold gK;simp only[↓aX,mX,reduceCtorEq,Nat.reduceEqDiff,Nat.reduceLT,Nat.reduceLeDiff,Nat.reduceAdd,Nat.reduceMul,Int.reduceToNat,Int.reduceLE,Int.reduceLT,x8];refine uR (fun h=> ?_) ?_
 ·simp only[↓aX,mX,reduceCtorEq,Nat.reduceEqDiff,Nat.reduceLT,Nat.reduceLeDiff,Nat.reduceAdd,Nat.reduceMul,Int.reduceToNat,Int.reduceLE,Int.reduceLT];refine⟨.loc 2,?_,?_⟩
  ·rw[h];rfl
  ·rw[h];rfl
 ·simp only[↓aX,mX,reduceCtorEq,Nat.reduceEqDiff,Nat.reduceLT,Nat.reduceLeDiff,Nat.reduceAdd,Nat.reduceMul,Int.reduceToNat,Int.reduceLE,Int.reduceLT];rw[oH 2 32 7 (dY xs) (mA _) (pU _) (by rw[cX];unfold B at hx;omega) (by decide) rfl];simp only[↓aX,mX,reduceCtorEq,Nat.reduceEqDiff,Nat.reduceLT,Nat.reduceLeDiff,Nat.reduceAdd,Nat.reduceMul,Int.reduceToNat,Int.reduceLE,Int.reduceLT]
  exact⟨.loc 7,rfl,by simp[ai]⟩
theorem FR {bf:Nat} (hF:aA P G bf=some (8,[(none,2)],fC.bare)) (xs:List Int) (hx:xs.length≤B):uY P G bf [.list (xs.map a6)] 1 (xs.map a6):=by
 refine tG (ac:=iq) hF (by simp) (by simp[ax,AV.aI]) ?_;unfold iq;simp only[↓aX,mX,reduceCtorEq,Nat.reduceEqDiff,Nat.reduceLT,Nat.reduceLeDiff,Nat.reduceAdd,Nat.reduceMul,Int.reduceToNat,Int.reduceLE,Int.reduceLT,x8];refine uR (fun h=> ?_) ?_
 ·simp only[↓aX,mX,reduceCtorEq,Nat.reduceEqDiff,Nat.reduceLT,Nat.reduceLeDiff,Nat.reduceAdd,Nat.reduceMul,Int.reduceToNat,Int.reduceLE,Int.reduceLT];refine⟨.loc 2,?_,?_⟩
  ·rw[List.map_eq_nil_iff.1 h];rfl
  ·rw[h];rfl
 ·simp only[↓aX,mX,reduceCtorEq,Nat.reduceEqDiff,Nat.reduceLT,Nat.reduceLeDiff,Nat.reduceAdd,Nat.reduceMul,Int.reduceToNat,Int.reduceLE,Int.reduceLT];rw[oH 1 8 7 (xs.map a6) (oD _) (mb _) (by rw[List.length_map];unfold B at hx;omega) (by decide) rfl];simp only[↓aX,mX,reduceCtorEq,Nat.reduceEqDiff,Nat.reduceLT,Nat.reduceLeDiff,Nat.reduceAdd,Nat.reduceMul,Int.reduceToNat,Int.reduceLE,Int.reduceLT]
  exact⟨.loc 7,rfl,by simp[ai]⟩
def jE (xs:List Int) (v:Int):Int:=match xs.findIdx? (·==v) with|some k=>(k:Int)|none=> -1
theorem zy {xs:List Int} {v:Int} {k:Nat} (h:xs[k]?=some v) (hb:∀j,j<k→xs[j]?≠some v):jE xs v=k:=by
 have:xs.findIdx? (·==v)=some k:=by
  rw[List.findIdx?_eq_some_iff_getElem];obtain⟨hk,e⟩:=List.getElem?_eq_some_iff.1 h;refine⟨hk,by simp[e],fun j hj=> ?_⟩;have h2:=hb j hj;rw[List.getElem?_eq_getElem (by omega)] at h2;simpa using h2
 rw[jE,this]
theorem tJ {xs:List Int} {v:Int} (h:∀j,j<xs.length→xs[j]?≠some v):jE xs v= -1:=by
 have:xs.findIdx? (·==v)=none:=by
  rw[List.findIdx?_eq_none_iff];intro x hx;obtain⟨j,hj⟩:=List.getElem?_of_mem hx;have h2:=h j (List.getElem?_eq_some_iff.1 hj).1;rw[hj] at h2;simpa using h2
 rw[jE,this]
theorem FT (xs:List Int) (i:Nat):(xs.map a6)[i]?=(xs[i]?).map a6:=List.getElem?_map ..
theorem AN (n:Int):(a6 n).cells=[.int .i64 n]:=rfl
def ea:AC:=
(.seq (.aM [⟨some 4,none,.ak (.c (.int .i64 0))⟩]) (.seq (.seq (.aM [⟨some 6,none,.ak (.t 0)⟩,⟨some 7,none,.len (.t 6)⟩,⟨some 8,none,.ak (.c (.int .i64 0))⟩]) (.block 0 (.loop (.seq (.aM [⟨some 9,none,.bin .lss (.t 8) (.t 7)⟩]) (.seq (.cond (.t 9) .skip (.exit 0)) (.seq (.block 1 (.seq (.aM [⟨some 10,none,.ak (.t 8)⟩,⟨some 5,none,.ak (.t 10)⟩]) (.seq (.aM [⟨some 11,none,.ak (.t 1)⟩,⟨some 12,none,.ak (.t 0)⟩,⟨some 13,none,.ak (.t 5)⟩,⟨some 14,none,.fJ (.t 12) (.t 13) 1⟩,⟨some 15,none,.load none (.t 14)⟩,⟨some 16,none,.bin .eql (.t 11) (.t 15)⟩]) (.cond (.t 16) (.seq (.aM [⟨some 17,none,.ak (.t 5)⟩,⟨some 4,none,.ak (.t 17)⟩]) .ret) .skip)))) (.aM [⟨some 18,none,.bin .add (.t 8) (.c (.int .i64 1))⟩,⟨some 8,none,.ak (.t 18)⟩]))))))) (.seq (.aM [⟨some 4,none,.ak (.c (.int .i64 (-1)))⟩]) .ret)))
theorem AP {bP:Nat} (hF:aA P G bP=some (19,[(none,4)],ea.bare)) (xs:List Int) (v:Int) (hx:xs.length≤B) :
  az P G bP [.list (xs.map a6),.int .i64 v] (.int .i64 (jE xs v)):=by
 refine bm hF (by simp) (by simp[ax,AV.aI]) (by simp[AV.aI]) ?_;unfold ea;simp only[↓aX,mX,reduceCtorEq,Nat.reduceEqDiff,Nat.reduceLT,Nat.reduceLeDiff,Nat.reduceAdd,Nat.reduceMul,Int.reduceToNat,Int.reduceLE,Int.reduceLT,List.length_map]
 refine jW (σ:={i:Nat // i≤xs.length∧∀j,j<i→xs[j]?≠some v}) (fun q=>[(0,.list (xs.map a6)),(1,.int .i64 v),(7,.int .i64 xs.length),(8,.int .i64 q.1)]) (fun q=>xs.length - q.1) ⟨0,by simp⟩ (fun _=>rfl) ?_ ?_
 ·exact⟨by simp only[↓aX,mX,reduceCtorEq,Nat.reduceEqDiff,Nat.reduceLT,Nat.reduceLeDiff,Nat.reduceAdd,Nat.reduceMul,Int.reduceToNat,Int.reduceLE,Int.reduceLT],by repeat' constructor⟩
 ·rintro⟨i,hi,hs⟩;simp only[↓aX,mX,reduceCtorEq,Nat.reduceEqDiff,Nat.reduceLT,Nat.reduceLeDiff,Nat.reduceAdd,Nat.reduceMul,Int.reduceToNat,Int.reduceLE,Int.reduceLT,List.length_map];by_cases cj:i<xs.length
  ·rw[show decide ((i:Int)<(xs.length:Int))=true by simpa using cj];obtain⟨x,mj⟩:∃x,xs[i]?=some x:=⟨_,List.getElem?_eq_getElem cj⟩;have hw:IntKind.i64.wrap ((i:Int)+1)=((i+1:Nat):Int):=wrap64 (by omega) (by unfold B at hx;omega)
   simp only[↓aX,mX,reduceCtorEq,Nat.reduceEqDiff,Nat.reduceLT,Nat.reduceLeDiff,Nat.reduceAdd,Nat.reduceMul,Int.reduceToNat,Int.reduceLE,Int.reduceLT,FT,mj,Option.map_some,oD,AN,hw];by_cases xE:x=v
   ·subst xE;rw[zy mj hs];simp only[↓aX,mX,reduceCtorEq,Nat.reduceEqDiff,Nat.reduceLT,Nat.reduceLeDiff,Nat.reduceAdd,Nat.reduceMul,Int.reduceToNat,Int.reduceLE,Int.reduceLT]
   ·rw[show(v==x)=false by simpa using fun e=>xE e.symm];simp only[↓aX,mX,reduceCtorEq,Nat.reduceEqDiff,Nat.reduceLT,Nat.reduceLeDiff,Nat.reduceAdd,Nat.reduceMul,Int.reduceToNat,Int.reduceLE,Int.reduceLT,hw];refine⟨⟨i+1,cj,fun j hj=> ?_⟩,by simp only;omega,rfl⟩;by_cases e:j=i
    ·rw[e,mj];simpa using xE
    ·exact hs j (by omega)
  ·rw[show decide ((i:Int)<(xs.length:Int))=false by simpa using cj];simp only[↓aX,mX,reduceCtorEq,Nat.reduceEqDiff,Nat.reduceLT,Nat.reduceLeDiff,Nat.reduceAdd,Nat.reduceMul,Int.reduceToNat,Int.reduceLE,Int.reduceLT];rw[tJ fun j hj=>hs j (by omega)]
end
end Go.Am

/- THE ABSTRACT MACHINE, part 46: room that is known: what append and copy do. -/
namespace Go.Am
open Go Go.RowKit
section
variable {H:Hp} {l:Lb} {sz b d n c i m:Nat} {els news:List (List AV)} {xs:List IV}
theorem r6 (hl:H l= .live ⟨sz,els⟩) (hn:n≤els.length) (he:iw sz xs) (hf:Flat xs) (h0:0<b) (hd:l≠ .loc d) (hc:n+xs.length≤c) (JM:n+xs.length≤els.length) :
  j8 sz b d (.slk l sz 0 n c) (.list xs) H=some (.slk l sz 0 (n+xs.length) c,bG H l (.live ⟨sz,els.take n++ay xs++els.drop (n+xs.length)⟩)):=by
 unfold j8;rw[ig he];have h1:(ay xs).length=xs.length:=cB xs;simp only[Option.bind_some,hf.one,not_true_eq_false,if_false,hl,true_and,hn,h0,Ne.symm,ne_eq,hd,not_false_eq_true,h1,hc,JM,if_true];simpa using hf.one
theorem qa {x:AV} (hs:jL sz x H=some news) (ho:∀cs∈news,AV.la cs) (hl:H l= .live ⟨sz,els⟩) (hn:n≤els.length) (h0:0<b) (hd:l≠ .loc d) (hc:n+news.length≤c) (JM:n+news.length≤els.length) :
  j8 sz b d (.slk l sz 0 n c) x H=some (.slk l sz 0 (n+news.length) c,bG H l (.live ⟨sz,els.take n++news++els.drop (n+news.length)⟩)):=by
 unfold j8;simp only[hs,Option.bind_some,hl,true_and,hn,h0,ne_eq,hd,not_false_eq_true,hc,JM,if_true];simpa using ho
theorem CW {x:AV} {z:List AV} (hz:AV.la z) (hp:GP x=some (l,sz,i,n)) (hl:H l= .live ⟨sz,els⟩) (mn:i+n≤els.length) :
  uq sz z x H=some (bG H l (.live ⟨sz,els.take i++List.replicate n z++els.drop (i+n)⟩)):=by
 unfold uq;rw[if_neg (by simpa using hz)];simp only[hp,Option.bind_some,hl,true_and,mn,if_true,List.length_replicate]
theorem qb (hl:H l= .live ⟨sz,els⟩) (hn:n≤els.length) (he:iw sz xs) (hf:Flat xs) (h0:0<b) (hd:l≠ .loc d) (hc:c<n+xs.length) (hb:(n+xs.length)*b≤140737488355328) (hu:H (.loc d)= .unused) :
  j8 sz b d (.slk l sz 0 n c) (.list xs) H=some (.sl (.loc d) sz 0 (n+xs.length),bG H (.loc d) (.live ⟨sz,els.take n++ay xs⟩)):=by
 unfold j8;rw[ig he];have h1:(ay xs).length=xs.length:=cB xs;have ND:¬(n+xs.length≤c):=by omega
 simp only[Option.bind_some,hl,true_and,hn,h0,ne_eq,hd,not_false_eq_true,h1,ND,hb,hu,if_true,if_false,and_self];simpa using hf.one
theorem wu {z:List AV} {k:IntKind} (hl:H l= .live ⟨sz,els⟩) (hn:n≤els.length) (hc:c<n+m) (hb:(n+m)*b≤140737488355328) (hu:H (.loc d)= .unused) :
  s6 sz b d z (.slk l sz 0 n c) (.int k (m:Int)) H=some (.sl (.loc d) sz 0 (n+m),bG H (.loc d) (.live ⟨sz,els.take n++List.replicate m z⟩)):=by
 unfold s6;simp only[hl,true_and,hn,Int.natCast_nonneg,Int.toNat_natCast,hc,hb,hu,and_self,if_true]
theorem mH {x y:AV} (hs:jL sz x H=some news) (hp:GP y=some (l,sz,i,n)) (hl:H l= .live ⟨sz,els⟩) (mn:i+n≤els.length) (hm:m=Nat.min news.length n) (ho:∀cs∈news.take m,AV.la cs) :
  uo sz y x H=some (.int .i64 (m:Int),bG H l (.live ⟨sz,els.take i++news.take m++els.drop (i+m)⟩)):=by
 unfold uo;subst hm;simp only[hs,Option.bind_some,hp,hl,true_and,mn,if_true];rw[if_neg (by simpa using ho)];have:(news.take (Nat.min news.length n)).length=Nat.min news.length n:=by rw[List.length_take];exact Nat.min_eq_left (Nat.min_le_left _ _)
 rw[this]
end
theorem ly {xs:List IV} {rest:List (List AV)} {i k:Nat} (h:i+k≤xs.length):((ay xs++rest).drop i).take k=ay ((xs.drop i).take k):=by
 have h1:=cB xs;rw[List.drop_append_of_le_length (by omega),List.take_append_of_le_length (by simp;omega)];simp[ay,List.map_drop,List.map_take]
theorem gX {xs:List IV} {rest:List (List AV)} {k:Nat} (h:k≤xs.length):(ay xs++rest).take k=ay (xs.take k):=by
 have h1:=cB xs;rw[List.take_append_of_le_length (by omega)];simp[ay,List.map_take]
theorem Flat.part {xs:List IV} (h:Flat xs) (i k:Nat):Flat ((xs.drop i).take k):=fun y hy=>h y (List.mem_of_mem_drop (List.mem_of_mem_take hy))
end Go.Am

/- Trees out of their own text. -/
namespace Go.Am
open Go Go.RowKit
theorem jZ (a:UInt8):¬a<a:=by rw[UInt8.lt_iff_toNat_lt];omega
theorem CX {a b c:UInt8} (h:a<b) (h2:b<c):a<c:=by rw[UInt8.lt_iff_toNat_lt] at *;omega
theorem yk (a b:UInt8):a<b∨a=b∨b<a:=by
 simp only[UInt8.lt_iff_toNat_lt];rcases Nat.lt_trichotomy a.toNat b.toNat with h|h|h
 ·exact .inl h
 ·exact .inr (.inl (UInt8.toNat.inj h))
 ·exact .inr (.inr h)
theorem yl:∀x:Bs,Op.bytesLess x x=false
 |[]=>rfl
 |a::x=>by simp[Op.bytesLess,jZ,yl x]
theorem oV:∀{x y z:Bs},Op.bytesLess x y=true→Op.bytesLess y z=true→Op.bytesLess x z=true
 |[],[],_,h,_=>by simp[Op.bytesLess] at h
 |[],_::_,[],_,h=>by simp[Op.bytesLess] at h
 |[],_::_,_::_,_,_=>rfl
 |_::_,[],_,h,_=>by simp[Op.bytesLess] at h
 |_::_,_::_,[],_,h=>by simp[Op.bytesLess] at h
 |a::x,b::y,c::z,h1,h2=>by
  simp only[Op.bytesLess,Bool.or_eq_true,decide_eq_true_eq,Bool.and_eq_true,beq_iff_eq] at h1 h2 ⊢;rcases h1 with h1|⟨rfl,h1⟩
  ·rcases h2 with h2|⟨rfl,h2⟩
   ·exact .inl (CX h1 h2)
   ·exact .inl h1
  ·rcases h2 with h2|⟨rfl,h2⟩
   ·exact .inl h2
   ·exact .inr ⟨rfl,oV h1 h2⟩
theorem zz {x y:Bs} (h:Op.bytesLess x y=true):Op.bytesLess y x=false:=by
 cases h2:Op.bytesLess y x with
 |false=>rfl
 |true=>have:=oV h h2;rw[yl] at this;cases this
theorem ym:∀x y:Bs,Op.bytesLess x y=true∨x=y∨Op.bytesLess y x=true
 |[],[]=> .inr (.inl rfl)
 |[],_::_=> .inl rfl
 |_::_,[]=> .inr (.inr rfl)
 |a::x,b::y=>by
  simp only[Op.bytesLess,Bool.or_eq_true,decide_eq_true_eq,Bool.and_eq_true,beq_iff_eq,List.cons.injEq];rcases yk a b with h|rfl|h
  ·exact .inl (.inl h)
  ·rcases ym x y with h|rfl|h
   ·exact .inl (.inr ⟨rfl,h⟩)
   ·exact .inr (.inl ⟨rfl,rfl⟩)
   ·exact .inr (.inr (.inr ⟨rfl,h⟩))
  ·exact .inr (.inr (.inl h))
def gD:List Attr→Bool
 |[]=>true
 |[_]=>true
 |a::b::r=>Op.bytesLess a.name b.name&&gD (b::r)
theorem mI (a:Attr) (l:List Attr) (i:Nat):hY (a::l) (i+1)=(hY l i&&(if i=0 then match l[0]? with|some b=>Op.bytesLess a.name b.name|none=>true else true)):=by
 unfold hY;cases i with
 |zero=>
  simp only[List.getElem?_cons_succ,Nat.zero_add,Nat.add_sub_cancel,List.getElem?_cons_zero,if_true];cases l[0]?<;>simp[Bool.and_assoc]
 |succ i=>
  simp only[List.getElem?_cons_succ,Nat.add_sub_cancel];cases l[i+1]?<;>simp
theorem kV (as:List Attr):fL as=true↔(∀a∈as,named a.name=true∧plain a.val=true)∧gD as=true∧as.length≤4:=by
 have key:∀as:List Attr,(∀i,i<as.length→hY as i=true)↔(∀a∈as,named a.name=true∧plain a.val=true)∧gD as=true:=by
  intro as
  induction as with
  |nil=>simp[gD]
  |cons a l ih=>
   constructor
   ·intro h;have h0:=h 0 (by simp)
    have P_:=ih.1 fun i hi=>by
     have:=h (i+1) (by simpa using hi);rw[mI,Bool.and_eq_true] at this;exact this.1
    simp only[hY,List.getElem?_cons_zero,Bool.and_eq_true] at h0;refine⟨fun x hx=> ?_,?_⟩
    ·simp only[List.mem_cons] at hx;rcases hx with rfl|hx
     ·exact⟨h0.1,h0.2.1⟩
     ·exact P_.1 x hx
    ·cases l with
     |nil=>rfl
     |cons b r=>
      have:=h 1 (by simp);rw[mI,Bool.and_eq_true] at this;simp only[gD,Bool.and_eq_true];exact⟨by simpa using this.2,P_.2⟩
   ·rintro⟨h1,h2⟩ i hi
    have hl:∀i,i<l.length→hY l i=true:=ih.2 ⟨fun x hx=>h1 x (by simp[hx]),by
     cases l with
     |nil=>rfl
     |cons b r=>simp only[gD,Bool.and_eq_true] at h2;exact h2.2⟩
    cases i with
    |zero=>simp[hY,(h1 a (by simp)).1,(h1 a (by simp)).2]
    |succ i=>
     rw[mI,hl i (by simpa using hi)];cases l with
     |nil=>simp at hi
     |cons b r=>
      simp only[gD,Bool.and_eq_true] at h2;by_cases e:i=0
      ·simp[e,h2.1]
      ·simp[e]
 unfold fL;rw[Bool.and_eq_true,List.all_eq_true,←and_assoc,←key];constructor
 ·rintro⟨h1,h2⟩;simp only[decide_eq_true_eq] at h2;exact⟨fun i hi=>h1 i (by simpa using hi),by omega⟩
 ·rintro⟨h1,h2⟩;exact⟨fun i hi=>h1 i (by simpa using hi),by simp only[decide_eq_true_eq];omega⟩
theorem qF:∀{a:Attr} {l:List Attr},gD (a::l)=true→∀b∈l,Op.bytesLess a.name b.name=true
 |_,[],_,b,hb=>by simp at hb
 |a,c::r,h,b,hb=>by
  simp only[gD,Bool.and_eq_true] at h;simp only[List.mem_cons] at hb;rcases hb with rfl|hb
  ·exact h.1
  ·exact oV h.1 (qF h.2 b hb)
theorem px {a:Attr} {l:List Attr} (h:gD (a::l)=true):gD l=true:=by
 cases l with
 |nil=>rfl
 |cons b r=>simp only[gD,Bool.and_eq_true] at h;exact h.2
end Go.Am

/- Letters: sets of bytes; a string cut at both ends. -/
namespace Go.Am
open Go Go.RowKit
def Mp (f:Nat→Bool):List AV:=(List.range 256).map fun i=> .bool (f i)
end Go.Am

/- Strings cut and split. -/
namespace Go.Am
open Go Go.RowKit
theorem JN {S:St} {f:Nat} {fn:Func} {e:Array Value→Sem Value} {args:List AV} {H:Hp} {res:AV} (hf:S.P.funcs[f]?=some fn) (wq:(fn.name== "runtime.NumGoroutine")=false) (hb:fn.body.isNone=true)
  (hn:Extern.findNext fn=none) (he:Extern.find fn=some e) (hr:∀(w:World) (β:Lb→Option Nat) (I:Nat→Prop) (vs:List Value),b8 w β H I args vs→∃v,(e vs.toArray).run S.P w= .ok v w∧RV w β H I res v) (hl:res.aI=[]) :
  mu S f args H res:=by
 intro K β env a w vs hS nO hv;subst hS;obtain⟨v,h1,h2⟩:=hr w β _ vs hv;refine⟨v,w,?_,Below.refl _ _,h2,by simp[hl]⟩;rw[run_callFunc_extern hf wq hb hn he,h1];rfl
theorem OR {w:World} {β:Lb→Option Nat} {H:Hp} {I:Nat→Prop} {x y:AV} {vs:List Value} (h:b8 w β H I [x,y] vs):∃u v,vs=[u,v]∧RV w β H I x u∧RV w β H I y v:=by
 match vs,h with
 |[u,v],h=>
  simp only[b8] at h;obtain⟨_,_,h0,h1,_,_,h2,h3,h4⟩:=h;cases h0;cases h2;cases h4;exact⟨u,v,rfl,h1,h3⟩
theorem wv {S:St} {f:Nat} {fn:Func} (hf:S.P.funcs[f]?=some fn) (wq:(fn.name== "runtime.NumGoroutine")=false) (hb:fn.body.isNone=true)
  (hn:Extern.findNext fn=none) (he:Extern.find fn=some Extern.BytealgCompare.compare) (s t:Bs) (H:Hp):mu S f [.str s,.str t] H (.int .i64 (Lib.compareBytes s t)):=by
 refine JN hf wq hb hn he (fun w β I vs hv=> ?_) rfl;obtain⟨u,v,rfl,h1,h2⟩:=OR hv;simp only[RV] at h1 h2;subst h1;subst h2;exact⟨_,Lib.run_compareString _ _ _,by simp[RV]⟩
def r7 (c:UInt8):Bs→List Bs
 |[]=>[[]]
 |b::r=>if b=c then []::r7 c r else match r7 c r with
  |w::ws=>(b::w)::ws
  |[]=>[[b]]
section
variable {P:Program} {G:Nat→Option (List IV)}
end
end Go.Am

/- THE ABSTRACT MACHINE, part 47: calls of values. -/
namespace Go.Am
open Go Go.RowKit
section
variable {S:St} {env:Env} {H:Hp}
def OS (S:St) (x:AV) (args:List AV) (H:Hp) (k:AV→Hp→Prop) (_:Tw k):Prop:=∃f first cap,x= .fn f first cap∧j5 S.P f=true∧l7 S f (first++args++cap) H k
theorem r9 (d:Option Nat) (x:O) (args:List O) (k:AV→Hp→Prop):bX S d (.j4 x args) env H k=OS S (ev env x) (args.map (ev env)) H k .mk:=rfl
theorem yn (f:Nat) (first cap args:List AV) (k:AV→Hp→Prop) (u:Tw k):OS S (.fn f first cap) args H k u=(j5 S.P f=true∧Bq S f (first++args++cap) H k .mk):=by
 simp only[OS,Bq,AV.fn.injEq,eq_iff_iff];constructor
 ·rintro⟨_,_,_,⟨rfl,rfl,rfl⟩,h⟩;exact h
 ·intro h;exact⟨_,_,_,⟨rfl,rfl,rfl⟩,h⟩
end
end Go.Am

/- Reading: attributes. -/
set_option pp.deepTerms false
set_option pp.deepTerms.threshold 5
namespace Go.Am
open Go Go.RowKit
theorem nc:∀l m:List Attr,l_ (l++m)=l_ l+l_ m
 |[],m=>by simp[l_]
 |a::r,m=>by simp[l_,nc r m];omega
section
variable {P:Program} {G:Nat→Option (List IV)}
end
end Go.Am

/- Attributes sorted. -/
set_option pp.deepTerms false
set_option pp.deepTerms.threshold 5
namespace Go.Am
open Go Go.RowKit
def Attr.Nu (a:Attr):AV:= .agg [.str a.name,.str a.val]
section
variable {P:Program} {G:Nat→Option (List IV)}
def cT (a5:Nat):AC:=
(.seq (.aM [⟨some 4,none,.ak (.c (.int .i64 0))⟩]) (.seq (.aM [⟨some 5,none,.ak (.t 0)⟩,⟨some 6,none,.ak (.t 1)⟩,⟨some 7,none,.lZ a5 [(.t 5),(.t 6)]⟩,⟨some 4,none,.ak (.t 7)⟩]) .ret))
theorem yo {ba a5:Nat} (hF:aA P G ba=some (8,[(none,4)],(cT a5).bare))
  (hX:∀(N:Nat) (s t:Bs) (H:Hp),mu ⟨P,G,N⟩ a5 [.str s,.str t] H (.int .i64 (Lib.compareBytes s t))) (s t:Bs) :
  az P G ba [.str s,.str t] (.int .i64 (Lib.compareBytes s t)):=by
 refine bm hF (by simp) (by simp[ax,AV.aI]) (by simp[AV.aI]) ?_;unfold cT;simp only[↓aX,mX,reduceCtorEq,Nat.reduceEqDiff,Nat.reduceLT,Nat.reduceLeDiff,Nat.reduceAdd,Nat.reduceMul,Int.reduceToNat,Int.reduceLE,Int.reduceLT];refine xP (hX _ _ _ _) ?_;simp only[↓aX,mX,reduceCtorEq,Nat.reduceEqDiff,Nat.reduceLT,Nat.reduceLeDiff,Nat.reduceAdd,Nat.reduceMul,Int.reduceToNat,Int.reduceLE,Int.reduceLT]
def fY (ba:Nat):AC:=
(.seq (.aM [⟨some 4,none,.ak (.c (.int .i64 0))⟩]) (.seq (.aM [⟨some 5,none,.ak (.t 0)⟩,⟨some 6,none,.ak (.t 1)⟩,⟨some 7,none,.call ba [(.t 5),(.t 6)]⟩,⟨some 4,none,.ak (.t 7)⟩]) .ret))
theorem CY {cf ba:Nat} (hF:aA P G cf=some (8,[(none,4)],(fY ba).bare)) (s t:Bs) (hC:az P G ba [.str s,.str t] (.int .i64 (Lib.compareBytes s t))) :
  az P G cf [.str s,.str t] (.int .i64 (Lib.compareBytes s t)):=by
 refine bm hF (by simp) (by simp[ax,AV.aI]) (by simp[AV.aI]) ?_;unfold fY;simp only[↓aX,mX,reduceCtorEq,Nat.reduceEqDiff,Nat.reduceLT,Nat.reduceLeDiff,Nat.reduceAdd,Nat.reduceMul,Int.reduceToNat,Int.reduceLE,Int.reduceLT];refine aO hC ?_;simp only[↓aX,mX,reduceCtorEq,Nat.reduceEqDiff,Nat.reduceLT,Nat.reduceLeDiff,Nat.reduceAdd,Nat.reduceMul,Int.reduceToNat,Int.reduceLE,Int.reduceLT]
theorem wx:∀s t:Bs,decide (Lib.compareBytes s t<0)=Op.bytesLess s t
 |[],[]=>rfl
 |[],_::_=>rfl
 |_::_,[]=>rfl
 |a::as,b::bs=>by
   have ih:=wx as bs
   simp only[Lib.compareBytes,Op.bytesLess]
   by_cases h1:a<b
   · simp[h1]
   · by_cases h2 : b < a
     · simp only[h1,h2,if_true,if_false]
       have:¬a=b:=fun e=>h1 (by rw[e] at h2;exact absurd h2 (jZ _))
       simp_all
     · have h3:a=b:=(yk a b).elim (fun h=>absurd h h1) (fun h=>h.elim id (fun h=>absurd h h2))
       subst h3
       simp only[jZ,if_false,ih]
       try simp
end
end Go.Am

/- Attributes: where a name stands among sorted ones. -/
set_option pp.deepTerms false
set_option pp.deepTerms.threshold 5
namespace Go.Am
open Go Go.RowKit
def er (as:List Attr) (key:Bs):Nat:=(as.takeWhile fun a=>Op.bytesLess a.name key).length
def mJ (as:List Attr) (key:Bs):Bool:=match as[er as key]? with|some a=>a.name==key|none=>false
theorem zA {key:Bs}:∀{as:List Attr} {k:Nat},k≤as.length→(∀j a,j<k→as[j]?=some a→Op.bytesLess a.name key=true)→(∀a,as[k]?=some a→Op.bytesLess a.name key=false)→er as key=k
 |[],k,h,_,_=>by simp at h;subst h;rfl
 |a::r,0,_,_,h2=>by
  have:=h2 a rfl;simp[er,List.takeWhile_cons,this]
 |a::r,k+1,h,h1,h2=>by
  have ha:=h1 0 a (by omega) rfl;have ih:=zA (key:=key) (as:=r) (k:=k) (by simpa using h) (fun j b hj hb=>h1 (j+1) b (by omega) (by simpa using hb)) (fun b hb=>h2 b (by simpa using hb));simp only[er] at ih;simp[er,List.takeWhile_cons,ha,ih]
theorem wy {as:List Attr} (h:gD as=true):∀{i j:Nat} {a b:Attr},i<j→as[i]?=some a→as[j]?=some b→Op.bytesLess a.name b.name=true:=by
 induction as with
 |nil=>intro i j a b _ hi;simp at hi
 |cons x r ih=>
  intro i j a b Rx hi hj;cases j with
  |zero=>omega
  |succ j=>
   simp only[List.getElem?_cons_succ] at hj;cases i with
   |zero=>
    simp only[List.getElem?_cons_zero,Option.some.injEq] at hi;subst hi;exact qF h b (List.mem_of_getElem? hj)
   |succ i=>exact ih (px h) (Nat.lt_of_succ_lt_succ Rx) (by simpa using hi) hj
section
variable {P:Program} {G:Nat→Option (List IV)}
def ey (cf:Nat):AC:=
(.seq (.aM [⟨some 2,none,.box (.t 0)⟩,⟨some 4,none,.ak (.c (.int .i64 0))⟩]) (.seq (.aM [⟨some 5,none,.bV (.t 2) 0⟩,⟨some 6,none,.load none (.t 5)⟩,⟨some 7,none,.ak (.t 1)⟩,⟨some 8,none,.call cf [(.t 6),(.t 7)]⟩,⟨some 4,none,.ak (.t 8)⟩]) .ret))
theorem Ms {bM cf:Nat} (hF:aA P G bM=some (9,[(none,4)],(ey cf).bare)) (a:Attr) (s:Bs) (hC:az P G cf [.str a.name,.str s] (.int .i64 (Lib.compareBytes a.name s))) :
  az P G bM [a.Nu,.str s] (.int .i64 (Lib.compareBytes a.name s)):=by
 refine bm hF (by simp) (by simp[ax,AV.aI,Attr.Nu]) (by simp[AV.aI]) ?_;unfold ey;simp only[↓aX,mX,reduceCtorEq,Nat.reduceEqDiff,Nat.reduceLT,Nat.reduceLeDiff,Nat.reduceAdd,Nat.reduceMul,Int.reduceToNat,Int.reduceLE,Int.reduceLT,Attr.Nu];refine aO hC ?_;simp only[↓aX,mX,reduceCtorEq,Nat.reduceEqDiff,Nat.reduceLT,Nat.reduceLeDiff,Nat.reduceAdd,Nat.reduceMul,Int.reduceToNat,Int.reduceLE,Int.reduceLT]
theorem wz:∀s t:Bs,(Lib.compareBytes s t==0)=(s==t)
 |[],[]=>rfl
 |[],_::_=>rfl
 |_::_,[]=>rfl
 |a::as,b::bs=>by
   have ih:=wz as bs
   simp only[Lib.compareBytes]
   by_cases h1:a<b
   · have:a≠b:=fun e=>by subst e;exact absurd h1 (jZ _)
     simp[h1,this]
   · by_cases h2 : b < a
     · have:a≠b:=fun e=>by subst e;exact absurd h2 (jZ _)
       simp[h1,h2,this]
     · have h3:a=b:=(yk a b).elim (fun h=>absurd h h1) (fun h=>h.elim id (fun h=>absurd h h2))
       subst h3
       simp[jZ,ih]
def b9:AC:=
(.seq (.aM [⟨some 6,none,.ak (.c (.int .i64 0))⟩,⟨some 7,none,.ak (.c (.bool false))⟩]) (.seq (.aM [⟨some 12,none,.ak (.t 0)⟩,⟨some 13,none,.len (.t 12)⟩,⟨some 8,none,.ak (.t 13)⟩]) (.seq (.aM [⟨some 14,none,.ak (.t 8)⟩,⟨some 9,none,.ak (.c (.int .i64 0))⟩,⟨some 10,none,.ak (.t 14)⟩]) (.seq (.block 0 (.loop (.seq (.seq (.aM [⟨some 15,none,.ak (.t 9)⟩,⟨some 16,none,.ak (.t 10)⟩,⟨some 17,none,.bin .lss (.t 15) (.t 16)⟩]) (.cond (.t 17) .skip (.exit 0))) (.block 1 (.seq (.aM [⟨some 18,none,.ak (.t 9)⟩,⟨some 19,none,.ak (.t 10)⟩,⟨some 20,none,.bin .add (.t 18) (.t 19)⟩,⟨some 21,none,.Bv .u64 (.t 20)⟩,⟨some 22,none,.bin .shr (.t 21) (.c (.int .u64 1))⟩,⟨some 23,none,.Bv .i64 (.t 22)⟩,⟨some 11,none,.ak (.t 23)⟩]) (.seq (.aM [⟨some 24,none,.ak (.t 2)⟩,⟨some 25,none,.ak (.t 0)⟩,⟨some 26,none,.ak (.t 11)⟩,⟨some 27,none,.fJ (.t 25) (.t 26) 2⟩,⟨some 28,none,.load (some 2) (.t 27)⟩,⟨some 29,none,.ak (.t 1)⟩,⟨some 30,none,.j4 (.t 24) [(.t 28),(.t 29)]⟩,⟨some 31,none,.bin .lss (.t 30) (.c (.int .i64 0))⟩]) (.cond (.t 31) (.aM [⟨some 32,none,.ak (.t 11)⟩,⟨some 33,none,.bin .add (.t 32) (.c (.int .i64 1))⟩,⟨some 9,none,.ak (.t 33)⟩]) (.aM [⟨some 34,none,.ak (.t 11)⟩,⟨some 10,none,.ak (.t 34)⟩])))))))) (.seq (.aM [⟨some 35,none,.ak (.t 9)⟩,⟨some 36,none,.ak (.t 9)⟩,⟨some 37,none,.ak (.t 8)⟩,⟨some 38,none,.bin .lss (.t 36) (.t 37)⟩,⟨some 39,none,.ak (.t 38)⟩,⟨some 40,(some (39,true)),(.ak (.t 2))⟩,⟨some 41,(some (39,true)),(.ak (.t 0))⟩,⟨some 42,(some (39,true)),(.ak (.t 9))⟩,⟨some 43,(some (39,true)),(.fJ (.t 41) (.t 42) 2)⟩,⟨some 44,(some (39,true)),(.load (some 2) (.t 43))⟩,⟨some 45,(some (39,true)),(.ak (.t 1))⟩,⟨some 46,(some (39,true)),(.j4 (.t 40) [(.t 44),(.t 45)])⟩,⟨some 47,(some (39,true)),(.bin .eql (.t 46) (.c (.int .i64 0)))⟩,⟨some 48,none,.pick (.t 39) (.t 47) (.c (.bool false))⟩,⟨some 6,none,.ak (.t 35)⟩,⟨some 7,none,.ak (.t 48)⟩]) .ret)))))
structure Ry (as:List Attr) (key:Bs) where
 lo:Nat
 hi:Nat
 h1:lo≤hi
 h2:hi≤as.length
 h3:∀j a,j<lo→as[j]?=some a→Op.bytesLess a.name key=true
 h4:∀j a,hi≤j→as[j]?=some a→Op.bytesLess a.name key=false
theorem yp {aH fc:Nat} (hF:aA P G aH=some (49,[(none,6),(none,7)],b9.bare)) (as:List Attr) (key:Bs) (hx:as.length≤B) (hr:gD as=true) (hb:j5 P fc=true)
  (hC:∀a∈as,az P G fc [a.Nu,.str key] (.int .i64 (Lib.compareBytes a.name key))) :
  az P G aH [.list (dY as),.str key,.fn fc [] []] (.dU [.int .i64 (er as key),.bool (mJ as key)]):=by
 refine bm hF (by simp) (by simp[ax,AV.aI]) (by simp[AV.aI,ax]) ?_;unfold b9;have pw:B=1073741824:=rfl;simp only[↓aX,mX,reduceCtorEq,Nat.reduceEqDiff,Nat.reduceLT,Nat.reduceLeDiff,Nat.reduceAdd,Nat.reduceMul,Int.reduceToNat,Int.reduceLE,Int.reduceLT,cX]
 refine jW (σ:=Ry as key) (fun q=>[(0,.list (dY as)),(1,.str key),(2,.fn fc [] []),(8,.int .i64 as.length),(9,.int .i64 q.lo),(10,.int .i64 q.hi)]) (fun q=>q.hi - q.lo)
  ⟨0,as.length,by omega,by omega,fun j a h=>by omega,fun j a h ha=>by rw[List.getElem?_eq_none (by omega)] at ha;cases ha⟩ (fun _=>rfl) ?_ ?_
 ·exact⟨by simp only[↓aX,mX,reduceCtorEq,Nat.reduceEqDiff,Nat.reduceLT,Nat.reduceLeDiff,Nat.reduceAdd,Nat.reduceMul,Int.reduceToNat,Int.reduceLE,Int.reduceLT],by repeat' constructor⟩
 ·rintro⟨lo,hi,h1,h2,h3,h4⟩;simp only[↓aX,mX,reduceCtorEq,Nat.reduceEqDiff,Nat.reduceLT,Nat.reduceLeDiff,Nat.reduceAdd,Nat.reduceMul,Int.reduceToNat,Int.reduceLE,Int.reduceLT,cX];by_cases cj:lo<hi
  ·rw[show decide ((lo:Int)<(hi:Int))=true by simpa using cj];obtain⟨m,hm⟩:∃m,m=(lo+hi)/2:=⟨_,rfl⟩
   have hw:IntKind.i64.wrap (IntKind.u64.wrap (IntKind.i64.wrap ((lo:Int)+(hi:Int)))/2^min 1 IntKind.u64.bits)=(m:Int):=by
    have h1:IntKind.i64.wrap ((lo:Int)+(hi:Int))=((lo+hi:Nat):Int):=by rw[wrap64 (by omega) (by omega)];omega
    rw[h1];have h2:IntKind.u64.wrap ((lo+hi:Nat):Int)=((lo+hi:Nat):Int):=by rw[IntKind.wrap_u64];omega
    have h3:min 1 IntKind.u64.bits=1:=by decide
    rw[h2,h3];have h4:((lo+hi:Nat):Int)/2^1=(((lo+hi)/2:Nat):Int):=by omega
    rw[h4,wrap64 (by omega) (by omega),hm]
   have Rz:IntKind.i64.wrap ((m:Int)+1)=((m+1:Nat):Int):=wrap64 (by omega) (by omega);obtain⟨x,mj⟩:∃x,as[m]?=some x:=⟨_,List.getElem?_eq_getElem (by omega)⟩;simp only[↓aX,mX,reduceCtorEq,Nat.reduceEqDiff,Nat.reduceLT,Nat.reduceLeDiff,Nat.reduceAdd,Nat.reduceMul,Int.reduceToNat,Int.reduceLE,Int.reduceLT,hw,mY,mj,Option.map_some,mA,Attr.bL,Attr.cs,r9,yn,hb];refine aO (hC x (List.mem_of_getElem? mj)) ?_
   simp only[↓aX,mX,reduceCtorEq,Nat.reduceEqDiff,Nat.reduceLT,Nat.reduceLeDiff,Nat.reduceAdd,Nat.reduceMul,Int.reduceToNat,Int.reduceLE,Int.reduceLT,wx];refine nu (fun h=> ?_) (fun h=> ?_)
   ·simp only[↓aX,mX,reduceCtorEq,Nat.reduceEqDiff,Nat.reduceLT,Nat.reduceLeDiff,Nat.reduceAdd,Nat.reduceMul,Int.reduceToNat,Int.reduceLE,Int.reduceLT,Rz];refine⟨⟨m+1,hi,by omega,h2,fun j a hj ha=> ?_,h4⟩,by simp only;omega,rfl,rfl⟩;by_cases e:j=m
    ·rw[e,mj] at ha;cases ha;exact h
    ·exact oV (wy hr (by omega:j<m) ha mj) h
   ·simp only[↓aX,mX,reduceCtorEq,Nat.reduceEqDiff,Nat.reduceLT,Nat.reduceLeDiff,Nat.reduceAdd,Nat.reduceMul,Int.reduceToNat,Int.reduceLE,Int.reduceLT];refine⟨⟨lo,m,by omega,by omega,h3,fun j a hj ha=> ?_⟩,by simp only;omega,rfl,rfl⟩;by_cases e:j=m
    ·rw[e,mj] at ha;cases ha;exact h
    ·cases hq:Op.bytesLess a.name key with
     |false=>rfl
     |true=>rw[oV (wy hr (by omega:m<j) mj ha) hq] at h;cases h
  ·have he:lo=hi:=by omega
   subst he;have hp:er as key=lo:=zA h2 h3 (fun a ha=>h4 lo a (Nat.le_refl _) ha);rw[show decide ((lo:Int)<(lo:Int))=false by simp];simp only[↓aX,mX,reduceCtorEq,Nat.reduceEqDiff,Nat.reduceLT,Nat.reduceLeDiff,Nat.reduceAdd,Nat.reduceMul,Int.reduceToNat,Int.reduceLE,Int.reduceLT];refine Ow (fun h=> ?_) (fun h=> ?_)
   ·have cj:lo<as.length:=by simpa using h
    obtain⟨x,mj⟩:∃x,as[lo]?=some x:=⟨_,List.getElem?_eq_getElem cj⟩;simp only[↓aX,mX,reduceCtorEq,Nat.reduceEqDiff,Nat.reduceLT,Nat.reduceLeDiff,Nat.reduceAdd,Nat.reduceMul,Int.reduceToNat,Int.reduceLE,Int.reduceLT,h,mY,mj,Option.map_some,mA,Attr.bL,Attr.cs,r9,yn,hb];refine aO (hC x (List.mem_of_getElem? mj)) ?_
    simp only[↓aX,mX,reduceCtorEq,Nat.reduceEqDiff,Nat.reduceLT,Nat.reduceLeDiff,Nat.reduceAdd,Nat.reduceMul,Int.reduceToNat,Int.reduceLE,Int.reduceLT,h,wz,y8,jo,pj,Option.some.injEq,exists_eq_left',gQ,hp,mJ,mj]
   ·simp only[↓aX,mX,reduceCtorEq,Nat.reduceEqDiff,Nat.reduceLT,Nat.reduceLeDiff,Nat.reduceAdd,Nat.reduceMul,Int.reduceToNat,Int.reduceLE,Int.reduceLT,h,y8,jo,pj,Option.some.injEq,exists_eq_left',gQ,hp,mJ];rw[List.getElem?_eq_none (by simp at h;omega)]
end
end Go.Am
