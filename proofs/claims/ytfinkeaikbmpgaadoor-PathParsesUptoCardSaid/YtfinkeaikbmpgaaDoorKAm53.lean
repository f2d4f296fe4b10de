import Derived.Test.YtfinkeaikbmpgaaDoorKAm48
import Derived.Test.YtfinkeaikbmpgaaDoorKP1
import Derived.Shelf.Strconv.AtoiAll
import Derived.Shelf.Strconv.Itoa3
import Derived.Test.YtfinkeaikbmpgaaDoorKAm25
set_option linter.unusedSimpArgs false
set_option linter.unusedVariables false
set_option linter.unnecessarySimpa false
set_option linter.defProp false
/- THE ABSTRACT MACHINE, part 53: a contract of the kit's, as a contract of the machine's. -/
namespace Go.Am
open Go Go.RowKit
def oI (G:Nat→Option (List IV)) (I:Nat→Prop) (w:World):Prop:=∀g cs,G g=some cs→b8 w I cs g
def ec {P:Program} {G:Nat→Option (List IV)} {f:Nat} {args:List AV} {res:AV} (ha:af args=[]) (hr:res.ax=[])
   (h:∀(w:World) (I:Nat→Prop) (vs:List Value),oI G I w→aI w eM Hp.none I args vs →
     Calls P f vs.toArray w fun e w'=>∃v,e= .returned v∧Below w.heap.size w w'∧∀I':Nat→Prop,RV w' eM Hp.none I' res v):aw P G f args res:=by
 refine⟨ha,hr,fun w A β vs gf hv=> ?_⟩
 have hg:oI G (Im (bO P G w A β Hp.none) β Hp.none) w:=fun g cs hg=>(gf.eh g cs hg).2.2
 have hk:dw w w β eM Hp.none Hp.none (Im (bO P G w A β Hp.none) β Hp.none) (Im (bO P G w A β Hp.none) β Hp.none) (af args):=
   {im:=fun k hk hs=>⟨hk,hs,rfl⟩,lb:=fun l _ ⟨r,h⟩=>by simp[Hp.none] at h}
 refine(h w _ vs hg (aI.mono _ _ hk hv)).mono ?_
 rintro e w' ⟨v,rfl,hb,hx⟩
 have hi:ef w w' (Im (bO P G w A β Hp.none) β Hp.none) (Im (bO P G w A β Hp.none) β Hp.none):=
   ⟨fun k hk hs=>⟨hk,Gk hs hb.size,hb.block k hs⟩⟩
 refine⟨v,res,Hp.none,β,rfl,rfl,?_,?_,by simp[hr]⟩
 · exact { defers := rfl,size := rfl
           ey:=fun n=>by simp[Env.any,RV]
           rows:=fun l r h=>by simp[Hp.none] at h
           own:=fun l g ⟨r,h⟩=>by simp[Hp.none] at h
           inj:=fun l l' g ⟨r,h⟩=>by simp[Hp.none] at h
           dp:=fun n=>by simp[Env.any,AV.ax]
           bL:=fun l r h=>by simp[Hp.none] at h
           frame:=gf.frame.qQ hb
           eD:=fun l ⟨r,h⟩=>by simp[bO,Hp.none] at h
           fr:=fun l g ⟨r,h⟩=>by simp[Hp.none] at h
           eh:=fun g cs hg=>by
             obtain⟨k1,k2,k3⟩:=gf.eh g cs hg
             exact⟨k1,Gk k2 hb.size,b8.mono hi k1 k2 k3⟩}
 refine RV.mono _ _ ?_ (hx (Im (bO P G w A β Hp.none) β Hp.none))
 exact {im:=fun k hk hs=>⟨hk,hs,rfl⟩,lb:=fun l hl=>by simp[hr] at hl}
end Go.Am

namespace Go.Am
open Go Go.RowKit Go.Shelf Go.Proofs
def yY {w:World} {I:Nat→Prop} {s:Bs} {v:Value} (h:RV w eM Hp.none I (.str s) v):v= .string ⟨s.toArray⟩:=by simpa[RV] using h
def mi {w:World} {I:Nat→Prop} {s:Bs} {vs:List Value} (h:aI w eM Hp.none I [.str s] vs):vs=[.string ⟨s.toArray⟩]:=by
 simp only[aI] at h;obtain⟨v,us,rfl,h1,rfl⟩:=h;rw[yY h1]
def oJ (w:World) (k:Nat) (os:Array Obj):Below w.heap.size w (Sort.grow (w.drewN k) os):=by
 refine⟨rfl,rfl,rfl,by simp[Sort.grow,World.drewN],fun i hi=> ?_⟩;simp only[Sort.grow,World.drewN];rw[GN hi]
theorem nF {w:World} {I:Nat→Prop} {g:Nat}:∀(cs:List IV) (o i:Nat) (x:IV),aR w I cs g o→cs[i]?=some x→∃v,w.cell? ⟨g,o+i,none⟩=some v∧de w I x v
 |y::r,o,0,x,h,hx=>by
  simp only[aR] at h;simp only[GS,cQ] at hx;subst hx;exact h.1
 |y::r,o,i+1,x,h,hx=>by
  simp only[aR] at h;obtain⟨v,h1,h2⟩:=nF r (o+1) i x h.2 (by simpa using hx);exact⟨v,by rw[show o+(i+1)=o+1+i by omega];exact h1,h2⟩
def yZ {P:Program} {w:World} {I:Nat→Prop} {g:Nat} {name:String} {k:IntKind} {zs:List Int} (hg:P.globalNamed name=some g) (h:b8 w I (zs.map fun z=>IV.int k z) g):Lib.TabIs P w name k zs:=by
 obtain⟨h1,h2⟩:=h;unfold Lib.TabIs World.var?;rw[hg];simp only[Fy];unfold fi at h2;split at h2
 ·rename_i c a b hc;simp only[hc,cQ] at h2 ⊢;simp only[FT] at h2;apply Array.ext
  ·simpa using h2
  intro i CR Dy;obtain⟨v,k1,k2⟩:=nF _ 0 i (IV.int k (zs[i]'(by omega))) h1 (by rw[F9,FF (by omega)];rfl)
  simp only[de] at k2;subst k2;have:w.cell? ⟨g,0+i,none⟩=c[i]?:=by simp[World.cell?,hc]
  rw[this,Gf CR] at k1;simpa using k1
 cases h2
section
variable {P:Program} {G:Nat→Option (List IV)} {ρ:Ren}
def A4 (L:LaysC.n172 P ρ) {t1 t2:Nat} (h1:G (ρ.g 15)=some [.ifc t1]) (h2:G (ρ.g 16)=some [.ifc t2]):wE P G (ρ.f 172):=by
 intro n hn;have wD:B=1073741824:=rfl;have fh:(⟨n.toArray⟩:ByteArray).size=n.length:=by simp[ByteArray.size]
 have BH:(⟨n.toArray⟩:ByteArray).data.toList=n:=by simp
 have cell:∀(w:World) (I:Nat→Prop) (g t:Nat),oI G I w→G g=some [.ifc t]→∃u,w.cell? ⟨g,0,none⟩=some (.iface t u):=by
  intro w I g t hg he;obtain⟨⟨⟨v,e1,e2⟩,_⟩,_⟩:=hg g _ he;simp only[de] at e2;obtain⟨u,rfl⟩:=e2;exact⟨u,e1⟩
 cases hc:Lib.atoiAll n with
 |ok k=>
  refine⟨k,.ee,ec (by simp[af,AV.ax]) (by simp[AV.ax,af]) fun w I vs hg hv=> ?_,.inl ⟨rfl,rfl⟩⟩;rw[mi hv];refine(Any.strconv_Atoi_ok L _ (by rw[fh];omega) k (by rw[BH];exact hc) w).mono ?_;rintro e w' ⟨rfl,hw⟩;refine⟨_,rfl,?_,fun I'=>by simp[RV,aI]⟩;rcases hw with rfl|⟨t,rfl⟩
  ·exact Below.refl _ _
  exact Lib.bytesWorld_below _ _ _
 |range=>
  refine⟨Lib.atoiSat n,.ifc (ρ.t 168) .any,ec (by simp[af,AV.ax]) (by simp[AV.ax,af]) fun w I vs hg hv=> ?_,.inr ⟨⟨_,rfl⟩,fun v=>by simp⟩⟩;rw[mi hv];obtain⟨u,hu⟩:=cell w I _ _ hg h2;refine(Any.strconv_Atoi_range L _ (by rw[fh];omega) (by rw[BH];exact hc) _ w hu (.inr ⟨_,_,rfl⟩)).mono ?_;rintro e w' ⟨N,rfl,_,_,hb⟩;exact⟨_,rfl,hb,fun I'=>by simp only[RV,aI,BH];exact⟨[_,_],rfl,_,_,rfl,rfl,_,_,rfl,⟨_,rfl,trivial⟩,rfl⟩⟩
 |_=>
  refine⟨0,.ifc (ρ.t 168) .any,ec (by simp[af,AV.ax]) (by simp[AV.ax,af]) fun w I vs hg hv=> ?_,.inr ⟨⟨_,rfl⟩,fun v=>by simp⟩⟩;rw[mi hv];obtain⟨u,hu⟩:=cell w I _ _ hg h1;refine(Any.strconv_Atoi_syntax L _ (by rw[fh];omega) (by rw[BH];exact hc) _ w hu (.inr ⟨_,_,rfl⟩)).mono ?_;rintro e w' ⟨N,rfl,_,_,hb⟩;exact⟨_,rfl,hb,fun I'=>by simp only[RV,aI];exact⟨[_,_],rfl,_,_,rfl,rfl,_,_,rfl,⟨_,rfl,trivial⟩,rfl⟩⟩
def A5 (L:LaysM.n171 P ρ) {g:Nat} (hg:P.globalNamed "internal/strconv.uint64pow10"=some g) (h1:G g=some (Lib.pow10Tab.map fun z=>IV.int .u64 z)):sZ P G (ρ.f 171):=by
 intro k h0 hk;refine ec (by simp[af,AV.ax]) (by simp[AV.ax]) fun w I vs hG hv=> ?_;simp only[aI,RV] at hv;obtain⟨v,us,rfl,rfl,rfl⟩:=hv;refine(Any.strconv_Itoa L k h0 hk w (yZ hg (hG g _ h1))).mono ?_;rintro e w' ⟨rfl,n,os,rfl⟩;exact⟨_,rfl,oJ _ _ _,fun I'=>by simp[RV]⟩
end
end Go.Am

namespace Go.Am
open Go Go.RowKit
def hU (c:UInt8):Bool:=decide (97≤c.toNat)&&decide (c.toNat≤122)
def nQ (c:UInt8):Bool:=decide (48≤c.toNat)&&decide (c.toNat≤57)
def di:Bs→Option (Bs×Bs)
 |42::r=>some ([42],r)
 |35::r=>some ([],r)
 |s=>if s.takeWhile hU=[] then none else some (s.takeWhile hU,s.dropWhile hU)
def dc (t:Bs):Nat:=t.foldl (fun n c=>min (10*n+(c.toNat - 48)) 1000) 0
def cr:Bs→Option (Nat×Bs)
 |91::r=>if r.takeWhile nQ=[]∨(r.takeWhile nQ).head?=some 48 then none else match r.dropWhile nQ with
  |93::r2=>some (dc (r.takeWhile nQ),r2)
  |_=>none
 |s=>some (0,s)
def jh:Nat→Bs→Option (List Step)
 |_,[]=>some []
 |0,_=>none
 |n+1,c::r=>if c=47 then(di r).bind fun x=>(cr x.2).bind fun y=>(jh n y.2).map fun l=>⟨x.1,y.1⟩::l else none
def mj (s:Bs):Option (List Step):=if s.length≤2500∧s≠[] then(jh s.length s).bind fun l=>if aV l then some l else none else none
def lG (w:Bs):Option Step:=(di w).bind fun x=>(cr x.2).bind fun y=>if y.2=[] then some ⟨x.1,y.1⟩ else none
def vL (t:Bs):Prop:=t=[]∨∃r,t=47::r
theorem oK {p:UInt8→Bool} (hp:p 47=false) {t:Bs} (ht:vL t):∀w:Bs,(w++t).takeWhile p=w.takeWhile p∧(w++t).dropWhile p=w.dropWhile p++t
 |[]=>by
  rcases ht with rfl|⟨r,rfl⟩
  ·simp
  simp[hp]
 |c::w=>by
  obtain⟨h1,h2⟩:=oK hp ht w;cases hc:p c<;>simp[hc,h1,h2]
def qy {t:Bs} (ht:vL t) (w:Bs):di (w++t)=(di w).map fun x=>(x.1,x.2++t):=by
 obtain⟨h1,h2⟩:=oK (p:=hU) (by decide) ht w
 match w with
 |[]=>
  rcases ht with rfl|⟨r,rfl⟩<;>rfl
 |c::w=>
  by_cases e1:c=42
  ·subst e1;rfl
  by_cases e2:c=35
  ·subst e2;rfl
  have g:∀v:Bs,di (c::v)=if(c::v).takeWhile hU=[] then none else some ((c::v).takeWhile hU,(c::v).dropWhile hU):=fun v=>by
   unfold di;split
   ·rename_i h;cases h;exact absurd rfl e1
   ·rename_i h;cases h;exact absurd rfl e2
   rfl
  rw[Gc,g,g,←Gc,h1,h2];split<;>simp
def s6 {t:Bs} (ht:vL t) (w:Bs):cr (w++t)=(cr w).map fun x=>(x.1,x.2++t):=by
 match w with
 |[]=>rcases ht with rfl|⟨r,rfl⟩<;>rfl
 |c::w=>
  by_cases e1:c=91
  ·subst e1;obtain⟨h1,h2⟩:=oK (p:=nQ) (by decide) ht w;simp only[Gc,cr,h1,h2];split
   ·rfl
   cases hd:w.dropWhile nQ with
   |nil=>rcases ht with rfl|⟨r,rfl⟩<;>rfl
   |cons a b=>
   by_cases ea:a=93
   ·subst ea;rfl
   simp only[Gc];split
   ·rename_i h;cases h;exact absurd rfl ea
   split
   ·rename_i h;cases h;exact absurd rfl ea
   rfl
  have g:∀v:Bs,cr (c::v)=some (0,c::v):=fun v=>by
   unfold cr;split
   ·rename_i h;cases h;exact absurd rfl e1
   rfl
  rw[Gc,g,g];rfl
def hY:List Bs→Option (List Step)
 |[]=>some []
 |w::r=>(lG w).bind fun x=>(hY r).map fun l=>x::l
def glue (ws:List Bs):Bs:=(ws.map fun w=>47::w).flatten
def pt (ws:List Bs):vL (glue ws):=by
 cases ws with
 |nil=>exact .inl rfl
 |cons w r=>exact .inr ⟨_,rfl⟩
def kD {w:Bs} {x:Bs×Bs} (h:di w=some x):x.2 <:+ w:=by
 unfold di at h;split at h
 ·cases h;exact He _ _
 ·cases h;exact He _ _
 split at h
 ·cases h
 cases h;exact Hf _
def ml {w:Bs} {x:Nat×Bs} (h:cr w=some x):x.2 <:+ w:=by
 unfold cr at h;split at h
 ·rename_i r;split at h
  ·cases h
  split at h
  ·rename_i r2 e;cases h;have:=Hf (l:=r) nQ;rw[e] at this;exact((He _ _).trans this).trans (He _ _)
  cases h
 cases h;exact List.suffix_refl _
theorem lH:∀(ws:List Bs) (n:Nat),(glue ws).length≤n→(∀w∈ws,(47:UInt8)∉w)→jh n (glue ws)=hY ws
 |[],n,_,_=>by cases n<;>rfl
 |w::r,n,hn,h=>by
  have e:glue (w::r)=47::(w++glue r):=rfl;rw[e] at hn ⊢
  match n,hn with
  |n+1,hn=>
   simp only[jh,Gv,qy (pt r),hY,lG];cases hx:di w with
   |none=>rfl
   |some x=>
   simp only[F4,Fy,s6 (pt r)];cases hy:cr x.2 with
   |none=>rfl
   |some y=>
   simp only[F4,Fy];have hs:y.2 <:+ w:=(ml hy).trans (kD hx);by_cases e2:y.2=[]
   ·rw[e2,HE,FG rfl,Fy,lH r n (by simp at hn;omega) fun v hv=>h v (by simp[hv])]
   rw[FU e2];cases r7:y.2 with
   |nil=>exact absurd r7 e2
   |cons a b=>
   have ha:a∈w:=hs.subset (by rw[r7];simp);have:a≠47:=fun e=>h w (by simp) (e▸ha);cases n with
   |zero=>rfl
   |succ n=>simp[jh,this]
theorem fL (c:UInt8):∀s:Bs,((aO c s).map fun w=>c::w).flatten=c::s∧∀w∈aO c s,c∉w
 |[]=>by simp[aO]
 |b::r=>by
  obtain⟨h1,h2⟩:=fL c r;simp only[aO];split
  ·rename_i e;subst e;refine⟨by simp only[FY,Hz,h1];rfl,fun w hw=> ?_⟩;rcases FP.1 hw with rfl|hw
   ·simp
   exact h2 w hw
  rename_i hb;cases hs:aO c r with
  |nil=>rw[hs] at h1;simp at h1
  |cons w ws=>
  rw[hs] at h1 h2;simp only[FY,Hz,Gc,GH,Gp] at h1 ⊢;refine⟨by rw[h1],fun v hv=> ?_⟩;rcases FP.1 hv with rfl|hv
  ·have:=h2 w (by simp);simp only[FP,not_or];exact⟨fun e=>hb e.symm,this⟩
  exact h2 v (by simp[hv])

theorem nG {c:UInt8}:∀{a b a' b':Bs},a++c::b=a'++c::b'→c∉a→c∉a'→a=a'∧b=b'
 |[],b,[],b',h,_,_=>by simpa using h
 |[],b,x::a',b',h,_,h2=>by simp at h;exact absurd (by simp[h.1]) h2
 |x::a,b,[],b',h,h1,_=>by simp at h;exact absurd (by simp[h.1]) h1
 |x::a,b,y::a',b',h,h1,h2=>by
  simp only[Gc,GH] at h;obtain⟨e,g⟩:=nG h.2 (fun m=>h1 (by simp[m])) (fun m=>h2 (by simp[m]));exact⟨by rw[h.1,e],g⟩
def ji (c:UInt8) (w:Bs):(c∉w∧bn c w=(w,[],false))∨∃a b,w=a++c::b∧c∉a∧bn c w=(a,b,true):=by
 obtain⟨g1,g2⟩:=fL c w;rcases eb c w with⟨h1,_,h3⟩|⟨m,h1,hm,_,h3⟩
 ·rw[h3] at g2;exact .inl ⟨g2 w (by simp),by unfold bn;rw[h1,FU (by decide)]⟩
 rw[h3] at g1 g2;simp only[FY,Hz,(fL c (w.drop (m+1))).1,Gc,GH,Gp] at g1;refine .inr ⟨w.take m,w.drop (m+1),g1.symm,g2 _ (by simp),?_⟩;unfold bn;rw[h1,FG (by omega),FQ]
def s7 {c:UInt8} {w:Bs} (h:c∉w):bn c w=(w,[],false):=by
 rcases ji c w with⟨_,h2⟩|⟨a,b,rfl,_,_⟩
 ·exact h2
 exact absurd (by simp) h
def s8 {c:UInt8} {a b:Bs} (h:c∉a):bn c (a++c::b)=(a,b,true):=by
 rcases ji c (a++c::b) with⟨h1,_⟩|⟨a',b',e,h1,h2⟩
 ·exact absurd (by simp) h1
 obtain⟨rfl,rfl⟩:=nG e h h1;exact h2
def fM {c:UInt8}:nQ c=true↔48≤c.toNat∧c.toNat≤57:=by simp[nQ]
def u8 {c d:UInt8} (h:c.toNat=d.toNat):c=d:=UInt8.toNat_inj.1 h
def wF {m:Nat} (h:m<256):(UInt8.ofNat m).toNat=m:=by rw[UInt8.toNat_ofNat'];omega
def wG {k:Nat} (h:k<10):Lib.itoa (k:Int)=[UInt8.ofNat (48+k)]:=by
 unfold Lib.itoa;rw[FU (by omega),FQ,Lib.decDigits_one h]
def wH {k:Nat} (h1:¬k<10) (h2:k<100):Lib.itoa (k:Int)=[UInt8.ofNat (48+k/10),UInt8.ofNat (48+k%10)]:=by
 unfold Lib.itoa;rw[FU (by omega),FQ,Lib.decDigits_two h1 h2]
theorem s9:∀(t:Bs) (n:Nat),min n 1000≤t.foldl (fun n c=>min (10*n+(c.toNat - 48)) 1000) n
 |[],n=>by simp;omega
 |c::r,n=>by
  have:=s9 r (min (10*n+(c.toNat - 48)) 1000);simp only[GL];omega
def y5 {t:Bs} (h1:t≠[]) (h2:∀c∈t,nQ c=true) (h3:t.head?≠some 48) (h4:dc t≤99):jf t=some (dc t:Int):=by
 match t,h1 with
 |d::r,_=>
  have hd:=fM.1 (h2 d (by simp));have oL:d.toNat≠48:=fun e=>h3 (by simp only[HF];rw[u8 (c:=d) (d:=48) e])
  match r with
  |[]=>
   have hc:dc [d]=d.toNat - 48:=(by simp[dc];omega);have ha:Lib.atoiAll [d]= .ok ((d.toNat - 48:Nat):Int):=by
    rw[Lib.atoiAll_plain d [] (by omega) (by omega)];simp only[Lib.parseMag,Lib.parseUint10,Ii,GM,hd,and_self,Gv,GA,F1,Lib.signless];rw[FU (by omega),FU (by omega)];simp only[Lib.signless];rw[FU (by omega)]
   have hi:Lib.itoa ((d.toNat - 48:Nat):Int)=[d]:=by
    rw[wG (by omega)];congr 1;exact u8 (by rw[wF (by omega)];omega)
   unfold jf;rw[ha,hc];simp only;rw[FG ⟨hi,by omega⟩]
  |[e]=>
   have he:=fM.1 (h2 e (by simp));have hc:dc [d,e]=10*(d.toNat - 48)+(e.toNat - 48):=(by simp[dc];omega);obtain⟨k,hk⟩:∃k,k=10*(d.toNat - 48)+(e.toNat - 48):=⟨_,rfl⟩;have ha:Lib.atoiAll [d,e]= .ok (k:Int):=by
    rw[Lib.atoiAll_plain d [e] (by omega) (by omega)];simp only[Lib.parseMag,Lib.parseUint10,Ii,GM,hd,he,and_self,Gv,GA,F1];rw[FU (by omega),FU (by omega),FU (by omega),FU (by omega)];simp only[Lib.signless];rw[FU (by omega),hk];congr 1;omega
   have hi:Lib.itoa (k:Int)=[d,e]:=by
    rw[wH (by omega) (by omega)];congr 1
    ·exact u8 (by rw[wF (by omega)];omega)
    congr 1;exact u8 (by rw[wF (by omega)];omega)
   unfold jf;rw[ha,hc,←hk];simp only;rw[FG ⟨hi,by omega⟩]
  |e::f::r=>
   exfalso;have:=s9 r (min (10*(min (10*(min (10*0+(d.toNat - 48)) 1000)+(e.toNat - 48)) 1000)+(f.toNat - 48)) 1000);simp only[dc,GL] at h4;omega
def y6 {t:Bs} {k:Int} (h:jf t=some k) (hk:k≤99):t≠[]∧(∀c∈t,nQ c=true)∧t.head?≠some 48∧(dc t:Int)=k:=by
 unfold jf at h;split at h
 ·rename_i v hv;split at h
  ·rename_i hq;cases h;obtain⟨n,rfl⟩:=Ha (show 0≤k by omega);have h1:1≤n:=(by omega);have A6:n≤99:=(by omega);rw[←hq.1];by_cases Bj:n<10
   ·rw[wG Bj];have e:=wF (m:=48+n) (by omega);refine⟨by simp,fun c hc=> ?_,fun e2=> ?_,?_⟩
    ·simp only[FN] at hc;subst hc;rw[fM,e];omega
    ·simp only[HF,cQ] at e2;rw[e2] at e;have:(48:UInt8).toNat=48:=rfl;omega
    simp only[dc,GL,List.foldl_nil,e];omega
   rw[wH Bj (by omega)];have e:=wF (m:=48+n/10) (by omega);have g:=wF (m:=48+n%10) (by omega);refine⟨by simp,fun c hc=> ?_,fun e2=> ?_,?_⟩
   ·simp only[FP,HB,FR] at hc;rcases hc with rfl|rfl
    ·rw[fM,e];omega
    rw[fM,g];omega
   ·simp only[HF,cQ] at e2;rw[e2] at e;have:(48:UInt8).toNat=48:=rfl;omega
   simp only[dc,GL,List.foldl_nil,e,g];omega
  cases h
 cases h

def oM (t:Bs):([93]:Bs).isSuffixOf (t++[93])=true∧je [93] (t++[93])=t:=by
 have h:([93]:Bs).isSuffixOf (t++[93])=true:=by rw[GO];exact List.suffix_append _ _
 refine⟨h,?_⟩;unfold je;rw[FG h];simp
def y7 {b:Bs} (h:([93]:Bs).isSuffixOf b=true):∃t,b=t++[93]:=by
 rw[GO] at h;obtain⟨t,ht⟩:=h;exact⟨t,ht.symm⟩
theorem mm {p:UInt8→Bool}:∀{s:Bs} {c:UInt8},c∈s.takeWhile p→p c=true
 |[],c,h=>by simp at h
 |a::s,c,h=>by
  cases ha:p a with
  |false=>simp[ha] at h
  |true=>
  simp only[List.takeWhile_cons,ha,Gv,FP] at h;rcases h with rfl|h
  ·exact ha
  exact mm h
theorem mn {p:UInt8→Bool}:∀{a z:Bs},(∀c∈a,p c=true)→(∀c r,z=c::r→p c=false)→(a++z).takeWhile p=a∧(a++z).dropWhile p=z
 |[],z,_,hz=>by
  cases z with
  |nil=>simp
  |cons c r=>simp[hz c r rfl]
 |c::a,z,ha,hz=>by
  obtain⟨h1,h2⟩:=mn (a:=a) (fun c hc=>ha c (by simp[hc])) hz;simp[ha c (by simp),h1,h2]
def vM {w:Bs} {x:Bs×Bs} (h:di w=some x):∃pre,w=pre++x.2∧(91:UInt8)∉pre∧dU pre=some x.1:=by
 unfold di at h;split at h
 ·cases h;exact⟨[42],rfl,by decide,rfl⟩
 ·cases h;exact⟨[35],rfl,by decide,rfl⟩
 split at h
 ·cases h
 rename_i fa;cases h;refine⟨w.takeWhile hU,(Hh).symm,fun hm=> ?_,?_⟩
 ·have:=mm hm;simp[hU] at this
 unfold dU;rw[FU fa,FU fun e=> ?_];have:=mm (p:=hU) (s:=w) (c:=35) (by rw[e];simp);simp[hU] at this
def qz {r:Bs} {y:Nat×Bs} (h:cr r=some y) (h2:y.2=[]):(r=[]∧y.1=0)∨∃t,r=91::(t++[93])∧t≠[]∧(∀c∈t,nQ c=true)∧t.head?≠some 48∧y.1=dc t:=by
 unfold cr at h;split at h
 ·rename_i r;split at h
  ·cases h
  rename_i hn;split at h
  ·rename_i r2 e;cases h;simp only at h2;subst h2;refine .inr ⟨r.takeWhile nQ,?_,fun e=>hn (.inl e),fun c hc=>mm hc,fun e=>hn (.inr e),rfl⟩;rw[←e,Hh]
  cases h
 cases h;exact .inl ⟨h2,rfl⟩
def A7 {x:Step} (h:bM x=true):(x.name=[]∨x.name=[42]∨named x.name=true)∧0≤x.n∧x.n≤99:=by
 simpa[bM] using h
def qA {w:Bs} {x:Step} (h:lG w=some x) (hk:bM x=true):cj w=some x:=by
 unfold lG at h;simp only[Fv] at h;obtain⟨⟨nm,r1⟩,hn,⟨n,r2⟩,hm,h⟩:=h;split at h
 ·rename_i e;cases h;obtain⟨pre,hw,zy,hs⟩:=vM hn;simp only at e hw hs hm;obtain⟨_,_,A6⟩:=A7 hk;simp only at A6;rcases qz hm e with⟨hr,h0⟩|⟨t,hr,t1,t2,t3,t4⟩
  ·simp only at h0 hr;subst hr;rw[GF] at hw;subst hw;subst h0;simp only[cj,fY,s7 zy,hs,Fy,F4,Gt,GM];rfl
  simp only at t4 hr;subst hr;subst hw;simp only[cj,fY,s8 zy,hs,Gv,(oM t).1,(oM t).2,y5 t1 t2 t3 (by omega),Fy,F4,t4]
 cases h
def qB {w:Bs} {x:Step} (h:cj w=some x) (hk:bM x=true):lG w=some x:=by
 simp only[cj,Fv,Fu] at h;obtain⟨k,hn,nm,ha,rfl⟩:=h;obtain⟨h1,_,A6⟩:=A7 hk;simp only at h1 A6;have key:∀(a z:Bs),dU a=some nm→(∀c r,z=c::r→hU c=false)→di (a++z)=some (nm,z):=by
  intro a z ha hz;unfold dU at ha;split at ha
  ·cases ha
  split at ha
  ·rename_i e;subst e;cases ha;rfl
  rename_i e1 e2;cases ha;rcases h1 with e|e|e
  ·exact absurd e e1
  ·subst e;rfl
  have bG:∀c∈nm,hU c=true:=fun c hc=>by
   simp only[named,FE,F3] at e;have:=e.1 c hc;simp only[eX,GU,Bool.or_eq_false_iff,HC] at this;simp only[hU,FE,FV];omega
  obtain⟨g1,g2⟩:=mn bG hz
  match nm,e1,bG,g1,g2 with
  |c::a,_,bG,g1,g2=>
   have hc:=bG c (by simp);unfold di;split
   ·rename_i h;simp only[Gc,GH] at h;rw[h.1] at hc;simp[hU] at hc
   ·rename_i h;simp only[Gc,GH] at h;rw[h.1] at hc;simp[hU] at hc
   rw[g1,g2,FU (by simp)]
 unfold lG;rcases ji 91 w with⟨_,hc⟩|⟨a,b,rfl,_,hc⟩
 ·simp only[fY,hc,Gt,GM,cQ] at hn ha;subst hn;have:=key w [] ha (fun c r e=>by cases e);rw[GF] at this;rw[this];rfl
 simp only[fY,hc,Gv] at hn ha;split at hn
 ·rename_i hs;obtain⟨t,rfl⟩:=y7 hs;rw[(oM t).2] at hn;obtain⟨t1,t2,t3,t4⟩:=y6 hn A6;obtain⟨g1,g2⟩:=mn (p:=nQ) (z:=[93]) t2 (fun c r e=>by cases e;decide);rw[key a _ ha (fun c r e=>by cases e;decide)];simp only[Fy,cr,g1,g2];rw[FU (by rintro(e|e);exact t1 e;exact t3 e)];simp only[Fy,Gv,t4]
 cases hn
def lI {l:List Step} (hl:∀x∈l,bM x=true):∀{ws:List Bs},hY ws=some l↔bH ws=some l:=by
 intro ws;induction ws generalizing l with
 |nil=>simp[hY,bH]
 |cons w r ih=>
 simp only[hY,bH,Fv,Fu];constructor
 ·rintro⟨x,hx,l',h,rfl⟩;exact⟨x,qA hx (hl x (by simp)),l',(ih fun y hy=>hl y (by simp[hy])).1 h,rfl⟩
 rintro⟨x,hx,l',h,rfl⟩;exact⟨x,qB hx (hl x (by simp)),l',(ih fun y hy=>hl y (by simp[hy])).2 h,rfl⟩
def qC (s:Bs):mj s=gn s:=by
 match s with
 |[]=>rfl
 |c::r=>
  by_cases hc:c=47
  ·subst hc;obtain⟨g1,g2⟩:=fL 47 r;have e:jh (47::r).length (47::r)=hY (aO 47 r):=by
    have g3:glue (aO 47 r)=47::r:=g1;rw[←g3];exact lH _ _ (FJ _) g2
   unfold mj gn;simp only[e,GI,GK];by_cases hl:(47::r:Bs).length≤2500
   ·rw[FG ⟨hl,by simp⟩,FG ⟨by simp,hl⟩];apply Option.ext;intro l;simp only[Fv];constructor
    ·rintro⟨m,h,h2⟩;split at h2
     ·rename_i hg;cases h2;have jw:∀x∈l,bM x=true:=fun x hx=>(by simp only[aV,FE,F3] at hg;exact hg.1 x hx);exact⟨l,(lI jw).1 h,by rw[FG hg]⟩
     cases h2
    rintro⟨m,h,h2⟩;split at h2
    ·rename_i hg;cases h2;have jw:∀x∈l,bM x=true:=fun x hx=>(by simp only[aV,FE,F3] at hg;exact hg.1 x hx);exact⟨l,(lI jw).2 h,by rw[FG hg]⟩
    cases h2
   rw[FU (fun h=>hl h.1),FU (fun h=>hl h.2)]
  unfold mj gn;rw[FU (c:=[47].isPrefixOf (c::r)=true∧_) (by
   rintro⟨h,_⟩;simp at h;exact hc h.symm)]
  split
  ·simp[jh,hc]
  rfl

section
variable {P:Program} {G:Nat→Option (List IV)}
def dn (bh:Nat):AC:=
(aK [gQ 2 false] (.seq (aK [ah 5 0,tC 6 5,iK 7 0] (.block 0 (.loop (aK [ga 8 .lss 7 6] (.seq (.cond (.t 8) .skip (.exit 0)) (.seq (.block 1 (aK [tz 9 5 7 2,qP 10 2 9,bg 4 (.new [(.str []),(.int .i64 0)]),mq (.store 2 (.t 4) (.t 10))] (aK [mo 11 4 1,oT 12 11,ew 13 .lss 12 0,ah 14 13,tH 15 14 4 1,tF 16 14 15,jJ 17 14 (.bin .gtr (.t 16) (iJ 99)),nS 18 14 17,ah 19 18,tH 20 19 4 0,tF 21 19 20,jJ 22 19 (.bin .neq (.t 21) (.c (.str []))),e8 23 19 22,tG 24 23 4 0,tE 25 23 24,dC 26 23 (.bin .neq (.t 25) (.c (.str [42]))),jJ 27 19 (.pick (.t 23) (.t 26) (Bg false)),e8 28 19 27,tG 29 28 4 0,tE 30 28 29,dC 31 28 (.call bh [(.t 30)]),dC 32 28 (.not (.t 31)),jJ 33 19 (.pick (.t 28) (.t 32) (Bg false)),nS 34 19 33] (.cond (.t 34) (aK [gQ 2 false] .ret) .skip)))) (.fU [ew 35 .add 7 1,ah 7 35]))))))) (aK [ah 36 0,tC 37 36,ew 38 .gtr 37 0,ah 39 38,cm 40 39 0,dC 41 39 (.len (.t 40)),dC 42 39 (.bin .lss (.t 41) (iJ 6)),jk 43 39 42,ah 2 43] .ret)))
def vN {bm bh:Nat} (hF:aM P G bm=some (44,[(none,2)],(dn bh).bare)) (l:List Step) (hl:l.length≤B) (hN:∀x∈l,aw P G bh [.str x.name] (.bool (named x.name))) :
  aw P G bm [.list (l.map Step.iv)] (.bool (aV l)):=by
 refine aG hF (by simp) (by simp[af,AV.ax]) (by simp[AV.ax]) ?_;have wD:B=1073741824:=rfl;unfold dn;simp only[↓aX,mX,seval,FT];refine i_ (σ:={i:Nat // i≤l.length∧∀x∈l.take i,bM x=true}) (fun q=>[(0,.list (l.map Step.iv)),(5,.list (l.map Step.iv)),(6,.int .i64 l.length),(7,.int .i64 q.1)]) (fun q=>l.length - q.1) ⟨0,by simp⟩ (fun _=>rfl) ?_ ?_
 ·exact⟨by simp only[↓aX,mX,seval],by repeat' constructor⟩
 rintro⟨i,hi,hs⟩;simp only[↓aX,mX,seval,FT];by_cases cD:i<l.length
 ·rw[show decide ((i:Int)<(l.length:Int))=true by simpa using cD];obtain⟨x,hx⟩:∃x,l[i]?=some x:=⟨_,FF cD⟩;have zn:=Fx hx;have hw:IntKind.i64.wrap ((i:Int)+1)=((i+1:Nat):Int):=wrap64 (by omega) (by omega);have stop:bM x=false→aV l=false:=fun h=>by
   unfold aV;rw[show l.all bM=false from H9.2 ⟨x,zn,by simp[h]⟩];rfl
  have next:bM x=true→∀y∈l.take (i+1),bM y=true:=fun h y hy=>by
   rw[Gy,hx] at hy;simp only[Hv,Fz,FN] at hy;rcases hy with hy|rfl
   ·exact hs y hy
   exact h
  simp only[↓aX,mX,seval,sR,hx,pr,F4,Step.eN,Step.cs];have tail:∀b:Bool,(x.name==[]||(x.name==[42]||named x.name))=b→bM x=(b&&(decide (0≤x.n)&&decide (x.n≤99))):=fun b h=>by unfold bM;rw[h]
  by_cases h4:x.n<0
  ·simp only[↓aX,mX,seval,h4,Gj,stop (by unfold bM;rw[Gr (show ¬0≤x.n by omega),GY,Gx])]
  by_cases h5:99<x.n
  ·simp only[↓aX,mX,seval,h4,Gi,G9,h5,Gj,F8,stop (by unfold bM;rw[Gr (show ¬x.n≤99 by omega),Gx,Gx])]
  have hd:(decide (0≤x.n)&&decide (x.n≤99))=true:=by rw[Gg (show 0≤x.n by omega),Gg (show x.n≤99 by omega)];rfl
  simp only[↓aX,mX,seval,h4,Gi,G9,h5,F8];cases h1:(x.name==[]) with
  |true=>
   have ht:=tail true (by rw[h1];rfl);simp only[↓aX,mX,seval,show(x.name !=[])=false by simp[bne,h1],hw];exact⟨⟨i+1,cD,next (by rw[ht,hd];rfl)⟩,by simp only;omega,rfl⟩
  |false=>
  simp only[↓aX,mX,seval,show(x.name !=[])=true by simp[bne,h1]];cases h2:(x.name==[42]) with
  |true=>
   have ht:=tail true (by rw[h1,h2];rfl);simp only[↓aX,mX,seval,show(x.name !=[42])=false by simp[bne,h2],hw];exact⟨⟨i+1,cD,next (by rw[ht,hd];rfl)⟩,by simp only;omega,rfl⟩
  |false=>
  simp only[↓aX,mX,seval,show(x.name !=[42])=true by simp[bne,h2]];refine ae (hN x zn) ?_;cases h3:named x.name with
  |true=>
   have ht:=tail true (by rw[h1,h2,h3];rfl);simp only[↓aX,mX,seval,Ge,hw];exact⟨⟨i+1,cD,next (by rw[ht,hd];rfl)⟩,by simp only;omega,rfl⟩
  |false=>
  have ht:=tail false (by rw[h1,h2,h3];rfl);simp only[↓aX,mX,seval,F8,stop ht]
 have qZ:l.take i=l:=F_ (by omega);have bG:l.all bM=true:=F3.2 fun x hx=>hs x (by rw[qZ];exact hx);rw[show decide ((i:Int)<(l.length:Int))=false by simpa using cD];simp only[↓aX,mX,seval,FT];by_cases h1:1≤l.length
 ·by_cases h2:l.length≤5
  ·simp only[↓aX,mX,seval,show((l.length:Int)>0) by omega,Gj,FT,show((l.length:Int)<6) by omega,aV,bG,h1,h2,Hw]
  simp only[↓aX,mX,seval,show((l.length:Int)>0) by omega,Gj,FT,show ¬((l.length:Int)<6) by omega,aV,bG,h1,h2,Gi,Gx]
 simp only[↓aX,mX,seval,show ¬((l.length:Int)>0) by omega,Gi,aV,bG,h1,Gx,GY]
def cI:AC:=
(aK [gQ 4 false] (.seq (aK [ah 6 0,tC 7 6,ah 8 1,tC 9 8,ga 10 .neq 7 9] (.cond (.t 10) (aK [gQ 4 false] .ret) .skip)) (.seq (aK [ah 11 0,tC 12 11,iK 13 0] (.block 0 (.loop (aK [ga 14 .lss 13 12] (.seq (.cond (.t 14) .skip (.exit 0)) (.seq (.block 1 (aK [ah 15 13,ah 5 15] (.seq (.ix [ah 16 0,ah 17 5,tz 18 16 17 2,qP 19 2 18,ah 20 1,ah 21 5,tz 22 20 21 2,qP 23 2 22,bg 24 (.jI true [.s,.i] (.t 19) (.t 23))] [[],[],[0,1],[2],[],[],[4,5],[6],[3,7]] [.no,.no,.no,.no,.no,.no,.no,.no,.no]) (.cond (.t 24) (aK [gQ 4 false] .ret) .skip)))) (.fU [ew 25 .add 13 1,ah 13 25]))))))) (aK [gQ 4 true] .ret))))
def oN {aQ:Nat} (hF:aM P G aQ=some (26,[(none,4)],cI.bare)) (l:List Step) (hl:l.length≤B):aw P G aQ [.list (l.map Step.iv),.list (l.map Step.iv)] (.bool true):=by
 refine aG hF (by simp) (by simp[af,AV.ax]) (by simp[AV.ax]) ?_;have wD:B=1073741824:=rfl;unfold cI;simp only[↓aX,mX,seval,FT,show(((l.length:Nat):Int) !=((l.length:Nat):Int))=false by simp];refine i_ (σ:={i:Nat // i≤l.length}) (fun q=>[(0,.list (l.map Step.iv)),(1,.list (l.map Step.iv)),(12,.int .i64 l.length),(13,.int .i64 q.1)]) (fun q=>l.length - q.1) ⟨0,by simp⟩ (fun _=>rfl) ?_ ?_
 ·exact⟨by simp only[↓aX,mX,seval],by repeat' constructor⟩
 rintro⟨i,hi⟩;simp only[↓aX,mX,seval,FT];by_cases cD:i<l.length
 ·rw[show decide ((i:Int)<(l.length:Int))=true by simpa using cD];obtain⟨x,hx⟩:∃x,l[i]?=some x:=⟨_,FF cD⟩;have hw:IntKind.i64.wrap ((i:Int)+1)=((i+1:Nat):Int):=wrap64 (by omega) (by omega);simp only[↓aX,mX,seval,sR,hx,pr,F4,Step.eN,Step.cs,eqs,Bi,beq_self_eq_true,HU,hw];exact⟨rfl,⟨i+1,cD⟩,by simp only;omega,rfl⟩
 rw[show decide ((i:Int)<(l.length:Int))=false by simpa using cD];simp only[↓aX,mX,seval]
structure Fq (n:Nat) where
 k:Nat
 hk:k≤n+1
structure Fs (d:Doc) where
 k:Nat
 hk:k≤d.length
end

section
variable {S:St} {env:Env} {H:Hp}
def CS (S:St) (x:AV) (args:List AV) (H:Hp) (k:AV→Hp→Prop) (_:Tw k):Prop:=∃f first cap,x= .fn f first cap∧fC S.P f=true∧fS S f (first++args++cap) H k
def bf (d:Option Nat) (x:O) (args:List O) (k:AV→Hp→Prop):aH S d (.eg x args) env H k=CS S (ev env x) (args.map (ev env)) H k .mk:=rfl
def b_ (f:Nat) (first cap args:List AV) (k:AV→Hp→Prop) (u:Tw k):CS S (.fn f first cap) args H k u=(fC S.P f=true∧Aw S f (first++args++cap) H k .mk):=by
 simp only[CS,Aw,AV.fn.injEq,eq_iff_iff];constructor
 ·rintro⟨_,_,_,⟨rfl,rfl,rfl⟩,h⟩;exact h
 intro h;exact⟨_,_,_,⟨rfl,rfl,rfl⟩,h⟩
end
end Go.Am
