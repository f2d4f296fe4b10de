import Derived.Test.YtfinkeaikbmpgaaDoorKT67
import Derived.Lib.Replace
import Derived.Lib.IndexBytes
import Derived.Test.YtfinkeaikbmpgaaDoorKAm48
import Derived.Test.YtfinkeaikbmpgaaDoorKT7
import Derived.Test.YtfinkeaikbmpgaaDoorKT26
import Derived.Test.YtfinkeaikbmpgaaDoorKM7
import Derived.Lib.AtoiAllCases
import Derived.Lib.ItoaNum
import Derived.Shelf.Strconv.AtoiAll
import Derived.Shelf.Strconv.Itoa3
import Derived.Shelf.Strings.Replace
set_option linter.unusedSimpArgs false
set_option linter.unusedVariables false
set_option linter.unnecessarySimpa false
set_option linter.defProp false
/- Replacements of one byte; what the answer prints. -/
namespace Go.Am
open Go Go.RowKit
theorem kf (c:UInt8):∀s:Bs,((ej c s).map fun w=>c::w).flatten=c::s∧∀w∈ej c s,c∉w
 |[]=>by simp[ej]
 |b::r=>by
  obtain⟨h1,h2⟩:=kf c r;simp only[ej];split
  ·rename_i e;subst e;refine⟨by simp only[VE,XR,h1];rfl,fun w hw=> ?_⟩;rcases Vg.1 hw with rfl|hw
   ·simp
   exact h2 w hw
  rename_i hb;cases hs:ej c r with
  |nil=>rw[hs] at h1;simp at h1
  |cons w ws=>
  rw[hs] at h1 h2;simp only[VE,XR,Vb,Vj,V9] at h1 ⊢;refine⟨by rw[h1],fun v hv=> ?_⟩;rcases Vg.1 hv with rfl|hv
  ·have:=h2 w (by simp);simp only[Vg,Xd];exact⟨fun e=>hb e.symm,this⟩
  exact h2 v (by simp[hv])
def jk (c:UInt8) (n:Bs) (s:Bs):Bs:=s.flatMap fun b=>if b=c then n else [b]
theorem qA {c:UInt8} {n:Bs}:∀{s:Bs},c∉s→jk c n s=s
 |[],_=>rfl
 |b::r,h=>by
  have hb:b≠c:=fun e=>h (by rw[←e];exact Yl);have ih:=qA (c:=c) (n:=n) (s:=r) (fun m=>h (W9 _ m));unfold jk at ih ⊢;rw[WO,ih,U8 hb];rfl
theorem mc {c:UInt8} {n:Bs}:∀(k:Nat) (s:Bs),s.count c=k→Lib.replaceK [c] n k s=jk c n s
 |0,s,h=>by rw[qA (Yn.1 h)];rfl
 |k+1,s,h=>by
  obtain⟨a,b,rfl,ha,hi⟩:∃a b,s=a++c::b∧c∉a∧Lib.index s [c]=(a.length:Int):=by
   rw[Lib.index_one];rcases pC c s with⟨_,h2,_⟩|⟨m,h1,hm,_,h3⟩
   ·omega
   obtain⟨g1,g2⟩:((ej c s).map fun w=>c::w).flatten=c::s∧∀w∈ej c s,c∉w:=kf c s;rw[h3] at g1 g2;have g3:=(kf c (s.drop (m+1))).1;simp only[VE,XR,g3,Vb,Vj,V9] at g1;exact⟨s.take m,s.drop (m+1),g1.symm,g2 _ (by simp),by rw[h1,V0,XA (by omega)]⟩
  have hc:b.count c=k:=by
   rw[List.count_append,List.count_cons_self,Yn.2 ha] at h;omega
  rw[Lib.replaceK_hit [c] n k _ a.length hi,Xx,YG rfl,show(a++c::b).drop (a.length+1)=b by rw[←Xo,List.drop_left' rfl];rfl,mc k b hc];have:jk c n (a++c::b)=jk c n a++(n++jk c n b):=by unfold jk;simp
  rw[this,qA ha,VP]
def ou {c:UInt8} {n s:Bs} (h:[c]≠n):Lib.replaceAll s [c] n=jk c n s:=by
 unfold Lib.replaceAll Lib.replace;rw[U8 (by simpa using h)];have:Lib.replaceNum s [c] (-1)=s.count c:=by unfold Lib.replaceNum;rw[Vd (.inl (by decide)),Lib.count_one]
 rw[this];exact mc _ s rfl
def u4 (v:Bool) (s:Bs):(if v then jk 34 jc (jk 62 rC (jk 60 qH (jk 38 kD s))) else jk 62 rC (jk 60 qH (jk 38 kD s)))=fG v s:=by
 unfold fG jk;cases v with
 |false=>
  simp only[Vl,Vk,Yo];congr 1;funext c;unfold jQ;by_cases h1:c=60
  ·subst h1;decide
  by_cases h2:c=62
  ·subst h2;decide
  by_cases h3:c=38
  ·subst h3;decide
  simp[h1,h2,h3]
 |true=>
 simp only[Vp,Yo];congr 1;funext c;unfold jQ;by_cases h1:c=60
 ·subst h1;decide
 by_cases h2:c=62
 ·subst h2;decide
 by_cases h3:c=38
 ·subst h3;decide
 by_cases h4:c=34
 ·subst h4;decide
 simp[h1,h2,h3,h4]

def zb (G:Nat→Option (List IV)) (I:Nat→Prop) (w:World):Prop:=∀g cs,G g=some cs→da w I cs g
def oT {P:Program} {G:Nat→Option (List IV)} {f:Nat} {args:List AV} {res:AV} (ha:ah args=[]) (hr:res.an=[])
   (h:∀(w:World) (I:Nat→Prop) (vs:List Value),zb G I w→br w iI Hp.none I args vs →
     Calls P f vs.toArray w fun e w'=>∃v,e= .returned v∧Below w.heap.size w w'∧∀I':Nat→Prop,RV w' iI Hp.none I' res v):au P G f args res:=by
 refine⟨ha,hr,fun w A β vs ju hv=> ?_⟩
 have hg:zb G (Im (b8 P G w A β Hp.none) β Hp.none) w:=fun g cs hg=>(ju.fo g cs hg).2.2
 have hk:ND w w β iI Hp.none Hp.none (Im (b8 P G w A β Hp.none) β Hp.none) (Im (b8 P G w A β Hp.none) β Hp.none) (ah args):=
   {im:=fun k hk hs=>⟨hk,hs,rfl⟩,lb:=fun l _ ⟨r,h⟩=>by simp[Hp.none] at h}
 refine(h w _ vs hg (br.mono _ _ hk hv)).mono ?_
 rintro e w' ⟨v,rfl,hb,hx⟩
 have hi:fv w w' (Im (b8 P G w A β Hp.none) β Hp.none) (Im (b8 P G w A β Hp.none) β Hp.none):=
   ⟨fun k hk hs=>⟨hk,Wp hs hb.size,hb.block k hs⟩⟩
 refine⟨v,res,Hp.none,β,rfl,rfl,?_,?_,by simp[hr]⟩
 · exact { defers := rfl,size := rfl
           N8:=fun n=>by simp[Env.any,RV]
           rows:=fun l r h=>by simp[Hp.none] at h
           own:=fun l g ⟨r,h⟩=>by simp[Hp.none] at h
           inj:=fun l l' g ⟨r,h⟩=>by simp[Hp.none] at h
           eI:=fun n=>by simp[Env.any,AV.an]
           cH:=fun l r h=>by simp[Hp.none] at h
           frame:=ju.frame.wD hb
           gA:=fun l ⟨r,h⟩=>by simp[b8,Hp.none] at h
           fr:=fun l g ⟨r,h⟩=>by simp[Hp.none] at h
           fo:=fun g cs hg=>by
             obtain⟨k1,k2,k3⟩:=ju.fo g cs hg
             exact⟨k1,Wp k2 hb.size,da.mono hi k1 k2 k3⟩}
 refine RV.mono _ _ ?_ (hx (Im (b8 P G w A β Hp.none) β Hp.none))
 exact {im:=fun k hk hs=>⟨hk,hs,rfl⟩,lb:=fun l hl=>by simp[hr] at hl}

structure Step where
 name:Bs
 n:Int
def Step.cs (x:Step):List IV:=[.str x.name,.int .i64 x.n]
def Step.iv (x:Step):IV:= .agg x.cs
def Step.av (x:Step):AV:= .agg [.str x.name,.int .i64 x.n]
def Ha (text:Bool) (s:Bs) (name:Bs):Bool:=if name==[]||text then name==[]&&text else name==[42]||name==s
def kz (d:Doc) (s:Step):Nat→List Int→List Int
 |_,[]=>[]
 |k,n::r=>match d[n.toNat]? with
  |some x=>if Ha x.text x.s s.name then(if s.n=0∨s.n=((k+1:Nat):Int) then n::kz d s (k+1) r else kz d s (k+1) r) else kz d s k r
  |none=>kz d s k r

section
variable {t:Tree}
def Sub.at {n:Nat} {q:Int} {y:Tree} (h:Sub 0 (-1) t n q y):(lW t)[n]?=some (y.node n q):=(h.Gv _ ⟨[],by simp[lW]⟩).node
end

def Step.cJ (x:Step):x.iv.cells=x.cs:=rfl
section
variable {P:Program} {G:Nat→Option (List IV)}
structure MP (d:Doc) (s:Step) (l:List Int) where
 i:Nat
 k:Nat
 a:List Int
 hi:i≤l.length
 hk:k≤i
 ha:a.length≤i
 h:kz d s 0 l=a++kz d s k (l.drop i)
end

structure L6 (c:UInt8) (s:Bs) where
 i:Nat
 r:Bs
 hc:r.count c+i=s.count c
 hs:ej c s=(ej c s).take i++ej c r
 hl:r.length≤s.length

def JL (t s:Bs):Bs:=if t.isSuffixOf s then s.take (s.length - t.length) else s
def JM (n:Bs):Option Int:=match Lib.atoiAll n with
 | .ok k=>if Lib.itoa k=n∧1≤k then some k else none
 |_=>none
def JN (w:Bs):Option Int:=if(Bj 91 w).2.2 then(if [93].isSuffixOf (Bj 91 w).2.1 then JM (JL [93] (Bj 91 w).2.1) else none) else some 0
def Hb (nm:Bs):Option Bs:=if nm=[] then none else if nm=[35] then some [] else some nm
def Hc (w:Bs):Option Step:=(JN w).bind fun k=>(Hb (Bj 91 w).1).map fun nm=>⟨nm,k⟩
def zc:List Bs→Option (List Step)
 |[]=>some []
 |w::r=>(Hc w).bind fun x=>(zc r).map fun l=>x::l
structure L7 (ws:List Bs) where
 i:Nat
 l:List Step
 hi:i≤ws.length
 h:zc (ws.take i)=some l
section
variable {P:Program} {G:Nat→Option (List IV)}
end
end Go.Am

namespace Go.Am
open Go Go.RowKit Go.Shelf Go.Proofs
section
variable {P:Program} {G:Nat→Option (List IV)} {ρ:Ren}
abbrev EG (P:Program) (G:Nat→Option (List IV)) (f:Nat):Prop:=∀(c:UInt8) (n s:Bs),[c]≠n→s.length≤2^24→n.length≤8→au P G f [.str s,.str [c],.str n] (.str (jk c n s))
def zd (L:Lays.n155 P ρ) (X:Builder.Extra P ρ) {m:Int} (h1:G (ρ.g 1)=some [.int .i64 m]):EG P G (ρ.f 155):=by
 intro c n s fO hs hn
 refine oT (by simp[ah,AV.an]) (by simp[AV.an]) fun w I vs hG hv=> ?_
 simp only[br,RV] at hv
 obtain⟨v1,u1,rfl,rfl,v2,u2,rfl,rfl,v3,u3,rfl,rfl,rfl⟩:=hv
 have hm:w.cell? ⟨ρ.g 1,0,none⟩=some (.int .i64 m):=by
   obtain⟨⟨⟨v,e1,e2⟩,_⟩,_⟩:=hG _ _ h1
   simp only[NN] at e2
   rw[e1,e2]
 have gm:∀s:Bs,(⟨s.toArray⟩:ByteArray).size=s.length:=fun s=>by simp[ByteArray.size]
 have zR:∀s:Bs,(⟨s.toArray⟩:ByteArray).data.toList=s:=fun s=>by simp
 refine(Any.strings_ReplaceAll L X ⟨s.toArray⟩ ⟨[c].toArray⟩ ⟨n.toArray⟩ m w (by rw[gm];omega) hm (by rw[gm];simp) ?_).mono ?_
 · have e:Lib.countB ⟨s.toArray⟩ ⟨[c].toArray⟩=s.count c:=by
     have:=Lib.count_one c s
     simpa[Lib.countB] using this
   rw[gm,gm,e]
   have h1:=Nat.mul_le_mul (List.count_le_length (a:=c) (l:=s)) hn
   omega
 rintro e w' ⟨rfl,hb⟩
 refine⟨_,rfl,hb,fun I'=> ?_⟩
 rw[zR,zR,zR,ou fO]
 simp[RV]
end
section
variable {P:Program} {G:Nat→Option (List IV)}
def fJ (bT:Nat):AC:=
(aM [aQ 4 (.iC (.c (.str [])))] (aM [MR 5 0,aQ 6 (.call bT [(.t 5),(.c (.str [38])),(.c (.str [38,97,109,112,59]))]),MR 0 6] (aM [MR 7 0,aQ 8 (.call bT [(.t 7),(.c (.str [60])),(.c (.str [38,108,116,59]))]),aQ 9 (.call bT [(.t 8),(.c (.str [62])),(.c (.str [38,103,116,59]))]),MR 0 9] (.seq (aM [MR 10 1] (.cond (.t 10) (.cq [MR 11 0,aQ 12 (.call bT [(.t 11),(.c (.str [34])),(.c (.str [38,113,117,111,116,59]))]),MR 0 12]) .skip)) (aM [MR 13 0,MR 4 13] .ret)))))
def EH {b_ bT:Nat} (hF:aw P G b_=some (14,[(none,4)],(fJ bT).bare)) (hR:EG P G bT) (s:Bs) (hs:s.length≤2^16) (v:Bool):au P G b_ [.str s,.bool v] (.str (fG v s)):=by
 have l1:∀(c:UInt8) (n s:Bs) (k:Nat),n.length≤6→s.length≤k→(jk c n s).length≤6*k:=by
  intro c n s k hn hk;have:(jk c n s).length≤6*s.length:=by
   unfold jk;induction s with
   |nil=>simp
   |cons b r ih=>
   have:=ih (by simp at hk;omega);simp only[WO,Vw,Vo];split
   ·omega
   simp only[Xx];omega
  omega
 have g1:=l1 38 kD s _ (by decide) hs;have g2:=l1 60 qH _ _ (by decide) g1;have g3:=l1 62 rC _ _ (by decide) g2;refine aR hF (by simp) (by simp[ah,AV.an]) (by simp[AV.an]) ?_;unfold fJ;simp only[↓aX,mX,seval];refine ay (hR 38 kD s (by decide) (by omega) (by decide)) ?_;simp only[↓aX,mX,seval];refine ay (hR 60 qH _ (by decide) (by omega) (by decide)) ?_;simp only[↓aX,mX,seval];refine ay (hR 62 rC _ (by decide) (by omega) (by decide)) ?_;simp only[↓aX,mX,seval];cases v with
 |false=>
  have e:=u4 false s;simp only[Vl,Vk] at e;simp only[↓aX,mX,seval,e]
 |true=>
 have e:=u4 true s;simp only[Vp] at e;simp only[↓aX,mX,seval];refine ay (hR 34 jc _ (by decide) (by omega) (by decide)) ?_;simp only[↓aX,mX,seval,e]
def fe (b_ bB:Nat):AC:=
(aM [sC 1 0,aQ 2 (.iC (.c (.str [])))] (.seq (aM [ep 8 1 0,fm 9 8] (.cond (.t 9) (aM [ep 10 1 1,fm 11 10,aQ 12 (.call b_ [(.t 11),(me false)]),MR 2 12] .ret) .skip)) (aM [ep 13 1 1,fm 14 13,aQ 15 (.bin .add (.c (.str [60])) (.t 14)),MR 3 15] (.seq (aM [ep 16 1 2,fm 17 16,oy 18 17,gH 19 0] (.block 0 (.loop (aM [et 20 .lss 19 18] (.seq (.cond (.t 20) .skip (.exit 0)) (.seq (.block 1 (aM [jL 21 17 19 2,gz 22 2 21,aQ 5 (.new [(.str []),(.str [])]),gg (.store 2 (.t 5) (.t 22))] (.fK [MR 23 3,ep 24 5 0,fm 25 24,aQ 26 (.bin .add (.c (.str [32])) (.t 25)),aQ 27 (.bin .add (.t 26) (.c (.str [61,34]))),ep 28 5 1,fm 29 28,aQ 30 (.call b_ [(.t 29),(me true)]),et 31 .add 27 30,aQ 32 (.bin .add (.t 31) (.c (.str [34]))),et 33 .add 23 32,MR 3 33] [[],[],[1],[2],[3],[],[5],[6],[4,7],[8],[0,9],[10,7,0,1,2,3,4,5,6,7,8,9,10]] [.no,.no,.rw [.loc 5] [],.no,.no,.no,.rw [.loc 5] [],.no,.no,.no,.no,.no]))) (.cq [eY 34 .add 19 1,MR 19 34]))))))) (.seq (aM [ep 35 1 3,fm 36 35,oy 37 36,eY 38 .eql 37 0] (.cond (.t 38) (aM [MR 39 3,aQ 40 (.bin .add (.t 39) (.c (.str [47,62]))),MR 2 40] .ret) .skip)) (aM [MR 41 3,aQ 42 (.bin .add (.t 41) (.c (.str [62]))),MR 3 42] (.seq (aM [ep 43 1 3,fm 44 43,oy 45 44,gH 46 0] (.block 2 (.loop (aM [et 47 .lss 46 45] (.seq (.cond (.t 47) .skip (.exit 2)) (.seq (.block 3 (aM [jL 48 44 46 4,gz 49 4 48,aQ 7 (.new [(.bool false),(.str []),.nil0,.nil0]),gg (.store 4 (.t 7) (.t 49))] (.cq [MR 50 3,gz 51 4 7,aQ 52 (.call bB [(.t 51)]),et 53 .add 50 52,MR 3 53]))) (.cq [eY 54 .add 46 1,MR 46 54]))))))) (aM [MR 55 3,aQ 56 (.bin .add (.t 55) (.c (.str [60,47]))),ep 57 1 1,fm 58 57,et 59 .add 56 58,aQ 60 (.bin .add (.t 59) (.c (.str [62]))),MR 2 60] .ret))))))))
set_option maxHeartbeats 1600000 in
def EI {bB b_:Nat} (hF:aw P G bB=some (61,[(none,2)],(fe b_ bB).bare)) (hT:∀(s:Bs),s.length≤2^16→∀v:Bool,au P G b_ [.str s,.bool v] (.str (fG v s))) (x:Tree) (hx:x.wt≤2^15)
  (hS:∀k∈x.kids,au P G bB [k.av] (.str k.sh)):au P G bB [x.av] (.str x.sh):=by
 have h2:=jA x;have h3:=lY x;have h4:=iz x.attrs;have h5:=eZ x.kids;have h6:=x.gx;have L8:(∀a:Attr,a∈x.attrs→a.name.length≤dX x.attrs∧a.val.length≤dX x.attrs):=fun a ha=>by
  have:∀l:List Attr,a∈l→a.name.length≤dX l∧a.val.length≤dX l:=by
   intro l;induction l with
   |nil=>intro h;simp at h
   |cons b l ih=>
   intro h;simp only[dX,Attr.wt];rcases List.mem_cons.1 h with rfl|h
   ·constructor<;>omega
   have:=ih h;constructor<;>omega
  exact this _ ha
 refine aR hF (by simp) (by simp[ah,AV.an,Tree.av]) (by simp[AV.an]) ?_;unfold fe;simp only[↓aX,mX,seval,Tree.av];cases ht:x.text with
 |true=>
  simp only[↓aX,mX,seval,ht];refine ay (hT x.s (by omega) false) ?_;simp only[↓aX,mX,seval,Tree.yh x ht]
 |false=>
 have v8:∀a b:Bs,a.length≤2^40→b.length≤2^40→a.length+b.length≤9223372036854775807:=fun a b h1 h2=>by omega
 have hA:∀l:List Attr,(bl l).length≤7*dX l:=by
  intro l;induction l with
  |nil=>simp[bl]
  |cons a l ih=>
  have:=iB true a.val;have e:bl (a::l)=iK a++bl l:=by simp[bl]
  rw[e,List.length_append];simp only[iK,dX,Attr.wt,List.length_append,List.length_cons,List.length_nil];omega
 simp only[↓aX,mX,seval,ht,bp,show 1+x.s.length≤9223372036854775807 by omega];refine pe (σ:={i:Nat // i≤x.attrs.length}) (fun _=>[.loc 1]) (fun _ _=>false)
  (fun q=>[(1,.ptr (.loc 1) 4 0 0),(3,.str (60::x.s++bl (x.attrs.take q.1))),(17,.list (cD x.attrs)),(18,.int .i64 x.attrs.length),(19,.int .i64 q.1)])
  (fun _=>[(.loc 1,⟨4,[[.bool false,.str x.s,.list (cD x.attrs),.list (dq x.kids)]]⟩)]) (fun q=>x.attrs.length - q.1) ⟨0,by omega⟩ (fun _=>rfl) (fun q=>by simp[ah,AV.an]) ?_ ⟨[],?_⟩ ?_
 ·intro q w hw cs bV z hz;simp only[List.mem_singleton] at hw;subst hw;simp only[List.mem_singleton] at bV;subst bV;simp[ah,AV.an] at hz
 ·refine⟨?_,?_,?_,by simp[dn],fun l _=>⟨id,fun _=>rfl⟩⟩
  ·intro l hf hu;exfalso;apply hu;cases l<;>simp_all[Lb.fresh,ae,Hp.none]
  ·simp[k_,dn,bJ,bu,put,jP,bl]
  simp[tc,dn,ae,dO,bu,bJ,ht]
 rintro⟨i,hi⟩;rw[Cf];simp only[↓aX,mX,seval,cF,bW];by_cases bI:i<x.attrs.length
 ·obtain⟨a,ha⟩:∃a,x.attrs[i]?=some a:=⟨_,List.getElem?_eq_getElem bI⟩;have HT:=L8 a (List.mem_of_getElem? ha);have hw:IntKind.i64.wrap ((i:Int)+1)=((i+1:Nat):Int):=wrap64 (by omega) (by omega);simp only[↓aX,mX,seval,show decide ((i:Int)<(x.attrs.length:Int))=true by simpa using bI,Int.natCast_nonneg,Int.toNat_natCast,show(cD x.attrs)[i]?=some a.iv by simp[cD,ha],show jV 2 (cD x.attrs) from fun y hy=>by
   simp only[cD,List.mem_map] at hy;obtain⟨b,_,rfl⟩:=hy;rfl,Attr.iv,Attr.cs,IV.cells]
  have he:=iB true a.val;have L9:=hA (x.attrs.take i);have MQ:dX (x.attrs.take i)≤dX x.attrs:=by
   have:∀(l:List Attr) (i:Nat),dX (l.take i)≤dX l:=by
    intro l;induction l with
    |nil=>intro i;simp
    |cons b l ih=>
    intro i;cases i with
    |zero=>simp[dX]
    |succ i=>have:=ih i;simp only[List.take_succ_cons,dX];omega
   exact this _ _
  refine⟨rfl,?_⟩;simp only[↓aX,mX,seval,List.length_append,List.length_cons,List.length_nil,show 1+a.name.length≤9223372036854775807 by omega];rw[if_pos (by(try simp only[List.length_append,List.length_cons,List.length_nil,List.length_singleton]);omega)]
  simp only[↓aX,mX,seval];refine jw (hT a.val (by omega) true) ?_;simp only[↓aX,mX,seval];rw[if_pos (by(try simp only[List.length_append,List.length_cons,List.length_nil,List.length_singleton]);omega)]
  simp only[↓aX,mX,seval];rw[if_pos (by(try simp only[List.length_append,List.length_cons,List.length_nil,List.length_singleton]);omega)]
  simp only[↓aX,mX,seval];rw[if_pos (by(try simp only[List.length_append,List.length_cons,List.length_nil,List.length_singleton]);omega)]
  simp only[↓aX,mX,seval,hw];have zB:bl (x.attrs.take (i+1))=bl (x.attrs.take i)++iK a:=by rw[List.take_add_one,ha];simp[bl]
  refine⟨⟨i+1,bI⟩,by simp only;omega,[],?_⟩;refine⟨?_,?_,?_,by simp[dn],fun l _=>⟨id,fun _=>rfl⟩⟩
  ·intro l hf hu;exfalso;apply hu;cases l<;>simp_all[Lb.fresh,ae,Hp.none]
  ·simp[k_,dn,bJ,bu,put,zB,iK]
  simp[tc,dn,ae,dO,bu,bJ]
 have oI:i=x.attrs.length:=by omega
 simp only[↓aX,mX,seval,show decide ((i:Int)<(x.attrs.length:Int))=false by simpa using bI];subst oI;have L9:=hA x.attrs;have CM:x.attrs.take x.attrs.length=x.attrs:=List.take_length;cases hk:x.kids with
 |nil=>
  simp only[↓aX,mX,seval,CM,hk,dq,List.map_nil,List.length_nil,show(((0:Nat):Int)==0)=true from rfl];rw[if_pos (by(try simp only[List.length_append,List.length_cons,List.length_nil,List.length_singleton]);omega)]
  simp only[↓aX,mX,seval];rw[Tree.QO x ht,hk];simp[nj]
 |cons k0 kr=>
 obtain⟨ks,so⟩:∃ks,x.kids=ks:=⟨_,rfl⟩;have fO:ks≠[]:=by rw[←so,hk];simp
 have Hm:(((dq ks).length:Int)==0)=false:=by
  have:=List.length_pos_iff.2 fO;simp only[bF];rw[beq_eq_false_iff_ne];omega
 rw[←hk,so];clear hk;rw[so] at h2 h5 hS;have HG:=kx;have yN:∀i,(je (ks.take i)).length≤7*dE ks:=fun i=>by
  have h1:=kx (ks.take i);have h2:=lV ks i;omega
 simp only[↓aX,mX,seval,CM,Hm];rw[if_pos (by(try simp only[List.length_append,List.length_cons,List.length_nil,List.length_singleton]);omega)]
 simp only[↓aX,mX,seval];refine pe (σ:={i:Nat // i≤ks.length}) (fun _=>[.loc 1]) (fun _ _=>false)
  (fun q=>[(1,.ptr (.loc 1) 4 0 0),(3,.str (60::x.s++bl x.attrs++[62]++je (ks.take q.1))),(44,.list (dq ks)),(45,.int .i64 ks.length),(46,.int .i64 q.1)])
  (fun _=>[(.loc 1,⟨4,[[.bool false,.str x.s,.list (cD x.attrs),.list (dq ks)]]⟩)]) (fun q=>ks.length - q.1) ⟨0,by omega⟩ (fun _=>rfl) (fun q=>by simp[ah,AV.an]) ?_ ⟨[],?_⟩ ?_
 ·intro q w hw cs bV z hz;simp only[List.mem_singleton] at hw;subst hw;simp only[List.mem_singleton] at bV;subst bV;simp[ah,AV.an] at hz
 ·refine⟨?_,?_,?_,by simp[dn],fun l _=>⟨id,fun _=>rfl⟩⟩
  ·intro l hf hu;exfalso;apply hu;cases l<;>simp_all[Lb.fresh,ae,Hp.none]
  ·simp[k_,dn,bJ,bu,put,je,CM,bF]
  simp[tc,dn,ae,dO,bu,bJ]
 rintro⟨i,hi⟩;rw[Cf];simp only[↓aX,mX,seval,cF,bW];by_cases bI:i<ks.length
 ·obtain⟨a,ha⟩:∃a,ks[i]?=some a:=⟨_,List.getElem?_eq_getElem bI⟩;have HT:=List.mem_of_getElem? ha;have hw:IntKind.i64.wrap ((i:Int)+1)=((i+1:Nat):Int):=wrap64 (by omega) (by omega);have zQ:=yN i;have I7:=yw a;have Ef:=j_ HT;simp only[↓aX,mX,seval,show decide ((i:Int)<(ks.length:Int))=true by simpa using bI,Int.natCast_nonneg,Int.toNat_natCast,iy,ha,lT,Option.map_some,Tree.cJ,Tree.cs];refine ay (hS a HT) ?_;simp only[↓aX,mX,seval];rw[if_pos (by(try simp only[List.length_append,List.length_cons,List.length_nil,List.length_singleton]);omega)]
  simp only[↓aX,mX,seval,hw];have zB:je (ks.take (i+1))=je (ks.take i)++a.sh:=by
   rw[List.take_add_one,ha];have:∀(l:List Tree) (a:Tree),je (l++[a])=je l++a.sh:=by
    intro l a;induction l with
    |nil=>simp[je]
    |cons b l ih=>simp[je,ih]
   exact this _ _
  refine⟨⟨i+1,bI⟩,by simp only;omega,[],?_⟩;refine⟨?_,?_,?_,by simp[dn],fun l _=>⟨id,fun _=>rfl⟩⟩
  ·intro l hf hu;exfalso;apply hu;cases l<;>simp_all[Lb.fresh,ae,Hp.none]
  ·simp[k_,dn,bJ,bu,put,zB]
  simp[tc,dn,ae,dO,bu,bJ]
 have oI:i=ks.length:=by omega
 simp only[↓aX,mX,seval,show decide ((i:Int)<(ks.length:Int))=false by simpa using bI];have zQ:=yN ks.length;have E0:ks.take ks.length=ks:=List.take_length;rw[E0] at zQ;subst oI;simp only[E0];rw[if_pos (by(try simp only[List.length_append,List.length_cons,List.length_nil,List.length_singleton]);omega)]
 simp only[↓aX,mX,seval];rw[if_pos (by(try simp only[List.length_append,List.length_cons,List.length_nil,List.length_singleton]);omega)]
 simp only[↓aX,mX,seval];rw[if_pos (by(try simp only[List.length_append,List.length_cons,List.length_nil,List.length_singleton]);omega)]
 simp only[↓aX,mX,seval];rw[Tree.QO x ht,so,qp _ fO];simp
end
end Go.Am

namespace Go.Am
open Go Go.RowKit
def ov {s:Bs} (h:plain s=true):s.length≤40:=by unfold plain at h;simp at h;omega
def ow {s:Bs} (h:named s=true):1≤s.length∧s.length≤8:=by unfold named at h;simp at h;omega
theorem pI:∀{al:List Attr},(∀a∈al,named a.name=true∧plain a.val=true)→dX al≤49*al.length
 |[],_=>by simp[dX]
 |a::r,h=>by
  have h1:=h a (by simp);have h2:=pI (al:=r) fun x hx=>h x (by simp[hx]);have:=ow h1.1;have:=ov h1.2;simp only[dX,Attr.wt,Vo];omega
mutual
theorem sc:∀x:Tree,x.fu=true→x.wt≤240*x.jz
 | .mk t s al ks,h=>by
  simp only[Tree.fu] at h;simp only[Tree.wt,Tree.jz];cases t with
  |true=>
   simp only[Vp,Vc,V8,Vv] at h;obtain⟨h1,_,rfl,rfl⟩:=h;have:=ov h1;simp[dX,dE,dP];omega
  |false=>
  simp only[Vl,Vk,Vc] at h;obtain⟨h1,h2,h3⟩:=h;have h4:=ow h1;obtain⟨g1,g2,g3⟩:=(iM al).1 h2;have h5:=pI g1;have h6:=pJ none ks h3;omega
theorem pJ:∀(p:Option Bool) (ks:List Tree),bQ p ks=true→dE ks≤240*dP ks
 |_,[],_=>by simp[dE]
 |p,x::r,h=>by
  simp only[bQ,Vc] at h;have h1:=sc x h.1;have h2:=pJ _ r h.2.2;simp only[dE,dP];omega
end
def ze {x:Tree} (h:x.d_=true):x.wt≤19200:=by
 obtain⟨_,_,h1,h2⟩:=(ia x).1 h;have:=sc x h2;omega
section
variable {P:Program} {G:Nat→Option (List IV)}
def ff (eb cd:Nat):AC:=
(aM [jM 0 false] (aM [aQ 6 (.call eb [(.c (.str [60,97,32,98,61,34,38,108,116,59,34,62,120,60,99,47,62,60,47,97,62]))]),MR 5 6,ox 7 5 0,ox 8 5 1,aQ 1 (.new [(.bool false),(.str []),.nil0,.nil0]),gg (.store 4 (.t 1) (.t 7)),MR 2 8] (aM [gz 10 4 1,aQ 11 (.call cd [(.t 10)]),MR 9 11,ox 12 9 0,ox 13 9 1,MR 3 12,MR 4 13] (aM [MR 14 2,eY 15 .eql 14 0,MR 16 15,cU 17 16 4,dW 18 16 (.bin .eql (.t 17) (jS 0)),jT 19 16 18,MR 20 19,cU 21 20 3,dW 22 20 (.bin .eql (.t 21) (.c (.str [60,97,32,98,61,34,38,108,116,59,34,62,120,60,99,47,62,60,47,97,62]))),jT 23 20 22,MR 0 23] .ret))))
def BH {cn eb cd:Nat} (hF:aw P G cn=some (24,[(none,0)],(ff eb cd).bare))
  (hP:au P G eb [.str zp.sh] (.gf [(jD zp.sh).1.av,.int .i64 (jD zp.sh).2])) (hQ:au P G cd [zp.av] (.gf [.str (dh zp).1,.int .i64 (dh zp).2])) :
  au P G cn [] (.bool true):=by
 refine aR hF (by simp) (by simp[ah,AV.an]) (by simp[AV.an]) ?_;have hl:zp.sh.length≤2500:=by rw[tG];decide
 rw[yW rY hl] at hP;rw[oq rY hl] at hQ;rw[tG] at hP hQ;simp only[Tree.av] at hP hQ;unfold ff;simp only[↓aX,mX,seval,JC,GX,JD,JE,JF,JG,Vh,Ve];refine ay hP ?_;simp only[↓aX,mX,seval,JC,GX,JD,JE,JF,JG,Vh,Ve];refine ay hQ ?_;simp only[↓aX,mX,seval,JC,GX,JD,JE,JF,JG,Vh,Ve,↓cN]
def ec (bY bB:Nat):AC:=
(aM [sC 1 0,aQ 2 (.iC (.c (.str []))),gH 3 0] (.seq (aM [gz 5 4 1,aQ 6 (.call bY [(.t 5)]),sB 7 6] (.cond (.t 7) (aM [aQ 2 (.iC (.c (.str []))),gH 3 1] .ret) .skip)) (aM [gz 8 4 1,aQ 9 (.call bB [(.t 8)]),MR 4 9] (.seq (aM [MR 10 4,oF 11 10,eY 12 .gtr 11 2500] (.cond (.t 12) (aM [aQ 2 (.iC (.c (.str []))),gH 3 2] .ret) .skip)) (aM [MR 13 4,MR 2 13,gH 3 0] .ret)))))
def tM {bM bY bB:Nat} (hF:aw P G bM=some (14,[(none,2),(none,3)],(ec bY bB).bare)) (x:Tree) (hI:au P G bY [x.av] (.bool x.d_)) (hS:x.d_=true→au P G bB [x.av] (.str x.sh)) :
  au P G bM [x.av] (.gf [.str (dh x).1,.int .i64 (dh x).2]):=by
 refine aR hF (by simp) (by simp[ah,AV.an,Tree.av]) (by simp[AV.an,ah]) ?_;unfold ec;simp only[Tree.av] at hI hS;simp only[↓aX,mX,seval,Tree.av];refine ay hI ?_;cases hg:x.d_ with
 |false=>simp only[↓aX,mX,seval,hg,Ve,↓h_,wc hg]
 |true=>
 simp only[↓aX,mX,seval,hg,Vh];refine ay (hS hg) ?_;by_cases hl:x.sh.length≤2500
 ·simp only[↓aX,mX,seval,show decide ((x.sh.length:Int)>2500)=false by simp;omega,↓h_,oq hg hl]
 simp only[↓aX,mX,seval,show decide ((x.sh.length:Int)>2500)=true by simp;omega,↓h_,tH hg (by omega)]
def dV (dj cd bM cn:Nat):AC:=
(aM [sC 1 0,jM 2 false] (aM [gz 8 4 1,aQ 9 (.call dj [(.t 8)]),aQ 10 (.call cd [(.t 9)]),MR 7 10,ox 11 7 0,ox 12 7 1,MR 3 11,MR 4 12] (aM [gz 14 4 1,aQ 15 (.call bM [(.t 14)]),MR 13 15,ox 16 13 0,ox 17 13 1,MR 5 16,MR 6 17] (aM [MR 18 3,MR 19 5,et 20 .eql 18 19,MR 21 20,cU 22 21 4,cU 23 21 6,dW 24 21 (.bin .eql (.t 22) (.t 23)),jT 25 21 24,MR 26 25,dW 27 26 (.call cn []),jT 28 26 27,MR 2 28] .ret))))
def sd {N6 dj cd bM cn:Nat} (hF:aw P G N6=some (29,[(none,2)],(dV dj cd bM cn).bare)) (x:Tree) (hC:au P G dj [x.av] x.av)
  (h1:au P G cd [x.av] (.gf [.str (dh x).1,.int .i64 (dh x).2])) (h2:au P G bM [x.av] (.gf [.str (dh x).1,.int .i64 (dh x).2])) (h3:au P G cn [] (.bool true)) :
  au P G N6 [x.av] (.bool true):=by
 refine aR hF (by simp) (by simp[ah,AV.an,Tree.av]) (by simp[AV.an]) ?_;unfold dV;simp only[Tree.av] at hC h1 h2;simp only[↓aX,mX,seval,Tree.av];refine ay hC ?_;simp only[↓aX,mX,seval];refine ay h1 ?_;simp only[↓aX,mX,seval];refine ay h2 ?_;simp only[↓aX,mX,seval,show((dh x).1==(dh x).1)=true by simp,show((dh x).2==(dh x).2)=true by simp];refine ay h3 ?_;simp only[↓aX,mX,seval]
end
end Go.Am
