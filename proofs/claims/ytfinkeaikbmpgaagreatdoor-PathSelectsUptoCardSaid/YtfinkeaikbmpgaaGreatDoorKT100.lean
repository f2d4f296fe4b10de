import Derived.Test.YtfinkeaikbmpgaaGreatDoorKP2
import Derived.Test.YtfinkeaikbmpgaaGreatDoorKT34
import Derived.Lib.AtoiAllCases
import Derived.Lib.ItoaNum
set_option linter.unusedSimpArgs false
set_option linter.unusedVariables false
set_option linter.unnecessarySimpa false
set_option linter.defProp false
/- Paths: the text of a path, read. -/
set_option pp.deepTerms false
set_option pp.deepTerms.threshold 6
namespace Go.Am
open Go Go.RowKit
def o6 (t s:Bs):Bs:=if t.isSuffixOf s then s.take (s.length - t.length) else s
def sR (n:Bs):Option Int:=match Lib.atoiAll n with
 | .ok k=>if Lib.itoa k=n∧1≤k then some k else none
 |_=>none
def ml (w:Bs):Option Int:=if(cA 91 w).2.2 then(if [93].isSuffixOf (cA 91 w).2.1 then sR (o6 [93] (cA 91 w).2.1) else none) else some 0
def iL (nm:Bs):Option Bs:=if nm=[] then none else if nm=[35] then some [] else some nm
def ez (w:Bs):Option Step:=(ml w).bind fun k=>(iL (cA 91 w).1).map fun nm=>⟨nm,k⟩
def c6:List Bs→Option (List Step)
 |[]=>some []
 |w::r=>(ez w).bind fun x=>(c6 r).map fun l=>x::l
def qa (s:Bs):Option (List Step):=
 if [47].isPrefixOf s∧s.length≤2500 then(c6 (bV 47 (s.drop 1))).bind fun l=>if aT l then some l else none else none
def jS (s:Bs):AV:=match qa s with
 |some l=> .ei [.list (l.map Step.iv),.int .i64 0]
 |none=> .ei [.nil0,.int .i64 1]
theorem np:∀(ws:List Bs) (w:Bs),c6 (ws++[w])=(c6 ws).bind fun l=>(ez w).map fun x=>l++[x]
 |[],w=>by cases h:ez w<;>simp[c6,h]
 |v::r,w=>by
  simp only[List.cons_append,c6,np r w];cases ez v<;>simp;cases c6 r<;>simp;cases ez w<;>simp
theorem sS {ws:List Bs} {i:Nat} {w:Bs} {l:List Step} (h:ws[i]?=some w) (hl:c6 (ws.take i)=some l):c6 (ws.take (i+1))=(ez w).map fun x=>l++[x]:=by
 rw[List.take_add_one,h,Option.toList_some,np,hl];rfl
theorem nq:∀{ws:List Bs} {w:Bs},w∈ws→ez w=none→c6 ws=none
 |v::r,w,hm,h=>by
  rcases List.mem_cons.1 hm with rfl|hm
  ·simp[c6,h]
  ·simp only[c6,nq hm h];cases ez v<;>rfl
theorem o7:∀{ws:List Bs} {l:List Step},c6 ws=some l→l.length=ws.length
 |[],l,h=>by simp[c6] at h;subst h;rfl
 |v::r,l,h=>by
  simp only[c6,Option.bind_eq_some_iff,Option.map_eq_some_iff] at h;obtain⟨x,_,l',h2,rfl⟩:=h;simp[o7 h2]
theorem wT (c:UInt8) (s:Bs):(bV c s).length=s.count c+1:=mK c _ s rfl
theorem o8 (c:UInt8) (w:Bs):(cA c w).1.length≤w.length∧(cA c w).2.1.length≤w.length:=by
 unfold cA;split
 ·simp only[List.length_take,List.length_drop];omega
 ·simp
theorem zE (t s:Bs):(o6 t s).length≤s.length:=by
 unfold o6;split
 ·simp only[List.length_take];omega
 ·exact Nat.le_refl _
theorem uv {w:Bs} {x:Step} (h:ez w=some x):x.name.length≤w.length:=by
 simp only[ez,Option.bind_eq_some_iff,Option.map_eq_some_iff] at h;obtain⟨k,_,nm,hn,rfl⟩:=h;have:=(o8 91 w).1;unfold iL at hn;split at hn
 ·cases hn
 split at hn
 ·cases hn;exact Nat.zero_le _
 ·cases hn;exact this
theorem nr:∀{ws:List Bs} {l:List Step},c6 ws=some l→∀x∈l,∃w∈ws,x.name.length≤w.length
 |[],l,h=>by simp[c6] at h;subst h;simp
 |v::r,l,h=>by
  simp only[c6,Option.bind_eq_some_iff,Option.map_eq_some_iff] at h;obtain⟨x,hx,l',h2,rfl⟩:=h;intro y hy;rcases List.mem_cons.1 hy with rfl|hy
  ·exact⟨v,by simp,uv hx⟩
  ·obtain⟨w,h3,h4⟩:=nr h2 y hy;exact⟨w,by simp[h3],h4⟩
theorem mL (c:UInt8):∀(s:Bs),∀w∈bV c s,w.length≤s.length
 |[],w,h=>by simp[bV] at h;subst h;simp
 |b::r,w,h=>by
  have ih:=mL c r;simp only[bV] at h;split at h
  ·rcases List.mem_cons.1 h with rfl|h
   ·simp
   ·have:=ih w h;simp;omega
  ·split at h
   ·rename_i v vs e;rw[e] at ih;rcases List.mem_cons.1 h with rfl|h
    ·have:=ih v (by simp);simp;omega
    ·have:=ih w (by simp[h]);simp;omega
   ·simp at h;subst h;simp
structure EG (ws:List Bs) where
 i:Nat
 l:List Step
 hi:i≤ws.length
 h:c6 (ws.take i)=some l
def nt (ws:List Bs) (q:EG ws):List (Nat×AV):=
 [(6,.sl (.loc 6) 2 0 q.i),(30,.list (ws.map IV.str)),(31,.int .i64 ws.length),(32,.int .i64 q.i)]
def nu (ws:List Bs) (q:EG ws):List (Lb×Row):=[(.loc 6,⟨2,aG (q.l.map Step.iv)⟩)]
section
variable {P:Program} {G:Nat→Option (List IV)}
def CE (P:Program) (G:Nat→Option (List IV)) (f:Nat):Prop:=∀n:Bs,n.length≤B→∃k e,ai P G f [.str n] (.ei [.int .i64 k,e])∧((e= .fy∧Lib.atoiAll n= .ok k)∨((∃t,e= .ifc t .any)∧∀v,Lib.atoiAll n≠ .ok v))
def zF (P:Program) (G:Nat→Option (List IV)) (f:Nat):Prop:=∀k:Int,-9223372036854775808≤k→k≤9223372036854775807→ai P G f [.int .i64 k] (.str (Lib.itoa k))
def jL (cn cZ dL cp fR fU a7:Nat):AC:=
(.seq (.au [⟨some 2,none,.af (.c .nil0)⟩,⟨some 3,none,.af (.c (.int .i64 0))⟩]) (.seq (.au [⟨some 18,none,.af (.t 0)⟩,⟨some 19,none,.call cn [(.t 18),(.c (.str [47]))]⟩,⟨some 17,none,.af (.t 19)⟩,⟨some 20,none,.ext (.t 17) 0⟩,⟨some 21,none,.ext (.t 17) 1⟩,⟨some 4,none,.af (.t 20)⟩,⟨some 5,none,.af (.t 21)⟩]) (.seq (.seq (.au [⟨some 22,none,.af (.t 5)⟩,⟨some 23,none,.not (.t 22)⟩,⟨some 24,none,.af (.t 23)⟩,⟨some 25,(some (24,false)),(.af (.t 0))⟩,⟨some 26,(some (24,false)),(.lens (.t 25))⟩,⟨some 27,(some (24,false)),(.bin .gtr (.t 26) (.c (.int .i64 2500)))⟩,⟨some 28,none,.pick (.t 24) (.c (.bool true)) (.t 27)⟩]) (.cond (.t 28) (.seq (.au [⟨some 2,none,.af (.c .nil0)⟩,⟨some 3,none,.af (.c (.int .i64 1))⟩]) .ret) .skip)) (.seq (.au [⟨some 6,none,.af (.c .nil0)⟩]) (.gh (.own 6 2) (.seq (.seq (.au [⟨some 29,none,.af (.t 4)⟩,⟨some 30,none,.call cZ [(.t 29),(.c (.str [47]))]⟩,⟨some 31,none,.len (.t 30)⟩,⟨some 32,none,.af (.c (.int .i64 0))⟩]) (.block 0 (.loop (.seq (.au [⟨some 33,none,.bin .lss (.t 32) (.t 31)⟩]) (.seq (.cond (.t 33) .skip (.exit 0)) (.seq (.block 1 (.seq (.au [⟨some 34,none,.fH (.t 30) (.t 32) 1⟩,⟨some 35,none,.load none (.t 34)⟩,⟨some 8,none,.af (.t 35)⟩]) (.seq (.au [⟨some 9,none,.new [(.str []),(.int .i64 0)]⟩]) (.seq (.au [⟨some 37,none,.af (.t 8)⟩,⟨some 38,none,.call dL [(.t 37),(.c (.str [91]))]⟩,⟨some 36,none,.af (.t 38)⟩,⟨some 39,none,.ext (.t 36) 0⟩,⟨some 40,none,.ext (.t 36) 1⟩,⟨some 41,none,.ext (.t 36) 2⟩,⟨some 10,none,.af (.t 39)⟩,⟨some 11,none,.af (.t 40)⟩,⟨some 12,none,.af (.t 41)⟩]) (.seq (.seq (.au [⟨some 42,none,.af (.t 12)⟩]) (.cond (.t 42) (.seq (.au [⟨some 44,none,.af (.t 11)⟩,⟨some 45,none,.call cp [(.t 44),(.c (.str [93]))]⟩,⟨some 43,none,.af (.t 45)⟩,⟨some 46,none,.ext (.t 43) 0⟩,⟨some 47,none,.ext (.t 43) 1⟩,⟨some 13,none,.af (.t 46)⟩,⟨some 14,none,.af (.t 47)⟩]) (.seq (.au [⟨some 49,none,.af (.t 13)⟩,⟨some 50,none,.call fR [(.t 49)]⟩,⟨some 48,none,.af (.t 50)⟩,⟨some 51,none,.ext (.t 48) 0⟩,⟨some 52,none,.ext (.t 48) 1⟩,⟨some 15,none,.af (.t 51)⟩,⟨some 16,none,.af (.t 52)⟩]) (.seq (.seq (.au [⟨some 53,none,.af (.t 14)⟩,⟨some 54,none,.not (.t 53)⟩,⟨some 55,none,.af (.t 54)⟩,⟨some 56,(some (55,false)),(.af (.t 16))⟩,⟨some 57,(some (55,false)),(.zP true (.t 56) (.c .fy))⟩,⟨some 58,none,.pick (.t 55) (.c (.bool true)) (.t 57)⟩,⟨some 59,none,.af (.t 58)⟩,⟨some 60,(some (59,false)),(.af (.t 15))⟩,⟨some 61,(some (59,false)),(.call fU [(.t 60)])⟩,⟨some 62,(some (59,false)),(.af (.t 13))⟩,⟨some 63,(some (59,false)),(.bin .neq (.t 61) (.t 62))⟩,⟨some 64,none,.pick (.t 59) (.c (.bool true)) (.t 63)⟩,⟨some 65,none,.af (.t 64)⟩,⟨some 66,(some (65,false)),(.af (.t 15))⟩,⟨some 67,(some (65,false)),(.bin .lss (.t 66) (.c (.int .i64 1)))⟩,⟨some 68,none,.pick (.t 65) (.c (.bool true)) (.t 67)⟩]) (.cond (.t 68) (.seq (.au [⟨some 2,none,.af (.c .nil0)⟩,⟨some 3,none,.af (.c (.int .i64 1))⟩]) .ret) .skip)) (.au [⟨some 69,none,.af (.t 15)⟩,⟨some 70,none,.bU (.t 9) 1⟩,⟨none,none,.store 1 (.t 70) (.t 69)⟩])))) .skip)) (.seq (.au [⟨some 71,none,.af (.t 10)⟩,⟨some 72,none,.bU (.t 9) 0⟩,⟨none,none,.store 1 (.t 72) (.t 71)⟩]) (.seq (.seq (.au [⟨some 73,none,.af (.t 10)⟩]) (.block 2 (.seq (.au [⟨some 75,none,.bin .eql (.t 73) (.c (.str []))⟩,⟨some 74,none,.af (.t 75)⟩]) (.cond (.t 74) (.seq (.au [⟨some 2,none,.af (.c .nil0)⟩,⟨some 3,none,.af (.c (.int .i64 1))⟩]) .ret) (.seq (.au [⟨some 77,none,.bin .eql (.t 73) (.c (.str [35]))⟩,⟨some 76,none,.af (.t 77)⟩]) (.cond (.t 76) (.au [⟨some 78,none,.bU (.t 9) 0⟩,⟨none,none,.store 1 (.t 78) (.c (.str []))⟩]) .skip)))))) (.au [⟨some 79,none,.af (.t 6)⟩,⟨some 80,none,.load (some 2) (.t 9)⟩,⟨some 81,none,.lits 1 2 [(.str []),(.int .i64 0)] [(0,(.t 80))]⟩,⟨some 82,none,.app (.t 79) (.t 81) 2 24⟩,⟨some 6,none,.af (.t 82)⟩])))))))) (.au [⟨some 83,none,.bin .add (.t 32) (.c (.int .i64 1))⟩,⟨some 32,none,.af (.t 83)⟩]))))))) (.seq (.gh (.xQ (.loc 6) 6) (.seq (.au [⟨some 84,none,.af (.t 6)⟩,⟨some 85,none,.call a7 [(.t 84)]⟩,⟨some 86,none,.not (.t 85)⟩]) (.cond (.t 86) (.seq (.au [⟨some 2,none,.af (.c .nil0)⟩,⟨some 3,none,.af (.c (.int .i64 1))⟩]) .ret) .skip))) (.seq (.au [⟨some 87,none,.af (.t 6)⟩,⟨some 2,none,.af (.t 87)⟩,⟨some 3,none,.af (.c (.int .i64 0))⟩]) .ret))))))))
theorem uw {ef cn cZ dL cp fR fU a7 : Nat} (hF : aB P G ef = some (88,[(none,2),(none,3)],(jL cn cZ dL cp fR fU a7).bare)) (s : Bs) (hs : s.length ≤ 2 ^ 24)
   (Lm:ai P G cn [.str s,.str [47]] (.ei [.str (if [47].isPrefixOf s then s.drop 1 else s),.bool ([47].isPrefixOf s)]))
   (Ln:ai P G cZ [.str (s.drop 1),.str [47]] (.list ((bV 47 (s.drop 1)).map IV.str)))
   (JW:∀w∈bV 47 (s.drop 1),ai P G dL [.str w,.str [91]] (.ei [.str (cA 91 w).1,.str (cA 91 w).2.1,.bool (cA 91 w).2.2]))
   (JX:∀w∈bV 47 (s.drop 1),ai P G cp [.str (cA 91 w).2.1,.str [93]] (.ei [.str (o6 [93] (cA 91 w).2.1),.bool ([93].isSuffixOf (cA 91 w).2.1)]))
   (hA:∀w∈bV 47 (s.drop 1),∃k e,ai P G fR [.str (o6 [93] (cA 91 w).2.1)] (.ei [.int .i64 k,e])∧((e= .fy∧Lib.atoiAll (o6 [93] (cA 91 w).2.1)= .ok k)∨((∃t,e= .ifc t .any)∧∀v,Lib.atoiAll (o6 [93] (cA 91 w).2.1)≠ .ok v)))
   (hI:zF P G fU) (hG:∀l:List Step,l.length≤B→(∀x∈l,x.name.length≤s.length)→ai P G a7 [.list (l.map Step.iv)] (.bool (aT l))) :
   ai P G ef [.str s] (jS s):=by
 refine aC hF (by simp) (by simp[ah,AV.ar]) (by unfold jS;split<;>simp[AV.ar,ah]) ?_
 have rn:B=1073741824:=rfl
 unfold jL
 simp only[↓aX,mX,reduceCtorEq,Nat.reduceEqDiff,Nat.reduceLT,Nat.reduceLeDiff,Nat.reduceAdd,Nat.reduceMul,Int.reduceToNat,Int.reduceLE,Int.reduceLT]
 refine aj Lm ?_
 simp only[↓aX,mX,reduceCtorEq,Nat.reduceEqDiff,Nat.reduceLT,Nat.reduceLeDiff,Nat.reduceAdd,Nat.reduceMul,Int.reduceToNat,Int.reduceLE,Int.reduceLT]
 cases hp:([47]:Bs).isPrefixOf s with
 |false=>simp only[↓aX,mX,reduceCtorEq,Nat.reduceEqDiff,Nat.reduceLT,Nat.reduceLeDiff,Nat.reduceAdd,Nat.reduceMul,Int.reduceToNat,Int.reduceLE,Int.reduceLT,Bool.not_false,↓df,jS,qa,hp,Bool.false_eq_true,false_and,ite_false]
 |true=>
 simp only[↓aX,mX,reduceCtorEq,Nat.reduceEqDiff,Nat.reduceLT,Nat.reduceLeDiff,Nat.reduceAdd,Nat.reduceMul,Int.reduceToNat,Int.reduceLE,Int.reduceLT,Bool.not_true]
 rcases Nat.lt_or_ge 2500 s.length with hlen|hlen
 · simp only[↓aX,mX,reduceCtorEq,Nat.reduceEqDiff,Nat.reduceLT,Nat.reduceLeDiff,Nat.reduceAdd,Nat.reduceMul,Int.reduceToNat,Int.reduceLE,Int.reduceLT,show decide ((s.length:Int)>2500)=true by simp;omega,↓df,jS,qa,show ¬s.length≤2500 by omega,and_false,ite_false]
 simp only[↓aX,mX,reduceCtorEq,Nat.reduceEqDiff,Nat.reduceLT,Nat.reduceLeDiff,Nat.reduceAdd,Nat.reduceMul,Int.reduceToNat,Int.reduceLE,Int.reduceLT,show decide ((s.length:Int)>2500)=false by simp;omega]
 refine aj Ln ?_
 obtain⟨ws,HA⟩:∃ws,bV 47 (s.drop 1)=ws:=⟨_,rfl⟩
 have I8:ws.length≤2501:=by
   rw[←HA,wT]
   have:=List.count_le_length (a:=(47:UInt8)) (l:=s.drop 1)
   simp only[List.length_drop] at this
   omega
 have FA:qa s=(c6 ws).bind fun l=>if aT l then some l else none:=by simp only[qa,hp,show s.length≤2500 from hlen,HA,true_and,ite_true]
 rw[HA] at JW JX hA ⊢
 simp only[↓aX,mX,reduceCtorEq,Nat.reduceEqDiff,Nat.reduceLT,Nat.reduceLeDiff,Nat.reduceAdd,Nat.reduceMul,Int.reduceToNat,Int.reduceLE,Int.reduceLT,List.length_map]
 refine dA (σ:=EG ws) (fun _=>[.loc 6]) (fun _ _=>false) (nt ws) (nu ws) (fun q=>ws.length - q.i) ⟨0,[],by omega,rfl⟩ (fun _=>rfl) (fun q=>by simp[ah,AV.ar,nt]) ?_ ⟨[],?_⟩ ?_
 · intro q w hw cs bx z hz
   simp only[nu,List.mem_singleton] at hw;subst hw
   rw[bY bx] at hz;simp at hz
 · refine⟨?_,?_,?_,by simp[bq],fun l _=>⟨id,fun _=>rfl⟩⟩
   · intro l hf hu
     exfalso;apply hu
     cases l<;>simp_all[Lb.fresh,ae,Hp.none]
   · simp[iq,bq,bQ,put,nt]
   · simp[jW,bq,ae,bX,bT,bQ,aG,nu]
 · rintro ⟨i,l,hi,h⟩
   rw[iu]
   have xD:l.length=i:=by have:=o7 h;simp only[List.length_take] at this;omega
   have hr:∀(ρ:Lb→Lb) (xs:List IV),bX ρ ⟨2,aG xs⟩=⟨2,aG xs⟩:=fun ρ xs=>cr _ _ _
   simp only[↓aX,mX,reduceCtorEq,Nat.reduceEqDiff,Nat.reduceLT,Nat.reduceLeDiff,Nat.reduceAdd,Nat.reduceMul,Int.reduceToNat,Int.reduceLE,Int.reduceLT,nt,nu,cb,bO]
   by_cases bz:i<ws.length
   · obtain ⟨w,hw⟩ : ∃ w,ws[i]? = some w := ⟨_,List.getElem?_eq_getElem bz⟩
     have E9:=List.mem_of_getElem? hw
     have ku:IntKind.i64.wrap ((i:Int)+1)=((i+1:Nat):Int):=wrap64 (by omega) (by omega)
     have Lo:(ws.map IV.str)[i]?=some (.str w):=by simp[hw]
     have nz:ia 1 (ws.map IV.str):=by intro y hy;simp only[List.mem_map] at hy;obtain⟨w',_,rfl⟩:=hy;rfl
     have pa:ez w=none→jS s= .ei [.nil0,.int .i64 1]:=fun e=>by simp only[jS,FA,nq E9 e];rfl
     have next:∀x:Step,ez w=some x→c6 (ws.take (i+1))=some (l++[x]):=fun x e=>by rw[sS hw h,e];rfl
     simp only[↓aX,mX,reduceCtorEq,Nat.reduceEqDiff,Nat.reduceLT,Nat.reduceLeDiff,Nat.reduceAdd,Nat.reduceMul,Int.reduceToNat,Int.reduceLE,Int.reduceLT,show decide ((i:Int)<(ws.length:Int))=true by simpa using bz,Lo,nz,IV.cells,Int.natCast_nonneg,Int.toNat_natCast,xD]
     refine aj (JW w E9) ?_
     simp only[↓aX,mX,reduceCtorEq,Nat.reduceEqDiff,Nat.reduceLT,Nat.reduceLeDiff,Nat.reduceAdd,Nat.reduceMul,Int.reduceToNat,Int.reduceLE,Int.reduceLT]
     cases I9:(cA 91 w).2.2 with
     |false=>
       have mM:ml w=some 0:=by simp only[ml,I9];rfl
       simp only[↓aX,mX,reduceCtorEq,Nat.reduceEqDiff,Nat.reduceLT,Nat.reduceLeDiff,Nat.reduceAdd,Nat.reduceMul,Int.reduceToNat,Int.reduceLE,Int.reduceLT]
       cases mm:((cA 91 w).1==[]) with
       |true=>
         have o9:iL (cA 91 w).1=none:=by simp only[iL,show(cA 91 w).1=[] by simpa using mm,ite_true]
         simp only[↓aX,mX,reduceCtorEq,Nat.reduceEqDiff,Nat.reduceLT,Nat.reduceLeDiff,Nat.reduceAdd,Nat.reduceMul,Int.reduceToNat,Int.reduceLE,Int.reduceLT,↓df,pa (by simp only[ez,o9];cases ml w<;>rfl)]
       |false=>
         have Ab:(cA 91 w).1≠[]:=by intro e;simp[e] at mm
         cases xc:((cA 91 w).1==[35]) with
         |true=>
           have o9:iL (cA 91 w).1=some []:=by simp only[iL,show(cA 91 w).1=[35] by simpa using xc];rfl
           simp only[↓aX,mX,reduceCtorEq,Nat.reduceEqDiff,Nat.reduceLT,Nat.reduceLeDiff,Nat.reduceAdd,Nat.reduceMul,Int.reduceToNat,Int.reduceLE,Int.reduceLT,xc]
           rw[eX 2 24 82 6 (l.map Step.iv) (.agg [.str [],.int .i64 0]) (by simp[ae]) (by simp[xD]) rfl (by simp[IV.cells]) (by omega) (by omega) (by omega) (by simp[ae,Hp.none])]
           simp only[↓aX,mX,reduceCtorEq,Nat.reduceEqDiff,Nat.reduceLT,Nat.reduceLeDiff,Nat.reduceAdd,Nat.reduceMul,Int.reduceToNat,Int.reduceLE,Int.reduceLT,ku]
           refine⟨⟨i+1,l++[⟨[],0⟩],bz,next _ (by simp only[ez,mM,o9];rfl)⟩,by simp only;omega,[(.loc 6,.loc 82)],?_⟩
           refine⟨?_,?_,?_,by simp[bq],?_⟩
           · intro l hf hu
             exfalso;apply hu
             cases l<;>simp_all[Lb.fresh,ae,Hp.none]
           · simp[iq,bq,bQ,put,nt]
           · simp only[jW,hr,nu]
             simp[bq,ae,bX,bT,bQ,Step.iv,Step.cs]
           · intro l hl
             simp only[List.mem_singleton] at hl
             subst hl
             exact⟨fun _=>rfl,fun h=>by simp[Lb.fresh] at h⟩
         |false=>
           have I_:(cA 91 w).1≠[35]:=by intro e;simp[e] at xc
           have o9:iL (cA 91 w).1=some (cA 91 w).1:=by simp only[iL,Ab,I_,ite_false]
           simp only[↓aX,mX,reduceCtorEq,Nat.reduceEqDiff,Nat.reduceLT,Nat.reduceLeDiff,Nat.reduceAdd,Nat.reduceMul,Int.reduceToNat,Int.reduceLE,Int.reduceLT,xc]
           rw[eX 2 24 82 6 (l.map Step.iv) (.agg [.str (cA 91 w).1,.int .i64 0]) (by simp[ae]) (by simp[xD]) rfl (by simp[IV.cells]) (by omega) (by omega) (by omega) (by simp[ae,Hp.none])]
           simp only[↓aX,mX,reduceCtorEq,Nat.reduceEqDiff,Nat.reduceLT,Nat.reduceLeDiff,Nat.reduceAdd,Nat.reduceMul,Int.reduceToNat,Int.reduceLE,Int.reduceLT,ku]
           refine⟨⟨i+1,l++[⟨(cA 91 w).1,0⟩],bz,next _ (by simp only[ez,mM,o9];rfl)⟩,by simp only;omega,[(.loc 6,.loc 82)],?_⟩
           refine⟨?_,?_,?_,by simp[bq],?_⟩
           · intro l hf hu
             exfalso;apply hu
             cases l<;>simp_all[Lb.fresh,ae,Hp.none]
           · simp[iq,bq,bQ,put,nt]
           · simp only[jW,hr,nu]
             simp[bq,ae,bX,bT,bQ,Step.iv,Step.cs]
           · intro l hl
             simp only[List.mem_singleton] at hl
             subst hl
             exact⟨fun _=>rfl,fun h=>by simp[Lb.fresh] at h⟩
     |true=>
       simp only[↓aX,mX,reduceCtorEq,Nat.reduceEqDiff,Nat.reduceLT,Nat.reduceLeDiff,Nat.reduceAdd,Nat.reduceMul,Int.reduceToNat,Int.reduceLE,Int.reduceLT]
       refine aj (JX w E9) ?_
       simp only[↓aX,mX,reduceCtorEq,Nat.reduceEqDiff,Nat.reduceLT,Nat.reduceLeDiff,Nat.reduceAdd,Nat.reduceMul,Int.reduceToNat,Int.reduceLE,Int.reduceLT]
       obtain⟨k,e,I0,bx⟩:=hA w E9
       refine aj I0 ?_
       have nz:e.ar=[]:=by rcases bx with⟨rfl,_⟩|⟨⟨t,rfl⟩,_⟩<;>rfl
       cases GV:([93]:Bs).isSuffixOf (cA 91 w).2.1 with
       |false=>
         have mM:ml w=none:=by simp only[ml,I9,GV];rfl
         simp only[↓aX,mX,reduceCtorEq,Nat.reduceEqDiff,Nat.reduceLT,Nat.reduceLeDiff,Nat.reduceAdd,Nat.reduceMul,Int.reduceToNat,Int.reduceLE,Int.reduceLT,Bool.not_false,↓df,pa (by simp only[ez,mM];rfl)]
       |true=>
       have HB:ml w=sR (o6 [93] (cA 91 w).2.1):=by simp only[ml,I9,GV,if_true]
       rcases bx with⟨rfl,kU⟩|⟨⟨t,rfl⟩,Ja⟩
       · obtain ⟨xd,Lp⟩ := Lib.atoiAll_bounds kU
         simp only[↓aX,mX,reduceCtorEq,Nat.reduceEqDiff,Nat.reduceLT,Nat.reduceLeDiff,Nat.reduceAdd,Nat.reduceMul,Int.reduceToNat,Int.reduceLE,Int.reduceLT,Bool.not_true]
         refine aj (hI k xd Lp) ?_
         cases hit:(Lib.itoa k==o6 [93] (cA 91 w).2.1) with
         |false=>
           have mM:ml w=none:=by rw[HB];simp only[sR,kU,show ¬Lib.itoa k=o6 [93] (cA 91 w).2.1 by intro e;simp[e] at hit,false_and,ite_false]
           simp only[↓aX,mX,reduceCtorEq,Nat.reduceEqDiff,Nat.reduceLT,Nat.reduceLeDiff,Nat.reduceAdd,Nat.reduceMul,Int.reduceToNat,Int.reduceLE,Int.reduceLT,hit,Bool.not_false,↓df,pa (by simp only[ez,mM];rfl)]
         |true=>
           have GW:Lib.itoa k=o6 [93] (cA 91 w).2.1:=by simpa using hit
           by_cases hk:k<1
           · have mM:ml w=none:=by rw[HB];simp only[sR,kU,GW,show ¬1≤k by omega,and_false,ite_false]
             simp only[↓aX,mX,reduceCtorEq,Nat.reduceEqDiff,Nat.reduceLT,Nat.reduceLeDiff,Nat.reduceAdd,Nat.reduceMul,Int.reduceToNat,Int.reduceLE,Int.reduceLT,hit,Bool.not_true,hk,decide_true,↓df,pa (by simp only[ez,mM];rfl)]
           · have mM:ml w=some k:=by rw[HB];simp only[sR,kU,GW,show 1≤k by omega,and_self,ite_true]
             simp only[↓aX,mX,reduceCtorEq,Nat.reduceEqDiff,Nat.reduceLT,Nat.reduceLeDiff,Nat.reduceAdd,Nat.reduceMul,Int.reduceToNat,Int.reduceLE,Int.reduceLT,hit,Bool.not_true,hk,decide_false]
             cases mm:((cA 91 w).1==[]) with
             |true=>
               have o9:iL (cA 91 w).1=none:=by simp only[iL,show(cA 91 w).1=[] by simpa using mm,ite_true]
               simp only[↓aX,mX,reduceCtorEq,Nat.reduceEqDiff,Nat.reduceLT,Nat.reduceLeDiff,Nat.reduceAdd,Nat.reduceMul,Int.reduceToNat,Int.reduceLE,Int.reduceLT,↓df,pa (by simp only[ez,o9];cases ml w<;>rfl)]
             |false=>
               have Ab:(cA 91 w).1≠[]:=by intro e;simp[e] at mm
               cases xc:((cA 91 w).1==[35]) with
               |true=>
                 have o9:iL (cA 91 w).1=some []:=by simp only[iL,show(cA 91 w).1=[35] by simpa using xc];rfl
                 simp only[↓aX,mX,reduceCtorEq,Nat.reduceEqDiff,Nat.reduceLT,Nat.reduceLeDiff,Nat.reduceAdd,Nat.reduceMul,Int.reduceToNat,Int.reduceLE,Int.reduceLT,xc]
                 rw[eX 2 24 82 6 (l.map Step.iv) (.agg [.str [],.int .i64 k]) (by simp[ae]) (by simp[xD]) rfl (by simp[IV.cells]) (by omega) (by omega) (by omega) (by simp[ae,Hp.none])]
                 simp only[↓aX,mX,reduceCtorEq,Nat.reduceEqDiff,Nat.reduceLT,Nat.reduceLeDiff,Nat.reduceAdd,Nat.reduceMul,Int.reduceToNat,Int.reduceLE,Int.reduceLT,ku]
                 refine⟨⟨i+1,l++[⟨[],k⟩],bz,next _ (by simp only[ez,mM,o9];rfl)⟩,by simp only;omega,[(.loc 6,.loc 82)],?_⟩
                 refine⟨?_,?_,?_,by simp[bq],?_⟩
                 · intro l hf hu
                   exfalso;apply hu
                   cases l<;>simp_all[Lb.fresh,ae,Hp.none]
                 · simp[iq,bq,bQ,put,nt]
                 · simp only[jW,hr,nu]
                   simp[bq,ae,bX,bT,bQ,Step.iv,Step.cs]
                 · intro l hl
                   simp only[List.mem_singleton] at hl
                   subst hl
                   exact⟨fun _=>rfl,fun h=>by simp[Lb.fresh] at h⟩
               |false=>
                 have I_:(cA 91 w).1≠[35]:=by intro e;simp[e] at xc
                 have o9:iL (cA 91 w).1=some (cA 91 w).1:=by simp only[iL,Ab,I_,ite_false]
                 simp only[↓aX,mX,reduceCtorEq,Nat.reduceEqDiff,Nat.reduceLT,Nat.reduceLeDiff,Nat.reduceAdd,Nat.reduceMul,Int.reduceToNat,Int.reduceLE,Int.reduceLT,xc]
                 rw[eX 2 24 82 6 (l.map Step.iv) (.agg [.str (cA 91 w).1,.int .i64 k]) (by simp[ae]) (by simp[xD]) rfl (by simp[IV.cells]) (by omega) (by omega) (by omega) (by simp[ae,Hp.none])]
                 simp only[↓aX,mX,reduceCtorEq,Nat.reduceEqDiff,Nat.reduceLT,Nat.reduceLeDiff,Nat.reduceAdd,Nat.reduceMul,Int.reduceToNat,Int.reduceLE,Int.reduceLT,ku]
                 refine⟨⟨i+1,l++[⟨(cA 91 w).1,k⟩],bz,next _ (by simp only[ez,mM,o9];rfl)⟩,by simp only;omega,[(.loc 6,.loc 82)],?_⟩
                 refine⟨?_,?_,?_,by simp[bq],?_⟩
                 · intro l hf hu
                   exfalso;apply hu
                   cases l<;>simp_all[Lb.fresh,ae,Hp.none]
                 · simp[iq,bq,bQ,put,nt]
                 · simp only[jW,hr,nu]
                   simp[bq,ae,bX,bT,bQ,Step.iv,Step.cs]
                 · intro l hl
                   simp only[List.mem_singleton] at hl
                   subst hl
                   exact⟨fun _=>rfl,fun h=>by simp[Lb.fresh] at h⟩
       · have mM:ml w=none:=by
           rw[HB];unfold sR;split
           · rename_i v hv;exact absurd hv (Ja v)
           · rfl
         simp only[↓aX,mX,reduceCtorEq,Nat.reduceEqDiff,Nat.reduceLT,Nat.reduceLeDiff,Nat.reduceAdd,Nat.reduceMul,Int.reduceToNat,Int.reduceLE,Int.reduceLT,Bool.not_true,↓df,pa (by simp only[ez,mM];rfl)]
   · have Lq:i=ws.length:=by omega
     subst Lq
     have fW:c6 ws=some l:=by rw[List.take_length] at h;exact h
     simp only[↓aX,mX,reduceCtorEq,Nat.reduceEqDiff,Nat.reduceLT,Nat.reduceLeDiff,Nat.reduceAdd,Nat.reduceMul,Int.reduceToNat,Int.reduceLE,Int.reduceLT,show decide ((ws.length:Int)<(ws.length:Int))=false by simp]
     have yP:List.take ws.length (l.map Step.iv)=l.map Step.iv:=List.take_of_length_le (by simp[xD])
     refine⟨2,l.map Step.iv,0,ws.length,rfl,rfl,by simp[xD],zw _,?_⟩
     simp only[↓aX,mX,reduceCtorEq,Nat.reduceEqDiff,Nat.reduceLT,Nat.reduceLeDiff,Nat.reduceAdd,Nat.reduceMul,Int.reduceToNat,Int.reduceLE,Int.reduceLT,List.drop_zero,yP]
     refine aj (hG l (by omega) (fun x hx=>by
       obtain⟨w,h1,h2⟩:=nr fW x hx
       have:=mL 47 (s.drop 1) w (by rw[HA];exact h1)
       simp only[List.length_drop] at this
       omega)) ?_
     cases hg:aT l with
     |false=>simp only[↓aX,mX,reduceCtorEq,Nat.reduceEqDiff,Nat.reduceLT,Nat.reduceLeDiff,Nat.reduceAdd,Nat.reduceMul,Int.reduceToNat,Int.reduceLE,Int.reduceLT,Bool.not_false,↓df,jS,FA,fW,Option.bind_some,hg,Bool.false_eq_true,ite_false]
     |true=>simp only[↓aX,mX,reduceCtorEq,Nat.reduceEqDiff,Nat.reduceLT,Nat.reduceLeDiff,Nat.reduceAdd,Nat.reduceMul,Int.reduceToNat,Int.reduceLE,Int.reduceLT,Bool.not_true,↓df,yP,jS,FA,fW,Option.bind_some,hg,ite_true]
end
end Go.Am

/- Paths: does path answer at all? -/
namespace Go.Am
open Go Go.RowKit
def o_:List Step:=[⟨[97],0⟩,⟨[42],2⟩,⟨[],0⟩]
section
variable {P:Program} {G:Nat→Option (List IV)}
end
end Go.Am

/- The law PathPicks. -/
namespace Go.Am
open Go Go.RowKit
theorem mN (xs:List IV) (i:Nat):(aG xs)[i]?=xs[i]?.map fun y=>y.cells.map IV.b7:=by simp[aG]
section
variable {P:Program} {G:Nat→Option (List IV)}
end
end Go.Am
