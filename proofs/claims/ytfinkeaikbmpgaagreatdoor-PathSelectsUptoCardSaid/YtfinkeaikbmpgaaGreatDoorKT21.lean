import Derived.Test.YtfinkeaikbmpgaaGreatDoorKD2
import Derived.Test.YtfinkeaikbmpgaaGreatDoorKAm25
import Derived.Test.YtfinkeaikbmpgaaGreatDoorKT2
import Derived.Test.YtfinkeaikbmpgaaGreatDoorKT5
set_option linter.unusedSimpArgs false
set_option linter.unusedVariables false
set_option linter.unnecessarySimpa false
set_option linter.defProp false
/- Letters: sets of bytes; a string cut at both ends. -/
namespace Go.Am
open Go Go.RowKit
def se:AV→Nat→Option Nat
 | .int _ v,mx=>if 0≤v∧v.toNat≤mx then some v.toNat else none
 |_,_=>none
theorem sf (env:Env) (d mx:Nat):kZ env none d mx=some d:=rfl
theorem sg (env:Env) (x:O) (d mx:Nat):kZ env (some x) d mx=se (ev env x) mx:=by
 simp only[kZ];generalize ev env x=v;cases v<;>rfl
theorem km (k:IntKind) (n mx:Nat) (h:n≤mx):se (.int k (n:Int)) mx=some n:=by simp[se,h]
def eJ (f:Nat→Bool):List AV:=(List.range 256).map fun i=> .bool (f i)
theorem bw (f:Nat→Bool):(eJ f).length=256:=by simp[eJ]
theorem mb (f:Nat→Bool) (i:Nat) (h:i<256):(eJ f)[i]?=some (.bool (f i)):=by simp[eJ,List.getElem?_range h]
theorem eK (f:Nat→Bool):ah (eJ f)=[]:=by
 have:∀l:List Nat,ah (l.map fun i=>AV.bool (f i))=[]:=by
  intro l
  induction l with
  |nil=>rfl
  |cons a r ih=>simp[ah,AV.ar,ih]
 exact this _
theorem vu:List.replicate 256 (AV.bool false)=eJ (fun _=>false):=by
 apply List.ext_getElem?;intro i;by_cases h:i<256
 ·rw[mb _ _ h,List.getElem?_replicate,if_pos h]
 ·rw[List.getElem?_eq_none (by rw[List.length_replicate];omega),List.getElem?_eq_none (by rw[bw];omega)]
theorem yM (f:Nat→Bool) (j:Nat):(eJ f).set j (.bool true)=eJ (fun k=>k==j||f k):=by
 apply List.ext_getElem?;intro i;by_cases h:i<256
 ·rw[mb _ _ h,List.getElem?_set];by_cases e:j=i
  ·subst e;rw[if_pos rfl,if_pos (by rw[bw];exact h)];simp
  ·rw[if_neg e,mb _ _ h];have:(i==j)=false:=by simpa using Ne.symm e
   rw[this];simp
 ·rw[List.getElem?_eq_none (by rw[List.length_set,bw];omega),List.getElem?_eq_none (by rw[bw];omega)]
theorem yN (f:Nat→Bool) (j:Nat) (h:j<256):(eJ f).take j++[.bool true]++(eJ f).drop (j+1)=eJ (fun k=>k==j||f k):=by
 rw[←yM,List.set_eq_take_append_cons_drop,if_pos (by rw[bw];exact h)];simp
theorem pT (f:Nat→Bool):(eJ f).take 256=eJ f:=List.take_of_length_le (by rw[bw];exact Nat.le_refl _)
theorem pU (f:Nat→Bool):(eJ f).drop 256=[]:=List.drop_eq_nil_of_le (by rw[bw];exact Nat.le_refl _)
theorem sh (f:Nat→Bool):(eJ f).all AV.one=true:=by
 rw[List.all_eq_true];intro x hx;obtain⟨i,_,rfl⟩:=List.mem_map.1 hx;rfl
def fZ (s:Bs) (k:Nat):Bool:=s.any fun c=>k==c.toNat
theorem nk {α:Type} {l:List α} {i:Nat} {x:α} (h:l[i]?=some x):l.take (i+1)=l.take i++[x]:=by rw[List.take_add_one,h];rfl
theorem wA (s:Bs) (c:UInt8):fZ (s++[c])=fun k=>k==c.toNat||fZ s k:=by
 funext k;simp[fZ,Bool.or_comm]
def ec:AC:=
(.seq (.au [⟨some 2,none,.new (List.replicate 256 (.bool false))⟩,⟨some 3,none,.af (.c (.bool false))⟩]) (.seq (.seq (.au [⟨some 4,none,.af (.c (.int .i64 0))⟩]) (.block 0 (.loop (.seq (.seq (.au [⟨some 6,none,.af (.t 4)⟩,⟨some 7,none,.af (.t 0)⟩,⟨some 8,none,.lens (.t 7)⟩,⟨some 9,none,.bin .lss (.t 6) (.t 8)⟩]) (.cond (.t 9) .skip (.exit 0))) (.seq (.block 1 (.seq (.au [⟨some 12,none,.af (.t 0)⟩,⟨some 13,none,.af (.t 4)⟩,⟨some 14,none,.mR (.t 12) (.t 13)⟩,⟨some 5,none,.af (.t 14)⟩]) (.seq (.seq (.au [⟨some 15,none,.af (.t 5)⟩,⟨some 16,none,.bin .geq (.t 15) (.c (.int .u8 128))⟩]) (.cond (.t 16) (.seq (.au [⟨some 17,none,.load (some 256) (.t 2)⟩,⟨none,none,.store 256 (.t 2) (.t 17)⟩,⟨some 3,none,.af (.c (.bool false))⟩]) .ret) .skip)) (.au [⟨some 18,none,.af (.t 5)⟩,⟨some 19,none,.xi (.t 2) (.t 18) 256 1⟩,⟨none,none,.store 1 (.t 19) (.c (.bool true))⟩])))) (.au [⟨some 10,none,.af (.t 4)⟩,⟨some 11,none,.bin .add (.t 10) (.c (.int .i64 1))⟩,⟨some 4,none,.af (.t 11)⟩])))))) (.seq (.au [⟨some 20,none,.load (some 256) (.t 2)⟩,⟨none,none,.store 256 (.t 2) (.t 20)⟩,⟨some 3,none,.af (.c (.bool true))⟩]) .ret)))
theorem yO {P:Program} {G:Nat→Option (List IV)} {bR:Nat} (hF:aB P G bR=some (21,[((some (some 256)),2),(none,3)],ec.bare)) (s:Bs) (hs:s.length≤B) (IP:∀c∈s,c.toNat<128) :
  ai P G bR [.str s] (.ei [.agg (eJ (fZ s)),.bool true]):=by
 refine aC hF (by simp) (by simp[ah,AV.ar]) (by simp[AV.ar,ah,eK]) ?_;unfold ec;simp only[↓aX,mX,reduceCtorEq,Nat.reduceEqDiff,Nat.reduceLT,Nat.reduceLeDiff,Nat.reduceAdd,Nat.reduceMul,Int.reduceToNat,Int.reduceLE,Int.reduceLT,vu,bw]
 refine eo (σ:={i:Nat // i≤s.length}) [.loc 2] (fun q=>[(0,.str s),(2,.ptr (.loc 2) 256 0 0),(4,.int .i64 q.1)]) (fun q=>[(.loc 2,⟨256,[eJ (fZ (s.take q.1))]⟩)]) (fun q=>s.length - q.1) ⟨0,Nat.zero_le _⟩
  (fun _=>rfl) (by decide) (by simp[ah,AV.ar]) (fun q r hr cs bx l hl=>by
   simp only[List.mem_singleton] at hr;subst hr;simp only[List.mem_singleton] at bx;subst bx;rw[eK] at hl;simp at hl) ?_ ?_
 ·exact dT (by simp only[kz,ji]) (by repeat' constructor) ⟨rfl,trivial⟩
 ·rintro⟨i,hi⟩;simp only[↓aX,mX,reduceCtorEq,Nat.reduceEqDiff,Nat.reduceLT,Nat.reduceLeDiff,Nat.reduceAdd,Nat.reduceMul,Int.reduceToNat,Int.reduceLE,Int.reduceLT,cb,bO,bw];by_cases bz:i<s.length
  ·rw[show decide ((i:Int)<(s.length:Int))=true by simpa using bz];obtain⟨c,hc⟩:∃c,s[i]?=some c:=⟨_,List.getElem?_eq_getElem bz⟩;have hw:IntKind.i64.wrap ((i:Int)+1)=((i+1:Nat):Int):=wrap64 (by omega) (by unfold B at hs;omega);have qo:=IP c (List.mem_of_getElem? hc)
   simp only[↓aX,mX,reduceCtorEq,Nat.reduceEqDiff,Nat.reduceLT,Nat.reduceLeDiff,Nat.reduceAdd,Nat.reduceMul,Int.reduceToNat,Int.reduceLE,Int.reduceLT,hc,show decide (((c.toNat:Nat):Int)≥128)=false by simp;omega,bw,hw]
   simp only[↓aX,mX,reduceCtorEq,Nat.reduceEqDiff,Nat.reduceLT,Nat.reduceLeDiff,Nat.reduceAdd,Nat.reduceMul,Int.reduceToNat,Int.reduceLE,Int.reduceLT,if_pos (show c.toNat<256 by omega),if_pos (show c.toNat≤255 by omega),yN _ _ (show c.toNat<256 by omega),bw,hw];refine⟨⟨i+1,bz⟩,by simp only;omega,dT (by simp only[kz,ji]) (by repeat' constructor) ⟨?_,trivial⟩⟩;rw[nk hc,wA];rfl
  ·have lC:i=s.length:=by omega
   subst lC;rw[show decide ((s.length:Int)<(s.length:Int))=false by simp];simp only[↓aX,mX,reduceCtorEq,Nat.reduceEqDiff,Nat.reduceLT,Nat.reduceLeDiff,Nat.reduceAdd,Nat.reduceMul,Int.reduceToNat,Int.reduceLE,Int.reduceLT,List.take_length,bw,pT,pU,sh,List.append_nil,qI]
def dh:AC:=
(.seq (.au [⟨some 4,none,.af (.c (.bool false))⟩]) (.seq (.au [⟨some 5,none,.af (.t 0)⟩,⟨some 6,none,.af (.t 1)⟩,⟨some 7,none,.mq (.t 5)⟩,⟨some 8,none,.xi (.t 7) (.t 6) 256 1⟩,⟨some 9,none,.load none (.t 8)⟩,⟨some 4,none,.af (.t 9)⟩]) .ret))
theorem pV {P:Program} {G:Nat→Option (List IV)} {aL:Nat} (hF:aB P G aL=some (10,[(none,4)],dh.bare)) (f:Nat→Bool) (c:UInt8) :
  lV P G aL [.ptr (.par 0) 256 0 0,.int .u8 (c.toNat:Int)] (eJ f) fun x cs=>x= .bool (f c.toNat)∧cs=eJ f:=by
 refine jj hF (by simp) (by simp[ah,AV.ar]) (eK f) ?_;have hc:c.toNat<256:=c.toNat_lt;unfold dh;simp only[↓aX,mX,reduceCtorEq,Nat.reduceEqDiff,Nat.reduceLT,Nat.reduceLeDiff,Nat.reduceAdd,Nat.reduceMul,Int.reduceToNat,Int.reduceLE,Int.reduceLT,ke,bw,if_pos hc,mb f _ hc];exact⟨_,rfl,rfl,eK f,bw f,rfl⟩
def dV (aL:Nat):AC:=
(.seq (.au [⟨some 4,none,.af (.c (.str []))⟩]) (.seq (.block 0 (.loop (.seq (.seq (.au [⟨some 5,none,.af (.t 0)⟩,⟨some 6,none,.lens (.t 5)⟩,⟨some 7,none,.bin .gtr (.t 6) (.c (.int .i64 0))⟩]) (.cond (.t 7) .skip (.exit 0))) (.block 1 (.seq (.seq (.au [⟨some 8,none,.af (.t 1)⟩,⟨some 9,none,.af (.t 0)⟩,⟨some 10,none,.mR (.t 9) (.c (.int .i64 0))⟩,⟨some 11,none,.call aL [(.t 8),(.t 10)]⟩,⟨some 12,none,.not (.t 11)⟩]) (.cond (.t 12) (.exit 0) .skip)) (.au [⟨some 13,none,.af (.t 0)⟩,⟨some 14,none,.gV (.t 13) (some (.c (.int .i64 1))) none⟩,⟨some 0,none,.af (.t 14)⟩])))))) (.seq (.au [⟨some 15,none,.af (.t 0)⟩,⟨some 4,none,.af (.t 15)⟩]) .ret)))
def dJ (aL:Nat):AC:=
(.seq (.au [⟨some 4,none,.af (.c (.str []))⟩]) (.seq (.block 0 (.loop (.seq (.seq (.au [⟨some 5,none,.af (.t 0)⟩,⟨some 6,none,.lens (.t 5)⟩,⟨some 7,none,.bin .gtr (.t 6) (.c (.int .i64 0))⟩]) (.cond (.t 7) .skip (.exit 0))) (.block 1 (.seq (.seq (.au [⟨some 8,none,.af (.t 1)⟩,⟨some 9,none,.af (.t 0)⟩,⟨some 10,none,.af (.t 0)⟩,⟨some 11,none,.lens (.t 10)⟩,⟨some 12,none,.bin .sub (.t 11) (.c (.int .i64 1))⟩,⟨some 13,none,.mR (.t 9) (.t 12)⟩,⟨some 14,none,.call aL [(.t 8),(.t 13)]⟩,⟨some 15,none,.not (.t 14)⟩]) (.cond (.t 15) (.exit 0) .skip)) (.au [⟨some 16,none,.af (.t 0)⟩,⟨some 17,none,.af (.t 0)⟩,⟨some 18,none,.lens (.t 17)⟩,⟨some 19,none,.bin .sub (.t 18) (.c (.int .i64 1))⟩,⟨some 20,none,.gV (.t 16) none (some (.t 19))⟩,⟨some 0,none,.af (.t 20)⟩])))))) (.seq (.au [⟨some 21,none,.af (.t 0)⟩,⟨some 4,none,.af (.t 21)⟩]) .ret)))
def en (f:Nat→Bool) (s:Bs):Bs:=s.dropWhile fun c=>f c.toNat
def e7 (f:Nat→Bool) (s:Bs):Bs:=(en f s.reverse).reverse
theorem pX {f:Nat→Bool} {q:Lb×Row} (hr:q∈[((.par 0:Lb),(⟨256,[eJ f]⟩:Row))]) {ls:List Lb}:∀cs∈q.2.els,∀l∈ah cs,l∈ls:=by
 intro cs bx l hl;simp only[List.mem_singleton] at hr;subst hr;simp only[List.mem_singleton] at bx;subst bx;rw[eK] at hl;simp at hl
theorem wB {P:Program} {G:Nat→Option (List IV)} {bP aL:Nat} (hF:aB P G bP=some (16,[(none,4)],(dV aL).bare)) (f:Nat→Bool) (s:Bs) (hs:s.length≤B)
  (hC:∀c:UInt8,lV P G aL [.ptr (.par 0) 256 0 0,.int .u8 (c.toNat:Int)] (eJ f) fun x cs=>x= .bool (f c.toNat)∧cs=eJ f) :
  lV P G bP [.str s,.ptr (.par 0) 256 0 0] (eJ f) fun x cs=>x= .str (en f s)∧cs=eJ f:=by
 refine jj hF (by simp) (by simp[ah,AV.ar]) (eK f) ?_;unfold dV;simp only[↓aX,mX,reduceCtorEq,Nat.reduceEqDiff,Nat.reduceLT,Nat.reduceLeDiff,Nat.reduceAdd,Nat.reduceMul,Int.reduceToNat,Int.reduceLE,Int.reduceLT,ke,bw]
 refine eo (σ:={t:Bs // t.length≤B∧en f t=en f s}) [.par 0] (fun t=>[(0,.str t.1),(1,.ptr (.par 0) 256 0 0)]) (fun _=>[(.par 0,⟨256,[eJ f]⟩)]) (fun t=>t.1.length) ⟨s,hs,rfl⟩
  (fun _=>rfl) (by decide) (by simp[ah,AV.ar]) (fun _ q hr=>pX hr) ?_ ?_
 ·refine dT ?_ (by repeat' constructor) ⟨rfl,trivial⟩;intro l hl hu;by_cases e:l= .par 0
  ·subst e;simp
  ·exfalso;apply hu;cases l<;>simp_all[Lb.fresh,ae,Hp.none]
 ·rintro⟨t,ht,fW⟩;cases t with
  |nil=>
   simp only[↓aX,mX,reduceCtorEq,Nat.reduceEqDiff,Nat.reduceLT,Nat.reduceLeDiff,Nat.reduceAdd,Nat.reduceMul,Int.reduceToNat,Int.reduceLE,Int.reduceLT,cb,bO,List.length_nil,show decide (((0:Nat):Int)>0)=false from rfl];rw[←fW];exact⟨_,⟨rfl,rfl⟩,rfl,eK f,bw f,rfl⟩
  |cons c r=>
   have hg:decide (((r.length+1:Nat):Int)>0)=true:=by rw[decide_eq_true_eq];omega
   have IQ:(c::r)[0]?=some c:=rfl;simp only[↓aX,mX,reduceCtorEq,Nat.reduceEqDiff,Nat.reduceLT,Nat.reduceLeDiff,Nat.reduceAdd,Nat.reduceMul,Int.reduceToNat,Int.reduceLE,Int.reduceLT,cb,bO,List.length_cons,hg,IQ];refine hY (l:= .par 0) (hC c) rfl (by simp only[↓aX,mX,reduceCtorEq,Nat.reduceEqDiff,Nat.reduceLT,Nat.reduceLeDiff,Nat.reduceAdd,Nat.reduceMul,Int.reduceToNat,Int.reduceLE,Int.reduceLT,bw]) ?_
   rintro x1 kK ⟨rfl,rfl⟩ _ _ _;simp only[↓aX,mX,reduceCtorEq,Nat.reduceEqDiff,Nat.reduceLT,Nat.reduceLeDiff,Nat.reduceAdd,Nat.reduceMul,Int.reduceToNat,Int.reduceLE,Int.reduceLT,bw];cases hf:f c.toNat with
   |false=>
    have:en f s=c::r:=by rw[←fW];simp[en,hf]
    simp only[↓aX,mX,reduceCtorEq,Nat.reduceEqDiff,Nat.reduceLT,Nat.reduceLeDiff,Nat.reduceAdd,Nat.reduceMul,Int.reduceToNat,Int.reduceLE,Int.reduceLT,Bool.not_false,this];exact⟨_,rfl,rfl,eK f,bw f,by rw[bw]⟩
   |true=>
    have h2:en f r=en f s:=by rw[←fW];simp[en,hf]
    have hb:se (.int .i64 1) (r.length+1)=some 1:=km .i64 1 _ (by omega);have yP:(c::r).take (r.length+1)=c::r:=List.take_of_length_le (by simp)
    simp only[↓aX,mX,reduceCtorEq,Nat.reduceEqDiff,Nat.reduceLT,Nat.reduceLeDiff,Nat.reduceAdd,Nat.reduceMul,Int.reduceToNat,Int.reduceLE,Int.reduceLT,Bool.not_true,bw,List.length_cons,sf,sg,hb,yP,Option.bind_some,Option.map_some,List.drop_succ_cons,List.drop_zero];refine⟨⟨r,by rw[List.length_cons] at ht;omega,h2⟩,by simp only[List.length_cons];omega,dT ?_ (by repeat' constructor) ⟨rfl,trivial⟩⟩
    intro l hl hu;by_cases e:l= .par 0
    ·subst e;simp
    ·exfalso;apply hu;cases l<;>simp_all[Lb.fresh,ae,Hp.none]
theorem oP (f:Nat→Bool) (t:Bs) (c:UInt8):e7 f (t++[c])=if f c.toNat=true then e7 f t else t++[c]:=by
 unfold e7 en;rw[List.reverse_append];simp only[List.reverse_cons,List.reverse_nil,List.nil_append,List.singleton_append,List.dropWhile_cons];split<;>simp
theorem tY {P:Program} {G:Nat→Option (List IV)} {bI aL:Nat} (hF:aB P G bI=some (22,[(none,4)],(dJ aL).bare)) (f:Nat→Bool) (s:Bs) (hs:s.length≤B)
  (hC:∀c:UInt8,lV P G aL [.ptr (.par 0) 256 0 0,.int .u8 (c.toNat:Int)] (eJ f) fun x cs=>x= .bool (f c.toNat)∧cs=eJ f) :
  lV P G bI [.str s,.ptr (.par 0) 256 0 0] (eJ f) fun x cs=>x= .str (e7 f s)∧cs=eJ f:=by
 refine jj hF (by simp) (by simp[ah,AV.ar]) (eK f) ?_;unfold dJ;simp only[↓aX,mX,reduceCtorEq,Nat.reduceEqDiff,Nat.reduceLT,Nat.reduceLeDiff,Nat.reduceAdd,Nat.reduceMul,Int.reduceToNat,Int.reduceLE,Int.reduceLT,ke,bw]
 refine eo (σ:={n:Nat // n≤s.length∧e7 f (s.take n)=e7 f s}) [.par 0] (fun n=>[(0,.str (s.take n.1)),(1,.ptr (.par 0) 256 0 0)]) (fun _=>[(.par 0,⟨256,[eJ f]⟩)]) (fun n=>n.1) ⟨s.length,Nat.le_refl _,by rw[List.take_length]⟩
  (fun _=>rfl) (by decide) (by simp[ah,AV.ar]) (fun _ q hr=>pX hr) ?_ ?_
 ·refine dT ?_ ⟨by rw[List.take_length];rfl,rfl,trivial⟩ ⟨rfl,trivial⟩;intro l hl hu;by_cases e:l= .par 0
  ·subst e;simp
  ·exfalso;apply hu;cases l<;>simp_all[Lb.fresh,ae,Hp.none]
 ·rintro⟨n,hn,fW⟩;have IS:(s.take n).length=n:=by rw[List.length_take];omega
  cases n with
  |zero=>
   simp only[↓aX,mX,reduceCtorEq,Nat.reduceEqDiff,Nat.reduceLT,Nat.reduceLeDiff,Nat.reduceAdd,Nat.reduceMul,Int.reduceToNat,Int.reduceLE,Int.reduceLT,cb,bO,IS,show decide (((0:Nat):Int)>0)=false from rfl];rw[←fW];exact⟨_,⟨rfl,rfl⟩,rfl,eK f,bw f,rfl⟩
  |succ n=>
   obtain⟨c,hc⟩:∃c,s[n]?=some c:=⟨_,List.getElem?_eq_getElem (by omega)⟩;have hg:decide (((n+1:Nat):Int)>0)=true:=by rw[decide_eq_true_eq];omega
   have hw:IntKind.i64.wrap (((n+1:Nat):Int) - 1)=(n:Int):=by rw[wrap64 (by omega) (by unfold B at hs;omega)];omega
   have K2:(s.take (n+1))[n]?=some c:=by rw[List.getElem?_take,if_pos (by omega)];exact hc
   have tm:s.take (n+1)=s.take n++[c]:=nk hc;simp only[↓aX,mX,reduceCtorEq,Nat.reduceEqDiff,Nat.reduceLT,Nat.reduceLeDiff,Nat.reduceAdd,Nat.reduceMul,Int.reduceToNat,Int.reduceLE,Int.reduceLT,cb,bO,IS,hg,hw,K2];refine hY (l:= .par 0) (hC c) rfl (by simp only[↓aX,mX,reduceCtorEq,Nat.reduceEqDiff,Nat.reduceLT,Nat.reduceLeDiff,Nat.reduceAdd,Nat.reduceMul,Int.reduceToNat,Int.reduceLE,Int.reduceLT,bw]) ?_
   rintro x1 kK ⟨rfl,rfl⟩ _ _ _;simp only[↓aX,mX,reduceCtorEq,Nat.reduceEqDiff,Nat.reduceLT,Nat.reduceLeDiff,Nat.reduceAdd,Nat.reduceMul,Int.reduceToNat,Int.reduceLE,Int.reduceLT,bw];cases hf:f c.toNat with
   |false=>
    have:e7 f s=s.take (n+1):=by rw[←fW,tm,oP,if_neg (by rw[hf];simp)]
    simp only[↓aX,mX,reduceCtorEq,Nat.reduceEqDiff,Nat.reduceLT,Nat.reduceLeDiff,Nat.reduceAdd,Nat.reduceMul,Int.reduceToNat,Int.reduceLE,Int.reduceLT,Bool.not_false,this];exact⟨_,rfl,rfl,eK f,bw f,by rw[bw]⟩
   |true=>
    have h2:e7 f (s.take n)=e7 f s:=by rw[←fW,tm,oP,if_pos hf]
    have hb:se (.int .i64 (n:Int)) (n+1)=some n:=km .i64 n _ (by omega);have yP:(s.take (n+1)).take n=s.take n:=by rw[List.take_take,Nat.min_eq_left (Nat.le_succ n)]
    simp only[↓aX,mX,reduceCtorEq,Nat.reduceEqDiff,Nat.reduceLT,Nat.reduceLeDiff,Nat.reduceAdd,Nat.reduceMul,Int.reduceToNat,Int.reduceLE,Int.reduceLT,Bool.not_true,bw,IS,hw,sf,sg,hb,yP,Option.bind_some,Option.map_some,List.drop_zero];refine⟨⟨n,by omega,h2⟩,by simp only;omega,dT ?_ (by repeat' constructor) ⟨rfl,trivial⟩⟩;intro l hl hu;by_cases e:l= .par 0
    ·subst e;simp
    ·exfalso;apply hu;cases l<;>simp_all[Lb.fresh,ae,Hp.none]
end Go.Am

/- Names, as the document says them. -/
namespace Go.Am
open Go Go.RowKit
def iw (dW ed bR bI bP dn dz:Nat):AC:=
(.seq (.au [⟨some 4,none,.af (.c (.str []))⟩]) (.seq (.seq (.au [⟨some 7,none,.af (.t 0)⟩,⟨some 8,none,.bin .eql (.t 7) (.c (.str []))⟩,⟨some 9,none,.af (.t 8)⟩,⟨some 10,(some (9,false)),(.af (.t 1))⟩,⟨some 11,(some (9,false)),(.bin .eql (.t 10) (.c (.str [])))⟩,⟨some 12,none,.pick (.t 9) (.c (.bool true)) (.t 11)⟩]) (.cond (.t 12) (.seq (.au [⟨some 13,none,.af (.t 0)⟩,⟨some 4,none,.af (.t 13)⟩]) .ret) .skip)) (.seq (.seq (.au [⟨some 14,none,.af (.t 1)⟩,⟨some 15,none,.lens (.t 14)⟩,⟨some 16,none,.bin .eql (.t 15) (.c (.int .i64 1))⟩,⟨some 17,none,.af (.t 16)⟩,⟨some 18,(some (17,true)),(.af (.t 1))⟩,⟨some 19,(some (17,true)),(.mR (.t 18) (.c (.int .i64 0)))⟩,⟨some 20,(some (17,true)),(.bin .lss (.t 19) (.c (.int .u8 128)))⟩,⟨some 21,none,.pick (.t 17) (.t 20) (.c (.bool false))⟩]) (.cond (.t 21) (.seq (.fY [⟨some 22,none,.af (.t 0)⟩,⟨some 23,none,.af (.t 1)⟩,⟨some 24,none,.mR (.t 23) (.c (.int .i64 0))⟩,⟨some 25,none,.call dW [(.t 22),(.t 24)]⟩,⟨some 26,none,.af (.t 1)⟩,⟨some 27,none,.mR (.t 26) (.c (.int .i64 0))⟩,⟨some 28,none,.call ed [(.t 25),(.t 27)]⟩,⟨some 4,none,.af (.t 28)⟩] [[],[],[1],[0,2],[],[4],[3,5,3],[6,6,0,1,2,3,4,5,6]] [.no,.no,.no,.no,.no,.no,.no,.no]) .ret) .skip)) (.seq (.seq (.au [⟨some 30,none,.af (.t 1)⟩,⟨some 31,none,.call bR [(.t 30)]⟩,⟨some 29,none,.af (.t 31)⟩,⟨some 32,none,.ext (.t 29) 0⟩,⟨some 33,none,.ext (.t 29) 1⟩,⟨some 5,none,.new (List.replicate 256 (.bool false))⟩,⟨none,none,.store 256 (.t 5) (.t 32)⟩,⟨some 6,none,.af (.t 33)⟩]) (.seq (.au [⟨some 34,none,.af (.t 6)⟩]) (.cond (.t 34) (.seq (.au [⟨some 35,none,.af (.t 0)⟩,⟨some 36,none,.call bI [(.t 35),(.t 5)]⟩,⟨some 37,none,.call bP [(.t 36),(.t 5)]⟩,⟨some 4,none,.af (.t 37)⟩]) .ret) .skip))) (.seq (.au [⟨some 38,none,.af (.t 0)⟩,⟨some 39,none,.af (.t 1)⟩,⟨some 40,none,.call dn [(.t 38),(.t 39)]⟩,⟨some 41,none,.af (.t 1)⟩,⟨some 42,none,.call dz [(.t 40),(.t 41)]⟩,⟨some 4,none,.af (.t 42)⟩]) .ret)))))
theorem BF (f:Nat→Bool) (s:Bs):(e7 f s).length≤s.length:=by
 unfold e7 en;rw[List.length_reverse];have:=(List.dropWhile_suffix (l:=s.reverse) (fun c=>f c.toNat)).length_le
 rwa[List.length_reverse] at this
theorem Gy {P:Program} {G:Nat→Option (List IV)} {dp bR bI bP dW ed dn dz:Nat} (hF:aB P G dp=some (43,[(none,4)],(iw dW ed bR bI bP dn dz).bare)) (s t:Bs) (hs:s.length≤B) (ht:2≤t.length)
  (hM:ai P G bR [.str t] (.ei [.agg (eJ (fZ t)),.bool true]))
  (hR:lV P G bI [.str s,.ptr (.par 0) 256 0 0] (eJ (fZ t)) fun x cs=>x= .str (e7 (fZ t) s)∧cs=eJ (fZ t))
  (hL:lV P G bP [.str (e7 (fZ t) s),.ptr (.par 0) 256 0 0] (eJ (fZ t)) fun x cs=>x= .str (en (fZ t) (e7 (fZ t) s))∧cs=eJ (fZ t)) :
  ai P G dp [.str s,.str t] (.str (en (fZ t) (e7 (fZ t) s))):=by
 refine aC hF (by simp) (by simp[ah,AV.ar]) (by simp[AV.ar]) ?_;unfold iw;simp only[↓aX,mX,reduceCtorEq,Nat.reduceEqDiff,Nat.reduceLT,Nat.reduceLeDiff,Nat.reduceAdd,Nat.reduceMul,Int.reduceToNat,Int.reduceLE,Int.reduceLT];have e1:(t==[])=false:=by cases t<;>simp_all
 have e2:(((t.length:Nat):Int)==1)=false:=by rw[beq_eq_false_iff_ne];omega
 cases zS:(s==[]) with
 |true=>
  have:s=[]:=by simpa using zS
  subst this;simp only[↓aX,mX,reduceCtorEq,Nat.reduceEqDiff,Nat.reduceLT,Nat.reduceLeDiff,Nat.reduceAdd,Nat.reduceMul,Int.reduceToNat,Int.reduceLE,Int.reduceLT];rfl
 |false=>
  simp only[↓aX,mX,reduceCtorEq,Nat.reduceEqDiff,Nat.reduceLT,Nat.reduceLeDiff,Nat.reduceAdd,Nat.reduceMul,Int.reduceToNat,Int.reduceLE,Int.reduceLT,e1,e2];refine aj hM ?_;simp only[↓aX,mX,reduceCtorEq,Nat.reduceEqDiff,Nat.reduceLT,Nat.reduceLeDiff,Nat.reduceAdd,Nat.reduceMul,Int.reduceToNat,Int.reduceLE,Int.reduceLT,List.length_replicate,vu,bw,pT,pU,sh,List.append_nil]
  refine hY (l:= .loc 5) hR rfl (by simp only[↓aX,mX,reduceCtorEq,Nat.reduceEqDiff,Nat.reduceLT,Nat.reduceLeDiff,Nat.reduceAdd,Nat.reduceMul,Int.reduceToNat,Int.reduceLE,Int.reduceLT,bw]) ?_;rintro x1 kK ⟨rfl,rfl⟩ _ _ _;simp only[↓aX,mX,reduceCtorEq,Nat.reduceEqDiff,Nat.reduceLT,Nat.reduceLeDiff,Nat.reduceAdd,Nat.reduceMul,Int.reduceToNat,Int.reduceLE,Int.reduceLT,bw,List.length_replicate]
  refine hY (l:= .loc 5) hL rfl (by simp only[↓aX,mX,reduceCtorEq,Nat.reduceEqDiff,Nat.reduceLT,Nat.reduceLeDiff,Nat.reduceAdd,Nat.reduceMul,Int.reduceToNat,Int.reduceLE,Int.reduceLT,bw]) ?_;rintro x1 kK ⟨rfl,rfl⟩ _ _ _;simp only[↓aX,mX,reduceCtorEq,Nat.reduceEqDiff,Nat.reduceLT,Nat.reduceLeDiff,Nat.reduceAdd,Nat.reduceMul,Int.reduceToNat,Int.reduceLE,Int.reduceLT,bw]
theorem kH (f:Nat→Bool):∀s:Bs,en f s=[]↔s.all (fun c=>f c.toNat)=true
 |[]=>by simp[en]
 |c::r=>by
  have ih:=kH f r;unfold en at ih ⊢;rw[List.dropWhile_cons,List.all_cons];cases h:f c.toNat with
  |true=>rw[if_pos rfl,ih];simp
  |false=>simp
theorem yQ (f:Nat→Bool) (s:Bs):en f (e7 f s)=[]↔s.all (fun c=>f c.toNat)=true:=by
 constructor
 ·intro h;cases dN:s.all (fun c=>f c.toNat) with
  |true=>rfl
  |false=>
   have h1:∃x,x∈en f s.reverse∧f x.toNat=false:=by
    have:(s.reverse).all (fun c=>f c.toNat)=false:=by rw[List.all_reverse];exact dN
    have eg:en f s.reverse≠[]:=fun e=>by rw[(kH f _).1 e] at this;cases this
    unfold en at eg ⊢;cases hd:(s.reverse.dropWhile fun c=>f c.toNat) with
    |nil=>exact absurd hd eg
    |cons x r=>
     refine⟨x,by simp,?_⟩;have:=List.head?_dropWhile_not (p:=fun c:UInt8=>f c.toNat) (l:=s.reverse);rw[hd] at this;simpa using this
   obtain⟨x,hx,K3⟩:=h1;have h2:=(kH f _).1 h;have h3:=List.all_eq_true.1 h2 x (by unfold e7;simpa using hx);rw[K3] at h3;cases h3
 ·intro h;have:en f s.reverse=[]:=(kH f _).2 (by rw[List.all_reverse];exact h);unfold e7;rw[this];rfl
def c_:Bs:=[97,98,99,100,101,102,103,104,105,106,107,108,109,110,111,112,113,114,115,116,117,118,119,120,121,122]
theorem wC (c:UInt8):fZ c_ c.toNat=jl c:=by
 have:∀n:Fin 256,fZ c_ (UInt8.ofNat n.val).toNat=jl (UInt8.ofNat n.val):=by decide +kernel
 have h:=this ⟨c.toNat,c.toNat_lt⟩;simpa using h
theorem yR (s:Bs):named s=(decide (s≠[])&&(decide (((s.length:Nat):Int)≤8)&&(en (fZ c_) (e7 (fZ c_) s)==[]))):=by
 have h1:(s.all fun c=>fZ c_ c.toNat)=s.all jl:=by congr 1;funext c;exact wC c
 have h2:(en (fZ c_) (e7 (fZ c_) s)==[])=s.all jl:=by
  rw[←h1,Bool.eq_iff_iff,beq_iff_eq];exact yQ _ s
 have h3:decide ((s.length:Int)≥1)=decide (s≠[]):=by
  rw[decide_eq_decide];cases s with
  |nil=>simp
  |cons c r=>simp;omega
 rw[h2,named,h3];cases decide (s≠[])<;>cases s.all jl<;>simp
def e9 (dp:Nat):AC:=
(.seq (.au [⟨some 2,none,.af (.c (.bool false))⟩]) (.seq (.au [⟨some 3,none,.af (.t 0)⟩,⟨some 4,none,.bin .neq (.t 3) (.c (.str []))⟩,⟨some 5,none,.af (.t 4)⟩,⟨some 6,(some (5,true)),(.af (.t 0))⟩,⟨some 7,(some (5,true)),(.lens (.t 6))⟩,⟨some 8,(some (5,true)),(.bin .leq (.t 7) (.c (.int .i64 8)))⟩,⟨some 9,none,.pick (.t 5) (.t 8) (.c (.bool false))⟩,⟨some 10,none,.af (.t 9)⟩,⟨some 11,(some (10,true)),(.af (.t 0))⟩,⟨some 12,(some (10,true)),(.call dp [(.t 11),(.c (.str [97,98,99,100,101,102,103,104,105,106,107,108,109,110,111,112,113,114,115,116,117,118,119,120,121,122]))])⟩,⟨some 13,(some (10,true)),(.bin .eql (.t 12) (.c (.str [])))⟩,⟨some 14,none,.pick (.t 10) (.t 13) (.c (.bool false))⟩,⟨some 2,none,.af (.t 14)⟩]) .ret))
theorem BG {P:Program} {G:Nat→Option (List IV)} {aS dp:Nat} (hF:aB P G aS=some (15,[(none,2)],(e9 dp).bare)) (s:Bs)
  (hT:ai P G dp [.str s,.str c_] (.str (en (fZ c_) (e7 (fZ c_) s)))):ai P G aS [.str s] (.bool (named s)):=by
 refine aC hF (by simp) (by simp[ah,AV.ar]) (by simp[AV.ar]) ?_;unfold e9;rw[yR];simp only[↓aX,mX,reduceCtorEq,Nat.reduceEqDiff,Nat.reduceLT,Nat.reduceLeDiff,Nat.reduceAdd,Nat.reduceMul,Int.reduceToNat,Int.reduceLE,Int.reduceLT];cases h1:(s==[]) with
 |true=>
  have uU:s=[]:=by simpa using h1
  simp only[↓aX,mX,reduceCtorEq,Nat.reduceEqDiff,Nat.reduceLT,Nat.reduceLeDiff,Nat.reduceAdd,Nat.reduceMul,Int.reduceToNat,Int.reduceLE,Int.reduceLT,Bool.not_true,uU];rfl
 |false=>
  have uU:s≠[]:=by simpa using h1
  simp only[↓aX,mX,reduceCtorEq,Nat.reduceEqDiff,Nat.reduceLT,Nat.reduceLeDiff,Nat.reduceAdd,Nat.reduceMul,Int.reduceToNat,Int.reduceLE,Int.reduceLT,Bool.not_false];cases h2:decide (((s.length:Nat):Int)≤8) with
  |false=>simp only[↓aX,mX,reduceCtorEq,Nat.reduceEqDiff,Nat.reduceLT,Nat.reduceLeDiff,Nat.reduceAdd,Nat.reduceMul,Int.reduceToNat,Int.reduceLE,Int.reduceLT,decide_eq_true uU,Bool.true_and,Bool.false_and]
  |true=>
   simp only[↓aX,mX,reduceCtorEq,Nat.reduceEqDiff,Nat.reduceLT,Nat.reduceLeDiff,Nat.reduceAdd,Nat.reduceMul,Int.reduceToNat,Int.reduceLE,Int.reduceLT];refine aj hT ?_;simp only[↓aX,mX,reduceCtorEq,Nat.reduceEqDiff,Nat.reduceLT,Nat.reduceLeDiff,Nat.reduceAdd,Nat.reduceMul,Int.reduceToNat,Int.reduceLE,Int.reduceLT,decide_eq_true uU,Bool.true_and]
end Go.Am

/- Plain texts, as the document says them. -/
namespace Go.Am
open Go Go.RowKit
def eL:AC:=
(.seq (.au [⟨some 2,none,.af (.c (.bool false))⟩]) (.seq (.au [⟨some 3,none,.af (.t 0)⟩,⟨some 4,none,.bin .eql (.t 3) (.c (.int .u8 10))⟩,⟨some 5,none,.af (.t 4)⟩,⟨some 6,(some (5,false)),(.af (.t 0))⟩,⟨some 7,(some (5,false)),(.bin .geq (.t 6) (.c (.int .u8 32)))⟩,⟨some 8,(some (5,false)),(.af (.t 7))⟩,⟨some 9,(some (8,true)),(.af (.t 0))⟩,⟨some 10,(some (8,true)),(.bin .lss (.t 9) (.c (.int .u8 127)))⟩,⟨some 11,(some (5,false)),(.pick (.t 8) (.t 10) (.c (.bool false)))⟩,⟨some 12,none,.pick (.t 5) (.c (.bool true)) (.t 11)⟩,⟨some 2,none,.af (.t 12)⟩]) .ret))
theorem yS {P:Program} {G:Nat→Option (List IV)} {b8:Nat} (hF:aB P G b8=some (13,[(none,2)],eL.bare)) (c:UInt8):ai P G b8 [.int .u8 (c.toNat:Int)] (.bool (ep c)):=by
 refine aC hF (by simp) (by simp[ah,AV.ar]) (by simp[AV.ar]) ?_;unfold eL;simp only[↓aX,mX,reduceCtorEq,Nat.reduceEqDiff,Nat.reduceLT,Nat.reduceLeDiff,Nat.reduceAdd,Nat.reduceMul,Int.reduceToNat,Int.reduceLE,Int.reduceLT];cases h1:((c.toNat:Int)==10) with
 |true=>
  have uU:(c.toNat:Int)=10:=by simpa using h1
  simp only[↓aX,mX,reduceCtorEq,Nat.reduceEqDiff,Nat.reduceLT,Nat.reduceLeDiff,Nat.reduceAdd,Nat.reduceMul,Int.reduceToNat,Int.reduceLE,Int.reduceLT];simp[ep,uU]
 |false=>
  have uU:(c.toNat:Int)≠10:=by simpa using h1
  simp only[↓aX,mX,reduceCtorEq,Nat.reduceEqDiff,Nat.reduceLT,Nat.reduceLeDiff,Nat.reduceAdd,Nat.reduceMul,Int.reduceToNat,Int.reduceLE,Int.reduceLT];cases h2:decide ((c.toNat:Int)≥32) with
  |false=>
   have HI:=of_decide_eq_false h2;simp only[↓aX,mX,reduceCtorEq,Nat.reduceEqDiff,Nat.reduceLT,Nat.reduceLeDiff,Nat.reduceAdd,Nat.reduceMul,Int.reduceToNat,Int.reduceLE,Int.reduceLT];have:ep c=false:=by unfold ep;simp[uU];omega
   simp only[this]
  |true=>
   have HI:=of_decide_eq_true h2;simp only[↓aX,mX,reduceCtorEq,Nat.reduceEqDiff,Nat.reduceLT,Nat.reduceLeDiff,Nat.reduceAdd,Nat.reduceMul,Int.reduceToNat,Int.reduceLE,Int.reduceLT]
   have:ep c=decide ((c.toNat:Int)<127):=by
    unfold ep;rw[show((c.toNat:Int) !=10)=true by simpa using uU,show decide ((c.toNat:Int)<32)=false by simp;omega];simp only[Bool.true_and,Bool.false_or];rw[←decide_not,decide_eq_decide];omega
   rw[this]
def eM (b8:Nat):AC:=
(.seq (.au [⟨some 2,none,.af (.c (.bool false))⟩]) (.seq (.seq (.au [⟨some 5,none,.af (.t 0)⟩,⟨some 6,none,.zQ (.t 5)⟩,⟨some 7,none,.len (.t 6)⟩,⟨some 8,none,.af (.c (.int .i64 0))⟩]) (.block 0 (.loop (.seq (.au [⟨some 9,none,.bin .lss (.t 8) (.t 7)⟩]) (.seq (.cond (.t 9) .skip (.exit 0)) (.seq (.block 1 (.seq (.au [⟨some 10,none,.fH (.t 6) (.t 8) 1⟩,⟨some 11,none,.load none (.t 10)⟩,⟨some 4,none,.af (.t 11)⟩]) (.seq (.au [⟨some 12,none,.af (.t 4)⟩,⟨some 13,none,.call b8 [(.t 12)]⟩,⟨some 14,none,.not (.t 13)⟩]) (.cond (.t 14) (.seq (.au [⟨some 2,none,.af (.c (.bool false))⟩]) .ret) .skip)))) (.au [⟨some 15,none,.bin .add (.t 8) (.c (.int .i64 1))⟩,⟨some 8,none,.af (.t 15)⟩]))))))) (.seq (.au [⟨some 16,none,.af (.t 0)⟩,⟨some 17,none,.lens (.t 16)⟩,⟨some 18,none,.bin .leq (.t 17) (.c (.int .i64 40))⟩,⟨some 2,none,.af (.t 18)⟩]) .ret)))
def E_ (s:Bs):List IV:=s.map fun c=> .int .u8 (c.toNat:Int)
theorem BH (s:Bs):(E_ s).length=s.length:=by simp[E_]
theorem BI (s:Bs) (i:Nat):(E_ s)[i]?=(s[i]?).map fun c=> .int .u8 (c.toNat:Int):=List.getElem?_map ..
theorem Eg (s:Bs):ia 1 (E_ s):=by
 intro x hx;obtain⟨a,_,rfl⟩:=List.mem_map.1 hx;rfl
theorem yT {P:Program} {G:Nat→Option (List IV)} {bf b8:Nat} (hF:aB P G bf=some (19,[(none,2)],(eM b8).bare)) (s:Bs) (hs:s.length≤B)
  (hP:∀c:UInt8,ai P G b8 [.int .u8 (c.toNat:Int)] (.bool (ep c))):ai P G bf [.str s] (.bool (plain s)):=by
 refine aC hF (by simp) (by simp[ah,AV.ar]) (by simp[AV.ar]) ?_;have hB:s.length≤140737488355328:=by unfold B at hs;omega
 have hu:(s.map fun c=>IV.int .u8 (c.toNat:Int))=E_ s:=rfl;unfold eM;simp only[↓aX,mX,reduceCtorEq,Nat.reduceEqDiff,Nat.reduceLT,Nat.reduceLeDiff,Nat.reduceAdd,Nat.reduceMul,Int.reduceToNat,Int.reduceLE,Int.reduceLT,if_pos hB,hu,BH]
 refine gm (σ:={i:Nat // i≤s.length∧(s.take i).all ep=true}) (fun q=>[(0,.str s),(6,.list (E_ s)),(7,.int .i64 s.length),(8,.int .i64 q.1)]) (fun q=>s.length - q.1) ⟨0,by simp⟩ (fun _=>rfl) ?_ ?_
 ·exact⟨by simp only[↓aX,mX,reduceCtorEq,Nat.reduceEqDiff,Nat.reduceLT,Nat.reduceLeDiff,Nat.reduceAdd,Nat.reduceMul,Int.reduceToNat,Int.reduceLE,Int.reduceLT],by repeat' constructor⟩
 ·rintro⟨i,hi,fW⟩;simp only[↓aX,mX,reduceCtorEq,Nat.reduceEqDiff,Nat.reduceLT,Nat.reduceLeDiff,Nat.reduceAdd,Nat.reduceMul,Int.reduceToNat,Int.reduceLE,Int.reduceLT];by_cases bz:i<s.length
  ·rw[show decide ((i:Int)<(s.length:Int))=true by simpa using bz];obtain⟨c,hc⟩:∃c,s[i]?=some c:=⟨_,List.getElem?_eq_getElem bz⟩;have hw:IntKind.i64.wrap ((i:Int)+1)=((i+1:Nat):Int):=wrap64 (by omega) (by unfold B at hs;omega)
   simp only[↓aX,mX,reduceCtorEq,Nat.reduceEqDiff,Nat.reduceLT,Nat.reduceLeDiff,Nat.reduceAdd,Nat.reduceMul,Int.reduceToNat,Int.reduceLE,Int.reduceLT,BI,hc,Eg,Option.map_some,IV.cells];refine aj (hP c) ?_;cases hp:ep c with
   |false=>
    have:plain s=false:=by
     unfold plain;rw[show s.all ep=false by rw[Bool.eq_false_iff];intro h;have:=List.all_eq_true.1 h c (List.mem_of_getElem? hc);rw[hp] at this;cases this];rfl
    simp only[↓aX,mX,reduceCtorEq,Nat.reduceEqDiff,Nat.reduceLT,Nat.reduceLeDiff,Nat.reduceAdd,Nat.reduceMul,Int.reduceToNat,Int.reduceLE,Int.reduceLT,Bool.not_false,this]
   |true=>
    simp only[↓aX,mX,reduceCtorEq,Nat.reduceEqDiff,Nat.reduceLT,Nat.reduceLeDiff,Nat.reduceAdd,Nat.reduceMul,Int.reduceToNat,Int.reduceLE,Int.reduceLT,Bool.not_true,hw];exact⟨⟨i+1,bz,om fW hc hp⟩,by simp only;omega,rfl⟩
  ·have lC:i=s.length:=by omega
   subst lC;rw[List.take_length] at fW;rw[show decide ((s.length:Int)<(s.length:Int))=false by simp];simp only[↓aX,mX,reduceCtorEq,Nat.reduceEqDiff,Nat.reduceLT,Nat.reduceLeDiff,Nat.reduceAdd,Nat.reduceMul,Int.reduceToNat,Int.reduceLE,Int.reduceLT,plain,fW,Bool.true_and]
end Go.Am

/- Trees out of their own text. -/
namespace Go.Am
open Go Go.RowKit
theorem wD (a:UInt8):¬a<a:=by rw[UInt8.lt_iff_toNat_lt];omega
theorem yU {a b c:UInt8} (h:a<b) (h2:b<c):a<c:=by rw[UInt8.lt_iff_toNat_lt] at *;omega
theorem Eh (a b:UInt8):a<b∨a=b∨b<a:=by
 simp only[UInt8.lt_iff_toNat_lt];rcases Nat.lt_trichotomy a.toNat b.toNat with h|h|h
 ·exact .inl h
 ·exact .inr (.inl (UInt8.toNat.inj h))
 ·exact .inr (.inr h)
theorem qJ:∀x:Bs,Op.bytesLess x x=false
 |[]=>rfl
 |a::x=>by simp[Op.bytesLess,wD,qJ x]
theorem CC:∀{x y z:Bs},Op.bytesLess x y=true→Op.bytesLess y z=true→Op.bytesLess x z=true
 |[],[],_,h,_=>by simp[Op.bytesLess] at h
 |[],_::_,[],_,h=>by simp[Op.bytesLess] at h
 |[],_::_,_::_,_,_=>rfl
 |_::_,[],_,h,_=>by simp[Op.bytesLess] at h
 |_::_,_::_,[],_,h=>by simp[Op.bytesLess] at h
 |a::x,b::y,c::z,h1,h2=>by
  simp only[Op.bytesLess,Bool.or_eq_true,decide_eq_true_eq,Bool.and_eq_true,beq_iff_eq] at h1 h2 ⊢;rcases h1 with h1|⟨rfl,h1⟩
  ·rcases h2 with h2|⟨rfl,h2⟩
   ·exact .inl (yU h1 h2)
   ·exact .inl h1
  ·rcases h2 with h2|⟨rfl,h2⟩
   ·exact .inl h2
   ·exact .inr ⟨rfl,CC h1 h2⟩
theorem vv {x y:Bs} (h:Op.bytesLess x y=true):Op.bytesLess y x=false:=by
 cases h2:Op.bytesLess y x with
 |false=>rfl
 |true=>have:=CC h h2;rw[qJ] at this;cases this
theorem yV:∀x y:Bs,Op.bytesLess x y=true∨x=y∨Op.bytesLess y x=true
 |[],[]=> .inr (.inl rfl)
 |[],_::_=> .inl rfl
 |_::_,[]=> .inr (.inr rfl)
 |a::x,b::y=>by
  simp only[Op.bytesLess,Bool.or_eq_true,decide_eq_true_eq,Bool.and_eq_true,beq_iff_eq,List.cons.injEq];rcases Eh a b with h|rfl|h
  ·exact .inl (.inl h)
  ·rcases yV x y with h|rfl|h
   ·exact .inl (.inr ⟨rfl,h⟩)
   ·exact .inr (.inl ⟨rfl,rfl⟩)
   ·exact .inr (.inr (.inr ⟨rfl,h⟩))
  ·exact .inr (.inr (.inl h))
end Go.Am

/- Attributes, as the document says them. -/
namespace Go.Am
open Go Go.RowKit
def eN (aS bf:Nat):AC:=
(.seq (.au [⟨some 2,none,.af (.c (.bool false))⟩]) (.seq (.au [⟨some 3,none,.af (.c (.str []))⟩]) (.seq (.seq (.au [⟨some 6,none,.af (.t 0)⟩,⟨some 7,none,.len (.t 6)⟩,⟨some 8,none,.af (.c (.int .i64 0))⟩]) (.block 0 (.loop (.seq (.au [⟨some 9,none,.bin .lss (.t 8) (.t 7)⟩]) (.seq (.cond (.t 9) .skip (.exit 0)) (.seq (.block 1 (.seq (.au [⟨some 10,none,.fH (.t 6) (.t 8) 2⟩,⟨some 11,none,.load (some 2) (.t 10)⟩,⟨some 5,none,.new [(.str []),(.str [])]⟩,⟨none,none,.store 2 (.t 5) (.t 11)⟩]) (.seq (.seq (.au [⟨some 12,none,.bU (.t 5) 0⟩,⟨some 13,none,.load none (.t 12)⟩,⟨some 14,none,.call aS [(.t 13)]⟩,⟨some 15,none,.not (.t 14)⟩,⟨some 16,none,.af (.t 15)⟩,⟨some 17,(some (16,false)),(.bU (.t 5) 1)⟩,⟨some 18,(some (16,false)),(.load none (.t 17))⟩,⟨some 19,(some (16,false)),(.call bf [(.t 18)])⟩,⟨some 20,(some (16,false)),(.not (.t 19))⟩,⟨some 21,none,.pick (.t 16) (.c (.bool true)) (.t 20)⟩,⟨some 22,none,.af (.t 21)⟩,⟨some 23,(some (22,false)),(.bU (.t 5) 0)⟩,⟨some 24,(some (22,false)),(.load none (.t 23))⟩,⟨some 25,(some (22,false)),(.af (.t 3))⟩,⟨some 26,(some (22,false)),(.bin .leq (.t 24) (.t 25))⟩,⟨some 27,none,.pick (.t 22) (.c (.bool true)) (.t 26)⟩]) (.cond (.t 27) (.seq (.au [⟨some 2,none,.af (.c (.bool false))⟩]) .ret) .skip)) (.au [⟨some 28,none,.bU (.t 5) 0⟩,⟨some 29,none,.load none (.t 28)⟩,⟨some 3,none,.af (.t 29)⟩])))) (.au [⟨some 30,none,.bin .add (.t 8) (.c (.int .i64 1))⟩,⟨some 8,none,.af (.t 30)⟩]))))))) (.seq (.au [⟨some 31,none,.af (.t 0)⟩,⟨some 32,none,.len (.t 31)⟩,⟨some 33,none,.bin .leq (.t 32) (.c (.int .i64 4))⟩,⟨some 2,none,.af (.t 33)⟩]) .ret))))
def pY (as:List Attr):Nat→Bs
 |0=>[]
 |i+1=>match as[i]? with
  |some p=>p.name
  |none=>[]
theorem Ei (x y:Bs):(Op.bytesLess x y||x==y)= !Op.bytesLess y x:=by
 rcases yV x y with h|h|h
 ·rw[h,vv h];rfl
 ·subst h;rw[qJ];simp
 ·rw[h,vv h];have:(x==y)=false:=by rw[beq_eq_false_iff_ne];rintro rfl;rw[qJ] at h;cases h
  rw[this];rfl
theorem Ej {x:Bs} (h:named x=true):Op.bytesLess [] x=true:=by
 cases x with
 |nil=>simp[named] at h
 |cons c r=>rfl
theorem yW {P : Program} {G : Nat → Option (List IV)} {b9 aS bf : Nat} (hF : aB P G b9 = some (34,[(none,2)],(eN aS bf).bare)) (as : List Attr) (hx : as.length ≤ B)
   (hN:∀a∈as,ai P G aS [.str a.name] (.bool (named a.name))) (hP:∀a∈as,ai P G bf [.str a.val] (.bool (plain a.val))) :
   ai P G b9 [.list (eh as)] (.bool (cN as)):=by
 refine aC hF (by simp) (by simp[ah,AV.ar]) (by simp[AV.ar]) ?_
 unfold eN
 simp only[↓aX,mX,reduceCtorEq,Nat.reduceEqDiff,Nat.reduceLT,Nat.reduceLeDiff,Nat.reduceAdd,Nat.reduceMul,Int.reduceToNat,Int.reduceLE,Int.reduceLT,de]
 refine gm (σ:={i:Nat // i≤as.length∧∀j,j<i→fo as j=true}) (fun q=>[(0,.list (eh as)),(3,.str (pY as q.1)),(6,.list (eh as)),(7,.int .i64 as.length),(8,.int .i64 q.1)]) (fun q=>as.length - q.1) ⟨0,by simp⟩ (fun _=>rfl) ?_ ?_
 · exact⟨by simp only[↓aX,mX,reduceCtorEq,Nat.reduceEqDiff,Nat.reduceLT,Nat.reduceLeDiff,Nat.reduceAdd,Nat.reduceMul,Int.reduceToNat,Int.reduceLE,Int.reduceLT],by repeat' constructor⟩
 · rintro ⟨i,hi,hs⟩
   simp only[↓aX,mX,reduceCtorEq,Nat.reduceEqDiff,Nat.reduceLT,Nat.reduceLeDiff,Nat.reduceAdd,Nat.reduceMul,Int.reduceToNat,Int.reduceLE,Int.reduceLT,de]
   by_cases bz:i<as.length
   · rw[show decide ((i:Int)<(as.length:Int))=true by simpa using bz]
     obtain⟨a,ha⟩:∃a,as[i]?=some a:=⟨_,List.getElem?_eq_getElem bz⟩
     have hw:IntKind.i64.wrap ((i:Int)+1)=((i+1:Nat):Int):=wrap64 (by omega) (by unfold B at hx;omega)
     simp only[↓aX,mX,reduceCtorEq,Nat.reduceEqDiff,Nat.reduceLT,Nat.reduceLeDiff,Nat.reduceAdd,Nat.reduceMul,Int.reduceToNat,Int.reduceLE,Int.reduceLT,nN,ha,nc,Attr.aU,Attr.cs]
     refine aj (hN a (List.mem_of_getElem? ha)) ?_
     have stop:fo as i=false→cN as=false:=fun hp=>by rw[cN,pJ bz hp];rfl
     have kU:fo as i=(named a.name&&(plain a.val&&(i==0||match as[i - 1]? with|some p=>Op.bytesLess p.name a.name|none=>true))):=by unfold fo;rw[ha];rfl
     cases h1:named a.name with
     |false=>
       simp only[↓aX,mX,reduceCtorEq,Nat.reduceEqDiff,Nat.reduceLT,Nat.reduceLeDiff,Nat.reduceAdd,Nat.reduceMul,Int.reduceToNat,Int.reduceLE,Int.reduceLT,Bool.not_false]
       rw[stop (by rw[kU,h1];rfl)]
     |true=>
       simp only[↓aX,mX,reduceCtorEq,Nat.reduceEqDiff,Nat.reduceLT,Nat.reduceLeDiff,Nat.reduceAdd,Nat.reduceMul,Int.reduceToNat,Int.reduceLE,Int.reduceLT,Bool.not_true]
       refine aj (hP a (List.mem_of_getElem? ha)) ?_
       cases h2:plain a.val with
       |false=>
         simp only[↓aX,mX,reduceCtorEq,Nat.reduceEqDiff,Nat.reduceLT,Nat.reduceLeDiff,Nat.reduceAdd,Nat.reduceMul,Int.reduceToNat,Int.reduceLE,Int.reduceLT,Bool.not_false]
         rw[stop (by rw[kU,h1,h2];rfl)]
       |true=>
         simp only[↓aX,mX,reduceCtorEq,Nat.reduceEqDiff,Nat.reduceLT,Nat.reduceLeDiff,Nat.reduceAdd,Nat.reduceMul,Int.reduceToNat,Int.reduceLE,Int.reduceLT,Bool.not_true]
         have hb:fo as i=Op.bytesLess (pY as i) a.name:=by
           rw[kU,h1,h2]
           cases i with
           |zero=>rw[show pY as 0=[] from rfl,Ej h1];rfl
           |succ i=>
             obtain⟨p,hp⟩:∃p,as[i]?=some p:=⟨_,List.getElem?_eq_getElem (by omega)⟩
             simp[pY,hp]
         rw[Ei,←hb]
         cases h4:fo as i with
         |false=>
           simp only[↓aX,mX,reduceCtorEq,Nat.reduceEqDiff,Nat.reduceLT,Nat.reduceLeDiff,Nat.reduceAdd,Nat.reduceMul,Int.reduceToNat,Int.reduceLE,Int.reduceLT,Bool.not_false]
           rw[stop h4]
         |true=>
           simp only[↓aX,mX,reduceCtorEq,Nat.reduceEqDiff,Nat.reduceLT,Nat.reduceLeDiff,Nat.reduceAdd,Nat.reduceMul,Int.reduceToNat,Int.reduceLE,Int.reduceLT,Bool.not_true,hw]
           refine⟨⟨i+1,bz,fun j hj=> ?_⟩,by simp only;omega,?_⟩
           · by_cases e:j=i
             · rw[e];exact h4
             · exact hs j (by omega)
           · refine⟨?_,rfl⟩
             show AV.str a.name=AV.str (pY as (i+1))
             simp only[pY,ha]
   · have lC:i=as.length:=by omega
     rw[show decide ((i:Int)<(as.length:Int))=false by simpa using bz]
     simp only[↓aX,mX,reduceCtorEq,Nat.reduceEqDiff,Nat.reduceLT,Nat.reduceLeDiff,Nat.reduceAdd,Nat.reduceMul,Int.reduceToNat,Int.reduceLE,Int.reduceLT,de]
     have:(List.range as.length).all (fo as)=true:=by
       rw[List.all_eq_true]
       intro j hj
       exact hs j (by simp at hj;omega)
     rw[cN,this];rfl
end Go.Am

/- What is right, as the document says it. -/
namespace Go.Am
open Go Go.RowKit
def fu (bf aS b9 bC:Nat):AC:=
(.seq (.au [⟨some 2,none,.af (.c (.bool false))⟩]) (.seq (.au [⟨some 3,none,.af (.c (.bool false))⟩]) (.seq (.seq (.au [⟨some 6,none,.af (.t 0)⟩,⟨some 7,none,.len (.t 6)⟩,⟨some 8,none,.af (.c (.int .i64 0))⟩]) (.block 0 (.loop (.seq (.au [⟨some 9,none,.bin .lss (.t 8) (.t 7)⟩]) (.seq (.cond (.t 9) .skip (.exit 0)) (.seq (.block 1 (.seq (.au [⟨some 10,none,.fH (.t 6) (.t 8) 4⟩,⟨some 11,none,.load (some 4) (.t 10)⟩,⟨some 5,none,.new [(.bool false),(.str []),.nil0,.nil0]⟩,⟨none,none,.store 4 (.t 5) (.t 11)⟩]) (.seq (.seq (.au [⟨some 12,none,.bU (.t 5) 0⟩,⟨some 13,none,.load none (.t 12)⟩,⟨some 14,none,.af (.t 13)⟩,⟨some 15,(some (14,true)),(.af (.t 3))⟩,⟨some 16,(some (14,true)),(.af (.t 15))⟩,⟨some 17,(some (16,false)),(.bU (.t 5) 1)⟩,⟨some 18,(some (16,false)),(.load none (.t 17))⟩,⟨some 19,(some (16,false)),(.bin .eql (.t 18) (.c (.str [])))⟩,⟨some 20,(some (14,true)),(.pick (.t 16) (.c (.bool true)) (.t 19))⟩,⟨some 21,(some (14,true)),(.af (.t 20))⟩,⟨some 22,(some (21,false)),(.bU (.t 5) 1)⟩,⟨some 23,(some (21,false)),(.load none (.t 22))⟩,⟨some 24,(some (21,false)),(.call bf [(.t 23)])⟩,⟨some 25,(some (21,false)),(.not (.t 24))⟩,⟨some 26,(some (14,true)),(.pick (.t 21) (.c (.bool true)) (.t 25))⟩,⟨some 27,(some (14,true)),(.af (.t 26))⟩,⟨some 28,(some (27,false)),(.bU (.t 5) 2)⟩,⟨some 29,(some (27,false)),(.load none (.t 28))⟩,⟨some 30,(some (27,false)),(.len (.t 29))⟩,⟨some 31,(some (27,false)),(.bin .neq (.t 30) (.c (.int .i64 0)))⟩,⟨some 32,(some (14,true)),(.pick (.t 27) (.c (.bool true)) (.t 31))⟩,⟨some 33,(some (14,true)),(.af (.t 32))⟩,⟨some 34,(some (33,false)),(.bU (.t 5) 3)⟩,⟨some 35,(some (33,false)),(.load none (.t 34))⟩,⟨some 36,(some (33,false)),(.len (.t 35))⟩,⟨some 37,(some (33,false)),(.bin .neq (.t 36) (.c (.int .i64 0)))⟩,⟨some 38,(some (14,true)),(.pick (.t 33) (.c (.bool true)) (.t 37))⟩,⟨some 39,none,.pick (.t 14) (.t 38) (.c (.bool false))⟩]) (.cond (.t 39) (.seq (.au [⟨some 2,none,.af (.c (.bool false))⟩]) .ret) .skip)) (.seq (.seq (.au [⟨some 40,none,.bU (.t 5) 0⟩,⟨some 41,none,.load none (.t 40)⟩,⟨some 42,none,.not (.t 41)⟩,⟨some 43,none,.af (.t 42)⟩,⟨some 44,(some (43,true)),(.bU (.t 5) 1)⟩,⟨some 45,(some (43,true)),(.load none (.t 44))⟩,⟨some 46,(some (43,true)),(.call aS [(.t 45)])⟩,⟨some 47,(some (43,true)),(.not (.t 46))⟩,⟨some 48,(some (43,true)),(.af (.t 47))⟩,⟨some 49,(some (48,false)),(.bU (.t 5) 2)⟩,⟨some 50,(some (48,false)),(.load none (.t 49))⟩,⟨some 51,(some (48,false)),(.call b9 [(.t 50)])⟩,⟨some 52,(some (48,false)),(.not (.t 51))⟩,⟨some 53,(some (43,true)),(.pick (.t 48) (.c (.bool true)) (.t 52))⟩,⟨some 54,(some (43,true)),(.af (.t 53))⟩,⟨some 55,(some (54,false)),(.bU (.t 5) 3)⟩,⟨some 56,(some (54,false)),(.load none (.t 55))⟩,⟨some 57,(some (54,false)),(.call bC [(.t 56)])⟩,⟨some 58,(some (54,false)),(.not (.t 57))⟩,⟨some 59,(some (43,true)),(.pick (.t 54) (.c (.bool true)) (.t 58))⟩,⟨some 60,none,.pick (.t 43) (.t 59) (.c (.bool false))⟩]) (.cond (.t 60) (.seq (.au [⟨some 2,none,.af (.c (.bool false))⟩]) .ret) .skip)) (.au [⟨some 61,none,.bU (.t 5) 0⟩,⟨some 62,none,.load none (.t 61)⟩,⟨some 3,none,.af (.t 62)⟩]))))) (.au [⟨some 63,none,.bin .add (.t 8) (.c (.int .i64 1))⟩,⟨some 8,none,.af (.t 63)⟩]))))))) (.seq (.au [⟨some 2,none,.af (.c (.bool true))⟩]) .ret))))
theorem Ek {P : Program} {G : Nat → Option (List IV)} {bC bf aS b9 : Nat} (hF : aB P G bC = some (64,[(none,2)],(fu bf aS b9 bC).bare)) (l : List Tree) (hx : fL l ≤ B)
   (hP:∀x∈l,ai P G bf [.str x.s] (.bool (plain x.s))) (hN:∀x∈l,ai P G aS [.str x.s] (.bool (named x.s)))
   (hA:∀x∈l,ai P G b9 [.list (eh x.attrs)] (.bool (cN x.attrs))) (hK:∀x∈l,ai P G bC [.list (eY x.kids)] (.bool (cM none x.kids))) :
   ai P G bC [.list (eY l)] (.bool (cM none l)):=by
 refine aC hF (by simp) (by simp[ah,AV.ar]) (by simp[AV.ar]) ?_
 have hl:=gy l
 unfold fu
 simp only[↓aX,mX,reduceCtorEq,Nat.reduceEqDiff,Nat.reduceLT,Nat.reduceLeDiff,Nat.reduceAdd,Nat.reduceMul,Int.reduceToNat,Int.reduceLE,Int.reduceLT,bG]
 refine gm (σ:={q:Nat×Option Bool // q.1≤l.length∧cM none l=cM q.2 (l.drop q.1)}) (fun q=>[(0,.list (eY l)),(3,.bool (q.1.2==some true)),(6,.list (eY l)),(7,.int .i64 l.length),(8,.int .i64 q.1.1)]) (fun q=>l.length - q.1.1) ⟨(0,none),by simp,rfl⟩ (fun _=>rfl) ?_ ?_
 · exact⟨by simp only[↓aX,mX,reduceCtorEq,Nat.reduceEqDiff,Nat.reduceLT,Nat.reduceLeDiff,Nat.reduceAdd,Nat.reduceMul,Int.reduceToNat,Int.reduceLE,Int.reduceLT],by repeat' constructor⟩
 · rintro ⟨⟨i,p⟩,hi,hs⟩
   simp only at hi hs
   simp only[↓aX,mX,reduceCtorEq,Nat.reduceEqDiff,Nat.reduceLT,Nat.reduceLeDiff,Nat.reduceAdd,Nat.reduceMul,Int.reduceToNat,Int.reduceLE,Int.reduceLT,bG]
   by_cases bz:i<l.length
   · rw[show decide ((i:Int)<(l.length:Int))=true by simpa using bz]
     obtain⟨x,IT⟩:∃x,l[i]?=some x:=⟨_,List.getElem?_eq_getElem bz⟩
     have hm:=List.mem_of_getElem? IT
     have hw:IntKind.i64.wrap ((i:Int)+1)=((i+1:Nat):Int):=wrap64 (by omega) (by unfold B at hx;omega)
     have jR:cM none l=(x.gM&&(!(p==some true&&x.text)&&cM (some x.text) (l.drop (i+1)))):=by rw[hs,List.drop_eq_getElem_cons bz,List.getElem?_eq_getElem bz |>.symm.trans IT|>Option.some.inj];rfl
     have stop:x.gM=false→cM none l=false:=fun h=>by rw[jR,h];rfl
     simp only[↓aX,mX,reduceCtorEq,Nat.reduceEqDiff,Nat.reduceLT,Nat.reduceLeDiff,Nat.reduceAdd,Nat.reduceMul,Int.reduceToNat,Int.reduceLE,Int.reduceLT,iI,IT,lW,Tree.aU,Tree.cs]
     cases ht:x.text with
     |true=>
       have ve:=x.tO ht
       simp only[↓aX,mX,reduceCtorEq,Nat.reduceEqDiff,Nat.reduceLT,Nat.reduceLeDiff,Nat.reduceAdd,Nat.reduceMul,Int.reduceToNat,Int.reduceLE,Int.reduceLT]
       cases hp:(p==some true) with
       |true=>
         have:cM none l=false:=by rw[jR,hp,ht];simp
         simp only[↓aX,mX,reduceCtorEq,Nat.reduceEqDiff,Nat.reduceLT,Nat.reduceLeDiff,Nat.reduceAdd,Nat.reduceMul,Int.reduceToNat,Int.reduceLE,Int.reduceLT,this]
       |false=>
         simp only[↓aX,mX,reduceCtorEq,Nat.reduceEqDiff,Nat.reduceLT,Nat.reduceLeDiff,Nat.reduceAdd,Nat.reduceMul,Int.reduceToNat,Int.reduceLE,Int.reduceLT]
         cases h1:(x.s==[]) with
         |true=>
           have h9:(x.s !=[])=false:=by simpa using h1
           have:cM none l=false:=stop (by rw[ve,h9];simp)
           simp only[↓aX,mX,reduceCtorEq,Nat.reduceEqDiff,Nat.reduceLT,Nat.reduceLeDiff,Nat.reduceAdd,Nat.reduceMul,Int.reduceToNat,Int.reduceLE,Int.reduceLT,this]
         |false=>
           simp only[↓aX,mX,reduceCtorEq,Nat.reduceEqDiff,Nat.reduceLT,Nat.reduceLeDiff,Nat.reduceAdd,Nat.reduceMul,Int.reduceToNat,Int.reduceLE,Int.reduceLT]
           refine aj (hP x hm) ?_
           cases h2:plain x.s with
           |false=>
             have:cM none l=false:=stop (by rw[ve,h2];rfl)
             simp only[↓aX,mX,reduceCtorEq,Nat.reduceEqDiff,Nat.reduceLT,Nat.reduceLeDiff,Nat.reduceAdd,Nat.reduceMul,Int.reduceToNat,Int.reduceLE,Int.reduceLT,Bool.not_false,this]
           |true=>
             simp only[↓aX,mX,reduceCtorEq,Nat.reduceEqDiff,Nat.reduceLT,Nat.reduceLeDiff,Nat.reduceAdd,Nat.reduceMul,Int.reduceToNat,Int.reduceLE,Int.reduceLT,Bool.not_true,de]
             have h9:(x.s !=[])=true:=by simpa using h1
             cases h5:((x.attrs.length:Int) !=0) with
             |true=>
               have:cM none l=false:=stop (by
                 have:(x.attrs.length==0)=false:=by simp at h5 ⊢;exact h5
                 rw[ve,this];simp)
               simp only[↓aX,mX,reduceCtorEq,Nat.reduceEqDiff,Nat.reduceLT,Nat.reduceLeDiff,Nat.reduceAdd,Nat.reduceMul,Int.reduceToNat,Int.reduceLE,Int.reduceLT,this]
             |false=>
               simp only[↓aX,mX,reduceCtorEq,Nat.reduceEqDiff,Nat.reduceLT,Nat.reduceLeDiff,Nat.reduceAdd,Nat.reduceMul,Int.reduceToNat,Int.reduceLE,Int.reduceLT,bG]
               cases h6:((x.kids.length:Int) !=0) with
               |true=>
                 have:cM none l=false:=stop (by
                   have:(x.kids.length==0)=false:=by simp at h6 ⊢;exact h6
                   rw[ve,this];simp)
                 simp only[↓aX,mX,reduceCtorEq,Nat.reduceEqDiff,Nat.reduceLT,Nat.reduceLeDiff,Nat.reduceAdd,Nat.reduceMul,Int.reduceToNat,Int.reduceLE,Int.reduceLT,this]
               |false=>
                 have Cp:x.gM=true:=by
                   have e5:(x.attrs.length==0)=true:=by simp at h5 ⊢;exact h5
                   have e6:(x.kids.length==0)=true:=by simp at h6 ⊢;exact h6
                   rw[ve,h2,h9,e5,e6];rfl
                 simp only[↓aX,mX,reduceCtorEq,Nat.reduceEqDiff,Nat.reduceLT,Nat.reduceLeDiff,Nat.reduceAdd,Nat.reduceMul,Int.reduceToNat,Int.reduceLE,Int.reduceLT,Bool.not_true,hw]
                 refine⟨⟨(i+1,some true),bz,by rw[jR,Cp,hp,ht];rfl⟩,by simp only;omega,rfl,rfl⟩
     |false=>
       have ve:=x.tQ ht
       simp only[↓aX,mX,reduceCtorEq,Nat.reduceEqDiff,Nat.reduceLT,Nat.reduceLeDiff,Nat.reduceAdd,Nat.reduceMul,Int.reduceToNat,Int.reduceLE,Int.reduceLT,Bool.not_false]
       refine aj (hN x hm) ?_
       cases h2:named x.s with
       |false=>
         have:cM none l=false:=stop (by rw[ve,h2];rfl)
         simp only[↓aX,mX,reduceCtorEq,Nat.reduceEqDiff,Nat.reduceLT,Nat.reduceLeDiff,Nat.reduceAdd,Nat.reduceMul,Int.reduceToNat,Int.reduceLE,Int.reduceLT,Bool.not_false,this]
       |true=>
         simp only[↓aX,mX,reduceCtorEq,Nat.reduceEqDiff,Nat.reduceLT,Nat.reduceLeDiff,Nat.reduceAdd,Nat.reduceMul,Int.reduceToNat,Int.reduceLE,Int.reduceLT,Bool.not_true]
         refine aj (hA x hm) ?_
         cases h3:cN x.attrs with
         |false=>
           have:cM none l=false:=stop (by rw[ve,h2,h3];rfl)
           simp only[↓aX,mX,reduceCtorEq,Nat.reduceEqDiff,Nat.reduceLT,Nat.reduceLeDiff,Nat.reduceAdd,Nat.reduceMul,Int.reduceToNat,Int.reduceLE,Int.reduceLT,Bool.not_false,this]
         |true=>
           simp only[↓aX,mX,reduceCtorEq,Nat.reduceEqDiff,Nat.reduceLT,Nat.reduceLeDiff,Nat.reduceAdd,Nat.reduceMul,Int.reduceToNat,Int.reduceLE,Int.reduceLT,Bool.not_true]
           refine aj (hK x hm) ?_
           cases h4:cM none x.kids with
           |false=>
             have:cM none l=false:=stop (by rw[ve,h2,h3,h4];rfl)
             simp only[↓aX,mX,reduceCtorEq,Nat.reduceEqDiff,Nat.reduceLT,Nat.reduceLeDiff,Nat.reduceAdd,Nat.reduceMul,Int.reduceToNat,Int.reduceLE,Int.reduceLT,Bool.not_false,this]
           |true=>
             simp only[↓aX,mX,reduceCtorEq,Nat.reduceEqDiff,Nat.reduceLT,Nat.reduceLeDiff,Nat.reduceAdd,Nat.reduceMul,Int.reduceToNat,Int.reduceLE,Int.reduceLT,Bool.not_true,hw]
             have Cp:x.gM=true:=by rw[ve,h2,h3,h4];rfl
             refine⟨⟨(i+1,some false),bz,by rw[jR,Cp,ht];simp⟩,by simp only;omega,rfl,rfl⟩
   · have lC:i=l.length:=by omega
     subst lC
     rw[show decide ((l.length:Int)<(l.length:Int))=false by simp]
     simp only[↓aX,mX,reduceCtorEq,Nat.reduceEqDiff,Nat.reduceLT,Nat.reduceLeDiff,Nat.reduceAdd,Nat.reduceMul,Int.reduceToNat,Int.reduceLE,Int.reduceLT]
     rw[hs,List.drop_length];rfl
end Go.Am
