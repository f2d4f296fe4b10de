import Derived.Test.YtfeijflhfhkbnaaGreatDoorKAm40
import Derived.Test.YtfeijflhfhkbnaaGreatDoorKP2
import Derived.Test.YtfeijflhfhkbnaaGreatDoorKT21
import Derived.Lib.IndexMore
import Derived.Lib.IndexLaws
import Derived.Test.YtfeijflhfhkbnaaGreatDoorKAm25
import Derived.Test.YtfeijflhfhkbnaaGreatDoorKT60
import Derived.Test.YtfeijflhfhkbnaaGreatDoorKAm34
import Derived.Test.YtfeijflhfhkbnaaGreatDoorKT84
import Derived.Test.YtfeijflhfhkbnaaGreatDoorKT91
import Derived.Test.YtfeijflhfhkbnaaGreatDoorKAm53
import Derived.Shelf.Strings.Cut
import Derived.Shelf.Strings.Search3
import Derived.Shelf.Strings.Prefix
set_option linter.all false
/- topiaryref.meant. -/
namespace Go.Am
open Go Go.RowKit
def OD (c:UInt8):dI c=arM c:=by
 have wH:(c==10)=(c.toNat==10):=by
  rw[SZ];simp only[S'];exact⟨λh=>by rw[h];rfl,λh=>Yb (by simpa using h)⟩
 rw[SZ];simp only[dI,arM,wH,U_,Ve,X9,EI,ZD,Tt,Tu,S',QH,dj,UInt8.reduceToNat];omega
def Q6 (v:Bool):MY v []=some []:=by unfold MY;rw[vW]
def Po {v:Bool} {c:UInt8} (hc:yu v c) (r:Bs):MY v (c::r)=none:=by unfold MY;rw[aou hc]
theorem PI {v:Bool} (r:Bs):MY v (38::r)=match og (38::r) with
  |some (e,q)=>(MY v q).map λt=>e::t
  |none=>none:=by
 have h1:bm v (38::r)=match og (38::r) with
   |some (e,q)=>(bm v q).map λx=>(e::x.1,x.2)
   |none=>none:=by
  rw[bm,Ev (by rintro(h|⟨h,_⟩)<;>cases h),P8 rfl];split
  ·rename_i e q h;rw[h]
  rename_i h;rw[h]
 unfold MY;rw[h1];cases og (38::r) with
 |none=>rfl
 |some x=>
 obtain⟨e,q⟩:=x;simp only;cases bm v q with
 |none=>rfl
 |some y=>obtain⟨t,r'⟩:=y;cases r'<;>rfl
def PJ {v:Bool} {c:UInt8} (h1:¬yu v c) (h2:c≠38) (h3:c=62\/arM c=false) (r:Bs):MY v (c::r)=none:=by
 unfold MY;rw[bm,Ev h1,Ev h2,P8 h3]
def QC {v:Bool} {c:UInt8} (h1:¬yu v c) (h2:c≠38) (h3:¬(c=62\/arM c=false)) (r:Bs):MY v (c::r)=(MY v r).map λt=>c::t:=by
 unfold MY;rw[bm,Ev h1,Ev h2,Ev h3];cases bm v r with
 |none=>rfl
 |some y=>obtain⟨t,r'⟩:=y;cases r'<;>rfl
def Pq:Bs:=[32,108,116,59,32,103,116,59,32,97,109,112,59,32,113,117,111,116,59,32]
def SG:List (Int×Bs):=[(0,[60]),(4,[62]),(8,[38]),(13,[34])]
def PK (s:Bs) (m:Nat):Int:=Lib.index Pq (32::((s.take m).drop 1++[32]))
def SH (w:Bs) (e:UInt8) (h:(w,e)∈[(qH,(60:UInt8)),(rC,62),(kD,38),(jc,34)]) (q:Bs) :
  Lib.indexByte (w++q) 59+1=(w.length:Int)/\1<w.length/\0<=PK (w++q) w.length/\(SG.lookup (PK (w++q) w.length)).getD []=[e]:=by
 unfold PK;simp only[PY,eS,QN,QV] at h;rcases h with⟨rfl,rfl⟩|⟨rfl,rfl⟩|⟨rfl,rfl⟩|⟨rfl,rfl⟩
 all_goals
  rw[Nr rfl];refine⟨?_,M3,M3,M3⟩;simp[qH,rC,kD,jc,Lib.indexByte]
def TK {y A z B:Bs} (h1:(59:UInt8)∉y) (h2:(59:UInt8)∉A) (h:y++59::z=A++59::B):y=A:=by
 have e1:=Rr (b:=z) h1;have e2:=Rr (b:=B) h2;rw[h,e2] at e1;simp only[di,eS] at e1;exact e1.1.symm
def Se (y r:Bs) (hy:(59:UInt8)∉y) (he:og (38::(y++59::r))=none):Lib.index Pq (32::(y++[59]++[32]))<0:=by
 rcases Lib.index_spec Pq (32::(y++[59]++[32])) with⟨h,_⟩|⟨i,h,hi,ho,_⟩
 ·rw[h];decide
 exfalso;obtain⟨z,hz⟩:=EJ.1 ho;have key:∀(A B:Bs),(59:UInt8)∉A->Pq.drop i=32::(A++59::B)->(38::(A++[59]))∈[qH,rC,kD,jc]->False:=by
  intro A B hA hd hm;rw[hd] at hz;simp only[List.cons_append,SS,Q5,Su,List.nil_append] at hz;have:=TK hy hA hz;subst this;unfold og at he;have hp:∀w∈[qH,rC,kD,jc],w=38::(y++[59])->w.isPrefixOf (38::(y++59::r))=true:=λw _ hw=>by
   rw[hw,EJ];exact⟨r,tM⟩
  simp only[PY,QN,QV] at hm;rcases hm with hm|hm|hm|hm<;>rw[hp _ tM hm.symm] at he<;>simp at he
  ·split at he<;>simp at he
  ·split at he
   ·simp at he
   split at he<;>simp at he
  split at he
  ·simp at he
  split at he
  ·simp at he
  split at he<;>simp at he
 have hlen:i<=20:=hi;have h0:∀d,Pq.drop i=d->d.head?=some 32:=by
  intro d hd;rw[hd] at hz;rw[<-hz];rfl
 have cs:i=0\/i=4\/i=8\/i=13\/i=19:=by
  have:(Pq.drop i).head?=some 32:=h0 _ rfl
  match i,hlen,this with
  |0,_,_|4,_,_|8,_,_|13,_,_|19,_,_=>simp
  |1,_,h|2,_,h|3,_,h|5,_,h|6,_,h|7,_,h|9,_,h|10,_,h|11,_,h|12,_,h|14,_,h|15,_,h|16,_,h|17,_,h|18,_,h|20,_,h=>exact absurd h M3
 rcases cs with rfl|rfl|rfl|rfl|rfl
 ·exact key [108,116] _ M3 rfl M3
 ·exact key [103,116] _ M3 rfl M3
 ·exact key [97,109,112] _ M3 rfl M3
 ·exact key [113,117,111,116] _ M3 rfl M3
 have:Pq.drop 19=[32]:=rfl;rw[this] at hz;simp at hz
theorem atT {c:UInt8} {z:Bs}:∀{y:Bs},c∉y->Lib.indexByte (y++c::z) c=(y.length:Int)
 |[],_=>by simp[Lib.indexByte]
 |b::y,h=>by
  simp only[PY,Xd] at h;have:(b==c)=false:=by simpa using Ss h.1
  simp only[List.cons_append,Lib.indexByte,gL,atT h.2];simp[this]
def Sf {c:UInt8} {s:Bs} (h:c∉s):Lib.indexByte s c= -1:=by
 rcases pC c s with⟨h1,_⟩|⟨m,h1,_⟩
 ·exact h1
 exact absurd (PX (Lib.indexByte_some h1).1) h
theorem Ta (r:Bs):match og (38::r) with
  |some (e,q)=>∃m:Nat,Lib.indexByte (38::r) 59+1=(m:Int)/\1<m/\m<=r.length+1/\q=(38::r).drop m/\0<=PK (38::r) m/\(SG.lookup (PK (38::r) m)).getD []=[e]
  |none=>Lib.indexByte (38::r) 59+1=0\/∃m:Nat,Lib.indexByte (38::r) 59+1=(m:Int)/\1<m/\m<=r.length+1/\PK (38::r) m<0:=by
 have hit:∀(w:Bs) (e:UInt8),(w,e)∈[(qH,(60:UInt8)),(rC,62),(kD,38),(jc,34)]->w.isPrefixOf (38::r)=true ->
   ∃m:Nat,Lib.indexByte (38::r) 59+1=(m:Int)/\1<m/\m<=r.length+1/\(38::r).drop w.length=(38::r).drop m/\0<=PK (38::r) m/\(SG.lookup (PK (38::r) m)).getD []=[e]:=by
  intro w e hm hp;obtain⟨q,hq⟩:=EJ.1 hp;obtain⟨g1,g2,g3,g4⟩:=SH w e hm q;rw[hq] at g1 g3 g4;have hl:(w++q).length=(38::r).length:=by rw[hq]
  simp only[ko,gL] at hl;exact⟨w.length,g1,g2,sf,rfl,g3,g4⟩
 cases he:og (38::r) with
 |some x=>
  obtain⟨e,q⟩:=x;simp only;unfold og at he;split at he
  ·rename_i hp;simp only[di,eS] at he;obtain⟨rfl,rfl⟩:=he;exact hit qH 60 tM hp
  split at he
  ·rename_i hp;simp only[di,eS] at he;obtain⟨rfl,rfl⟩:=he;exact hit rC 62 tM hp
  split at he
  ·rename_i hp;simp only[di,eS] at he;obtain⟨rfl,rfl⟩:=he;exact hit kD 38 tM hp
  split at he
  ·rename_i hp;simp only[di,eS] at he;obtain⟨rfl,rfl⟩:=he;exact hit jc 34 tM hp
  cases he
 |none=>
 simp only;cases hc:Nh [59] r with
 |none=>
  left;have:=asV.1 hc;rw[Sf (by simpa using this)];rfl
 |some x=>
 obtain⟨y,z⟩:=x;obtain⟨e,hy⟩:=Nn hc;subst e;right;have S3:Lib.indexByte (38::(y++59::z)) 59+1=((y.length+2:Nat):Int):=by
  have:=atT (c:=59) (y:=38::y) (z:=z) (by simpa using hy);simp only[List.cons_append,gL] at this;rw[this];rfl
 refine⟨y.length+2,S3,sf,tM,?_⟩;unfold PK;rw[show((38::(y++59::z)).take (y.length+2)).drop 1=y++[59] by
  simp[List.take_append,P5]]
 exact Se y z hy he
def T' (c:UInt8) (n:Nat) (hn:n<256):(((c.toNat:Int))==(n:Int))=(c==UInt8.ofNat n):=by
 rw[SZ];simp only[S'];constructor
 ·intro h;refine Yb ?_;simp only[YG];omega
 rintro rfl;simp only[YG];omega

def Nx (v:Bool) (s:Bs):AV:=match MY v s with
 |some t=> .gf [.str t,.bool true]
 |none=> .gf [.str [],.bool false]
section
variable {P:Program} {G:Nat->Option (List IV)}
def N1 (MT NY bR:Nat):AC:=
(aM [aQ 4 (.iC (.c (.str []))),jM 5 false] (aM [aQ 6 (.iC (.c (.str [])))] (.seq (.block 0 (.loop (.seq (aM [MR 10 0,aQ 11 (.bin .neq (.t 10) (.c (.str [])))] (.cond (.t 11) .skip (.exit 0))) (.block 1 (aM [MR 12 0,aQ 13 (.lj (.t 12) (jS 0)),MR 7 13] (aM [gH 8 1] (.seq (.block 2 (aM [MR 19 7,aQ 20 (.bin .eql (.t 19) (.c (.int .u8 38))),MR 18 20] (.cond (.t 18) (aM [MR 21 0,aQ 22 (.call MT [(.t 21),(.c (.int .u8 59))]),eY 23 .add 22 1,MR 8 23] (aM [MR 24 0,MR 25 8,aQ 26 (.max (.t 25) (jS 1)),aQ 27 (.ZL (.t 24) (some (jS 1)) (some (.t 26))),aQ 28 (.bin .add (.c (.str [32])) (.t 27)),aQ 29 (.bin .add (.t 28) (.c (.str [32]))),aQ 30 (.call NY [(.c (.str [32,108,116,59,32,103,116,59,32,97,109,112,59,32,113,117,111,116,59,32])),(.t 29)]),MR 9 30] (.seq (aM [MR 31 8,eY 32 .eql 31 0,MR 33 32,gV 34 33 9,iR 35 33 (.bin .lss (.t 34) (jS 0)),sj 36 33 35] (.cond (.t 36) (aM [aQ 4 (.iC (.c (.str []))),jM 5 false] .ret) .skip)) (.cq [MR 37 6,aQ 38 (.qM [(0,[60]),(4,[62]),(8,[38]),(13,[34])]),MR 39 38,MR 40 9,aQ 41 (.sy (.t 39) (.t 40)),et 42 .add 37 41,MR 6 42])))) (aM [MR 44 7,aQ 45 (.bin .eql (.t 44) (.c (.int .u8 60))),MR 46 45,gV 47 46 7,iR 48 46 (.bin .eql (.t 47) (.c (.int .u8 62))),sj 49 46 48,MR 50 49,gV 51 50 7,iR 52 50 (.bin .eql (.t 51) (.c (.int .u8 34))),gV 53 50 52,cU 54 53 1,iR 55 50 (.pick (.t 53) (.t 54) (me false)),sj 56 50 55,MR 57 56,gV 58 57 7,iR 59 57 (.call bR [(.t 58)]),iR 60 57 (.not (.t 59)),sj 61 57 60,MR 43 61] (.cond (.t 43) (aM [aQ 4 (.iC (.c (.str []))),jM 5 false] .ret) (.cq [MR 14 6,MR 15 0,aQ 16 (.ZL (.t 15) none (some (jS 1))),et 17 .add 14 16,MR 6 17])))))) (.cq [MR 62 0,MR 63 8,aQ 64 (.ZL (.t 62) (some (.t 63)) none),MR 0 64])))))))) (aM [MR 65 6,MR 4 65,jM 5 true] .ret))))
set_option maxHeartbeats 1000000 in
def Tc {MS MT NY bR:Nat} (hF:aw P G MS=some (66,[(none,4),(none,5)],(N1 MT NY bR).bare)) (v:Bool) (s:Bs) (hs:s.length<=4096)
  (hB:∀s:Bs,s.length<=4096->au P G MT [.str s,.int .u8 59] (.int .i64 (Lib.indexByte s 59)))
  (hI:∀t:Bs,t.length<=5000->au P G NY [.str Pq,.str t] (.int .i64 (Lib.index Pq t)))
  (hP:∀c:UInt8,au P G bR [.int .u8 (c.toNat:Int)] (.bool (dI c))):au P G MS [.str s,.bool v] (Nx v s):=by
 refine aR hF tM aae (by unfold Nx;cases MY v s<;>simp[AV.an,ah]) ?_;unfold N1;simp only[↓aX,mX,seval];refine VR (σ:={q:Bs×Bs // q.1.length+q.2.length<=4096/\MY v s=(MY v q.1).map λt=>q.2++t}) (λq=>[(0,.str q.1.1),(1,.bool v),(6,.str q.1.2)]) (λq=>q.1.1.length) ⟨(s,[]),by simpa using hs,tM⟩ (λ_=>rfl) ?_ ?_
 ·exact⟨by simp only[↓aX,mX,seval],aah⟩
 rintro⟨⟨x,out⟩,hl,hm⟩;simp only at hl hm;have no:MY v x=none->Nx v s= .gf [.str [],.bool false]:=λh=>by unfold Nx;rw[hm,h];rfl
 simp only[↓aX,mX,seval];cases x with
 |nil=>
  have:Nx v s= .gf [.str out,.bool true]:=by unfold Nx;rw[hm,Q6];simp
  simp only[↓aX,mX,seval,show(([]:Bs)==[])=true from rfl,↓h_,this]
 |cons c r=>
 simp only[List.length_cons] at hl;simp only[↓aX,mX,seval,show(c::r==[])=false from rfl,show(0:Int)<=0 from Int.le_refl 0,List.getElem?_cons_zero,Option.map_some];rw[show((c.toNat:Int)==38)=(c==38) from T' c 38 M3];by_cases qv:c=38
 ·subst qv;simp only[↓aX,mX,seval,beq_self_eq_true];refine ay (hB (38::r) aak) ?_;simp only[↓aX,mX,seval];have S3:=Ta r;have hlen:(38::r).length=r.length+1:=rfl;have fin:∀n:Nat,n<=r.length+1->((List.take n (38::r)).drop 1).length<=4096:=λn hn=>by simp;omega
  have v8:∀x:Bs,x.length<=4096->1+x.length<=9223372036854775807/\x.length+1+1<=9223372036854775807:=λx h=>by omega
  cases he:og (38::r) with
  |none=>
   rw[he] at S3;have FQ:=no (by rw[PI,he]);simp only at S3;rcases S3 with h0|⟨m,h0,h1,h2,h3⟩
   ·have hw:IntKind.i64.wrap (Lib.indexByte (38::r) 59+1)=0:=(by rw[h0];rfl);simp only[↓aX,mX,seval,hw,show((1:Int)>0)=True by simp,lk,show(0:Int)<=1 by decide,show(1:Int).toNat=1 from rfl,true_and,hlen,show 1<=r.length+1 by omega,Option.bind_some,Option.map_some,Nat.le_refl,List.take_succ_cons,List.take_zero,List.drop_succ_cons,List.drop_nil,List.length_cons,List.length_nil,List.append_nil,show 1+0<=9223372036854775807 by decide,show 0+1+(0+1)<=9223372036854775807 by decide,List.cons_append,List.nil_append];refine ay (hI [32,32] tM) ?_;simp only[↓aX,mX,seval,hw,show((0:Int)==0)=true from rfl,↓h_,FQ]
   have hw:IntKind.i64.wrap (Lib.indexByte (38::r) 59+1)=(m:Int):=(by rw[h0];exact wrap64 sf sf);obtain⟨x,hx⟩:∃x,x=((38::r).take m).drop 1:=⟨_,rfl⟩;have Ms:=fin m h2;rw[<-hx] at Ms;unfold PK at h3;rw[<-hx] at h3;simp only[↓aX,mX,seval,hw,show((1:Int)>(m:Int))=False by simp;omega,if_false,lk,Int.natCast_nonneg,Int.toNat_natCast,true_and,hlen,h2,Option.bind_some,Option.map_some,show(0:Int)<=1 by decide,show(1:Int).toNat=1 from rfl,show 1<=m by omega,<-hx,List.length_cons,List.length_nil,List.cons_append,List.nil_append,v8 x Ms];refine ay (hI (32::(x++[32])) aak) ?_;simp only[↓aX,mX,seval,hw,show((m:Int)==0)=false by simp;omega,show decide (Lib.index Pq (32::(x++[32]))<0)=true by simpa using h3,↓h_,FQ]
  |some y=>
  obtain⟨e,q⟩:=y;rw[he] at S3;simp only at S3;obtain⟨m,h0,h1,h2,rfl,h4,h5⟩:=S3;have hw:IntKind.i64.wrap (Lib.indexByte (38::r) 59+1)=(m:Int):=by rw[h0];exact wrap64 sf sf
  obtain⟨x,hx⟩:∃x,x=((38::r).take m).drop 1:=⟨_,rfl⟩;have Ms:=fin m h2;rw[<-hx] at Ms;unfold PK at h4 h5;rw[<-hx] at h4 h5;unfold SG at h5;simp only[↓aX,mX,seval,hw,show((1:Int)>(m:Int))=False by simp;omega,if_false,lk,Int.natCast_nonneg,Int.toNat_natCast,true_and,hlen,h2,Option.bind_some,Option.map_some,show(0:Int)<=1 by decide,show(1:Int).toNat=1 from rfl,show 1<=m by omega,<-hx,List.length_cons,List.length_nil,List.cons_append,List.nil_append,v8 x Ms];refine ay (hI (32::(x++[32])) aak) ?_;simp only[↓aX,mX,seval,hw,show((m:Int)==0)=false by simp;omega,show decide (Lib.index Pq (32::(x++[32]))<0)=false by simpa using h4,h5,List.length_cons,List.length_nil,show out.length+(0+1)<=9223372036854775807 by omega,show out.length+1<=9223372036854775807 by omega,lk,Int.natCast_nonneg,Int.toNat_natCast,true_and,hlen,h2,Option.bind_some,Option.map_some,Nat.le_refl,List.take_length];have I9:((38::r).drop m).length=r.length+1 - m:=tM
  refine⟨⟨((38::r).drop m,out++[e]),by simp only[List.length_append,List.length_singleton,I9];omega,?_⟩,by simp only[I9];omega,?_⟩
  ·rw[hm,PI,he];simp only;cases MY v ((38::r).drop m)<;>simp
  exact⟨by simp only[↓aX,mX,seval],aah⟩
 have UC:(c==38)=false:=by simpa using qv
 have nb:∀n:Nat,n<256->((c.toNat:Int)==(n:Int))=(c==UInt8.ofNat n):=T' c;have cons:¬yu v c->¬(c=62\/arM c=false)->MY v (c::r)=(MY v r).map λt=>c::t:=λh1 h2=>QC h1 qv h2 r;simp only[↓aX,mX,seval,UC];rw[show((c.toNat:Int)==60)=(c==60) from nb 60 M3];by_cases tv:c=60
 ·simp only[↓aX,mX,seval,show(c==60)=true by simpa using tv,↓h_,no (Po (.inl tv) r)]
 simp only[↓aX,mX,seval,show(c==60)=false by simpa using tv];rw[show((c.toNat:Int)==62)=(c==62) from nb 62 M3];have Q7:∀b,v=b->(c=34->b=false)->¬yu v c:=λb hb h h2=>by
  rcases h2 with h2|⟨h2,h3⟩
  ·exact tv h2
  rw[hb,h h2] at h3;cases h3
 by_cases yH:c=62
 ·simp only[↓aX,mX,seval,show(c==62)=true by simpa using yH,↓h_,no (PJ (by rintro(h|⟨h,_⟩)<;>simp[yH] at h) qv (.inl yH) r)]
 have Td:(c==62)=false:=by simpa using yH
 have Ty:(c==60)=false:=by simpa using tv
 simp only[↓aX,mX,seval,Td];rw[show((c.toNat:Int)==34)=(c==34) from nb 34 M3];cases GO:(c==34) with
 |true=>
  have Sg:c=34:=by simpa using GO
  cases hv:v with
  |true=>simp only[↓aX,mX,seval,GO,hv,Ty,Td,↓h_,show Nx true s= .gf [.str [],.bool false] from by rw[<-hv];exact no (Po (.inr ⟨Sg,hv⟩) r)]
  |false=>
  have hp:dI c=true:=by rw[Sg];decide
  simp only[↓aX,mX,seval,GO,hv,Ty,Td];refine ay (hP c) ?_;subst hv;simp only[↓aX,mX,seval,GO,Ty,Td,hp,Bool.not_true,lk,show(0:Int)<=1 by decide,show(1:Int).toNat=1 from rfl,true_and,List.length_cons,show 1<=r.length+1 by omega,Option.bind_some,Option.map_some,Nat.zero_le,List.take_succ_cons,List.take_zero,List.drop_zero,List.length_nil,show out.length+(0+1)<=9223372036854775807 by omega,show out.length+1<=9223372036854775807 by omega,List.drop_succ_cons,Nat.le_refl,List.take_length];refine⟨⟨(r,out++[c]),aaK,?_⟩,aac,?_⟩
  ·rw[hm,cons (Q7 false rfl λ_=>rfl) (by rintro(h|h);exact yH h;rw[<-OD,hp] at h;cases h)];cases MY false r<;>simp
  exact⟨by simp only[↓aX,mX,seval],aah⟩
 |false=>
 have Sg:c≠34:=by simpa using GO
 simp only[↓aX,mX,seval,GO,Ty,Td];refine ay (hP c) ?_;cases hp:dI c with
 |false=>simp only[↓aX,mX,seval,GO,Ty,Td,hp,Bool.not_false,↓h_,no (PJ (Q7 v rfl λh=>absurd h Sg) qv (.inr (by rw[<-OD];exact hp)) r)]
 |true=>
 simp only[↓aX,mX,seval,GO,Ty,Td,hp,Bool.not_true,lk,show(0:Int)<=1 by decide,show(1:Int).toNat=1 from rfl,true_and,List.length_cons,show 1<=r.length+1 by omega,Option.bind_some,Option.map_some,Nat.zero_le,List.take_succ_cons,List.take_zero,List.drop_zero,List.length_nil,show out.length+(0+1)<=9223372036854775807 by omega,show out.length+1<=9223372036854775807 by omega,List.drop_succ_cons,Nat.le_refl,List.take_length];refine⟨⟨(r,out++[c]),aaK,?_⟩,aac,?_⟩
 ·rw[hm,cons (Q7 v rfl λh=>absurd h Sg) (by rintro(h|h);exact yH h;rw[<-OD,hp] at h;cases h)];cases MY v r<;>simp
 exact⟨by simp only[↓aX,mX,seval],aah⟩
end

def Ob:M8 []=some []:=by rw[M8]
theorem OL {q:Bs}:M8 (60::q)=match Nh [62] (60::q) with
  |some (a,b)=>(M8 b).map λl=>(a++[62])::l
  |none=>none:=by
 rw[M8,P8 rfl];split
 ·rename_i a b h;rw[h]
 rename_i h;rw[h]
theorem OM {c:UInt8} {q:Bs} (h:c≠60):M8 (c::q)=match Nh [60] (c::q) with
  |some (a,b)=>(M8 (60::b)).map λl=>a::l
  |none=>some [c::q]:=by
 rw[M8,Ev h];cases hc:Nh [60] (c::q) with
 |none=>
  have hn:=asV.1 hc;have h1:∀s:Bs,60∉s->(s.takeWhile λx=> !(x==60))=s/\(s.dropWhile λx=> !(x==60))=[]:=by
   intro s;induction s with
   |nil=>simp
   |cons d s ih=>
   intro hs;simp only[PY,Xd] at hs;have hd:(!(d==60))=true:=(by simpa using Ss hs.1);simp[hd,ih hs.2]
  rw[(h1 _ hn).1,(h1 _ hn).2,Ob];rfl
 |some x=>
 obtain⟨a,b⟩:=x;obtain⟨e,ha⟩:=Nn hc;have h1:∀a:Bs,60∉a->((a++60::b).takeWhile λx=> !(x==60))=a/\((a++60::b).dropWhile λx=> !(x==60))=60::b:=by
  intro s;induction s with
  |nil=>simp
  |cons d s ih=>
  intro hs;simp only[PY,Xd] at hs;have hd:(!(d==60))=true:=by simpa using Ss hs.1
  simp[hd,ih hs.2]
 rw[e,(h1 a ha).1,(h1 a ha).2]
def Of (s:Bs):AV:=match M8 s with
 |some l=> .gf [.list (l.map IV.str),.bool true]
 |none=> .gf [.nil0,.bool false]
def Si (l:List Bs):Flat (l.map IV.str):=λy hy z hz cs e=>by
 simp only[pb] at hy;obtain⟨s,_,rfl⟩:=hy;simp only[IV.cells,bY] at hz;subst hz;cases e
section
variable {P:Program} {G:Nat->Option (List IV)}
def NS (MT:Nat):AC:=
(aM [zi 2,jM 3 false] (aM [zi 4] (.gh (.own 4 1) (.seq (.block 0 (.loop (.seq (aM [MR 6 0,aQ 7 (.bin .neq (.t 6) (.c (.str [])))] (.cond (.t 7) .skip (.exit 0))) (.block 1 (aM [MR 8 0,aQ 9 (.call MT [(.t 8),(.c (.int .u8 60))]),MR 5 9] (.seq (aM [MR 10 5,eY 11 .eql 10 0] (.cond (.t 11) (aM [MR 12 0,aQ 13 (.call MT [(.t 12),(.c (.int .u8 62))]),eY 14 .add 13 1,MR 5 14] (aM [MR 15 5,eY 16 .eql 15 0] (.cond (.t 16) (aM [zi 2,jM 3 false] .ret) .skip))) .skip)) (.seq (aM [MR 17 5,eY 18 .lss 17 0] (.cond (.t 18) (.cq [MR 19 0,oF 20 19,MR 5 20]) .skip)) (aM [MR 21 4,MR 22 0,MR 23 5,aQ 24 (.ZL (.t 22) none (some (.t 23))),aQ 25 (.lits 1 1 [(.str [])] [(0,(.t 24))]),aQ 26 (.app (.t 21) (.t 25) 1 16),MR 4 26] (.cq [MR 27 0,MR 28 5,aQ 29 (.ZL (.t 27) (some (.t 28)) none),MR 0 29]))))))))) (.gh (.zS (.loc 4) 4) (aM [MR 30 4,MR 2 30,jM 3 true] .ret))))))
set_option maxHeartbeats 1000000 in
def SI {M_ MT:Nat} (hF:aw P G M_=some (31,[(none,2),(none,3)],(NS MT).bare)) (s:Bs) (hs:s.length<=4096)
  (hB:∀(c:UInt8) (s:Bs),s.length<=4096->au P G MT [.str s,.int .u8 (c.toNat:Int)] (.int .i64 (Lib.indexByte s c))):au P G M_ [.str s] (Of s):=by
 refine aR hF tM aae (by unfold Of;cases M8 s<;>simp[AV.an,ah]) ?_;unfold NS;simp only[↓aX,mX,seval];have T_:∀s:Bs,s.length<=4096->au P G MT [.str s,.int .u8 60] (.int .i64 (Lib.indexByte s 60)):=hB 60;have Ua:∀s:Bs,s.length<=4096->au P G MT [.str s,.int .u8 62] (.int .i64 (Lib.indexByte s 62)):=hB 62;refine xL 4 1 (σ:={q:Bs×List Bs // q.1.length+q.2.length<=4096/\M8 s=(M8 q.1).map λt=>q.2++t}) (λq=>[(0,.str q.1.1)]) (λq=>q.1.2.map IV.str) (λq=>q.1.1.length) ⟨(s,[]),by simpa using hs,tM⟩ (λ_=>rfl) ?_ ?_
 ·simp only[Gi,↓aX,mX,seval];exact⟨4,[],rfl,rfl,rfl⟩
 rintro⟨⟨x,l⟩,hl,hm⟩;simp only at hl hm;have no:M8 x=none->Of s= .gf [.nil0,.bool false]:=λh=>by unfold Of;rw[hm,h];rfl
 simp only[↓aX,mX,seval];cases x with
 |nil=>
  simp only[↓aX,mX,seval,show(([]:Bs)==[])=true from rfl];refine⟨1,l.map IV.str,0,_,rfl,rfl,tM,Si l,?_⟩;have:Of s= .gf [.list (l.map IV.str),.bool true]:=by unfold Of;rw[hm,Ob];simp
  simp only[↓aX,mX,seval,↓h_,List.drop_zero,this,List.take_of_length_le (show(l.map IV.str).length<=l.length by simp)]
 |cons c q=>
 simp only[List.length_cons] at hl;have hlen:(c::q).length=q.length+1:=rfl;simp only[↓aX,mX,seval,show(c::q==[])=false from rfl];refine ay (T_ (c::q) aak) ?_;simp only[↓aX,mX,seval];by_cases tv:c=60
 ·subst tv;have h0:Lib.indexByte (60::q) 60=0:=by simp[Lib.indexByte]
  simp only[↓aX,mX,seval,h0,show((0:Int)==0)=true from rfl];refine ay (Ua (60::q) aak) ?_;cases hc:Nh [62] (60::q) with
  |none=>
   have h1:=Sf (asV.1 hc);simp only[↓aX,mX,reduceCtorEq,Int.reduceLT,Nat.reduceEqDiff,Int.reduceLE,Nat.reduceLT,Nat.reduceLeDiff,Nat.reduceAdd,Nat.reduceMul,Int.reduceToNat,h1,show IntKind.i64.wrap (-1+1)=0 from rfl,show((0:Int)==0)=true from rfl,↓h_,no (by rw[OL,hc])]
  |some y=>
  obtain⟨a,b⟩:=y;obtain⟨e,ha⟩:=Nn hc;have h1:Lib.indexByte (60::q) 62=(a.length:Int):=by rw[e];exact atT ha
  have II:a.length+1+b.length=q.length+1:=by
   have:=congrArg List.length e;simp at this;omega
  have h2:(60::q).take (a.length+1)=a++[62]/\(60::q).drop (a.length+1)=b:=by
   rw[e];constructor
   ·rw[show a++62::b=(a++[62])++b by simp];exact List.take_left' tM
   rw[show a++62::b=(a++[62])++b by simp];exact List.drop_left' tM
  have hw:IntKind.i64.wrap ((a.length:Int)+1)=((a.length+1:Nat):Int):=wrap64 sf sf;simp only[↓aX,mX,seval,h1,hw,show(((a.length+1:Nat):Int)==0)=false by simp;omega,show decide (((a.length+1:Nat):Int)<0)=false by simp;omega,lk,Int.natCast_nonneg,Int.toNat_natCast,true_and,hlen,show a.length+1<=q.length+1 by omega,Option.bind_some,Option.map_some,Nat.zero_le,List.drop_zero,h2.1];rw[qg 1 16 26 4 (l.map IV.str) (.str (a++[62])) aai tM rfl aaw sf M3 M3 aat];simp only[↓aX,mX,seval,h1,hw,lk,Int.natCast_nonneg,Int.toNat_natCast,true_and,hlen,show a.length+1<=q.length+1 by omega,Option.bind_some,Option.map_some,Nat.zero_le,Nat.le_refl,List.take_length,h2.2];refine⟨⟨(b,l++[a++[62]]),aaK,?_⟩,aac,?_⟩
  ·rw[hm,OL,hc];simp only;cases M8 b<;>simp
  exact Gj 26 (by simp only[↓aX,mX,seval]) ⟨rfl,trivial⟩ abE tM
 cases hc:Nh [60] (c::q) with
 |none=>
  have h1:=Sf (asV.1 hc);simp only[↓aX,mX,seval,h1,show((-1:Int)==0)=false from rfl,decide_true,lk,Int.natCast_nonneg,Int.toNat_natCast,true_and,hlen,Option.bind_some,Option.map_some,Nat.zero_le,List.drop_zero,Nat.le_refl,show List.take (q.length+1) (c::q)=c::q from List.take_length (l:=c::q)];rw[qg 1 16 26 4 (l.map IV.str) (.str (c::q)) aai tM rfl aaw sf M3 M3 aat];simp only[↓aX,mX,seval,h1,lk,Int.natCast_nonneg,Int.toNat_natCast,true_and,hlen,Option.bind_some,Option.map_some,Nat.zero_le,Nat.le_refl,show List.take (q.length+1) (c::q)=c::q from List.take_length (l:=c::q),show List.drop (q.length+1) (c::q)=[] from List.drop_length (l:=c::q)];refine⟨⟨([],l++[c::q]),by simp only[List.length_append,List.length_singleton,List.length_nil];omega,?_⟩,abq,?_⟩
  ·rw[hm,OM tv,hc,Ob];simp
  exact Gj 26 (by simp only[↓aX,mX,seval]) ⟨rfl,trivial⟩ abE tM
 |some y=>
 obtain⟨a,b⟩:=y;obtain⟨e,ha⟩:=Nn hc;have h1:Lib.indexByte (c::q) 60=(a.length:Int):=by rw[e];exact atT ha
 have II:a.length+1+b.length=q.length+1:=by
  have:=congrArg List.length e;simp at this;omega
 have U2:a.length≠0:=λh=>by
  have:=List.length_eq_zero_iff.1 h;subst this;simp at e;exact tv e.1
 have h2:(c::q).take a.length=a/\(c::q).drop a.length=60::b:=by
  rw[e];exact⟨List.take_left' rfl,List.drop_left' rfl⟩
 simp only[↓aX,mX,seval,h1,show((a.length:Int)==0)=false by rw[beq_eq_false_iff_ne];omega,show decide ((a.length:Int)<0)=false by rw[decide_eq_false_iff_not];omega,lk,Int.natCast_nonneg,Int.toNat_natCast,true_and,hlen,show a.length<=q.length+1 by omega,Option.bind_some,Option.map_some,Nat.zero_le,List.drop_zero,h2.1];rw[qg 1 16 26 4 (l.map IV.str) (.str a) aai tM rfl aaw sf M3 M3 aat];simp only[↓aX,mX,seval,h1,lk,Int.natCast_nonneg,Int.toNat_natCast,true_and,hlen,show a.length<=q.length+1 by omega,Option.bind_some,Option.map_some,Nat.zero_le,Nat.le_refl,List.take_length,h2.2,show List.take (q.length+1) (c::q)=c::q from List.take_length (l:=c::q)];refine⟨⟨(60::b,l++[a]),by simp only[List.length_append,List.length_singleton,List.length_cons,List.length_nil];omega,?_⟩,by simp only[List.length_cons];omega,?_⟩
 ·rw[hm,OM tv,hc];simp only;cases M8 (60::b)<;>simp
 exact Gj 26 (by simp only[↓aX,mX,seval]) ⟨rfl,trivial⟩ abE tM
end

def Oc (acc:List Attr) (m:Bs):List Attr×Bool:=
 if m.all isSp then(acc,true)
 else if(m.dropWhile isSp).length=m.length then(acc,false)
 else match h:Nj (m.dropWhile isSp) with
  |some (a,r)=>Oc (gF acc a) r
  |none=>(acc,false)
termination_by m.length
decreasing_by
 have:=OT h;have:=jf isSp m;omega
def O1 {m:Bs} (acc:List Attr) (h:m.all isSp=true):Oc acc m=(acc,true):=by rw[Oc,P8 h]
def Ph {m:Bs} (acc:List Attr) (h:m.all isSp=false) (h2:(m.dropWhile isSp).length=m.length\/Nj (m.dropWhile isSp)=none):Oc acc m=(acc,false):=by
 rw[Oc,Ev (by simp[h])];split
 ·rfl
 rename_i hl;have h3:=h2.resolve_left hl;split
 ·rename_i a r h4;rw[h3] at h4;cases h4
 rfl
def P9 {m r:Bs} {a:Attr} (acc:List Attr) (h:m.all isSp=false) (h2:¬(m.dropWhile isSp).length=m.length) (h3:Nj (m.dropWhile isSp)=some (a,r)):Oc acc m=Oc (gF acc a) r:=by
 rw[Oc,Ev (by simp[h]),Ev h2];split
 ·rename_i a' r' h4;rw[h3] at h4;simp only[di,eS] at h4;obtain⟨rfl,rfl⟩:=h4;rfl
 rename_i h4;rw[h3] at h4;cases h4
theorem Sj:∀(n:Nat) (m:Bs) (acc:List Attr),m.length<=n->match Nc m with
  |some az=>Oc acc m=(az.foldl gF acc,true)
  |none=>(Oc acc m).2=false:=by
 intro n;induction n with
 |zero=>
  intro m acc hm;have:m=[]:=Rg.1 sf;subst this;rw[Nc,P8 abL];exact O1 acc abL
 |succ n ih=>
 intro m acc hm;cases h1:m.all isSp with
 |true=>rw[Nc,P8 h1];exact O1 acc h1
 |false=>
 by_cases h2:(m.dropWhile isSp).length=m.length
 ·rw[Nc,Ev (by simp[h1]),P8 h2];simp only[Ph acc h1 (.inl h2)]
 cases h3:Nj (m.dropWhile isSp) with
 |none=>
  rw[Nc,Ev (by simp[h1]),Ev h2];split
  ·rename_i h4;split at h4
   ·rename_i a r h5;rw[h3] at h5;cases h5
   cases h4
  simp only[Ph acc h1 (.inr h3)]
 |some x=>
 obtain⟨a,r⟩:=x;have bI:=OT h3;have hle:=jf isSp m;have:=ih r (gF acc a) sf;rw[P9 acc h1 h2 h3];have e:Nc m=(Nc r).map λl=>a::l:=by
  rw[Nc,Ev (by simp[h1]),Ev h2];split
  ·rename_i a' r' h4;rw[h3] at h4;simp only[di,eS] at h4;obtain⟨rfl,rfl⟩:=h4;rfl
  rename_i h4;rw[h3] at h4;cases h4
 rw[e];cases hr:Nc r with
 |none=>rw[hr] at this;exact this
 |some az=>rw[hr] at this;exact this
def Pj (m:Bs):Bs:=Lib.trimSuffix (Lib.trimPrefix m [60]) [62]
def PT (m:Bs):Bool:=[47].isSuffixOf (Pj m)
def Om (m:Bs):Bs:=if PT m then(Pj m).take ((Pj m).length - 1) else Pj m
def NP (m:Bs):Bs:=(Om m).takeWhile akP
def Q8 (m:Bs):List Attr×Bool:=Oc [] ((Om m).dropWhile akP)
def ON (m:Bs):AV:= .gf [.agg [.bool false,.str (NP m),.list (cD (Q8 m).1),.nil0],.bool (PT m),.bool ((Q8 m).2&&named (NP m))]
def QD (a:Bs):let m:=60::(a++[62]);match Oa ((m.drop 1).dropLast) with
  |some (nm,az,e)=>NP m=nm/\(Q8 m).1=az/\PT m=e/\((Q8 m).2&&named (NP m))=true
  |none=>((Q8 m).2&&named (NP m))=false:=by
 have h1:Pj (60::(a++[62]))=a:=by
  unfold Pj Lib.trimPrefix Lib.trimSuffix Lib.hasPrefix Lib.hasSuffix;simp
 have h2:((60::(a++[62])).drop 1).dropLast=a:=tM
 have h3:PT (60::(a++[62]))=(a.getLast?==some 47):=by
  unfold PT;rw[h1,SZ,Xf];simp only[S'];constructor
  ·rintro⟨t,rfl⟩;simp
  intro h;have Vi:a≠[]:=by rintro rfl;simp at h
  rw[XH Vi,di] at h;exact⟨a.dropLast,by rw[<-h];exact XN Vi⟩
 have h4:Om (60::(a++[62]))=if a.getLast?==some 47 then a.dropLast else a:=by
  unfold Om;rw[h3,h1,List.dropLast_eq_take]
 simp only[h2];unfold Oa;simp only;rw[<-h4];have hR:=Sj _ ((Om (60::(a++[62]))).dropWhile akP) [] (PW _);unfold Q8 NP;cases hA:Nc ((Om (60::(a++[62]))).dropWhile akP) with
 |none=>
  rw[hA] at hR;simp only[X6,hR,VD]
 |some az=>
 rw[hA] at hR;simp only[EF,hR,Vn];cases hn:named ((Om (60::(a++[62]))).takeWhile akP) with
 |true=>simp[h3];rfl
 |false=>simp
def TL (a b:Bs):(!(Op.bytesLess a b||a==b))=Op.bytesLess b a:=by
 rcases tl a b with h|h|h
 ·rw[h,ny h];rfl
 ·subst h;simp[qq]
 rw[h,ny h];have:(a==b)=false:=by
  rw[SV];rintro rfl;rw[qq] at h;cases h
 rw[this];rfl
def Sk {a y z:Bs} (h1:Op.bytesLess a y=true) (h2:Op.bytesLess z y=false):Op.bytesLess a z=true:=by
 rcases tl z y with h|h|h
 ·rw[h] at h2;cases h2
 ·rw[h];exact h1
 exact rG h1 h
def PL {l:List Attr} {a:Attr} {k:Nat} (hs:qx l) (hk:∀y∈l.drop k,Op.bytesLess a.name y.name=true) (h0:k=0\/∃z,l[k - 1]?=some z/\0<k/\Op.bytesLess a.name z.name=false):gF l a=l.take k++a::l.drop k:=by
 have:=uX (x:=a) (pre:=l.take k) (suf:=l.drop k) (λy hy=> ?_) hk
 ·rwa[tO] at this
 rcases h0 with rfl|⟨z,hz,sr,bI⟩
 ·simp at hy
 have Hm:k - 1<l.length:=(yY.1 hz).1;have e:l.take k=l.take (k - 1)++[z]:=by
  have:=Ro (l:=l) (i:=k - 1);rw[show k - 1+1=k by omega,hz] at this;exact this
 rw[e] at hy;rcases QL.1 hy with hy|hy
 ·have LV:qx (l.take (k - 1)++l.drop (k - 1)):=by rw[tO];exact hs
  have h3:=(rT LV).2 y hy z (by rw[EK Hm,(yY.1 hz).2];simp);cases hc:Op.bytesLess a.name y.name with
  |false=>rfl
  |true=>rw[Sk hc h3] at bI;cases bI
 simp only[bY] at hy;subst hy;exact bI

theorem S4 {p:Bs} (hp:p≠[]):∀s:Bs,Lib.cut s p=match Nh p s with
  |some (a,b)=>(a,b,true)
  |none=>(s,[],false):=by
 have key:∀s:Bs,match Nh p s with
   |some (a,b)=>Lib.index s p=(a.length:Int)/\s.take a.length=a/\s.drop (a.length+p.length)=b
   |none=>Lib.index s p= -1:=by
  intro s;induction s with
  |nil=>
   simp only[Nh];rcases Lib.index_spec [] p with⟨h,_⟩|⟨i,h,hi,ho,_⟩
   ·exact h
   have:i=0:=(by simpa using hi);subst this;unfold Lib.occAt at ho;cases p with
   |nil=>exact absurd rfl hp
   |cons c p=>simp at ho
  |cons c r ih=>
  unfold Nh;by_cases h:p.isPrefixOf (c::r)=true
  ·rw[P8 h];simp only[Rm,bM];exact⟨Lib.index_first (i:=0) (zd _) h (λ_ h=>absurd h (Nat.not_lt_zero _)),tM⟩
  rw[Ev h];have h1:Lib.index (c::r) p=if Lib.index r p== -1 then -1 else Lib.index r p+1:=by
   have:=Lib.index_drop (s:=c::r) (sub:=p) (i:=1) (λj hj=>by
    have:j=0:=sf;subst this;exact qA.2 h) tM
   simpa using this
  cases hc:Nh p r with
  |none=>
   rw[hc] at ih;simp only at ih;simp only[Yh];rw[h1,ih];rfl
  |some x=>
  obtain⟨a,b⟩:=x;rw[hc] at ih;simp only at ih;obtain⟨i1,i2,i3⟩:=ih;simp only[bT,gL];have e:((a.length:Int)== -1)=false:=by rw[SV];omega
  refine⟨?_,by rw[Cj,i2],?_⟩
  ·rw[h1,i1,e];simp
  rw[show a.length+1+p.length=(a.length+p.length)+1 by omega,SX,i3]
 intro s;have:=key s;unfold Lib.cut;cases hc:Nh p s with
 |none=>rw[hc] at this;simp only at this ⊢;rw[this,Ev M3]
 |some x=>
 obtain⟨a,b⟩:=x;rw[hc] at this;simp only at this ⊢;rw[this.1,P8 sf];simp[this.2.1,this.2.2]
def Sl (s p:Bs):(Lib.cut s p).1.length<=s.length/\(Lib.cut s p).2.1.length<=s.length:=by
 unfold Lib.cut;split<;>simp;omega
def Pk {env:Env} {H:Hp} {l:Lb} {cs:List AV} (h1:env 2= .ptr l 4 0 0) (h2:H l= .live ⟨4,[cs]⟩) (h3:cs.length=4) (R:AV->Hp->Prop) :
  fX [(some (some 4),2),(none,3),(none,4)] R .ret env H=R (.gf [.agg cs,env 3,env 4]) H:=by
 simp[fX,ef,oO,gD,Wl,h1,h2,h3,P5]
section
variable {P:Program} {G:Nat->Option (List IV)}
abbrev TM (P:Program) (G:Nat->Option (List IV)) (f:Nat):Prop:=∀s t:Bs,s.length<=4096->au P G f [.str s,.str t] (.gf [.str (Lib.cut s t).1,.str (Lib.cut s t).2.1,.bool (Lib.cut s t).2.2])
def N2 (Nt M1 M9 cf de NX MS bd:Nat):AC:=
(aM [aQ 2 (.new [(.bool false),(.str []),.nil0,.nil0]),jM 3 false,jM 4 false] (aM [MR 18 0,aQ 19 (.call Nt [(.t 18),(.c (.str [60]))]),aQ 20 (.call M1 [(.t 19),(.c (.str [62]))]),MR 0 20] (aM [MR 22 0,aQ 23 (.call M9 [(.t 22),(.c (.str [47]))]),MR 21 23,ox 24 21 0,ox 25 21 1,MR 0 24,MR 5 25] (aM [MR 26 0,oF 27 26,MR 28 0,aQ 29 (.call cf [(.t 28),(.c (.str [97,98,99,100,101,102,103,104,105,106,107,108,109,110,111,112,113,114,115,116,117,118,119,120,121,122]))]),oF 30 29,et 31 .sub 27 30,MR 6 31] (aM [MR 32 0,MR 33 6,aQ 34 (.ZL (.t 32) none (some (.t 33))),aQ 35 (.sg [(.bool false),(.str []),.nil0,.nil0] [(1,(1,(.t 34)))]),aQ 7 (.new [(.bool false),(.str []),.nil0,.nil0]),gg (.store 4 (.t 7) (.t 35))] (.gh .vk (aM [MR 36 0,MR 37 6,aQ 38 (.ZL (.t 36) (some (.t 37)) none),MR 0 38] (.seq (.block 0 (.loop (.seq (aM [MR 39 0,aQ 40 (.call de [(.t 39),(.c (.str [32,10]))]),aQ 41 (.bin .neq (.t 40) (.c (.str [])))] (.cond (.t 41) .skip (.exit 0))) (.block 1 (aM [MR 42 0,aQ 43 (.call cf [(.t 42),(.c (.str [32,10]))]),MR 8 43] (aM [MR 45 8,aQ 46 (.call NX [(.t 45),(.c (.str [61,34]))]),MR 44 46,ox 47 44 0,ox 48 44 1,ox 49 44 2,MR 9 47,MR 10 48,MR 11 49] (aM [MR 51 10,aQ 52 (.call NX [(.t 51),(.c (.str [34]))]),MR 50 52,ox 53 50 0,ox 54 50 1,ox 55 50 2,MR 12 53,MR 13 54,MR 14 55] (aM [MR 57 12,aQ 58 (.call MS [(.t 57),(me true)]),MR 56 58,ox 59 56 0,ox 60 56 1,MR 15 59,MR 16 60] (.seq (aM [MR 61 8,oF 62 61,MR 63 0,oF 64 63,et 65 .eql 62 64,MR 66 65,gV 67 66 11,iR 68 66 (.not (.t 67)),sj 69 66 68,MR 70 69,gV 71 70 14,iR 72 70 (.not (.t 71)),sj 73 70 72,MR 74 73,gV 75 74 16,iR 76 74 (.not (.t 75)),sj 77 74 76,MR 78 77,gV 79 78 9,iR 80 78 (.call bd [(.t 79)]),iR 81 78 (.not (.t 80)),sj 82 78 81] (.cond (.t 82) (.gh (.xd (.loc 1) (.loc 7) 2) (aM [gz 83 4 7,MR 84 5,gg (.store 4 (.t 2) (.t 83)),MR 3 84,jM 4 false] .ret)) .skip)) (aM [ep 85 7 2,fm 86 85,oy 87 86,MR 17 87] (aM [ep 88 7 2,fm 89 88,MR 90 9,MR 91 15,aQ 92 (.sg [(.str []),(.str [])] [(0,(1,(.t 90))),(1,(1,(.t 91)))]),aQ 93 (.lits 1 2 [(.str []),(.str [])] [(0,(.t 92))]),aQ 94 (.app (.t 89) (.t 93) 2 32),ep 95 7 2,gg (.store 1 (.t 95) (.t 94))] (.seq (.block 2 (.loop (.seq (aM [MR 96 17,eY 97 .gtr 96 0,MR 98 97,Wb 99 98 7 2,jm 100 98 99,cU 101 98 17,dW 102 98 (.bin .sub (.t 101) (jS 1)),dW 103 98 (.Vc (.t 100) (.t 102) 2),Wb 104 98 103 0,jm 105 98 104,cU 106 98 9,dW 107 98 (.bin .gtr (.t 105) (.t 106)),jT 108 98 107] (.cond (.t 108) .skip (.exit 2))) (.seq (.block 3 (.VL [ep 111 7 2,fm 112 111,MR 113 17,ep 114 7 2,fm 115 114,MR 116 17,eY 117 .sub 116 1,ep 118 7 2,fm 119 118,MR 120 17,eY 121 .sub 120 1,jL 122 119 121 2,gz 123 2 122,ep 124 7 2,fm 125 124,MR 126 17,jL 127 125 126 2,gz 128 2 127,jL 129 112 113 2,gg (.store 2 (.t 129) (.t 123)),jL 130 115 117 2,gg (.store 2 (.t 130) (.t 128))] [[],[0],[],[],[3],[],[5],[],[7],[],[9],[8,10],[11],[],[13],[],[14,15],[16],[1,2,0,1,2,7,8,9,10,11,12,17],[18,12,0,1,2,7,8,9,10,11,12,17],[4,6,0,1,2,3,4,5,6,7,8,9,10,11,12,13,14,15,16,17,18,19],[20,17,19,0,1,2,3,4,5,6,7,8,9,10,11,12,13,14,15,16,17,18,19]] [.no,.rw [.loc 7] [],.no,.no,.rw [.loc 7] [],.no,.no,.no,.rw [.loc 7] [],.no,.no,.no,(.rw [(.loc 94)] []),.no,.rw [.loc 7] [],.no,.no,(.rw [(.loc 94)] []),.no,(.rw [] [(.loc 94)]),.no,(.rw [] [(.loc 94)])])) (.cq [MR 109 17,eY 110 .sub 109 1,MR 17 110]))))) (.cq [MR 131 13,MR 0 131]))))))))))))) (.gh (.xd (.loc 1) (.loc 7) 2) (.seq (.VL [gz 132 4 7,MR 133 5,ep 134 7 1,fm 135 134,aQ 136 (.call bd [(.t 135)]),gg (.store 4 (.t 2) (.t 132)),MR 3 133,MR 4 136] [[],[],[],[2],[3],[0,4,0],[1,5,0,1,5],[4,6,0,1,2,3,4,5,6]] [.rw [.loc 7] [],.no,.no,.rw [.loc 7] [],.no,.rw [] [.loc 2],.no,.no]) .ret))))))))))
set_option maxHeartbeats 4000000 in
def Te {Nb Nt M1 M9 cf de NX MS bd:Nat} (hF:aw P G Nb=some (137,[((some (some 4)),2),(none,3),(none,4)],(N2 Nt M1 M9 cf de NX MS bd).bare)) (M:Bs) (hM:M.length<=4096)
  (UD:∀s:Bs,s.length<=4096->au P G Nt [.str s,.str [60]] (.str (Lib.trimPrefix s [60])))
  (Ub:∀s:Bs,s.length<=4096->au P G M1 [.str s,.str [62]] (.str (Lib.trimSuffix s [62])))
  (UE:∀s:Bs,s.length<=4096->au P G M9 [.str s,.str [47]] (.gf [.str (if [47].isSuffixOf s then s.take (s.length - 1) else s),.bool ([47].isSuffixOf s)]))
  (UF:∀s:Bs,s.length<=4096->au P G cf [.str s,.str cY] (.str (s.dropWhile akP)))
  (UG:∀s:Bs,s.length<=4096->au P G cf [.str s,.str [32,10]] (.str (s.dropWhile isSp)))
  (hT:∀s:Bs,s.length<=4096->∃t:Bs,au P G de [.str s,.str [32,10]] (.str t)/\(t==[])=s.all isSp)
  (hC:TM P G NX) (TN:∀s:Bs,s.length<=4096->au P G MS [.str s,.bool true] (Nx true s))
  (hN:∀s:Bs,s.length<=4096->au P G bd [.str s] (.bool (named s))):au P G Nb [.str M] (ON M):=by
 refine aR hF tM aae (by simp[AV.an,ah,ON]) ?_;have l1:∀s p:Bs,(Lib.trimPrefix s p).length<=s.length:=λs p=>by unfold Lib.trimPrefix;split<;>simp
 have l2:∀s p:Bs,(Lib.trimSuffix s p).length<=s.length:=λs p=>by
  unfold Lib.trimSuffix;split
  ·simp only[List.length_take];omega
  exact Nat.le_refl _
 have hX:(Pj M).length<=4096:=Nat.le_trans (l2 _ _) (Nat.le_trans (l1 _ _) hM);have hY:(Om M).length<=4096:=by
  unfold Om;split
  ·simp only[List.length_take];omega
  exact hX
 have hD:((Om M).dropWhile akP).length<=(Om M).length:=jf _ _;have UH:(NP M).length+((Om M).dropWhile akP).length=(Om M).length:=by
  rw[NP,<-List.length_append,List.takeWhile_append_dropWhile]
 have E0:(Om M).take (NP M).length=NP M/\(Om M).drop (NP M).length=(Om M).dropWhile akP:=by
  have e:Om M=NP M++(Om M).dropWhile akP:=List.takeWhile_append_dropWhile.symm;constructor
  ·conv=>lhs;rw[e]
   exact List.take_left' rfl
  conv=>lhs;rw[e]
  exact List.drop_left' rfl
 have HV:IntKind.i64.wrap (((Om M).length:Int) - (((Om M).dropWhile akP).length:Int))=((NP M).length:Int):=by rw[wrap64 sf sf];omega
 unfold N2;simp only[↓aX,mX,seval];refine ay (UD M hM) ?_;simp only[↓aX,mX,seval];refine ay (Ub _ (Nat.le_trans (l1 _ _) hM)) ?_;rw[show Lib.trimSuffix (Lib.trimPrefix M [60]) [62]=Pj M from rfl];simp only[↓aX,mX,seval];refine ay (UE _ hX) ?_;rw[show(if [47].isSuffixOf (Pj M) then(Pj M).take ((Pj M).length - 1) else Pj M)=Om M from rfl,show [47].isSuffixOf (Pj M)=PT M from rfl];simp only[↓aX,mX,seval];refine ay (UF _ hY) ?_;simp only[↓aX,mX,seval,HV,lk,Int.natCast_nonneg,Int.toNat_natCast,true_and,show(NP M).length<=(Om M).length by omega,Option.bind_some,Option.map_some,Nat.zero_le,List.drop_zero,E0.1];rw[Ox];refine⟨_,_,Qm (q:= .loc 7) (cs:=[.bool false,.str (NP M),.nil0,.nil0]) (j:=2) (d:=1) (sz:=2) rfl rfl aat M3,?_⟩;simp only[↓aX,mX,seval,HV,lk,Int.natCast_nonneg,Int.toNat_natCast,true_and,show(NP M).length<=(Om M).length by omega,Option.bind_some,Option.map_some,Nat.zero_le,Nat.le_refl,List.take_length,E0.2];refine pe (σ:={q:Bs×List Attr // q.1.length+q.2.length<=4096/\Q8 M=Oc q.2 q.1/\qx q.2}) (λ_=>[.loc 2,.loc 7,.loc 1]) (λ_ _=>false)
  (λq=>[(0,.str q.1.1),(2,.ptr (.loc 2) 4 0 0),(5,.bool (PT M)),(7,.ptr (.loc 7) 4 0 0)])
  (λq=>[(.loc 2,⟨4,[[.bool false,.str [],.nil0,.nil0]]⟩),(.loc 7,⟨4,[[.bool false,.str (NP M),.sl (.loc 1) 2 0 q.1.2.length,.nil0]]⟩),(.loc 1,⟨2,aB (cD q.1.2)⟩)])
  (λq=>q.1.1.length) ⟨((Om M).dropWhile akP,[]),abq,rfl,trivial⟩ (λ_=>rfl) (λq=>by simp[ah,AV.an]) ?_ ⟨[],?_⟩ ?_
 ·rintro q r hr cs bV l hl;simp only[List.mem_cons,List.not_mem_nil,or_false] at hr;rcases hr with rfl|rfl|rfl
  ·simp only[List.mem_singleton] at bV;subst bV;simp[ah,AV.an] at hl
  ·simp only[List.mem_singleton] at bV;subst bV;simp[ah,AV.an] at hl;subst hl;simp
  rw[bU bV] at hl;simp at hl
 ·refine⟨?_,?_,?_,aar,λl _=>⟨id,λ_=>rfl⟩⟩
  ·intro l hf hu;exfalso;apply hu;cases l<;>simp_all[Lb.fresh,ae,Hp.none]
  ·simp[k_,dn,bJ,put]
  simp[tc,dn,ae,dO,bu,bJ,aB,cD]
 rintro⟨⟨m,l⟩,Uc,hA,hs⟩;simp only at Uc hA hs;rw[Cf];obtain⟨t,ht,T1⟩:=hT m sf;simp only[↓aX,mX,seval,cF,bW];refine ay ht ?_;have out:∀b:Bool,Oc l m=(l,b)->ON M= .gf [.agg [.bool false,.str (NP M),.list (cD l),.nil0],.bool (PT M),.bool (b&&named (NP M))]:=λb h=>by unfold ON;rw[hA,h]
 cases wu:m.all isSp with
 |true=>
  rw[wu] at T1;simp only[↓aX,mX,seval,T1];refine⟨2,cD l,0,l.length,[.bool false,.str (NP M),.sl (.loc 1) 2 0 l.length,.nil0],rfl,rfl,rfl,tM,by rw[bp];omega,nW _,?_⟩;simp only[↓aX,mX,seval,List.drop_zero,List.take_of_length_le (show(cD l).length<=l.length by rw[bp];exact Nat.le_refl _)];refine⟨rfl,jw (hN (NP M) sf) ?_⟩;have e:=out true (O1 l wu);simp only[Bool.true_and] at e;simp only[↓aX,mX,seval];rw[Pk (l:= .loc 2) (cs:=[.bool false,.str (NP M),.list (cD l),.nil0]) rfl aai rfl];simp only[↓aX,mX,seval,e]
 |false=>
 rw[wu] at T1;have zR:=jf isSp m;obtain⟨w,hw⟩:∃w,w=m.dropWhile isSp:=⟨_,rfl⟩;rw[<-hw] at zR;simp only[↓aX,mX,seval,T1];refine ay (UG m sf) ?_;rw[<-hw];simp only[↓aX,mX,seval];refine ay (hC w [61,34] sf) ?_;have c1:=S4 (p:=[61,34]) tM w;obtain⟨⟨nm,af,ok⟩,iS⟩:∃r,Lib.cut w [61,34]=r:=⟨_,rfl⟩;have g1:=Sl w [61,34];rw[iS] at c1 g1;rw[iS];simp only at g1;simp only[↓aX,mX,seval];refine ay (hC af [34] sf) ?_;have c2:=S4 (p:=[34]) tM af;obtain⟨⟨va,ne,th⟩,T0⟩:∃r,Lib.cut af [34]=r:=⟨_,rfl⟩;have g2:=Sl af [34];rw[T0] at c2 g2;rw[T0];simp only at g2;simp only[↓aX,mX,seval];refine ay (TN va sf) ?_;obtain⟨mv,mg,UI,UJ⟩:∃mv mg,Nx true va= .gf [.str mv,.bool mg]/\MY true va=if mg then some mv else none:=by
  unfold Nx;cases MY true va with
  |none=>exact⟨[],false,rfl,rfl⟩
  |some t=>exact⟨t,true,rfl,rfl⟩
 rw[UI];simp only[↓aX,mX,seval];have UK:ok=false->Nj w=none:=λh=>by
  unfold Nj;cases hq:Nh [61,34] w with
  |none=>rfl
  |some y=>rw[hq] at c1;simp only[Prod.mk.injEq] at c1;rw[h] at c1;simp at c1
 have UL:th=false->Nj w=none:=λh=>by
  unfold Nj;cases hq:Nh [61,34] w with
  |none=>rfl
  |some y=>
  rw[hq] at c1;simp only[Prod.mk.injEq] at c1;simp only[Option.bind_some,<-c1.2.1];cases wx:Nh [34] af with
  |none=>rfl
  |some z=>rw[wx] at c2;simp only[Prod.mk.injEq] at c2;rw[h] at c2;simp at c2
 have yes:ok=true->th=true->Nj w=if mg then(if named nm=true then some (⟨nm,mv⟩,ne) else none) else none:=λh1 h2=>by
  unfold Nj;cases hq:Nh [61,34] w with
  |none=>rw[hq] at c1;simp only[Prod.mk.injEq] at c1;rw[h1] at c1;simp at c1
  |some y=>
  rw[hq] at c1;simp only[Prod.mk.injEq] at c1;simp only[Option.bind_some,<-c1.2.1,<-c1.1];cases wx:Nh [34] af with
  |none=>rw[wx] at c2;simp only[Prod.mk.injEq] at c2;rw[h2] at c2;simp at c2
  |some z=>
  rw[wx] at c2;simp only[Prod.mk.injEq] at c2;simp only[Option.bind_some,<-c2.1,<-c2.2.1,UJ];cases mg<;>simp
 have bad:w.length=m.length\/Nj w=none->ON M= .gf [.agg [.bool false,.str (NP M),.list (cD l),.nil0],.bool (PT M),.bool false]:=λh=>out false (Ph l wu (by rw[<-hw];exact h));have Lc:∀b:Bool,(((w.length:Nat):Int)==((m.length:Nat):Int))=b->(b=true↔w.length=m.length):=λb h=>by rw[<-h];simp;omega
 have CM:=List.take_of_length_le (show(cD l).length<=l.length by rw[bp];exact Nat.le_refl _);cases h1:(((w.length:Nat):Int)==((m.length:Nat):Int)) with
 |true=>
  simp only[↓aX,mX,seval,h1];refine⟨2,cD l,0,l.length,[.bool false,.str (NP M),.sl (.loc 1) 2 0 l.length,.nil0],rfl,rfl,rfl,tM,by rw[bp];omega,nW _,?_⟩;simp only[↓aX,mX,seval,List.drop_zero,CM];rw[Pk (l:= .loc 2) (cs:=[.bool false,.str (NP M),.list (cD l),.nil0]) rfl aai rfl];simp only[↓aX,mX,seval,bad (.inl ((Lc _ h1).1 rfl))]
 |false=>
 have wL:¬w.length=m.length:=λh=>by have:=(Lc _ h1).2 h;cases this
 cases j4:ok with
 |false=>
  simp only[↓aX,mX,seval,h1,j4];refine⟨2,cD l,0,l.length,[.bool false,.str (NP M),.sl (.loc 1) 2 0 l.length,.nil0],rfl,rfl,rfl,tM,by rw[bp];omega,nW _,?_⟩;simp only[↓aX,mX,seval,List.drop_zero,CM];rw[Pk (l:= .loc 2) (cs:=[.bool false,.str (NP M),.list (cD l),.nil0]) rfl aai rfl];simp only[↓aX,mX,seval,bad (.inr (UK j4))]
 |true=>
 cases Tf:th with
 |false=>
  simp only[↓aX,mX,seval,h1,j4,Tf];refine⟨2,cD l,0,l.length,[.bool false,.str (NP M),.sl (.loc 1) 2 0 l.length,.nil0],rfl,rfl,rfl,tM,by rw[bp];omega,nW _,?_⟩;simp only[↓aX,mX,seval,List.drop_zero,CM];rw[Pk (l:= .loc 2) (cs:=[.bool false,.str (NP M),.list (cD l),.nil0]) rfl aai rfl];simp only[↓aX,mX,seval,bad (.inr (UL Tf))]
 |true=>
 have yes:=yes j4 Tf;cases Q9:mg with
 |false=>
  simp only[↓aX,mX,seval,h1,j4,Tf,Q9];refine⟨2,cD l,0,l.length,[.bool false,.str (NP M),.sl (.loc 1) 2 0 l.length,.nil0],rfl,rfl,rfl,tM,by rw[bp];omega,nW _,?_⟩;simp only[↓aX,mX,seval,List.drop_zero,CM];rw[Pk (l:= .loc 2) (cs:=[.bool false,.str (NP M),.list (cD l),.nil0]) rfl aai rfl];simp only[↓aX,mX,seval,bad (.inr (by rw[yes,Q9];rfl))]
 |true=>
 simp only[↓aX,mX,seval,h1,j4,Tf,Q9];refine ay (hN nm sf) ?_;cases QM:named nm with
 |false=>
  simp only[↓aX,mX,seval,h1,j4,Tf,Q9,QM];refine⟨2,cD l,0,l.length,[.bool false,.str (NP M),.sl (.loc 1) 2 0 l.length,.nil0],rfl,rfl,rfl,tM,by rw[bp];omega,nW _,?_⟩;simp only[↓aX,mX,seval,List.drop_zero,CM];rw[Pk (l:= .loc 2) (cs:=[.bool false,.str (NP M),.list (cD l),.nil0]) rfl aai rfl];simp only[↓aX,mX,seval,bad (.inr (by rw[yes,Q9,QM];rfl))]
 |true=>
 have wv:=P9 l wu (by rw[<-hw];exact wL) (by rw[<-hw,yes,Q9,QM];rfl);simp only[↓aX,mX,seval,h1,j4,Tf,Q9,QM];rw[qg 2 32 94 1 (cD l) (.agg [.str nm,.str mv]) aai (bp _) rfl aaw sf M3 M3 aat];simp only[↓aX,mX,seval];have zB:cD l++[IV.agg [.str nm,.str mv]]=cD (l++[⟨nm,mv⟩]):=by simp[cD,Attr.iv,Attr.cs]
 rw[zB];refine pe (σ:={k:Nat // k<=l.length/\∀y∈l.drop k,Op.bytesLess nm y.name=true}) (λ_=>[.loc 2,.loc 7,.loc 94]) (λ_ _=>false)
  (λq=>[(2,.ptr (.loc 2) 4 0 0),(5,.bool (PT M)),(7,.ptr (.loc 7) 4 0 0),(9,.str nm),(13,.str ne),(17,.int .i64 (q.1:Int))])
  (λq=>[(.loc 2,⟨4,[[.bool false,.str [],.nil0,.nil0]]⟩),(.loc 7,⟨4,[[.bool false,.str (NP M),.sl (.loc 94) 2 0 (l.length+1),.nil0]]⟩),(.loc 94,⟨2,aB (cD (l.take q.1++⟨nm,mv⟩::l.drop q.1))⟩)])
  (λq=>q.1) ⟨l.length,Nat.le_refl _,tM⟩ (λ_=>rfl) (λq=>by simp[ah,AV.an]) ?_ ⟨[],?_⟩ ?_
 ·rintro q r hr cs bV z hz;simp only[List.mem_cons,List.not_mem_nil,or_false] at hr;rcases hr with rfl|rfl|rfl
  ·simp only[List.mem_singleton] at bV;subst bV;simp[ah,AV.an] at hz
  ·simp only[List.mem_singleton] at bV;subst bV;simp[ah,AV.an] at hz;subst hz;simp
  rw[bU bV] at hz;simp at hz
 ·refine⟨?_,?_,?_,aar,λl _=>⟨id,λ_=>rfl⟩⟩
  ·intro l hf hu;exfalso;apply hu;cases l<;>simp_all[Lb.fresh,ae,Hp.none]
  ·simp[k_,dn,bJ,put]
  simp[tc,dn,ae,dO,bu,bJ,dy,List.take_of_length_le,List.drop_of_length_le];simp[aB,nT]
 rintro⟨k,hk,PS⟩;rw[Cf];simp only[↓aX,mX,seval,cF,bW];obtain⟨L,hL⟩:∃L,L=l.take k++(⟨nm,mv⟩:Attr)::l.drop k:=⟨_,rfl⟩;have E0:(l.take k).length=k:=by rw[List.length_take];omega
 have LU:L.length=l.length+1:=by rw[hL];simp only[List.length_append,List.length_cons,List.length_drop,E0];omega
 have hx:L[k]?=some ⟨nm,mv⟩:=by rw[hL,List.getElem?_append_right sf,E0,Nat.sub_self];rfl
 rw[<-hL];by_cases sr:0<k
 ·have Ju:IntKind.i64.wrap ((k:Int) - 1)=((k - 1:Nat):Int):=by rw[wrap64 sf sf];omega
  obtain⟨z,hz⟩:∃z,l[k - 1]?=some z:=⟨_,List.getElem?_eq_getElem sf⟩;have hy:L[k - 1]?=some z:=by rw[hL,List.getElem?_append_left sf,List.getElem?_take_of_lt sf];exact hz
  simp only[↓aX,mX,seval,show decide (((k:Nat):Int)>0)=true by simpa using sr,Ju,Int.natCast_nonneg,Int.toNat_natCast,Nat.zero_add,ik hx,ik hy,show k<l.length+1 by omega,show k - 1<l.length+1 by omega,TL];cases nn:Op.bytesLess nm z.name with
  |true=>
   simp only[↓aX,mX,seval,nn];refine⟨aax,?_⟩;simp only[↓aX,mX,seval,Ju,Int.natCast_nonneg,Int.toNat_natCast,Nat.zero_add,ik hx,ik hy,show k<l.length+1 by omega,show k - 1<l.length+1 by omega,eP];have D1:(L.set k z)[k - 1]?=some z:=(by rw[List.getElem?_set_ne sf];exact hy);rw[m_ L k z];simp only[↓aX,mX,seval,ik D1,Ju];rw[show(aB (cD (L.set k z))).set (k - 1) [.str nm,.str mv]=aB (cD ((L.set k z).set (k - 1) ⟨nm,mv⟩)) from m_ _ _ ⟨nm,mv⟩];have e1:l.take k=l.take (k - 1)++[z]:=by
    have:=List.take_add_one (l:=l) (i:=k - 1);rw[show k - 1+1=k by omega,hz] at this;exact this
   have e2:l.drop (k - 1)=z::l.drop k:=by
    have:=drop_eq hz;rw[show k - 1+1=k by omega] at this;exact this
   have UM:(L.set k z).set (k - 1) ⟨nm,mv⟩=l.take (k - 1)++(⟨nm,mv⟩:Attr)::l.drop (k - 1):=by
    obtain⟨p,hp⟩:∃p,p=l.take (k - 1):=⟨_,rfl⟩;have BS:p.length=k - 1:=(by rw[hp,List.length_take];omega);rw[hL,e1,e2,<-hp];have UN:k=p.length+1:=sf;rw[UN];simp[List.set_append_right]
   rw[UM];refine⟨⟨k - 1,sf,λy hy=> ?_⟩,aac,[],?_⟩
   ·rw[e2] at hy;rcases List.mem_cons.1 hy with rfl|hy
    ·exact nn
    exact PS y hy
   refine⟨?_,?_,?_,aar,λl _=>⟨id,λ_=>rfl⟩⟩
   ·intro l hf hu;exfalso;apply hu;cases l<;>simp_all[Lb.fresh,ae,Hp.none]
   ·simp[k_,dn,bJ,put]
   have hr:∀xs:List IV,dO (dn []) ⟨2,aB xs⟩=⟨2,aB xs⟩:=λxs=>dy _ _ _;simp only[tc,hr];simp[dn,ae,dO,bu,bJ]
  |false=>
  have Tg:gF l ⟨nm,mv⟩=L:=by rw[hL];exact PL hs PS (.inr ⟨z,hz,sr,nn⟩)
  simp only[↓aX,mX,seval,nn];refine⟨⟨(ne,gF l ⟨nm,mv⟩),by rw[yK];simp only;omega,by rw[hA,wv],yS _ hs⟩,aac,[(.loc 1,.loc 94)],?_⟩;refine⟨?_,?_,?_,aar,?_⟩
  ·intro l hf hu;exfalso;apply hu;cases l<;>simp_all[Lb.fresh,ae,Hp.none]
  ·simp[k_,dn,bJ,put]
  ·have hr:∀xs:List IV,dO (dn [(.loc 1,.loc 94)]) ⟨2,aB xs⟩=⟨2,aB xs⟩:=λxs=>dy _ _ _;simp only[tc,hr,yK];simp[dn,ae,dO,bu,bJ,Tg]
  intro l hl;simp only[List.mem_cons,List.not_mem_nil,or_false] at hl;rcases hl with rfl|rfl|rfl
  ·exact⟨λ_=>rfl,λ_=>rfl⟩
  ·exact⟨λ_=>rfl,λ_=>rfl⟩
  exact⟨λ_=>rfl,λh=>by simp[Lb.fresh] at h⟩
 have Ud:k=0:=sf
 have Tg:gF l ⟨nm,mv⟩=L:=by rw[hL];exact PL hs PS (.inl Ud)
 simp only[↓aX,mX,seval,show decide (((k:Nat):Int)>0)=false by simpa using sr];refine⟨⟨(ne,gF l ⟨nm,mv⟩),by rw[yK];simp only;omega,by rw[hA,wv],yS _ hs⟩,aac,[(.loc 1,.loc 94)],?_⟩;refine⟨?_,?_,?_,aar,?_⟩
 ·intro l hf hu;exfalso;apply hu;cases l<;>simp_all[Lb.fresh,ae,Hp.none]
 ·simp[k_,dn,bJ,put]
 ·have hr:∀xs:List IV,dO (dn [(.loc 1,.loc 94)]) ⟨2,aB xs⟩=⟨2,aB xs⟩:=λxs=>dy _ _ _;simp only[tc,hr,yK];simp[dn,ae,dO,bu,bJ,Tg]
 intro l hl;simp only[List.mem_cons,List.not_mem_nil,or_false] at hl;rcases hl with rfl|rfl|rfl
 ·exact⟨λ_=>rfl,λ_=>rfl⟩
 ·exact⟨λ_=>rfl,λ_=>rfl⟩
 exact⟨λ_=>rfl,λh=>by simp[Lb.fresh] at h⟩
end

def fl (p:Nat):Lb:= .nest (.loc 900) p 3
def aa1 {p:Prop} (h:p:=by simp[fl]):p:=h
def abh {p:Prop} (h:p:=by simp[ae,fl];rfl):p:=h
def O2 {p q:Nat} (h:fl p=fl q):p=q:=by simpa[fl] using h
def N3 (p n:Nat):(fl p= .loc n)=False:=aa1
def N4 (p n:Nat):(Lb.loc n=fl p)=False:=aa1
def NL (p q:Nat):(fl p=fl q)=(p=q):=propext ⟨O2,λh=>by rw[h]⟩
def N5 (p d:Nat):(fl p).app d= .loc d:=rfl
def PN (lab:Nat->Lb) (i:Nat) (x:Tree):List AV:=[.bool false,.str x.s,if i=0 then .nil0 else .list (cD x.attrs),.sl (lab (1+i)) 4 0 x.kids.length]
def Qf (o:List Tree) (lab:Nat->Lb) (p:Nat):Option Row:=
 if p=0 then some ⟨4,o.mapIdx (PN lab)⟩ else(o[p - 1]?).map λx=>⟨4,aB (dq x.kids)⟩
def P' {o:List Tree} {lab:Nat->Lb} {p:Nat}:(Qf o lab p).isSome=true↔p<=o.length:=by
 unfold Qf;by_cases h:p=0
 ·simp[h]
 simp[h];omega
def S5 (o:List Tree):uR where
 row:=Qf o
 nat lab ρ p:=by
  unfold Qf;by_cases h:p=0
  ·simp only[h,Rc,bT,di,dO,Row.mk.injEq,Su];refine fe λi=> ?_;simp only[cn,yW,Zr];congr 1;funext x;by_cases hi:i=0<;>simp[PN,bu,bJ,hi]
  simp only[h,nX];cases o[p - 1]? with
  |none=>rfl
  |some x=>simp[dy]
 an lab p r hr cs bV q hq:=by
  unfold Qf at hr;by_cases h:p=0
  ·simp only[h,Rc,di] at hr;subst hr;simp only at bV;obtain⟨i,hi⟩:=Sw bV;rw[yW] at hi;obtain⟨x,hx,rfl⟩:=jF.1 hi;have bI:=(yY.1 hx).1;have:q=lab (1+i):=by
    by_cases h0:i=0<;>simpa[PN,ah,AV.an,h0] using hq
   exact⟨1+i,P'.2 sf,this⟩
  simp only[h,nX] at hr;obtain⟨x,_,rfl⟩:=jF.1 hr;rw[bU bV] at hq;simp at hq
def PO {o:List Tree} {p:Nat}:(S5 o).ok p↔p<=o.length:=P'
abbrev NT (lab:Nat->Lb) (o:List Tree) (H:Hp):Prop:=Ed lab (S5 o) H
section
variable {lab:Nat->Lb} {o:List Tree} {H H2:Hp}
def NT.TO (h:NT lab o H):H (lab 0)= .live ⟨4,o.mapIdx (PN lab)⟩:=h.row 0 _ rfl
def NT.k (h:NT lab o H) {i:Nat} {x:Tree} (hx:o[i]?=some x):H (lab (1+i))= .live ⟨4,aB (dq x.kids)⟩:=h.row (1+i) _ (by
 show Qf o lab (1+i)=_;unfold Qf;rw[Ev sf,show 1+i - 1=i by omega,hx];rfl)
def NT.mk' (hi:∀p q,p<=o.length->q<=o.length->lab p=lab q->p=q) (h0:H (lab 0)= .live ⟨4,o.mapIdx (PN lab)⟩) (h1:∀i x,o[i]?=some x->H (lab (1+i))= .live ⟨4,aB (dq x.kids)⟩):NT lab o H:=by
 refine⟨λp r hp=> ?_,λp q hp hq=>hi p q (PO.1 hp) (PO.1 hq)⟩;change Qf o lab p=some r at hp;unfold Qf at hp;by_cases h:p=0
 ·subst h;simp only[Rc,di] at hp;subst hp;exact h0
 simp only[h,nX] at hp;obtain⟨x,hx,rfl⟩:=jF.1 hp;have:=h1 _ x hx
 rwa[show 1+(p - 1)=p by omega] at this
def OH (i:Nat) (N:Lb) (p:Nat):Lb:=if p=1+i then N else fl p
def Qg {i:Nat} {x:Tree} (hx:o[i]?=some x):(o.mapIdx (PN lab))[i]?=some (PN lab i x):=by rw[yW,hx];rfl
def NT.set (h:NT fl o H) {i:Nat} {x y:Tree} {N:Lb} (hx:o[i]?=some x) (hs:y.s=x.s) (ha:y.attrs=x.attrs) (hN:∀p,fl p≠N)
  (h0:H2 (fl 0)= .live ⟨4,(o.mapIdx (PN fl)).set i (PN (OH i N) i y)⟩) (h1:H2 N= .live ⟨4,aB (dq y.kids)⟩) (h2:∀p,p≠0->p≠1+i->H2 (fl p)=H (fl p)):NT (OH i N) (o.set i y) H2:=by
 have bI:=(yY.1 hx).1;refine NT.mk' ?_ ?_ ?_
 ·intro p q hp hq e;unfold OH at e;by_cases e1:p=1+i<;>by_cases e2:q=1+i<;>simp only[e1,e2,Rc,nX] at e
  ·rw[e1,e2]
  ·exact absurd e.symm (hN q)
  ·exact absurd e (hN p)
  exact O2 e
 ·have:OH i N 0=fl 0:=by unfold OH;rw[Ev sf]
  rw[this,h0];congr 2;refine fe λj=> ?_;simp only[yW,JC,pz];by_cases e:i=j
  ·subst e;simp[bI]
  simp only[e,nX];congr 1;funext z;unfold PN OH;rw[Ev (show ¬1+j=1+i by omega)]
 intro j z hz;rw[JC] at hz;by_cases e:i=j
 ·subst e;simp only[bI,Rc,di] at hz;subst hz;unfold OH;rw[P8 rfl];exact h1
 simp only[e,nX] at hz;have:OH i N (1+j)=fl (1+j):=by unfold OH;rw[Ev sf]
 rw[this,h2 _ sf sf];exact h.k hz
def OG (n:Nat) (A N:Lb) (p:Nat):Lb:=if p=0 then A else if p=1+n then N else fl p
def NT.push (h:NT fl o H) {y:Tree} {A N:Lb} (UO:o≠[]) (hk:y.kids=[]) (hA:∀p,fl p≠A) (hN:∀p,fl p≠N) (Us:A≠N)
  (h0:H2 A= .live ⟨4,o.mapIdx (PN fl)++[[.bool false,.str y.s,.list (cD y.attrs),.sl N 4 0 0]]⟩) (h1:H2 N= .live ⟨4,[]⟩) (h2:∀p,p≠0->p<=o.length->H2 (fl p)=H (fl p)):NT (OG o.length A N) (o++[y]) H2:=by
 have xg:=V0.2 UO;have e0:OG o.length A N 0=A:=rfl;have eN:OG o.length A N (1+o.length)=N:=by unfold OG;rw[Ev sf,P8 rfl]
 have eO:∀j,j<o.length->OG o.length A N (1+j)=fl (1+j):=λj hj=>by unfold OG;rw[Ev sf,Ev sf]
 refine NT.mk' ?_ ?_ ?_
 ·intro p q hp hq e;have hc:∀p,p=0\/p=1+o.length\/(p≠0/\p≠1+o.length):=λp=>by omega
  have eF:∀p,p≠0->p≠1+o.length->OG o.length A N p=fl p:=λp a b=>by unfold OG;rw[Ev a,Ev b]
  rcases hc p with rfl|rfl|⟨a1,a2⟩<;>rcases hc q with rfl|rfl|⟨b1,b2⟩
  ·rfl
  ·rw[e0,eN] at e;exact absurd e Us
  ·rw[e0,eF q b1 b2] at e;exact absurd e.symm (hA q)
  ·rw[e0,eN] at e;exact absurd e.symm Us
  ·rfl
  ·rw[eN,eF q b1 b2] at e;exact absurd e.symm (hN q)
  ·rw[e0,eF p a1 a2] at e;exact absurd e (hA p)
  ·rw[eN,eF p a1 a2] at e;exact absurd e (hN p)
  rw[eF p a1 a2,eF q b1 b2] at e;exact O2 e
 ·rw[e0,h0];congr 2;rw[YE];congr 1
  ·refine fe λj=> ?_;simp only[yW];cases hz:o[j]? with
   |none=>rfl
   |some z=>
   have:=(yY.1 hz).1;simp only[bT,PN,eO j this]
  simp only[Z3,List.mapIdx_nil,bM,PN,eN,hk,Rm];rw[Ev sf]
 intro j z hz;by_cases e:j<o.length
 ·rw[bB e] at hz;rw[eO j e,h2 _ sf sf];exact h.k hz
 have hj:j=o.length:=by
  have:=(yY.1 hz).1;simp at this;omega
 subst hj;rw[b_ (PW _),Gl] at hz;simp only[RA,di] at hz;subst hz;rw[eN,h1,hk];rfl
def Q_ (l:List Bs) (i n:Nat) (L:Lb):List (Nat×AV):=[(6,.sl L 4 0 n),(25,.list (l.map IV.str)),(26,.int .i64 l.length),(27,.int .i64 i)]
def NT.wh (h:NT lab o H) {env:Env} {l:List Bs} {i:Nat} (he:∀l:Lb,l.entry=true->H l= .unused) (hf:∀p,p<=o.length->(lab p).fresh=true) (h6:env 6= .sl (lab 0) 4 0 o.length) (Pr:env 25= .list (l.map IV.str)) (TP:env 26= .int .i64 l.length) (TQ:env 27= .int .i64 i) :
  ∃lab m,WH fl (S5 o) [] (λ_=>false) (Q_ l i o.length (fl 0)) [] env H lab m:=by
 refine⟨lab,[],h,λq hq hu=>absurd (he q hq) hu,?_,λq hq=>by simp at hq,tM,λq hq=>by simp at hq,λq hq=>by simp at hq,λp hp=>⟨λ_=>hf p (PO.1 hp),λh=>by simp[fl,Lb.entry] at h⟩⟩;have r0:PM fl lab (S5 o) [] (fl 0)=lab 0:=On (λp1 p2 _ _ e=>O2 e) (PO.2 sf);simp[Q_,k_,bJ,h6,Pr,TP,TQ,r0]
end
def Ue (m:Bs):Prop:=m≠[]/\(m.head?=some 60->∃a,m=60::(a++[62]))
def RQ:∀(n:Nat) (s:Bs) (l:List Bs),s.length<=n->M8 s=some l->(∀m∈l,Ue m)/\(∀m∈l,m.length<=s.length)/\l.length<=s.length:=by
 intro n;induction n with
 |zero=>
  intro s l hn h;have:s=[]:=Rg.1 sf;subst this;rw[Ob] at h;cases h;simp
 |succ n ih=>
 intro s l hn h;cases s with
 |nil=>rw[Ob] at h;cases h;simp
 |cons c q=>
 have step:∀(p b:Bs) (l2:List Bs),Ue p->p.length+b.length=q.length+1->M8 b=some l2->l=p::l2->(∀m∈l,Ue m)/\(∀m∈l,m.length<=(c::q).length)/\l.length<=(c::q).length:=by
  intro p b l2 hp hl h2 e;have zQ:=V0.2 hp.1;obtain⟨g1,g2,g3⟩:=ih b l2 (by simp at hn;omega) h2;subst e;refine⟨λm hm=> ?_,λm hm=> ?_,aak⟩
  ·rcases PY.1 hm with rfl|hm
   ·exact hp
   exact g1 m hm
  rcases PY.1 hm with rfl|hm
  ·simp;omega
  have:=g2 m hm;simp;omega
 by_cases tv:c=60
 ·subst tv;rw[OL] at h;cases hc:Nh [62] (60::q) with
  |none=>rw[hc] at h;cases h
  |some x=>
  obtain⟨a,b⟩:=x;rw[hc] at h;obtain⟨l2,h2,e⟩:=jF.1 h;obtain⟨e1,ha⟩:=Nn hc;have hl:=VZ List.length e1;cases a with
  |nil=>simp at e1
  |cons a0 a=>
  simp only[List.cons_append,Q5] at e1;obtain⟨rfl,e1⟩:=e1;exact step _ b l2 ⟨tM,λ_=>⟨a,rfl⟩⟩ (by simp at hl ⊢;omega) h2 e.symm
 rw[OM tv] at h;cases hc:Nh [60] (c::q) with
 |none=>
  rw[hc] at h;cases h;exact step _ [] [] ⟨tM,λh=>absurd (by simpa using h) tv⟩ tM Ob rfl
 |some x=>
 obtain⟨a,b⟩:=x;rw[hc] at h;obtain⟨l2,h2,e⟩:=jF.1 h;obtain⟨e1,ha⟩:=Nn hc;have hl:=VZ List.length e1;cases a with
 |nil=>simp at e1;exact absurd e1.1 tv
 |cons a0 a=>
 simp only[List.cons_append,Q5] at e1;obtain⟨rfl,e1⟩:=e1;refine step _ (60::b) l2 ⟨tM,λh=>absurd (by simpa using h) tv⟩ (by simp at hl ⊢;omega) h2 e.symm
def NH (s:Bs):AV:=match(M8 s).bind λl=>l.foldlM Ni [N0] with
 |some o=> .gf [.list (dq ((o.getLast?.map Tree.kids).getD [])),.bool (o.length==1)]
 |none=> .gf [.nil0,.bool false]
def O' {s:Bs} {ks:List Tree} (h:Oe s=some ks):NH s= .gf [.list (dq ks),.bool true]:=by
 unfold Oe runs at h;unfold NH;cases hp:M8 s with
 |none=>rw[hp] at h;cases h
 |some l=>
 rw[hp] at h;simp only[EF] at h ⊢;cases hf:l.foldlM Ni [N0] with
 |none=>rw[hf] at h;cases h
 |some o=>
 rw[hf] at h;simp only[EF] at h ⊢;unfold Sa at h;split at h
 ·cases h;rfl
 cases h
def O_ {s:Bs} (h:Oe s=none):∃x:AV,(x= .nil0\/∃ks,x= .list (dq ks))/\NH s= .gf [x,.bool false]:=by
 unfold Oe runs at h;unfold NH;cases hp:M8 s with
 |none=>exact⟨.nil0,.inl rfl,rfl⟩
 |some l=>
 rw[hp] at h;simp only[EF] at h ⊢;cases hf:l.foldlM Ni [N0] with
 |none=>exact⟨.nil0,.inl rfl,rfl⟩
 |some o=>
 rw[hf] at h;simp only[EF] at h ⊢;have:(o.length==1)=false:=by
  unfold Sa at h;split at h
  ·cases h
  rename_i Vi;rw[SV];intro hl;obtain⟨b,rfl⟩:=List.length_eq_one_iff.1 hl;exact Vi b rfl
 exact⟨_,.inr ⟨(o.getLast?.map Tree.kids).getD [],rfl⟩,by rw[this]⟩

def QE {S:St} {env:Env} {H:Hp} {l:Lb} {sz:Nat} {els:List (List AV)} (hl:H l= .live ⟨sz,els⟩):nQ S env H env (bD H l (.live ⟨sz,els.map λcs=>cs.map norm⟩)):=by
 have e:O6 (S0 (λq=>q==l)) H=bD H l (.live ⟨sz,els.map λcs=>cs.map norm⟩):=by
  funext q;by_cases h:q=l
  ·subst h;have:(S0 (λq'=>q'==q) q)=norm:=(by funext x;simp[S0]);simp only[ae,Rc,O6,hl,this]
  have:(S0 (λq'=>q'==l) q)=id:=by funext x;simp[S0,h]
  rw[aq _ _ h];unfold O6;cases hq:H q with
  |live r=>simp[this]
  |_=>rfl
 rw[<-e];exact Qq _
def Sn (xs:List IV):((aB xs).map λcs=>cs.map norm)=aB xs:=by
 simp only[aB,WC];refine SW λy _=> ?_;simp only[Function.comp,WC];refine SW λz _=> ?_;cases z<;>rfl
def Rb {S:St} {env:Env} {o:List Tree} {t d:Nat} {x y:Tree} {H H1:Hp} {els:List (List AV)} {at':AV} (hB:NT fl o H) (hE:∀l:Lb,l.entry=true->H l= .unused) (hx:o[t]?=some x) (hT:x.text=false)
  (ha:at'=if t=0 then .nil0 else .list (cD x.attrs)) (h0:H1 (fl 0)= .live ⟨4,(o.mapIdx (PN fl)).set t [.bool false,.str x.s,at',.sl (.loc d) 4 0 (x.kids.length+1)]⟩)
  (h1:H1 (.loc d)= .live ⟨4,els⟩) (h2:(els.map λcs=>cs.map norm)=aB (dq (x.kids++[y]))) (h3:∀q,q≠fl 0->q≠fl (1+t)->q≠ .loc d->H1 q=H q) :
  ∃H2,nQ S env H1 env H2/\NT (OH t (.loc d)) (o.set t (x.MZ [y])) H2/\∀l:Lb,l.entry=true->H2 l= .unused:=by
 refine⟨_,QE h1,?_,λl he=> ?_⟩
 ·refine hB.set hx ?_ ?_ (λp=>by simp[fl]) ?_ ?_ ?_
  ·cases x;rfl
  ·cases x;rfl
  ·rw[aq _ _ aa1,h0];congr 3;have hk:(x.MZ [y]).kids.length=x.kids.length+1:=(by cases x;simp[Tree.MZ,Tree.kids]);have hs:(x.MZ [y]).s=x.s/\(x.MZ [y]).attrs=x.attrs:=(by cases x;exact⟨rfl,rfl⟩);simp only[PN,hk,hs,ha,OH,Rc]
  ·rw[ae,P8 rfl,h2];cases x;rfl
  intro p hp B1;rw[aq _ _ aa1];exact h3 _ (by rw[Ne,NL];exact hp) (by rw[Ne,NL];exact B1) aa1
 have n1:l≠ .loc d:=by rintro rfl;simp[Lb.entry] at he
 rw[aq _ _ n1,h3 l (by rintro rfl;simp[fl,Lb.entry] at he) (by rintro rfl;simp[fl,Lb.entry] at he) n1];exact hE l he
def Tj {S:St} {Q:gI} {k:List It} {env:Env} {H:Hp} (is:List bh) (es:List (List Nat)) (fs:List Fp) :
 go S Q (.code (.gh .J7 (.VL is es fs))::k) env H=((es.zipIdx.all λp=>p.1.all λe=>decide (e<p.2))=true/\C5 S is es (go S Q k) is.length [] env H):=by rw[go]
def SN {S:St} {k:Env->Hp->Prop} {env:Env} {H:Hp} {d e:Nat} (hd:d<S.N) (he:e<S.N) (U4:e≠d) (hu:H (.loc d)= .unused)
  (hk:∀b H',(∀q,q≠ .loc d->H' q=H q)->k (put (put env d (.ptr (.loc d) 1 0 0)) e (.bool b)) H') :
  C5 S [⟨some d,none,.new [.bool false]⟩,⟨none,none,.store 1 (.t d) (.c (.bool true))⟩,⟨none,none,.store 1 (.t d) (.c (.bool false))⟩,⟨some e,none,.load none (.t d)⟩] [[],[0],[0],[0,0,1,2]] k 4 [] env H:=by
 have fin:∀(done:List Nat) (b:Bool) (H':Hp),1∈done->2∈done->0∈done->3∉done->(∀q,q≠ .loc d->H' q=H q)->H' (.loc d)= .live ⟨1,[[.bool b]]⟩ ->
   C5 S [⟨some d,none,.new [.bool false]⟩,⟨none,none,.store 1 (.t d) (.c (.bool true))⟩,⟨none,none,.store 1 (.t d) (.c (.bool false))⟩,⟨some e,none,.load none (.t d)⟩] [[],[0],[0],[0,0,1,2]] k 1 done (put env d (.ptr (.loc d) 1 0 0)) H':=by
  intro done b H' h1 h2 h0 h3 hq hb;refineλj i hj R0 Sx=> ?_
  match j with
  |0=>exact absurd h0 R0
  |1=>exact absurd h1 R0
  |2=>exact absurd h2 R0
  |3=>
   simp only[GA,RA,di] at hj;subst hj;refine .inl ⟨rfl,λn hn=>by cases hn;exact he,.inr ⟨.bool b,?_,?_⟩⟩
   ·simp[Wl,ev,put,hb]
   exact hk b H' hq
  |j+4=>simp at hj
 have st:∀(b0 b:Bool) (H':Hp),H' (.loc d)= .live ⟨1,[[.bool b0]]⟩->gZ 1 (ev (put env d (.ptr (.loc d) 1 0 0)) (.t d)) (ev (put env d (.ptr (.loc d) 1 0 0)) (.c (.bool b))) H'=some (bD H' (.loc d) (.live ⟨1,[[.bool b]]⟩)):=by
  intro b0 b H' h;simp[gZ,ev,put,h,AV.sI,AV.one,AV.cells]
 refineλj i hj R0 Sx=> ?_
 match j with
 |0=>
  simp only[RA,di] at hj;subst hj;refine .inl ⟨rfl,λn hn=>by cases hn;exact hd,d,rfl,hu,tM,by simp[maxLen],?_⟩;refineλj i hj R0 Sx=> ?_
  match j with
  |0=>simp at R0
  |1=>
   simp only[GA,RA,di] at hj;subst hj;refine .inl ⟨rfl,(λn hn=>by cases hn),rfl,_,st false true _ aai,?_⟩;refineλj i hj R0 Sx=> ?_
   match j with
   |0=>simp at R0
   |1=>simp at R0
   |2=>
    simp only[GA,RA,di] at hj;subst hj;refine .inl ⟨rfl,(λn hn=>by cases hn),rfl,_,st true false _ aai,?_⟩;exact fin _ false _ tM tM tM tM (λq hq=>by simp[aq _ _ hq]) aai
   |3=>have:=Sx 2 tM;simp at this
   |j+4=>simp at hj
  |2=>
   simp only[GA,RA,di] at hj;subst hj;refine .inl ⟨rfl,(λn hn=>by cases hn),rfl,_,st false false _ aai,?_⟩;refineλj i hj R0 Sx=> ?_
   match j with
   |0=>simp at R0
   |2=>simp at R0
   |1=>
    simp only[GA,RA,di] at hj;subst hj;refine .inl ⟨rfl,(λn hn=>by cases hn),rfl,_,st false true _ aai,?_⟩;exact fin _ true _ tM tM tM tM (λq hq=>by simp[aq _ _ hq]) aai
   |3=>have:=Sx 1 tM;simp at this
   |j+4=>simp at hj
  |3=>have:=Sx 1 tM;simp at this
  |j+4=>simp at hj
 |1=>have:=Sx 0 tM;simp at this
 |2=>have:=Sx 0 tM;simp at this
 |3=>have:=Sx 0 tM;simp at this
 |j+4=>simp at hj
def So {S:St} {env:Env} {o1:List Tree} {u x:Tree} {k d:Nat} {H1:Hp} {els E2:List (List AV)} {at':AV} (hk:k=o1.length) (hE:∀l:Lb,l.entry=true->H1 l= .unused) (hT:u.text=false)
  (ha:at'=if k=0 then .nil0 else .list (cD u.attrs)) (TA:E2.take (k+1)=(o1++[u]).mapIdx (PN fl)) (h0:H1 (fl 0)= .live ⟨4,E2.set k [.bool false,.str u.s,at',.sl (.loc d) 4 0 (u.kids.length+1)]⟩)
  (h1:H1 (.loc d)= .live ⟨4,els⟩) (h2:(els.map λcs=>cs.map norm)=aB (dq (u.kids++[x]))) (h3:∀j z,o1[j]?=some z->H1 (fl (1+j))= .live ⟨4,aB (dq z.kids)⟩) :
  ∃H2,nQ S env H1 env H2/\NT (OH k (.loc d)) (o1++[u.MZ [x]]) H2/\∀l:Lb,l.entry=true->H2 l= .unused:=by
 have hs:(o1++[u]).set k (u.MZ [x])=o1++[u.MZ [x]]:=by rw[hk,Vq _ _ (PW _),Gl];rfl
 have hu:(o1++[u])[k]?=some u:=by rw[hk,b_ (PW _),Gl];rfl
 have hB:NT fl (o1++[u]) (bD (bD H1 (fl (1+k)) (.live ⟨4,aB (dq u.kids)⟩)) (fl 0) (.live ⟨4,(o1++[u]).mapIdx (PN fl)⟩)):=by
  refine NT.mk' (λp q _ _ e=>O2 e) aai λj z hz=> ?_;rw[aq _ _ (by rw[Ne,NL];omega)];by_cases e:j=k
  ·subst e;rw[hu] at hz;cases hz;simp[ae]
  rw[aq _ _ (by rw[Ne,NL];omega)];have bI:=(yY.1 hz).1;simp at bI;rw[bB sf] at hz;exact h3 j z hz
 have Vi:∀l:Lb,l.entry=true->l≠fl 0/\l≠fl (1+k):=λl he=>⟨by rintro rfl;simp[fl,Lb.entry] at he,by rintro rfl;simp[fl,Lb.entry] at he⟩;obtain⟨H2,w2,a2,e2⟩:=Rb (S:=S) (env:=env) (d:=d) (y:=x) (els:=els) (H1:=bD H1 (fl 0) (.live ⟨4,(E2.set k [.bool false,.str u.s,at',.sl (.loc d) 4 0 (u.kids.length+1)]).take (k+1)⟩)) hB
  (λl he=>by rw[aq _ _ (Vi l he).1,aq _ _ (Vi l he).2];exact hE l he) hu hT ha (by rw[<-TA,List.take_set];simp[ae]) (by rw[aq _ _ aa1];exact h1) h2
  (λq a b c=>by rw[aq _ _ a,aq _ _ a,aq _ _ b])
 exact⟨H2,(Qr (k+1) h0).trans w2,by rw[<-hs];exact a2,e2⟩
def OW {ks:List Tree} {b cs:List AV} {y:Tree} (h:cs.map norm=[.bool y.text,.str y.s,.list (cD y.attrs),.list (dq y.kids)]):(((aB (dq ks)++[b]).set ks.length cs).map λcs=>cs.map norm)=aB (dq (ks++[y])):=by
 rw[Vq _ _ (by rw[lQ,bF];exact PW _),lQ,bF,Gl,BG,Sn,qh,lR];congr 1;simp[h,dq,aB,Tree.o_,IV.cells,Tree.cs,IV.dQ]
def RU {ks:List Tree} {cs:List AV} {y:Tree} (h:cs.map norm=[.bool y.text,.str y.s,.list (cD y.attrs),.list (dq y.kids)]):((aB (dq ks)++[cs]).map λcs=>cs.map norm)=aB (dq (ks++[y])):=by
 have:=OW (ks:=ks) (b:=cs) h
 rwa[Vq _ _ (by rw[lQ,bF];exact PW _),lQ,bF,Gl] at this
def NT.loc {o:List Tree} {H:Hp} (h:NT fl o H) (n:Nat) (s:Slot):NT fl o (bD H (.loc n) s):=⟨λp r hp=>by rw[aq _ _ aa1];exact h.row p r hp,h.inj⟩
def PQ (t d p:Nat):(OH t (.loc d) p).fresh=true:=by unfold OH;split<;>rfl
section
variable {P:Program} {G:Nat->Option (List IV)}
def NU (M_ MS b7 M1 Na Nb:Nat):AC:=
(aM [zi 2,jM 3 false] (aM [MR 17 0,aQ 18 (.call M_ [(.t 17)]),MR 16 18,ox 19 16 0,ox 20 16 1,MR 4 19,MR 5 20] (.seq (aM [MR 21 5,sB 22 21] (.cond (.t 22) (aM [zi 2,jM 3 false] .ret) .skip)) (aM [aQ 23 (.sg [(.bool false),(.str []),.nil0,.nil0] []),aQ 24 (.gG 4 [(.bool false),(.str []),.nil0,.nil0] [(0,(.t 23))]),MR 6 24] (.seq (.gh .vk (aM [MR 25 4,oy 26 25,gH 27 0] (.block 0 (.loop (aM [et 28 .lss 27 26] (.seq (.cond (.t 28) .skip (.exit 0)) (.seq (.block 1 (aM [jL 29 25 27 1,fm 30 29,MR 8 30] (aM [MR 31 6,oy 32 31,eY 33 .sub 32 1,MR 9 33] (.seq (aM [MR 34 8,aQ 35 (.lj (.t 34) (jS 0)),aQ 36 (.bin .neq (.t 35) (.c (.int .u8 60)))] (.cond (.t 36) (aM [MR 38 8,aQ 39 (.call MS [(.t 38),(me false)]),MR 37 39,ox 40 37 0,ox 41 37 1,MR 10 40,MR 11 41] (.seq (aM [MR 42 11,sB 43 42] (.cond (.t 43) (aM [zi 2,jM 3 false] .ret) .skip)) (.seq (.VL [MR 44 6,MR 45 9,jL 46 44 45 4,ep 47 46 3,fm 48 47,MR 49 10,aQ 50 (.sg [(.bool false),(.str []),.nil0,.nil0] [(0,(1,(me true))),(1,(1,(.t 49)))]),oy 51 48,aQ 52 (.lits 1 4 [(.bool false),(.str []),.nil0,.nil0] [(0,(.c (.agg [(.bool false),(.str []),.nil0,.nil0])))]),aQ 53 (.app (.t 48) (.t 52) 4 72),jL 54 53 51 4,gg (.store 4 (.t 54) (.t 50)),jL 55 44 45 4,ep 56 55 3,gg (.store 1 (.t 56) (.t 53))] [[],[],[0,1],[2],[3],[],[5],[4],[],[4,8,0,1,2,3,4,5,6,7,8],[9,7,0,1,2,3,4,5,6,7,8,9],[10,6,9,0,1,2,3,4,5,6,7,8,9],[0,1,0,1,2,3,4,5,6,7,8,9],[12,0,1,2,3,4,5,6,7,8,9],[13,9,9,0,1,2,3,4,5,6,7,8,9]] [.no,.no,.no,.no,(.rw [(.nest (.loc 900) 0 3)] []),.no,.no,.no,.no,(.rw [] [(.nest (.loc 900) 0 3),(.loc 53)]),.no,(.rw [] [(.loc 53)]),.no,.no,(.rw [] [(.nest (.loc 900) 0 3)])]) (.exit 1)))) .skip)) (.seq (aM [MR 57 8,aQ 58 (.call b7 [(.t 57),(.c (.str [60,47]))])] (.cond (.t 58) (aM [MR 59 8,aQ 60 (.ZL (.t 59) (some (jS 2)) none),aQ 61 (.call M1 [(.t 60),(.c (.str [62]))]),aQ 62 (.call Na [(.t 61),(.c (.str [32,10]))]),MR 12 62] (.seq (aM [MR 63 9,eY 64 .eql 63 0,MR 65 64,gV 66 65 12,gV 67 65 6,gV 68 65 9,iR 69 65 (.Vc (.t 67) (.t 68) 4),oH 70 65 69 1,oG 71 65 70,iR 72 65 (.bin .neq (.t 66) (.t 71)),sj 73 65 72] (.cond (.t 73) (aM [zi 2,jM 3 false] .ret) .skip)) (.seq (.seq (.gh .J7 (.VL [aQ 74 (.new [(.bool false)]),gg (.store 1 (.t 74) (me true)),gg (.store 1 (.t 74) (me false)),fm 75 74] [[],[0],[0],[0,0,1,2]] [.rw [] [.loc 74],.rw [] [.loc 74],.rw [] [.loc 74],.rw [.loc 74] []])) (.gh .vk (.cond (.t 75) (.seq (.VL [MR 76 6,MR 77 9,eY 78 .sub 77 1,MR 79 6,MR 80 9,eY 81 .sub 80 1,jL 82 79 81 4,ep 83 82 3,fm 84 83,MR 85 6,MR 86 9,jL 87 85 86 4,gz 88 4 87,oy 89 84,aQ 90 (.lits 1 4 [(.bool false),(.str []),.nil0,.nil0] [(0,(.c (.agg [(.bool false),(.str []),.nil0,.nil0])))]),aQ 91 (.app (.t 84) (.t 90) 4 72),jL 92 76 78 4,ep 93 92 3,gg (.store 1 (.t 93) (.t 91))] [[],[],[1],[],[],[4],[3,5],[6],[7],[],[],[9,10],[11],[8],[],[8,14,0,1,2,3,4,5,6,7,8,9,10,11,12,13,14],[0,2,0,1,2,3,4,5,6,7,8,9,10,11,12,13,14,15],[16,0,1,2,3,4,5,6,7,8,9,10,11,12,13,14,15],[17,15,15,0,1,2,3,4,5,6,7,8,9,10,11,12,13,14,15]] [.no,.no,.no,.no,.no,.no,.no,.no,(.rw [(.nest (.loc 900) 0 3)] []),.no,.no,.no,(.rw [(.nest (.loc 900) 0 3)] []),.no,.no,(.rw [] [(.nest (.loc 900) 0 3),(.loc 91)]),.no,.no,(.rw [] [(.nest (.loc 900) 0 3)])]) (.cq [jL 94 91 89 4,gg (.store 4 (.t 94) (.t 88))])) (.VL [MR 95 6,MR 96 9,eY 97 .sub 96 1,MR 98 6,MR 99 9,eY 100 .sub 99 1,jL 101 98 100 4,ep 102 101 3,fm 103 102,MR 104 6,MR 105 9,jL 106 104 105 4,gz 107 4 106,aQ 108 (.lits 1 4 [(.bool false),(.str []),.nil0,.nil0] [(0,(.t 107))]),aQ 109 (.app (.t 103) (.t 108) 4 72),jL 110 95 97 4,ep 111 110 3,gg (.store 1 (.t 111) (.t 109))] [[],[],[1],[],[],[4],[3,5],[6],[7],[],[],[9,10],[11],[12],[8,13],[0,2,0,1,2,3,4,5,6,7,8,9,10,11,12,13,14],[15,0,1,2,3,4,5,6,7,8,9,10,11,12,13,14],[16,14,14,0,1,2,3,4,5,6,7,8,9,10,11,12,13,14]] [.no,.no,.no,.no,.no,.no,.no,.no,(.rw [(.nest (.loc 900) 0 3)] []),.no,.no,.no,(.rw [(.nest (.loc 900) 0 3)] []),.no,(.rw [] [(.nest (.loc 900) 0 3),(.loc 109)]),.no,.no,(.rw [] [(.nest (.loc 900) 0 3)])])))) (aM [MR 112 6,MR 113 9,aQ 114 (.zr (.t 112) none (some (.t 113)) none 4),MR 6 114] (.exit 1))))) .skip)) (aM [MR 116 8,aQ 117 (.call Nb [(.t 116)]),MR 115 117,ox 118 115 0,ox 119 115 1,ox 120 115 2,aQ 13 (.new [(.bool false),(.str []),.nil0,.nil0]),gg (.store 4 (.t 13) (.t 118)),MR 14 119,MR 15 120] (.seq (aM [MR 121 15,sB 122 121,MR 123 122,gV 124 123 6,iR 125 123 (.len (.t 124)),iR 126 123 (.bin .gtr (.t 125) (jS 8)),sj 127 123 126] (.cond (.t 127) (aM [zi 2,jM 3 false] .ret) .skip)) (aM [MR 128 14] (.cond (.t 128) (.VL [MR 129 6,MR 130 9,jL 131 129 130 4,ep 132 131 3,fm 133 132,gz 134 4 13,oy 135 133,aQ 136 (.lits 1 4 [(.bool false),(.str []),.nil0,.nil0] [(0,(.c (.agg [(.bool false),(.str []),.nil0,.nil0])))]),aQ 137 (.app (.t 133) (.t 136) 4 72),jL 138 137 135 4,gg (.store 4 (.t 138) (.t 134)),jL 139 129 130 4,ep 140 139 3,gg (.store 1 (.t 140) (.t 137))] [[],[],[0,1],[2],[3],[],[4],[],[4,7,0,1,2,3,4,5,6,7],[8,6,0,1,2,3,4,5,6,7,8],[9,5,8,0,1,2,3,4,5,6,7,8],[0,1,0,1,2,3,4,5,6,7,8],[11,0,1,2,3,4,5,6,7,8],[12,8,8,0,1,2,3,4,5,6,7,8]] [.no,.no,.no,.no,(.rw [(.nest (.loc 900) 0 3)] []),.rw [.loc 13] [],.no,.no,(.rw [] [(.nest (.loc 900) 0 3),(.loc 137)]),.no,(.rw [] [(.loc 137)]),.no,.no,(.rw [] [(.nest (.loc 900) 0 3)])]) (.cq [MR 141 6,gz 142 4 13,aQ 143 (.gG 4 [(.bool false),(.str []),.nil0,.nil0] [(0,(.t 142))]),aQ 144 (.app (.t 141) (.t 143) 4 72),MR 6 144])))))))))) (.gh .vk (.cq [eY 145 .add 27 1,MR 27 145]))))))))) (aM [MR 146 6,aQ 147 (.Vc (.t 146) (jS 0) 4),ep 148 147 3,fm 149 148,MR 150 6,oy 151 150,eY 152 .eql 151 1,MR 2 149,MR 3 152] (.gh (.zS (.nest (.loc 900) 1 3) 2) .ret)))))))
abbrev Ug (l:List Bs):Type:={q:Nat×List Tree // q.1<=l.length/\q.2≠[]/\q.2.length<=9/\(l.drop q.1).foldlM Ni q.2.reverse=l.foldlM Ni [N0]/\∀x∈q.2,x.text=false/\x.kids.length<=q.1}
set_option maxHeartbeats 4000000 in
def SO {MX M_ MS b7 M1 Na Nb:Nat} (hF:aw P G MX=some (153,[(none,2),(none,3)],(NU M_ MS b7 M1 Na Nb).bare)) (s:Bs) (hs:s.length<=4096)
  (hP:au P G M_ [.str s] (Of s)) (TN:∀m:Bs,m.length<=4096->au P G MS [.str m,.bool false] (Nx false m))
  (Uh:∀m:Bs,m.length<=4096->au P G b7 [.str m,.str [60,47]] (.bool ([60,47].isPrefixOf m)))
  (Ub:∀s:Bs,s.length<=4096->au P G M1 [.str s,.str [62]] (.str (Lib.trimSuffix s [62])))
  (UU:∀s:Bs,s.length<=4096->au P G Na [.str s,.str [32,10]] (.str (Ov s)))
  (UW:∀m:Bs,m.length<=4096->au P G Nb [.str m] (ON m)):au P G MX [.str s] (NH s):=by
 refine aR hF tM aae (by unfold NH;split<;>simp[AV.an,ah]) ?_;unfold NU;simp only[↓aX,mX,seval];refine ay hP ?_;cases hp:M8 s with
 |none=>
  have e:NH s= .gf [.nil0,.bool false]:=by unfold NH;rw[hp];rfl
  simp only[↓aX,mX,seval,Of,hp,Bool.not_false,↓h_,e]
 |some l=>
 obtain⟨j4,Uc,Ij⟩:=RQ _ s l (Nat.le_refl _) hp;have res:∀r,l.foldlM Ni [N0]=r->NH s=match r with
   |some o=> .gf [.list (dq ((o.getLast?.map Tree.kids).getD [])),.bool (o.length==1)]
   |none=> .gf [.nil0,.bool false]:=λr h=>by unfold NH;rw[hp,Option.bind_some,h]<;>rfl
 simp only[↓aX,mX,seval,Of,hp,Bool.not_true];rw[aaV (sz:=4) (d:=24) (cs:=[.bool false,.str [],.nil0,.nil0]) (by simp[fg,AV.cells,AV.sI,AV.one]) aat rfl M3];simp only[↓aX,mX,seval];rw[Ox];refine⟨_,_,Pp (q:= .loc 24) (N:= .loc 1001) (i:=0) (j:=3) (sz:=4) (sq:=4) (els:=[[.bool false,.str [],.nil0,.nil0]]) aai rfl rfl aat M3,?_⟩;simp only[↓aX,mX,seval,List.length_map];refine SJ (σ:=Ug l) fl (λq=>S5 q.1.2) [] (λ_=>false) (λq=>Q_ l q.1.1 q.1.2.length (fl 0)) (λ_=>[]) (λq=>l.length - q.1.1)
  ⟨(0,[N0]),Nat.zero_le _,tM,tM,rfl,by simp[N0,Tree.text,Tree.kids]⟩ (λq p1 p2 _ _ e=>O2 e) (λ_=>rfl) tM ?_ tM ?_ ?_
 ·intro q l' kR;simp[ah,AV.an,Q_] at kR;subst kR;right;exact⟨0,PO.2 sf,rfl⟩
 ·refine NT.wh (lab:=λp=>if p=0 then .loc 24 else .loc 1001) ?_ ?_ ?_ rfl rfl rfl rfl
  ·refine NT.mk' ?_ ?_ ?_
   ·intro p q hp hq e;simp only[List.length_singleton] at hp hq
    match p,hp,q,hq with
    |0,_,0,_|1,_,1,_=>rfl
    |0,_,1,_|1,_,0,_=>simp at e
   ·simp[ae,PN,N0,Tree.s,Tree.kids]
   intro i x hx;cases i with
   |zero=>simp at hx;subst hx;simp[ae,N0,Tree.kids,dq,aB]
   |succ i=>simp at hx
  ·intro q hq;cases q<;>simp_all[Lb.entry,ae,Hp.none]
  intro p hp;by_cases h:p=0<;>simp[h,Lb.fresh]
 rintro⟨⟨i,o⟩,hi,Vi,h9,KJ,hx⟩;obtain⟨H0,EY⟩:∃H0,H0=Lw fl (S5 o) (ie (λ_=>false) []):=⟨_,rfl⟩;simp only at hi Vi h9 KJ hx ⊢;rw[<-EY];have hB:NT fl o H0:=by rw[EY];exact Ed.R6 (λp1 p2 _ _ e=>O2 e) _
 have hU:∀l':Lb,(∀p,fl p≠l')->H0 l'= .unused:=λl' h=>by rw[EY,Qa _ λp _=>h p];rfl
 have hE:∀l':Lb,l'.entry=true->H0 l'= .unused:=λl' he=>hU l' (by intro p e;subst e;simp[fl,Lb.entry] at he);have al:∀n,H0 (.loc n)= .unused:=λn=>hU _ aa1;clear hU EY;simp only[↓aX,mX,seval,Q_];refine AU (λh=> ?_) (λh=> ?_)
 ·have bI:i<l.length:=by simpa using h
  obtain⟨m,hm⟩:∃m,l[i]?=some m:=⟨_,List.getElem?_eq_getElem bI⟩;have Lc:=List.mem_of_getElem? hm;have Sp:m.length<=4096:=Nat.le_trans (Uc m Lc) hs;have hw:IntKind.i64.wrap ((i:Int)+1)=((i+1:Nat):Int):=wrap64 sf sf;obtain⟨o0,x,rfl⟩:∃o0 x,o=o0++[x]:=⟨o.dropLast,o.getLast Vi,(List.dropLast_concat_getLast Vi).symm⟩;obtain⟨t,sk⟩:∃t,t=o0.length:=⟨_,rfl⟩;have ht:(o0++[x]).length=t+1:=by simp[sk]
  have qD:(o0++[x])[t]?=some x:=by rw[sk,List.getElem?_append_right (Nat.le_refl _)];simp
  obtain⟨TB,UX⟩:=hx x tM;have h9:t+1<=9:=by rw[<-ht];exact h9
  have MA:IntKind.i64.wrap (((t+1:Nat):Int) - 1)=((t:Nat):Int):=by rw[wrap64 sf sf];omega
  obtain⟨c,r,rfl⟩:∃c r,m=c::r:=by
   cases m with
   |nil=>exact absurd rfl (j4 _ Lc).1
   |cons c r=>exact⟨c,r,rfl⟩
  have mV:∀q,Ni (x::o0.reverse) (c::r)=q->l.foldlM Ni [N0]=q.bind λo'=>(l.drop (i+1)).foldlM Ni o':=λq h=>by
   rw[<-KJ,drop_eq hm,List.reverse_append];simp only[List.reverse_cons,List.reverse_nil,List.nil_append,List.cons_append,List.foldlM_cons,h];rfl
  have RW:Ni (x::o0.reverse) (c::r)=none->NH s= .gf [.nil0,.bool false]:=λh=>res none (mV none h);have SP:∀o':List Tree,Ni (x::o0.reverse) (c::r)=some o'.reverse->o'≠[]->o'.length<=9->(∀y∈o',y.text=false/\y.kids.length<=i+1) ->
    i+1<=l.length/\o'≠[]/\o'.length<=9/\(l.drop (i+1)).foldlM Ni o'.reverse=l.foldlM Ni [N0]/\∀y∈o',y.text=false/\y.kids.length<=i+1:=
   λo' h1 h2 h3 h4=>⟨bI,h2,h3,by rw[mV _ h1];rfl,h4⟩
  have vf:∀y:Tree,(o0++[x]).set t y=o0++[y]:=λy=>by rw[sk,List.set_append_right _ _ (Nat.le_refl _),Nat.sub_self];rfl
  have Tm:∀y:Tree,Ni (x::o0.reverse) (c::r)=some (x.MZ [y]::o0.reverse)->∀{d:Nat} {H2:Hp} {env:Env},NT (OH t (.loc d)) ((o0++[x]).set t (x.MZ [y])) H2->(∀l:Lb,l.entry=true->H2 l= .unused) ->
    env 6= .sl (fl 0) 4 0 (t+1)->env 25= .list (l.map IV.str)->env 26= .int .i64 l.length->env 27= .int .i64 ((i+1:Nat):Int) ->
    ∃q:Ug l,l.length - q.1.1<l.length - i/\∃lab m,WH fl (S5 q.1.2) [] (λ_=>false) (Q_ l q.1.1 q.1.2.length (fl 0)) [] env H2 lab m:=by
   intro y h1 d H2 env h2 h3 h6 Pr TP TQ;rw[vf] at h2;refine⟨⟨(i+1,o0++[x.MZ [y]]),SP _ (by rw[h1,List.reverse_append];rfl) tM (by simp at ht ⊢;omega) λz hz=> ?_⟩,aac,NT.wh h2 h3 (λp _=>PQ t d p) ?_ Pr TP TQ⟩
   ·rcases List.mem_append.1 hz with hz|hz
    ·have:=hx z (by simp[hz]);exact⟨this.1,sf⟩
    simp only[List.mem_singleton] at hz;subst hz;cases x;simp only[Tree.MZ,Tree.text,Tree.kids,List.length_append,List.length_singleton] at TB UX ⊢;exact⟨TB,sf⟩
   rw[h6];simp at ht ⊢;rw[sk];simp[OH];omega
  have I_:=hB.TO;have Uu:=Qg (lab:=fl) qD;have sr:=hB.k qD;have T2:(0=1+t)=False:=eq_false sf;have GX:(1+t=0)=False:=eq_false sf;obtain⟨E,Tn⟩:∃E,E=(o0++[x]).mapIdx (PN fl):=⟨_,rfl⟩;rw[<-Tn] at I_ Uu;have Ui:E.length=t+1:=by rw[Tn,List.length_mapIdx,ht]
  obtain⟨A,hA⟩:∃A:AV,A=if t=0 then .nil0 else .list (cD x.attrs):=⟨_,rfl⟩;have JX:A.one=true/\A.an=[]:=by rw[hA];split<;>exact⟨rfl,rfl⟩
  have PU:E[t]?=some [.bool false,.str x.s,A,.sl (fl (1+t)) 4 0 x.kids.length]:=by rw[Uu,hA];rfl
  have UY:(l.map IV.str)[i]?=some (.str (c::r)):=by simp[hm]
  have ll:jV 1 (l.map IV.str):=by intro y hy;simp only[List.mem_map] at hy;obtain⟨w',_,rfl⟩:=hy;rfl
  simp only[↓aX,mX,seval,UY,ll,IV.cells,Int.natCast_nonneg,Int.toNat_natCast,ht,MA,List.getElem?_cons_zero,Option.map_some,Int.toNat_zero,show(0:Int)<=0 from Int.le_refl 0];rw[show((c.toNat:Int) !=60)= !(c==60) by rw[bne,show((c.toNat:Int)==60)=(c==60) from T' c 60 M3]];by_cases tv:c=60
  ·subst tv;obtain⟨a,ha⟩:=(j4 _ Lc).2 rfl;simp only[List.cons.injEq,true_and] at ha;subst ha;simp only[↓aX,mX,seval,beq_self_eq_true,Bool.not_true];refine ay (Uh _ Sp) ?_;cases HE:[60,47].isPrefixOf (60::(a++[62])) with
   |true=>
    obtain⟨y,rfl⟩:∃y,a=47::y:=by
     cases a with
     |nil=>simp[List.isPrefixOf] at HE
     |cons d y=>simp[List.isPrefixOf] at HE;exact⟨y,by rw[HE]⟩
    have e1:Lib.trimSuffix (y++[62]) [62]=y:=(by simp[Lib.trimSuffix,Lib.hasSuffix]);have H9:(y++[62]).length+2=(60::(47::y++[62])).length:=tM;simp only[↓aX,mX,seval,lk,Int.natCast_nonneg,show(0:Int)<=2 by decide,show(2:Int).toNat=2 from rfl,true_and,Option.bind_some,Option.map_some,List.take_length,List.cons_append,List.length_cons,show 2<=(y++[62]).length+1+1 by omega,List.drop_succ_cons,List.drop_zero,Nat.le_refl,show List.take ((y++[62]).length+1+1) (60::47::(y++[62]))=60::47::(y++[62]) from List.take_length (l:=60::47::(y++[62]))];refine ay (Ub _ sf) ?_;rw[e1];simp only[↓aX,mX,seval];refine ay (UU y (by simp at Sp;omega)) ?_;have hc:Ni (x::o0.reverse) (60::(47::y++[62]))=match o0.reverse with
      |[]=>none
      |up::rest=>if Ov y=x.s then some (up.MZ [x]::rest) else none:=by
     have hd:((60::(47::y++[62])).drop 2).dropLast=y:=tM;unfold Ni;simp only[List.head?_cons,ne_eq,not_true_eq_false,if_false,HE,if_true,hd];rfl
    simp only[↓aX,mX,seval,MA,ht];rcases List.eq_nil_or_concat o0 with h0|⟨o1,u,h0⟩
    ·subst h0;have Uj:t=0:=sk;simp only[↓aX,mX,seval,MA,ht,show(((t:Nat):Int)==0)=true by rw[Uj];rfl,↓h_,RW hc]
    rw[List.concat_eq_append] at h0;subst h0;have BO:(o1++[u]).reverse=u::o1.reverse:=tM;rw[BO] at hc;simp only at hc;have e0:(((t:Nat):Int)==0)=false:=(by rw[beq_eq_false_iff_ne];simp at sk;omega);simp only[↓aX,mX,seval,MA,ht,e0,Int.natCast_nonneg,Int.toNat_natCast,show t<t+1 by omega,Nat.zero_add,I_,PU];cases QM:(Ov y==x.s) with
    |false=>
     rw[if_neg (by simpa using QM)] at hc;simp only[↓aX,mX,seval,MA,ht,e0,QM,Bool.not_false,↓h_,RW (by rw[BO];exact hc)]
    |true=>
    rw[if_pos (by simpa using QM)] at hc;simp only[↓aX,mX,seval,MA,ht,e0,QM,Bool.not_true];rw[Tj];refine⟨rfl,SN (show 74<153 by decide) (show 75<153 by decide) M3 (al 74) λb H' T3=> ?_⟩;obtain⟨k,hk⟩:∃k,k=o1.length:=⟨_,rfl⟩;have E0:t=k+1:=(by simp at sk;omega);subst E0;obtain⟨X,hX⟩:∃X:Lb->Option (Nat×List IV),X=λq=>if q=fl (1+(k+1)) then some (4,dq x.kids) else none:=⟨_,rfl⟩;have X0:∀p,p≠1+(k+1)->X (fl p)=none:=λp hp=>(by rw[hX];simp only[NL,hp,if_false]);have XL:∀n,X (.loc n)=none:=λn=>(by rw[hX];simp only[N4,if_false]);have X1:X (fl (1+(k+1)))=some (4,dq x.kids):=(by rw[hX];simp only[if_true]);have Uv:(o1++[u]++[x])[k]?=some u:=(by rw[hk,List.append_assoc,List.getElem?_append_right (Nat.le_refl _)];simp);obtain⟨T4,CR⟩:=hx u tM;have UZ:=hB.k Uv;have Uw:=Qg (lab:=fl) Uv;rw[<-Tn] at Uw;have Ld:∀p,H' (fl p)=H0 (fl p):=λp=>T3 _ aa1;rw[Ox];refine⟨_,_,Rz X (λq sz xs h=> ?_) (env2:=o9 [(6,.sl (fl 0) 4 0 (k+1+1)),(9,.int .i64 ((k+1:Nat):Int)),(25,.list (l.map IV.str)),(26,.int .i64 l.length),(27,.int .i64 i),(75,.bool b)]) (Sm ?_),?_⟩
    ·rw[hX] at h;by_cases e:q=fl (1+(k+1))
     ·subst e;simp only[if_true,Option.some.injEq,Prod.mk.injEq] at h;obtain⟨rfl,rfl⟩:=h;exact⟨(Ld _).trans sr,rfl,pa _⟩
     simp only[e,if_false] at h;cases h
    ·intro q hq;simp only[List.mem_cons,List.not_mem_nil,or_false] at hq;rcases hq with rfl|rfl|rfl|rfl|rfl|rfl
     ·simp[put,Py,X0,ht]
     all_goals rfl
    have g0:Pz X H' (fl 0)= .live ⟨4,E.map (Ol X)⟩:=(by rw[PB (X0 0 sf) ((Ld 0).trans I_)]);have gk:∀j z,o1[j]?=some z->Pz X H' (fl (1+j))= .live ⟨4,aB (dq z.kids)⟩:=λj z hz=>by
     have bI:=(List.getElem?_eq_some_iff.1 hz).1;have oz:(o1++[u]++[x])[j]?=some z:=(by rw[List.append_assoc,List.getElem?_append_left bI];exact hz);rw[PB (X0 (1+j) sf) ((Ld _).trans (hB.k oz)),R4]
    have gu:Pz X H' (fl (1+k))= .live ⟨4,aB (dq u.kids)⟩:=(by rw[PB (X0 (1+k) sf) ((Ld _).trans UZ),R4]);have gE:∀l:Lb,l.entry=true->Pz X H' l= .unused:=λl he=>by
     have n1:l≠ .loc 74:=(by rintro rfl;simp[Lb.entry] at he);have n2:X l=none:=(by rw[hX];simp only;rw[if_neg];rintro rfl;simp[fl,Lb.entry] at he);unfold Pz;rw[n2,T3 l n1,hE l he]
    have gl:∀n,n≠74->Pz X H' (.loc n)= .unused:=λn hn=>by
     unfold Pz;rw[XL n,T3 _ (by simpa using hn),al n]
    obtain⟨E2,TA⟩:∃E2,E2=E.map (Ol X):=⟨_,rfl⟩;rw[<-TA] at g0;have Lh:A= .list (cD x.attrs):=(by rw[hA,if_neg sf]);obtain⟨A',J4⟩:∃A':AV,A'=if k=0 then .nil0 else .list (cD u.attrs):=⟨_,rfl⟩;have fA:Py X A'=A':=(by rw[J4];split<;>rfl);have f1:E2[k+1]?=some [.bool false,.str x.s,.list (cD x.attrs),.list (dq x.kids)]:=by
     rw[TA,List.getElem?_map,PU,Lh];simp only[Option.map_some,Pb,PC,S8 X1 (bF _).symm];rfl
    have f2:E2[k]?=some [.bool false,.str u.s,A',.sl (fl (1+k)) 4 0 u.kids.length]:=by
     rw[TA,List.getElem?_map,Uw];simp only[Option.map_some,PN,Pb,PC,<-J4,fA,Py,X0 (1+k) sf]
    have f3:E2.take (k+1)=(o1++[u]).mapIdx (PN fl):=by
     refine List.ext_getElem? λj=> ?_;rw[TA,Tn,List.getElem?_take,List.getElem?_map,List.getElem?_mapIdx,List.getElem?_mapIdx];by_cases hj:j<k+1
     ·rw[if_pos hj,List.getElem?_append_left aak];cases hz:(o1++[u])[j]? with
      |none=>rfl
      |some z=>
      have:Py X (if j=0 then AV.nil0 else .list (cD z.attrs))=if j=0 then AV.nil0 else .list (cD z.attrs):=(by split<;>rfl);simp only[Option.map_some,PN,Pb,PC,this,Py,X0 (1+j) sf]
     rw[if_neg hj,List.getElem?_eq_none aak];rfl
    have ME:IntKind.i64.wrap (((k+1:Nat):Int) - 1)=((k:Nat):Int):=(by rw[wrap64 sf sf];omega);clear hX X0 XL X1 Ld T3;generalize Pz X H'=H3 at *;have TW:∀{d:Nat} {H2:Hp} {env:Env},NT (OH k (.loc d)) (o1++[u.MZ [x]]) H2->(∀l:Lb,l.entry=true->H2 l= .unused) ->
      env 6= .sl (fl 0) 4 0 (k+1)->env 25= .list (l.map IV.str)->env 26= .int .i64 l.length->env 27= .int .i64 ((i+1:Nat):Int) ->
      ∃q:Ug l,l.length - q.1.1<l.length - i/\∃lab m,WH fl (S5 q.1.2) [] (λ_=>false) (Q_ l q.1.1 q.1.2.length (fl 0)) [] env H2 lab m:=by
     intro d H2 env h2 h3 h6 Pr TP TQ;refine⟨⟨(i+1,o1++[u.MZ [x]]),SP _ (by rw[BO,hc,List.reverse_append];rfl) tM aak λz hz=> ?_⟩,aac,NT.wh h2 h3 (λp _=>PQ k d p) ?_ Pr TP TQ⟩
     ·rcases List.mem_append.1 hz with hz|hz
      ·have:=hx z (by simp[hz]);exact⟨this.1,sf⟩
      simp only[List.mem_singleton] at hz;subst hz;cases u;simp only[Tree.MZ,Tree.text,Tree.kids,List.length_append,List.length_singleton] at T4 CR ⊢;exact⟨T4,sf⟩
     rw[h6];simp[OH,hk];intro h;omega
    have Ux:(0=1+k)=False:=eq_false sf;cases b with
    |true=>
     simp only[↓aX,mX,seval];refine⟨aax,?_⟩;simp only[↓aX,mX,seval,ME,Int.natCast_nonneg,Int.toNat_natCast,show k<k+1+1 by omega,show k+1<k+1+1 by omega,g0,gu,f1,f2,Nat.zero_add,N3,N4,NL];refine⟨rfl,rfl,?_⟩;rw[ux (l:=fl (1+k)) gu (by rw[lQ,bF]) rfl aaw sf M3 (by rw[N5];simp[fl]) (by rw[N5];exact gl _ M3),N5];simp only[↓aX,mX,seval,ME,Int.natCast_nonneg,Int.toNat_natCast,show k<k+1+1 by omega,show k+1<k+1+1 by omega,g0,gu,f1,f2,Nat.zero_add,N3,N4,NL,Ux];refine⟨by rintro l (rfl|rfl)<;>simp[fl,Lb.iQ,Lb.fresh],?_⟩;refine⟨rfl,?_⟩;rw[show(aB [IV.agg [IV.bool false,IV.str [],IV.list [],IV.list []]])=[[.bool false,.str [],.list [],.list []]] from rfl];simp only[↓aX,mX,seval,show u.kids.length<u.kids.length+1 by omega,List.getElem?_append_right,lQ,bF,Nat.le_refl,Nat.sub_self,N3,N4,NL,List.getElem?_cons_zero,Cs,nB,lk,Int.natCast_nonneg,Int.toNat_natCast,true_and,show k+1<=k+1+1 by omega,Option.bind_some,Option.map_some,Nat.zero_le,Option.isSome_none,Nat.add_zero,Nat.sub_zero];rw[Ox];refine Exists.elim (So (d:=91) (x:=x) (u:=u) (o1:=o1) (E2:=E2) hk ?_ T4 J4 f3 (by simp[ae,fl]) abh ?_ ?_) λH4 h4=>⟨_,H4,h4.1,?_⟩
     ·intro q he;rw[aq _ _ (by rintro rfl;simp[fl,Lb.entry] at he),aq _ _ (by rintro rfl;simp[fl,Lb.entry] at he),aq _ _ (by rintro rfl;simp[fl,Lb.entry] at he),aq _ _ (by rintro rfl;simp[fl,Lb.entry] at he)];exact gE q he
     ·exact OW (by rw[TB];rfl)
     ·intro j z hz;have bI:=(List.getElem?_eq_some_iff.1 hz).1;rw[aq _ _ aa1,aq _ _ (by rw[Ne,NL];omega),aq _ _ aa1,aq _ _ (by rw[Ne,NL];omega)];exact gk j z hz
     simp only[↓aX,mX,seval,hw];exact TW h4.2.1 h4.2.2 rfl rfl rfl rfl
    |false=>
    simp only[↓aX,mX,seval];refine⟨aax,?_⟩;simp only[↓aX,mX,seval,ME,Int.natCast_nonneg,Int.toNat_natCast,show k<k+1+1 by omega,show k+1<k+1+1 by omega,g0,gu,f1,f2,Nat.zero_add,N3,N4,NL];refine⟨rfl,rfl,?_⟩;rw[ux (l:=fl (1+k)) gu (by rw[lQ,bF]) rfl aaw sf M3 (by rw[N5];simp[fl]) (by rw[N5];exact gl _ M3),N5];simp only[↓aX,mX,seval,ME,Int.natCast_nonneg,Int.toNat_natCast,show k<k+1+1 by omega,show k+1<k+1+1 by omega,g0,gu,f1,f2,Nat.zero_add,N3,N4,NL,Ux];refine⟨by rintro l (rfl|rfl)<;>simp[fl,Lb.iQ,Lb.fresh],?_⟩;refine⟨rfl,?_⟩;simp only[↓aX,mX,seval,Cs,nB,lk,Int.natCast_nonneg,Int.toNat_natCast,true_and,show k+1<=k+1+1 by omega,Option.bind_some,Option.map_some,Nat.zero_le,Option.isSome_none,Nat.add_zero,Nat.sub_zero];rw[Ox];refine Exists.elim (So (d:=109) (x:=x) (u:=u) (o1:=o1) (E2:=E2) hk ?_ T4 J4 f3 (by simp[ae,fl]) abh ?_ ?_) λH4 h4=>⟨_,H4,h4.1,?_⟩
    ·intro q he;rw[aq _ _ (by rintro rfl;simp[fl,Lb.entry] at he),aq _ _ (by rintro rfl;simp[fl,Lb.entry] at he),aq _ _ (by rintro rfl;simp[fl,Lb.entry] at he)];exact gE q he
    ·exact RU (by rw[TB];rfl)
    ·intro j z hz;have bI:=(List.getElem?_eq_some_iff.1 hz).1;rw[aq _ _ (by rw[Ne,NL];omega),aq _ _ aa1,aq _ _ (by rw[Ne,NL];omega)];exact gk j z hz
    simp only[↓aX,mX,seval,hw];exact TW h4.2.1 h4.2.2 rfl rfl rfl rfl
   |false=>
   obtain⟨m,TC⟩:∃m,m=60::(a++[62]):=⟨_,rfl⟩;have GR:=QD a;simp only at GR;rw[<-TC] at GR;have hd:(m.drop 1).dropLast=a:=(by rw[TC];simp);rw[hd] at GR;have hc:Ni (x::o0.reverse) m=(Oa a).bind λz=>if 8<(x::o0.reverse).length then none else if z.2.2 then some (x.MZ [.mk false z.1 z.2.1 []]::o0.reverse) else some (.mk false z.1 z.2.1 []::x::o0.reverse):=by
    unfold Ni;simp only;rw[if_neg (by rw[TC];simp),if_neg (by rw[TC,HE];simp),hd]
   rw[<-TC] at Sp RW SP Tm;rw[<-TC];simp only[↓aX,mX,seval];refine ay (UW m Sp) ?_;simp only[↓aX,mX,seval,ON,al 13,IV.dQ];have TX:(x::o0.reverse).length=t+1:=(by simp[sk]);cases TZ:Oa a with
   |none=>
    rw[TZ] at hc GR;simp only[↓aX,mX,seval,GR,Bool.not_false,↓h_,RW hc]
   |some z=>
   obtain⟨nm,kr,e⟩:=z;rw[TZ] at hc GR;obtain⟨b1,b2,b3,b4⟩:=GR;rw[b1] at b4;rw[Option.bind_some,TX] at hc;simp only at hc;simp only[↓aX,mX,seval,b1,b2,b3,b4,Bool.not_true,ht];by_cases h8:8<t+1
   ·rw[if_pos h8] at hc;simp only[↓aX,mX,seval,show decide (((t+1:Nat):Int)>8)=true by simp;omega,↓h_,RW hc]
   rw[if_neg h8] at hc;simp only[↓aX,mX,seval,show decide (((t+1:Nat):Int)>8)=false by simp;omega];have Uk:∀r1 r2 p,(bD (bD H0 (.loc 13) r1) (.loc 13) r2) (fl p)=H0 (fl p):=λr1 r2 p=>(by simp only[ae,N3,if_false]);cases e with
   |true=>
    rw[if_pos rfl] at hc;simp only[↓aX,mX,seval,b3];refine⟨aax,?_⟩;simp only[↓aX,mX,seval,ht,MA,Int.natCast_nonneg,Int.toNat_natCast,show t<t+1 by omega,I_,PU,sr,Nat.zero_add,N3,N4,NL];refine⟨rfl,?_⟩;rw[ux (l:=fl (1+t)) ((Uk _ _ _).trans sr) (by rw[lQ,bF]) rfl aaw sf M3 (by rw[N5];simp[fl]) (by rw[N5];simp[ae,al]),N5];simp only[↓aX,mX,seval,ht,MA,Int.natCast_nonneg,Int.toNat_natCast,show t<t+1 by omega,I_,PU,sr,Nat.zero_add,N3,N4,NL];refine⟨by rintro l (rfl|rfl)<;>simp[fl,Lb.iQ,Lb.fresh],?_⟩;simp only[↓aX,mX,seval,show x.kids.length<x.kids.length+1 by omega,Nat.zero_add,List.getElem?_append_right,lQ,bF,Nat.le_refl,Nat.sub_self,N3,N4,NL,I_,PU,T2];rw[show(aB [IV.agg [IV.bool false,IV.str [],IV.list [],IV.list []]])[0]?=some [.bool false,.str [],.list [],.list []] from rfl];simp only[↓aX,mX,seval,List.length_cons,List.length_nil,show 4<=0+1+1+1+1 by decide,eP,N3,N4,NL,I_,PU,show t<t+1 by omega,Nat.zero_add,Nat.reduceAdd,T2,ht];refine⟨rfl,?_⟩;rw[Ox];refine Exists.elim (Rb (d:=137) (y:= .mk false nm kr []) ((hB.loc 13 _).loc 13 _) (λq he=> ?_) qD TB hA (by rw[<-Tn];simp[ae,fl]) abh ?_ (λq a b c=>by rw[aq _ _ a,aq _ _ c,aq _ _ c,aq _ _ b])) λH2 h=>⟨_,H2,h.1,?_⟩
    ·rw[aq _ _ (by rintro rfl;simp[Lb.entry] at he),aq _ _ (by rintro rfl;simp[Lb.entry] at he)];exact hE q he
    ·exact OW (by rw[b1,b2];rfl)
    simp only[↓aX,mX,seval,hw];exact Tm _ hc h.2.1 h.2.2 rfl rfl rfl rfl
   |false=>
   rw[if_neg M3] at hc;simp only[↓aX,mX,seval,b3];rw[aaV (sz:=4) (d:=143) (cs:=[.bool false,.str nm,.list (cD kr),.nil0]) (by simp[fg,AV.cells,AV.sI,AV.one,b1,b2]) (by simp[ae,al]) rfl M3];simp only[↓aX,mX,seval,ht];rw[SM (l:=fl 0) (q:= .loc 143) (els:=E) (cs:=[.bool false,.str nm,.list (cD kr),.nil0]) (by simp[ae,fl];exact I_) aai (by intro z hz;simp at hz;rcases hz with rfl|rfl|rfl|rfl<;>rfl) Ui sf M3 (by rw[N5];simp[fl]) (by rw[N5];simp[ae,al]),N5];simp only[↓aX,mX,seval,hw];rw[Ox];refine⟨_,_,Pp (q:= .loc 144) (N:= .loc 1001) (i:=t+1) (j:=3) (sz:=4) (sq:=4) (els:=E++[[.bool false,.str nm,.list (cD kr),.nil0]]) (cs:=[.bool false,.str nm,.list (cD kr),.nil0]) aai (by rw[List.getElem?_append_right sf,Ui,Nat.sub_self];rfl) rfl (by simp[ae,fl,al]) M3,?_⟩;simp only[↓aX,mX,seval,hw];refine⟨⟨(i+1,o0++[x]++[.mk false nm kr []]),SP _ (by rw[hc];simp) tM (by simp at ht ⊢;omega) λz hz=> ?_⟩,aac,NT.wh (lab:=OG (t+1) (.loc 144) (.loc 1001)) ?_ ?_ ?_ ?_ rfl rfl rfl⟩
   ·rcases List.mem_append.1 hz with hz|hz
    ·have:=hx z hz;exact⟨this.1,sf⟩
    simp only[List.mem_singleton] at hz;subst hz;exact⟨rfl,by simp[Tree.kids]⟩
   ·rw[show OG (t+1) (Lb.loc 144) (Lb.loc 1001)=OG (o0++[x]).length (.loc 144) (.loc 1001) by rw[ht]];refine NT.push hB Vi rfl aa1 aa1 tM ?_ ?_ ?_
    ·rw[ae,if_pos rfl,<-Tn,List.set_append_right _ _ sf,Ui,Nat.sub_self];rfl
    ·simp[ae]
    intro p hp _;simp[ae,fl,hp]
   ·intro q he;have hq:=hE q he;cases q<;>simp[Lb.entry] at he;simp[ae,fl,hq]
   ·intro p _;unfold OG;split
    ·rfl
    split<;>rfl
   show AV.sl (Lb.loc 144) 4 0 (t+1+1)=AV.sl (Lb.loc 144) 4 0 (o0++[x]++[_]).length;rw[List.length_append,ht];rfl
  have hh:(c::r).head?≠some 60:=by simpa using tv
  have g_:Ni (x::o0.reverse) (c::r)=(MY false (c::r)).map λv=>x.MZ [.mk true v [] []]::o0.reverse:=by unfold Ni;simp only[if_pos hh]
  simp only[↓aX,mX,seval,show(c==60)=false by simpa using tv,Bool.not_false];refine ay (TN (c::r) Sp) ?_;cases TD:MY false (c::r) with
  |none=>
   rw[TD] at g_;simp only[↓aX,mX,seval,Nx,TD,Bool.not_false,↓h_,RW g_]
  |some v=>
  rw[TD] at g_;simp only[↓aX,mX,seval,Nx,TD,Bool.not_true,ht,MA,Int.natCast_nonneg,Int.toNat_natCast,show t<t+1 by omega];refine⟨aax,?_⟩;simp only[↓aX,mX,seval,Nx,TD,Bool.not_true,ht,MA,Int.natCast_nonneg,Int.toNat_natCast,show t<t+1 by omega,I_,PU,sr,Nat.zero_add,N3,N4,NL];refine⟨rfl,?_⟩;rw[ux (l:=fl (1+t)) sr (by rw[lQ,bF]) rfl aaw sf M3 (by rw[N5];simp[fl]) (by rw[N5];exact al _),N5];simp only[↓aX,mX,seval,Nx,TD,Bool.not_true,ht,MA,Int.natCast_nonneg,Int.toNat_natCast,show t<t+1 by omega,I_,PU,sr,Nat.zero_add,N3,N4,NL];refine⟨by rintro l (rfl|rfl)<;>simp[fl,Lb.iQ,Lb.fresh],?_⟩;simp only[↓aX,mX,seval,show x.kids.length<x.kids.length+1 by omega,Nat.zero_add,List.getElem?_append_right,lQ,bF,Nat.le_refl,Nat.sub_self,N3,N4,NL,I_,PU,T2];rw[show(aB [IV.agg [IV.bool false,IV.str [],IV.list [],IV.list []]])[0]?=some [.bool false,.str [],.list [],.list []] from rfl];simp only[↓aX,mX,seval,List.length_cons,List.length_nil,show 4<=0+1+1+1+1 by decide,eP,N3,N4,NL,I_,PU,show t<t+1 by omega,Nat.zero_add,Nat.reduceAdd,T2];refine⟨rfl,?_⟩;rw[Ox];refine Exists.elim (Rb (d:=53) (y:= .mk true v [] []) hB hE qD TB hA (by rw[<-Tn];simp[ae,fl]) abh ?_ (λq a b c=>by rw[aq _ _ a,aq _ _ c,aq _ _ c,aq _ _ b])) λH2 h=>⟨_,H2,h.1,?_⟩
  ·exact OW rfl
  simp only[↓aX,mX,seval,hw];exact Tm _ g_ h.2.1 h.2.2 (show AV.sl (fl 0) 4 0 (o0++[x]).length=_ by rw[ht]) rfl rfl rfl
 have XV:i=l.length:=by
  have:¬i<l.length:=by simpa using h
  omega
 obtain⟨x,o2,rfl⟩:∃x o2,o=x::o2:=by
  cases o with
  |nil=>exact absurd rfl Vi
  |cons x o2=>exact⟨x,o2,rfl⟩
 have hd:l.drop i=[]:=by rw[XV];exact List.drop_length
 rw[hd] at KJ;have hr:=res (some (x::o2).reverse) KJ.symm;have I_:=hB.TO;have sr:=hB.k (i:=0) (x:=x) rfl;have hE:=Qg (lab:=fl) (o:=x::o2) (i:=0) rfl;simp only[↓aX,mX,seval,NL,N3,N4,I_,hE,PN,Int.toNat_zero,show(0:Int)<=0 from Int.le_refl 0,List.length_cons,show 0<o2.length+1 by omega,Nat.zero_add];refine⟨4,dq x.kids,0,_,rfl,sr,by rw[bF];omega,pa _,?_⟩;have CM:List.take x.kids.length (dq x.kids)=dq x.kids:=List.take_of_length_le (by rw[bF];exact Nat.le_refl _);have KX:(((o2.length+1:Nat):Int)==1)=((x::o2).reverse.length==1):=by
  rw[Bool.eq_iff_iff];simp only[beq_iff_eq,List.length_reverse,List.length_cons];omega
 simp only[↓aX,mX,seval,↓h_,hr,List.drop_zero,CM,KX,List.getLast?_reverse,List.head?_cons,Option.map_some,Option.getD_some]
end

theorem QF (s:Bs):Pm s=match Oe s with
  |some l=>if content l then(l,0) else([],1)
  |none=>([],1):=by
 unfold Pm;rw[OC];split
 ·rename_i l h;rw[h]
 rename_i h;split
 ·rename_i l h2;split at h2
  ·rename_i ks h3;exact absurd h3 (h ks)
  cases h2
 rfl
theorem RX (s:Bs):OF s=if 2500<s.length then(([],2):Bs×Int) else match MY false s with
  |some t=>if plain t then((t,0):Bs×Int) else(([],1):Bs×Int)
  |none=>(([],1):Bs×Int):=by
 unfold OF MY;split
 ·rfl
 cases bm false s with
 |none=>rfl
 |some y=>obtain⟨t,r⟩:=y;cases r<;>rfl
section
variable {P:Program} {G:Nat->Option (List IV)}
def Ns (MX M4:Nat):AC:=
(aM [zi 2,gH 3 0] (.seq (aM [MR 6 0,oF 7 6,eY 8 .gtr 7 2500] (.cond (.t 8) (aM [zi 2,gH 3 2] .ret) .skip)) (aM [MR 10 0,aQ 11 (.call MX [(.t 10)]),MR 9 11,ox 12 9 0,ox 13 9 1,MR 4 12,MR 5 13] (.seq (aM [MR 14 5,sB 15 14,MR 16 15,gV 17 16 4,iR 18 16 (.call M4 [(.t 17)]),iR 19 16 (.not (.t 18)),sj 20 16 19] (.cond (.t 20) (aM [zi 2,gH 3 1] .ret) .skip)) (aM [MR 21 4,MR 2 21,gH 3 0] .ret)))))
def PV {M0 MX M4:Nat} (hF:aw P G M0=some (22,[(none,2),(none,3)],(Ns MX M4).bare)) (s:Bs) (hl:s.length<=B) (Ul:∀s:Bs,s.length<=4096->au P G MX [.str s] (NH s))
  (hI:∀l:List Tree,dE l<=3*s.length->au P G M4 [.list (dq l)] (.bool (content l))):au P G M0 [.str s] (.gf [.list (dq (NQ s).1),.int .i64 (NQ s).2]):=by
 refine Ws hF tM aae aao ?_;have zo:B=1073741824:=rfl;unfold Ns NQ;simp only[↓aX,mX,seval];by_cases Pr:2500<s.length
 ·simp only[↓aX,mX,seval,show decide ((s.length:Int)>2500)=true by simp;omega,Pr,Rc,↓h_]
  try rfl
 simp only[↓aX,mX,seval,show decide ((s.length:Int)>2500)=false by simp;omega,Pr,nX];refine ay (Ul s sf) ?_;rw[QF];cases hf:Oe s with
 |none=>
  obtain⟨x,hx,hr⟩:=O_ hf;simp only[hr];rcases hx with rfl|⟨ks,rfl⟩<;>simp only[↓aX,mX,seval,QI,↓h_,Pr,nX]<;>rfl
 |some l=>
 have hw:dE l<=3*s.length:=by
  rw[OC] at hf;split at hf
  ·rename_i ks h;cases hf;have:=vP (λs t r h=>l9 8 s t r h) _ s l [] (PW _) h;simpa using this
  cases hf
 rw[O' hf];simp only[↓aX,mX,seval,QK];refine ay (hI l hw) ?_;cases hc:content l with
 |false=>simp only[↓aX,mX,seval,QI,↓h_,Pr,nX,hc];rfl
 |true=>simp only[↓aX,mX,seval,QK,↓h_,Pr,nX,hc];rfl
def Nz (MS ga:Nat):AC:=
(aM [aQ 2 (.iC (.c (.str []))),gH 3 0] (.seq (aM [MR 6 0,oF 7 6,eY 8 .gtr 7 2500] (.cond (.t 8) (aM [aQ 2 (.iC (.c (.str []))),gH 3 2] .ret) .skip)) (aM [MR 10 0,aQ 11 (.call MS [(.t 10),(me false)]),MR 9 11,ox 12 9 0,ox 13 9 1,MR 4 12,MR 5 13] (.seq (aM [MR 14 5,sB 15 14,MR 16 15,gV 17 16 4,iR 18 16 (.call ga [(.t 17)]),iR 19 16 (.not (.t 18)),sj 20 16 19] (.cond (.t 20) (aM [aQ 2 (.iC (.c (.str []))),gH 3 1] .ret) .skip)) (aM [MR 21 4,MR 2 21,gH 3 0] .ret)))))
def Re {M7 MS ga:Nat} (hF:aw P G M7=some (22,[(none,2),(none,3)],(Nz MS ga).bare)) (s:Bs) (hl:s.length<=B) (TN:∀s:Bs,s.length<=4096->au P G MS [.str s,.bool false] (Nx false s))
  (hI:∀t:Bs,t.length<=4096->au P G ga [.str t] (.bool (plain t))):au P G M7 [.str s] (.gf [.str (OF s).1,.int .i64 (OF s).2]):=by
 refine aR hF tM aae aao ?_;rw[RX];unfold Nz;simp only[↓aX,mX,seval];by_cases Pr:2500<s.length
 ·simp only[↓aX,mX,seval,show decide ((s.length:Int)>2500)=true by simp;omega,Pr,Rc,↓h_]
 simp only[↓aX,mX,seval,show decide ((s.length:Int)>2500)=false by simp;omega,Pr,nX];refine ay (TN s sf) ?_;cases hm:MY false s with
 |none=>simp only[↓aX,mX,seval,Nx,hm,QI,↓h_,Pr,nX]
 |some t=>
 have ht:t.length<=s.length:=by
  unfold MY at hm;split at hm
  ·rename_i t' h;cases hm;have:=mC _ s t [] (PW _) h;simp at this;exact this
  cases hm
 simp only[↓aX,mX,seval,Nx,hm,QK];refine ay (hI t sf) ?_;cases hp:plain t with
 |false=>simp only[↓aX,mX,seval,QI,hp,↓h_,Pr,nX];try rfl
 |true=>simp only[↓aX,mX,seval,QK,hp,↓h_,Pr,nX];try rfl
def NV (dU aS Rf dc:Nat):AC:=
(aM [aQ 4 (.iC (.c (.str [])))] (.seq (aM [MR 7 0,aQ 8 (.bin .eql (.t 7) (.c (.str []))),MR 9 8,gV 10 9 1,iR 11 9 (.bin .eql (.t 10) (.c (.str []))),sj 12 9 11] (.cond (.t 12) (aM [MR 13 0,MR 4 13] .ret) .skip)) (.seq (aM [MR 14 1,oF 15 14,eY 16 .eql 15 1,MR 17 16,cU 18 17 1,dW 19 17 (.lj (.t 18) (jS 0)),dW 20 17 (.bin .lss (.t 19) (.c (.int .u8 128))),jT 21 17 20] (.cond (.t 21) (aM [MR 22 0,MR 23 1,aQ 24 (.lj (.t 23) (jS 0)),aQ 25 (.call dU [(.t 22),(.t 24)]),MR 4 25] .ret) .skip)) (.seq (aM [MR 27 1,aQ 28 (.call aS [(.t 27)]),MR 26 28,ox 29 26 0,ox 30 26 1,aQ 5 (.new (List.replicate 256 (.bool false))),gg (.store 256 (.t 5) (.t 29)),MR 6 30] (aM [MR 31 6] (.cond (.t 31) (aM [MR 32 0,aQ 33 (.call Rf [(.t 32),(.t 5)]),MR 4 33] .ret) .skip))) (aM [MR 34 0,MR 35 1,aQ 36 (.call dc [(.t 34),(.t 35)]),MR 4 36] .ret)))))
def SR {Na aS Rf dU dc:Nat} (hF:aw P G Na=some (37,[(none,4)],(NV dU aS Rf dc).bare)) (s t:Bs) (hs:s.length<=B) (ht:2<=t.length)
  (hM:au P G aS [.str t] (.gf [.agg (eh (er t)),.bool true]))
  (hR:cR P G Rf [.str s,.ptr (.par 0) 256 0 0] (eh (er t)) λx cs=>x= .str (eM (er t) s)/\cs=eh (er t)) :
  au P G Na [.str s,.str t] (.str (eM (er t) s)):=by
 refine aR hF tM aae aad ?_;unfold NV;simp only[↓aX,mX,reduceCtorEq,Int.reduceLT,Nat.reduceEqDiff,Int.reduceLE,Nat.reduceLT,Nat.reduceLeDiff,Nat.reduceAdd,Nat.reduceMul,Int.reduceToNat];have e1:(t==[])=false:=by cases t<;>simp_all
 have e2:(((t.length:Nat):Int)==1)=false:=by rw[SV];omega
 cases wo:(s==[]) with
 |true=>
  have:s=[]:=by simpa using wo
  subst this;simp only[↓aX,mX,seval];rfl
 |false=>
 simp only[↓aX,mX,reduceCtorEq,Int.reduceLT,Nat.reduceEqDiff,Int.reduceLE,Nat.reduceLT,Nat.reduceLeDiff,Nat.reduceAdd,Nat.reduceMul,Int.reduceToNat,e1,e2];refine ay hM ?_;simp only[↓aX,mX,reduceCtorEq,Int.reduceLT,Nat.reduceEqDiff,Int.reduceLE,Nat.reduceLT,Nat.reduceLeDiff,Nat.reduceAdd,Nat.reduceMul,Int.reduceToNat,VC,qo,bc,mz,mA,od,SU];refine bj (l:= .loc 5) hR rfl (by simp only[↓aX,mX,seval,bc]) ?_;rintro x1 dF ⟨rfl,rfl⟩ _ _ _;simp only[↓aX,mX,reduceCtorEq,Int.reduceLT,Nat.reduceEqDiff,Int.reduceLE,Nat.reduceLT,Nat.reduceLeDiff,Nat.reduceAdd,Nat.reduceMul,Int.reduceToNat,bc,VC]
def Sq (s:Bs):eM (er [32,10]) s=Ov s:=by unfold eM Ov;rw[Bm]
end
end Go.Am

namespace Go.Am
open Go Go.RowKit Go.Shelf Go.Proofs
section
variable {P:Program} {G:Nat->Option (List IV)} {ρ:Ren}
def Qk (s:Bs):(⟨s.toArray⟩:ByteArray).size=s.length:=abn
def QG {w:World} {I:Nat->Prop} {g:Nat} {m:Int} (hG:zb G I w) (h1:G g=some [.int .i64 m]):w.cell? ⟨g,0,none⟩=some (.int .i64 m):=by
 obtain⟨⟨⟨v,e1,e2⟩,_⟩,_⟩:=hG _ _ h1;simp only[NN] at e2;rw[e1,e2]
def To (L:Lays.n143 P ρ) {m:Int} (h1:G (ρ.g 1)=some [.int .i64 m]) (s t:Bs) (hs:s.length<=2^24):au P G (ρ.f 143) [.str s,.str t] (.int .i64 (Lib.index s t)):=by
 refine oT aae aad λw I vs hG hv=> ?_;simp only[br,RV] at hv;obtain⟨v1,u1,rfl,rfl,v2,u2,rfl,rfl,rfl⟩:=hv;refine(Any.strings_Index L ⟨s.toArray⟩ ⟨t.toArray⟩ m w (by rw[Qk];omega) (QG hG h1)).mono ?_;rintro e w' ⟨rfl,rfl⟩;exact⟨_,rfl,Below.refl _ _,λI'=>by simp[RV]⟩
end
end Go.Am

namespace Go.Am
open Go Go.RowKit Go.Shelf Go.Proofs
section
variable {P:Program} {G:Nat->Option (List IV)} {ρ:Ren}
def Um (L:Lays.n145 P ρ) {m:Int} (h1:G (ρ.g 1)=some [.int .i64 m]):TM P G (ρ.f 145):=by
 intro s t hs;refine oT aae aao λw I vs hG hv=> ?_;simp only[br,RV] at hv;obtain⟨v1,u1,rfl,rfl,v2,u2,rfl,rfl,rfl⟩:=hv;refine(Any.strings_Cut L ⟨s.toArray⟩ ⟨t.toArray⟩ m w (by rw[Qk];omega) (QG hG h1)).mono ?_;rintro e w' ⟨rfl,n,rfl⟩;exact⟨_,rfl,⟨rfl,rfl,rfl,PW _,λ_ _=>rfl⟩,λI'=>by simp[RV,br]⟩
def Tq (L:Lays.n101 P ρ) (s t:Bs):au P G (ρ.f 101) [.str s,.str t] (.str (Lib.trimPrefix s t)):=by
 refine oT aae aad λw I vs hG hv=> ?_;simp only[br,RV] at hv;obtain⟨v1,u1,rfl,rfl,v2,u2,rfl,rfl,rfl⟩:=hv;refine(Any.strings_TrimPrefix L ⟨s.toArray⟩ ⟨t.toArray⟩ w).mono ?_;rintro e w' ⟨rfl,rfl⟩;exact⟨_,rfl,Below.refl _ _,λI'=>by simp[RV]⟩
def Tr (L:Lays.n102 P ρ) (s t:Bs) (hs:s.length<=4096):au P G (ρ.f 102) [.str s,.str t] (.str (Lib.trimSuffix s t)):=by
 refine oT aae aad λw I vs hG hv=> ?_;simp only[br,RV] at hv;obtain⟨v1,u1,rfl,rfl,v2,u2,rfl,rfl,rfl⟩:=hv;refine(Any.strings_TrimSuffix L ⟨s.toArray⟩ ⟨t.toArray⟩ w (by rw[Qk];omega)).mono ?_;rintro e w' ⟨rfl,rfl⟩;exact⟨_,rfl,Below.refl _ _,λI'=>by simp[RV]⟩
def Sr (c:UInt8):er cY c.toNat=akP c:=by
 have:∀n:Fin 256,er cY (UInt8.ofNat n.val).toNat=akP (UInt8.ofNat n.val):=aax
 have h:=this ⟨c.toNat,c.toNat_lt⟩;simpa using h
def RY (s:Bs):dB (er cY) s=s.dropWhile akP:=by
 unfold dB;congr 1;funext c;exact Sr c
theorem PR {p:UInt8->Bool}:∀s:Bs,(s.dropWhile p==[])=s.all p
 |[]=>rfl
 |c::q=>by
  rw[Vk,Xt];cases h:p c with
  |true=>simp only[Rc,Vn];exact PR q
  |false=>simp
theorem P_ {p:UInt8->Bool}:∀s:Bs,(s.dropWhile p).all p=s.all p
 |[]=>rfl
 |c::q=>by
  rw[Vk];cases h:p c with
  |true=>simp only[Rc,Xt,h,Vn];exact P_ q
  |false=>simp[h]
def RZ (s:Bs):(dB (er [32,10]) (eM (er [32,10]) s)==[])=s.all isSp:=by
 rw[Bm,PR];unfold eM;rw[X8,Bm,P_,X8]
end
section
variable {P:Program} {G:Nat->Option (List IV)}
def asY (MU:Nat):AC:=
(aM [gH 4 0] (aM [MR 5 0,MR 6 1,aQ 7 (.call MU [(.t 5),(.t 6)]),MR 4 7] .ret))
def Un {MT MU:Nat} (hF:aw P G MT=some (8,[(none,4)],(asY MU).bare)) (s:Bs) (c:UInt8)
  (h:au P G MU [.str s,.int .u8 (c.toNat:Int)] (.int .i64 (Lib.indexByte s c))):au P G MT [.str s,.int .u8 (c.toNat:Int)] (.int .i64 (Lib.indexByte s c)):=by
 refine aR hF tM aae aad ?_;unfold asY;simp only[↓aX,mX,seval];refine ay h ?_;simp only[↓aX,mX,seval]
end
end Go.Am

namespace Go.Am
open Go Go.RowKit
def ltr (c:UInt8):Bool:=decide (97<=c.toNat)&&decide (c.toNat<=122)
def dgt (c:UInt8):Bool:=decide (48<=c.toNat)&&decide (c.toNat<=57)
def asR:Bs->Option (Bs×Bs)
 |42::r=>some ([42],r)
 |35::r=>some ([],r)
 |s=>if s.takeWhile ltr=[] then none else some (s.takeWhile ltr,s.dropWhile ltr)
def as7 (t:Bs):Nat:=t.foldl (λn c=>min (10*n+(c.toNat - 48)) 1000) 0
def as9:Bs->Option (Nat×Bs)
 |91::r=>if r.takeWhile dgt=[]\/(r.takeWhile dgt).head?=some 48 then none else match r.dropWhile dgt with
  |93::r2=>some (as7 (r.takeWhile dgt),r2)
  |_=>none
 |s=>some (0,s)
def atl:Nat->Bs->Option (List Step)
 |_,[]=>some []
 |0,_=>none
 |n+1,c::r=>if c=47 then(asR r).bind λx=>(as9 x.2).bind λy=>(atl n y.2).map λl=>⟨x.1,y.1⟩::l else none
def atw (s:Bs):Option (List Step):=if s.length<=2500/\s≠[] then(atl s.length s).bind λl=>if ak6 l then some l else none else none
def atp (w:Bs):Option Step:=(asR w).bind λx=>(as9 x.2).bind λy=>if y.2=[] then some ⟨x.1,y.1⟩ else none
def auj (t:Bs):Prop:=t=[]\/∃r,t=47::r
theorem atG {p:UInt8->Bool} (hp:p 47=false) {t:Bs} (ht:auj t):∀w:Bs,(w++t).takeWhile p=w.takeWhile p/\(w++t).dropWhile p=w.dropWhile p++t
 |[]=>by
  rcases ht with rfl|⟨r,rfl⟩
  ·simp
  simp[hp]
 |c::w=>by
  obtain⟨h1,h2⟩:=atG hp ht w;cases hc:p c<;>simp[hc,h1,h2]
def atY {t:Bs} (ht:auj t) (w:Bs):asR (w++t)=(asR w).map λx=>(x.1,x.2++t):=by
 obtain⟨h1,h2⟩:=atG (p:=ltr) M3 ht w
 match w with
 |[]=>
  rcases ht with rfl|⟨r,rfl⟩<;>rfl
 |c::w=>
  by_cases e1:c=42
  ·subst e1;rfl
  by_cases e2:c=35
  ·subst e2;rfl
  have g:∀v:Bs,asR (c::v)=if(c::v).takeWhile ltr=[] then none else some ((c::v).takeWhile ltr,(c::v).dropWhile ltr):=λv=>by
   unfold asR;split
   ·rename_i h;cases h;exact absurd rfl e1
   ·rename_i h;cases h;exact absurd rfl e2
   rfl
  rw[List.cons_append,g,g,<-List.cons_append,h1,h2];split<;>simp
def at6 {t:Bs} (ht:auj t) (w:Bs):as9 (w++t)=(as9 w).map λx=>(x.1,x.2++t):=by
 match w with
 |[]=>rcases ht with rfl|⟨r,rfl⟩<;>rfl
 |c::w=>
  by_cases e1:c=91
  ·subst e1;obtain⟨h1,h2⟩:=atG (p:=dgt) M3 ht w;simp only[List.cons_append,as9,h1,h2];split
   ·rfl
   cases hd:w.dropWhile dgt with
   |nil=>rcases ht with rfl|⟨r,rfl⟩<;>rfl
   |cons a b=>
   by_cases ea:a=93
   ·subst ea;rfl
   simp only[List.cons_append];split
   ·rename_i h;cases h;exact absurd rfl ea
   split
   ·rename_i h;cases h;exact absurd rfl ea
   rfl
  have g:∀v:Bs,as9 (c::v)=some (0,c::v):=λv=>by
   unfold as9;split
   ·rename_i h;cases h;exact absurd rfl e1
   rfl
  rw[List.cons_append,g,g];rfl
def atf:List Bs->Option (List Step)
 |[]=>some []
 |w::r=>(atp w).bind λx=>(atf r).map λl=>x::l
def glue (ws:List Bs):Bs:=(ws.map λw=>47::w).flatten
def atU (ws:List Bs):auj (glue ws):=by
 cases ws with
 |nil=>exact .inl rfl
 |cons w r=>exact .inr ⟨_,rfl⟩
def atm {w:Bs} {x:Bs×Bs} (h:asR w=some x):x.2 <:+ w:=by
 unfold asR at h;split at h
 ·cases h;exact Xu _ _
 ·cases h;exact Xu _ _
 split at h
 ·cases h
 cases h;exact Wa _
def atx {w:Bs} {x:Nat×Bs} (h:as9 w=some x):x.2 <:+ w:=by
 unfold as9 at h;split at h
 ·rename_i r;split at h
  ·cases h
  split at h
  ·rename_i r2 e;cases h;have:=Wa (l:=r) dgt;rw[e] at this;exact((Xu _ _).trans this).trans (Xu _ _)
  cases h
 cases h;exact WN _
theorem atq:∀(ws:List Bs) (n:Nat),(glue ws).length<=n->(∀w∈ws,(47:UInt8)∉w)->atl n (glue ws)=atf ws
 |[],n,_,_=>by cases n<;>rfl
 |w::r,n,hn,h=>by
  have e:glue (w::r)=47::(w++glue r):=rfl;rw[e] at hn ⊢
  match n,hn with
  |n+1,hn=>
   simp only[atl,Rc,atY (atU r),atf,atp];cases hx:asR w with
   |none=>rfl
   |some x=>
   simp only[bT,EF,at6 (atU r)];cases hy:as9 x.2 with
   |none=>rfl
   |some y=>
   simp only[bT,EF];have hs:y.2 <:+ w:=(atx hy).trans (atm hx);by_cases e2:y.2=[]
   ·rw[e2,List.nil_append,P8 rfl,EF,atq r n (by simp at hn;omega) λv hv=>h v (by simp[hv])]
   rw[Ev e2];cases o8:y.2 with
   |nil=>exact absurd o8 e2
   |cons a b=>
   have ha:a∈w:=hs.subset (by rw[o8];simp);have:a≠47:=λe=>h w tM (e▸ha);cases n with
   |zero=>rfl
   |succ n=>simp[atl,this]
theorem amD (c:UInt8):∀s:Bs,((Z_ c s).map λw=>c::w).flatten=c::s/\∀w∈Z_ c s,c∉w
 |[]=>by simp[Z_]
 |b::r=>by
  obtain⟨h1,h2⟩:=amD c r;simp only[Z_];split
  ·rename_i e;subst e;refine⟨by simp only[Rj,N7,h1];rfl,λw hw=> ?_⟩;rcases PY.1 hw with rfl|hw
   ·simp
   exact h2 w hw
  rename_i hb;cases hs:Z_ c r with
  |nil=>rw[hs] at h1;simp at h1
  |cons w ws=>
  rw[hs] at h1 h2;simp only[Rj,N7,List.cons_append,Q5,Su] at h1 ⊢;refine⟨by rw[h1],λv hv=> ?_⟩;rcases PY.1 hv with rfl|hv
  ·have:=h2 w tM;simp only[PY,Xd];exact⟨λe=>hb e.symm,this⟩
  exact h2 v (by simp[hv])
end Go.Am
