import Derived.Test.YtfeijflhfhkbnaaGreatDoorKAc0S
import Derived.Test.YtfeijflhfhkbnaaGreatDoorKAm40S
import Derived.Test.YtfeijflhfhkbnaaGreatDoorKP2S
import Derived.Test.YtfeijflhfhkbnaaGreatDoorKT21S
import Derived.Lib.IndexMore
import Derived.Lib.IndexLaws
import Derived.Test.YtfeijflhfhkbnaaGreatDoorKT60S
import Derived.Test.YtfeijflhfhkbnaaGreatDoorKT9S
import Derived.Test.YtfeijflhfhkbnaaGreatDoorKT87S
import Derived.Test.YtfeijflhfhkbnaaGreatDoorKT91S
import Derived.Test.YtfeijflhfhkbnaaGreatDoorKAm53S
import Derived.Shelf.Strings.Cut
import Derived.Shelf.Strings.Search3
import Derived.Shelf.Strings.Prefix
set_option linter.all false
/- topiaryref.meant. -/
namespace Go.Am
open Go Go.RowKit
def pS (c:UInt8):fe c=lW c:=by
 have JI:(c==10)=(c.toNat==10):=by
  rw[agP];simp;exact⟨λh=>by rw[h];rfl,λh=>UInt8.toNat.inj ajV⟩
 rw[agP];simp[fe,lW,JI,aiw,aiq,aiO,ah',bne_eq_false_iff_eq,ahn,ahu,ag9,agm,agv,UInt8.reduceToNat];omega
def Jc (v:Bool):bB v []=some []:=by unfold bB;rw[sd]
def yc {v:Bool} {c:UInt8} (hc:jB v c) (r:Bs):bB v (c::r)=none:=by unfold bB;rw[tO hc]
theorem AZ {v:Bool} (r:Bs):bB v (38::r)=match mu (38::r) with
  |some (e,q)=>(bB v q).map λt=>e::t
  |none=>none:=by
 have h1:bb v (38::r)=match mu (38::r) with
   |some (e,q)=>(bb v q).map λx=>(e::x.1,x.2)
   |none=>none:=by
  rw[bb,af8 ajL,agc rfl];split
  ·rename_i e q h;rw[h]
  rename_i h;rw[h]
 unfold bB;rw[h1];cases mu (38::r) with
 |none=>rfl
 |some x=>
 obtain⟨e,q⟩:=x;simp only;cases bb v q with
 |none=>rfl
 |some y=>grind
def A0 {v:Bool} {c:UInt8} (h1:¬jB v c) (h2:c≠38) (h3:c=62\/lW c=false) (r:Bs):bB v (c::r)=none:=by
 grind [bB,bb]
def G3 {v:Bool} {c:UInt8} (h1:¬jB v c) (h2:c≠38) (h3:¬(c=62\/lW c=false)) (r:Bs):bB v (c::r)=(bB v r).map λt=>c::t:=by
 unfold bB;rw[bb,af8 h1,af8 h2,af8 h3];cases bb v r with
 |none=>rfl
 |some y=>grind
def yy:Bs:=[32,108,116,59,32,103,116,59,32,97,109,112,59,32,113,117,111,116,59,32]
def Uq:List (Int×Bs):=[(0,[60]),(4,[62]),(8,[38]),(13,[34])]
def A1 (s:Bs) (m:Nat):Int:=Lib.index yy (32::((s.take m).drop 1++[32]))
def Ur (w:Bs) (e:UInt8) (h:(w,e)∈[(Bj,(60:UInt8)),(Bl,62),(nL,38),(jU,34)]) (q:Bs) :
  Lib.indexByte (w++q) 59+1=(w.length:Int)/\1<w.length/\0<=A1 (w++q) w.length/\(Uq.lookup (A1 (w++q) w.length)).getD []=[e]:=by
 unfold A1;simp at h;rcases h with⟨rfl,rfl⟩|⟨rfl,rfl⟩|⟨rfl,rfl⟩|⟨rfl,rfl⟩
 all_goals
  rw[ah5 rfl];refine⟨?_,ajN,ajN,ajN⟩;simp[Bj,Bl,nL,jU,Lib.indexByte]
def ac9 {y A z B:Bs} (h1:(59:UInt8)∉y) (h2:(59:UInt8)∉A) (h:y++59::z=A++59::B):y=A:=by
 have e1:=KJ (b:=z) h1
 grind [KJ]
def Rn (y r:Bs) (hy:(59:UInt8)∉y) (he:mu (38::(y++59::r))=none):Lib.index yy (32::(y++[59]++[32]))<0:=by
 rcases Lib.index_spec yy (32::(y++[59]++[32])) with⟨h,_⟩|⟨i,h,hi,ho,_⟩
 ·grind
 exfalso;obtain⟨z,hz⟩:=agN.1 ho;have key:∀(A B:Bs),(59:UInt8)∉A->yy.drop i=32::(A++59::B)->(38::(A++[59]))∈[Bj,Bl,nL,jU]->False:=by
  intro A B hA hd hm;rw[hd] at hz;simp at hz;have:=ac9 hy hA hz;subst this;unfold mu at he;have hp:∀w∈[Bj,Bl,nL,jU],w=38::(y++[59])->w.isPrefixOf (38::(y++59::r))=true:=λw _ hw=>by
   simp_all
  grind
 have hlen:i<=20:=hi;have h0:∀d,yy.drop i=d->d.head?=some 32:=by
  grind
 have cs:i=0\/i=4\/i=8\/i=13\/i=19:=by
  have:(yy.drop i).head?=some 32:=h0 _ rfl
  match i,hlen,this with
  |0,_,_|4,_,_|8,_,_|13,_,_|19,_,_=>simp
  |1,_,h|2,_,h|3,_,h|5,_,h|6,_,h|7,_,h|9,_,h|10,_,h|11,_,h|12,_,h|14,_,h|15,_,h|16,_,h|17,_,h|18,_,h|20,_,h=>exact absurd h ajN
 rcases cs with rfl|rfl|rfl|rfl|rfl
 ·exact key [108,116] _ ajN rfl ajN
 ·exact key [103,116] _ ajN rfl ajN
 ·exact key [97,109,112] _ ajN rfl ajN
 ·exact key [113,117,111,116] _ ajN rfl ajN
 have:yy.drop 19=[32]:=rfl;rw[this] at hz;simp at hz
theorem Le {c:UInt8} {z:Bs}:∀{y:Bs},c∉y->Lib.indexByte (y++c::z) c=(y.length:Int)
 |[],_=>by simp[Lib.indexByte]
 |b::y,h=>by
  simp at h;have:(b==c)=false:=ajV
  simp only[List.cons_append,Lib.indexByte,Le h.2]
  grind
def Ro {c:UInt8} {s:Bs} (h:c∉s):Lib.indexByte s c= -1:=by
 grind [eT,af3]
theorem Zi (r:Bs):match mu (38::r) with
  |some (e,q)=>∃m:Nat,Lib.indexByte (38::r) 59+1=(m:Int)/\1<m/\m<=r.length+1/\q=(38::r).drop m/\0<=A1 (38::r) m/\(Uq.lookup (A1 (38::r) m)).getD []=[e]
  |none=>Lib.indexByte (38::r) 59+1=0\/∃m:Nat,Lib.indexByte (38::r) 59+1=(m:Int)/\1<m/\m<=r.length+1/\A1 (38::r) m<0:=by
 have hit:∀(w:Bs) (e:UInt8),(w,e)∈[(Bj,(60:UInt8)),(Bl,62),(nL,38),(jU,34)]->w.isPrefixOf (38::r)=true ->
   ∃m:Nat,Lib.indexByte (38::r) 59+1=(m:Int)/\1<m/\m<=r.length+1/\(38::r).drop w.length=(38::r).drop m/\0<=A1 (38::r) m/\(Uq.lookup (A1 (38::r) m)).getD []=[e]:=by
  intro w e hm hp;obtain⟨q,hq⟩:=agN.1 hp;obtain⟨g1,g2,g3,g4⟩:=Ur w e hm q;rw[hq] at g1 g3 g4;have hl:(w++q).length=(38::r).length:=by rw[hq]
  simp only[age,agd] at hl;exact⟨w.length,g1,g2,ajK,rfl,g3,g4⟩
 cases he:mu (38::r) with
 |some x=>
  obtain⟨e,q⟩:=x;simp only;unfold mu at he;split at he
  ·grind [Bj]
  split at he
  ·grind [Bl]
  split at he
  ·grind [nL]
  split at he
  ·rename_i hp;simp only[afZ,agq] at he;obtain⟨rfl,rfl⟩:=he;exact hit jU 34 ajL hp
  cases he
 |none=>
 simp only;cases hc:dH [59] r with
 |none=>
  left;have:=ia.1 hc;rw[Ro (by simpa using this)];rfl
 |some x=>
 obtain⟨y,z⟩:=x;obtain⟨e,hy⟩:=eU hc;subst e;right;have V2:Lib.indexByte (38::(y++59::z)) 59+1=((y.length+2:Nat):Int):=by
  grind [Le]
 refine⟨y.length+2,V2,ajK,ajL,?_⟩;unfold A1;rw[show((38::(y++59::z)).take (y.length+2)).drop 1=y++[59] by
  simp[List.take_append,af2]]
 exact Rn y z hy he
def byB (c:UInt8) (n:Nat) (hn:n<256):(((c.toNat:Int))==(n:Int))=(c==UInt8.ofNat n):=by
 rw[agP];simp;constructor
 ·intro h;refine UInt8.toNat.inj ?_;simp;omega
 rintro rfl;simp;omega

def gO (v:Bool) (s:Bs):AV:=match bB v s with
 |some t=> .bq [.str t,.bool true]
 |none=> .bq [.str [],.bool false]
section
variable {P:Program} {G:Nat->Option (List IV)} [KN P G]
set_option maxHeartbeats 1000000 in
def Zj (v:Bool) (s:Bs) (hs:s.length<=4096)
  (hB:∀s:Bs,s.length<=4096->aj P G 27 [.str s,.int .u8 59] (.int .i64 (Lib.indexByte s 59)))
  (hI:∀t:Bs,t.length<=5000->aj P G 96 [.str yy,.str t] (.int .i64 (Lib.index yy t)))
  (hP:∀c:UInt8,aj P G 98 [.int .u8 (c.toNat:Int)] (.bool (fe c))):aj P G 61 [.str s,.bool v] (gO v s):=by
 refine au (cw 61 []) ajL ajO (by unfold gO;cases bB v s<;>simp[AV.aq,ai]) ?_;simp only[↓aX,mX,seval];refine dj (σ:={q:Bs×Bs // q.1.length+q.2.length<=4096/\bB v s=(bB v q.1).map λt=>q.2++t}) (λq=>[(0,.str q.1.1),(1,.bool v),(6,.str q.1.2)]) (λq=>q.1.1.length) ⟨(s,[]),anU,ajL⟩ (λ_=>rfl) ?_ ?_
 ·exact qi
 rintro⟨⟨x,out⟩,hl,hm⟩;simp only at hl hm;have no:bB v x=none->gO v s= .bq [.str [],.bool false]:=λh=>by unfold gO;rw[hm,h];rfl
 simp only[↓aX,mX,seval];cases x with
 |nil=>
  have:gO v s= .bq [.str out,.bool true]:=by unfold gO;rw[hm,Jc];simp
  simp only[↓aX,mX,seval,show(([]:Bs)==[])=true from rfl,↓a_,this]
 |cons c r=>
 simp only[List.length_cons] at hl;simp only[↓aX,mX,seval,show(c::r==[])=false from rfl,show(0:Int)<=0 from Int.le_refl 0,List.getElem?_cons_zero,Option.map_some];rw[show((c.toNat:Int)==38)=(c==38) from byB c 38 ajN];by_cases Et:c=38
 ·subst Et;simp only[↓aX,mX,seval,beq_self_eq_true];refine ah (hB (38::r) ajY) ?_;simp only[↓aX,mX,seval];have V2:=Zi r;have hlen:(38::r).length=r.length+1:=rfl;have fin:∀n:Nat,n<=r.length+1->((List.take n (38::r)).drop 1).length<=4096:=λn hn=>by simp;omega
  have Hq:∀x:Bs,x.length<=4096->1+x.length<=9223372036854775807/\x.length+1+1<=9223372036854775807:=λx h=>by omega
  cases he:mu (38::r) with
  |none=>
   rw[he] at V2;have oe:=no (by rw[AZ,he]);simp only at V2;rcases V2 with h0|⟨m,h0,h1,h2,h3⟩
   ·have hw:IntKind.i64.wrap (Lib.indexByte (38::r) 59+1)=0:=(by rw[h0];rfl);simp only[↓aX,mX,seval,hw,show((1:Int)>0)=True by simp,iz,show(0:Int)<=1 by decide,show(1:Int).toNat=1 from rfl,true_and,hlen,show 1<=r.length+1 by omega,Option.bind_some,Option.map_some,Nat.le_refl,List.take_succ_cons,List.take_zero,List.drop_succ_cons,List.drop_nil,List.length_cons,List.length_nil,List.append_nil,show 1+0<=9223372036854775807 by decide,show 0+1+(0+1)<=9223372036854775807 by decide,List.cons_append,List.nil_append];refine ah (hI [32,32] ajL) ?_;simp only[↓aX,mX,seval,hw,show((0:Int)==0)=true from rfl,↓a_,oe]
   have hw:IntKind.i64.wrap (Lib.indexByte (38::r) 59+1)=(m:Int):=amb;obtain⟨x,hx⟩:∃x,x=((38::r).take m).drop 1:=⟨_,rfl⟩;have Sg:=fin m h2;rw[<-hx] at Sg;unfold A1 at h3;rw[<-hx] at h3;simp only[↓aX,mX,seval,hw,show((1:Int)>(m:Int))=False by simp;omega,if_false,iz,Int.natCast_nonneg,Int.toNat_natCast,true_and,hlen,h2,Option.bind_some,Option.map_some,show(0:Int)<=1 by decide,show(1:Int).toNat=1 from rfl,show 1<=m by omega,<-hx,List.length_cons,List.length_nil,List.cons_append,List.nil_append,Hq x Sg];refine ah (hI (32::(x++[32])) ajY) ?_;simp only[↓aX,mX,seval,hw,show((m:Int)==0)=false by simp;omega,show decide (Lib.index yy (32::(x++[32]))<0)=true by simpa using h3,↓a_,oe]
  |some y=>
  obtain⟨e,q⟩:=y;rw[he] at V2;simp only at V2;obtain⟨m,h0,h1,h2,rfl,h4,h5⟩:=V2;have hw:IntKind.i64.wrap (Lib.indexByte (38::r) 59+1)=(m:Int):=amb
  obtain⟨x,hx⟩:∃x,x=((38::r).take m).drop 1:=⟨_,rfl⟩;have Sg:=fin m h2;rw[<-hx] at Sg;unfold A1 at h4 h5;rw[<-hx] at h4 h5;unfold Uq at h5;simp only[↓aX,mX,seval,hw,show((1:Int)>(m:Int))=False by simp;omega,if_false,iz,Int.natCast_nonneg,Int.toNat_natCast,true_and,hlen,h2,Option.bind_some,Option.map_some,show(0:Int)<=1 by decide,show(1:Int).toNat=1 from rfl,show 1<=m by omega,<-hx,List.length_cons,List.length_nil,List.cons_append,List.nil_append,Hq x Sg];refine ah (hI (32::(x++[32])) ajY) ?_;simp only[↓aX,mX,seval,hw,show((m:Int)==0)=false by simp;omega,show decide (Lib.index yy (32::(x++[32]))<0)=false by simpa using h4,h5,List.length_cons,List.length_nil,show out.length+(0+1)<=9223372036854775807 by omega,show out.length+1<=9223372036854775807 by omega,iz,Int.natCast_nonneg,Int.toNat_natCast,true_and,hlen,h2,Option.bind_some,Option.map_some,Nat.le_refl,List.take_length];have NU:((38::r).drop m).length=r.length+1 - m:=ajL
  refine⟨⟨((38::r).drop m,out++[e]),by simp only[List.length_append,List.length_singleton,NU];omega,?_⟩,by simp only[NU];omega,?_⟩
  ·rw[hm,AZ,he];simp only;cases bB v ((38::r).drop m)<;>simp
  exact qi
 have e38:(c==38)=false:=by simpa using Et
 have nb:∀n:Nat,n<256->((c.toNat:Int)==(n:Int))=(c==UInt8.ofNat n):=byB c;have cons:¬jB v c->¬(c=62\/lW c=false)->bB v (c::r)=(bB v r).map λt=>c::t:=λh1 h2=>G3 h1 Et h2 r;simp only[↓aX,mX,seval,e38];rw[show((c.toNat:Int)==60)=(c==60) from nb 60 ajN];by_cases n9:c=60
 ·simp only[↓aX,mX,seval,show(c==60)=true by simpa using n9,↓a_,no (yc (.inl n9) r)]
 simp only[↓aX,mX,seval,show(c==60)=false by simpa using n9];rw[show((c.toNat:Int)==62)=(c==62) from nb 62 ajN];have Jd:∀b,v=b->(c=34->b=false)->¬jB v c:=λb hb h h2=>by
  rcases h2 with h2|⟨h2,h3⟩
  ·exact n9 h2
  rw[hb,h h2] at h3;cases h3
 by_cases Eu:c=62
 ·simp only[↓aX,mX,seval,show(c==62)=true by simpa using Eu,↓a_,no (A0 (by rintro(h|⟨h,_⟩)<;>simp[Eu] at h) Et (.inl Eu) r)]
 have Zk:(c==62)=false:=amO
 have e60:(c==60)=false:=by simpa using n9
 simp only[↓aX,mX,seval,Zk];rw[show((c.toNat:Int)==34)=(c==34) from nb 34 ajN];cases BM:(c==34) with
 |true=>
  have Rq:c=34:=by simpa using BM
  cases hv:v with
  |true=>simp only[↓aX,mX,seval,BM,hv,e60,Zk,↓a_,show gO true s= .bq [.str [],.bool false] from by rw[<-hv];exact no (yc (.inr ⟨Rq,hv⟩) r)]
  |false=>
  have hp:fe c=true:=by rw[Rq];decide
  simp only[↓aX,mX,seval,BM,hv,e60,Zk];refine ah (hP c) ?_;subst hv;simp only[↓aX,mX,seval,BM,e60,Zk,hp,Bool.not_true,iz,show(0:Int)<=1 by decide,show(1:Int).toNat=1 from rfl,true_and,List.length_cons,show 1<=r.length+1 by omega,Option.bind_some,Option.map_some,Nat.zero_le,List.take_succ_cons,List.take_zero,List.drop_zero,List.length_nil,show out.length+(0+1)<=9223372036854775807 by omega,show out.length+1<=9223372036854775807 by omega,List.drop_succ_cons,Nat.le_refl,List.take_length];refine⟨⟨(r,out++[c]),akm,?_⟩,ajM,?_⟩
  ·rw[hm,cons (Jd false rfl λ_=>rfl) alR];cases bB false r<;>simp
  exact qi
 |false=>
 have Rq:c≠34:=by simpa using BM
 simp only[↓aX,mX,seval,BM,e60,Zk];refine ah (hP c) ?_;cases hp:fe c with
 |false=>simp only[↓aX,mX,seval,BM,e60,Zk,hp,Bool.not_false,↓a_,no (A0 (Jd v rfl λh=>absurd h Rq) Et (.inr (by rw[<-pS];exact hp)) r)]
 |true=>
 simp only[↓aX,mX,seval,BM,e60,Zk,hp,Bool.not_true,iz,show(0:Int)<=1 by decide,show(1:Int).toNat=1 from rfl,true_and,List.length_cons,show 1<=r.length+1 by omega,Option.bind_some,Option.map_some,Nat.zero_le,List.take_succ_cons,List.take_zero,List.drop_zero,List.length_nil,show out.length+(0+1)<=9223372036854775807 by omega,show out.length+1<=9223372036854775807 by omega,List.drop_succ_cons,Nat.le_refl,List.take_length];refine⟨⟨(r,out++[c]),akm,?_⟩,ajM,?_⟩
 ·rw[hm,cons (Jd v rfl λh=>absurd h Rq) alR];cases bB v r<;>simp
 exact qi
end

def la:cu []=some []:=by rw[cu]
theorem rl {q:Bs}:cu (60::q)=match dH [62] (60::q) with
  |some (a,b)=>(cu b).map λl=>(a++[62])::l
  |none=>none:=by
 rw[cu,agc rfl];split
 ·rename_i a b h;rw[h]
 rename_i h;rw[h]
theorem rn {c:UInt8} {q:Bs} (h:c≠60):cu (c::q)=match dH [60] (c::q) with
  |some (a,b)=>(cu (60::b)).map λl=>a::l
  |none=>some [c::q]:=by
 rw[cu,af8 h];cases hc:dH [60] (c::q) with
 |none=>
  have hn:=ia.1 hc;have h1:∀s:Bs,60∉s->(s.takeWhile λx=> !(x==60))=s/\(s.dropWhile λx=> !(x==60))=[]:=by
   intro s;induction s with
   |nil=>simp
   |cons d s ih=>
   intro hs;simp only[aga,not_or] at hs;have hd:(!(d==60))=true:=(by simpa using agQ hs.1);simp[hd,ih hs.2]
  rw[(h1 _ hn).1,(h1 _ hn).2,la];rfl
 |some x=>
 obtain⟨a,b⟩:=x;obtain⟨e,ha⟩:=eU hc;have h1:∀a:Bs,60∉a->((a++60::b).takeWhile λx=> !(x==60))=a/\((a++60::b).dropWhile λx=> !(x==60))=60::b:=by
  intro s;induction s with
  |nil=>simp
  |cons d s ih=>
  intro hs;simp only[aga,not_or] at hs;have hd:(!(d==60))=true:=by simpa using agQ hs.1
  simp[hd,ih hs.2]
 rw[e,(h1 a ha).1,(h1 a ha).2]
def lB (s:Bs):AV:=match cu s with
 |some l=> .bq [.list (l.map IV.str),.bool true]
 |none=> .bq [.nil0,.bool false]
def Rr (l:List Bs):Flat (l.map IV.str):=λy hy z hz cs e=>by
 simp only[agp] at hy;obtain⟨s,_,rfl⟩:=hy;simp only[IV.cells,af'] at hz;subst hz;cases e
section
variable {P:Program} {G:Nat->Option (List IV)} [KN P G]
set_option maxHeartbeats 1000000 in
def Us (s:Bs) (hs:s.length<=4096)
  (hB:∀(c:UInt8) (s:Bs),s.length<=4096->aj P G 27 [.str s,.int .u8 (c.toNat:Int)] (.int .i64 (Lib.indexByte s c))):aj P G 100 [.str s] (lB s):=by
 refine au (cw 100 [.a 4 (.own 4 1),.b 30 (.tj (.loc 4) 4)]) ajL ajO (by unfold lB;cases cu s<;>simp[AV.aq,ai]) ?_;simp only[↓aX,mX,seval];have aeY:∀s:Bs,s.length<=4096->aj P G 27 [.str s,.int .u8 60] (.int .i64 (Lib.indexByte s 60)):=hB 60;have aeZ:∀s:Bs,s.length<=4096->aj P G 27 [.str s,.int .u8 62] (.int .i64 (Lib.indexByte s 62)):=hB 62;refine qH 4 1 (σ:={q:Bs×List Bs // q.1.length+q.2.length<=4096/\cu s=(cu q.1).map λt=>q.2++t}) (λq=>[(0,.str q.1.1)]) (λq=>q.1.2.map IV.str) (λq=>q.1.1.length) ⟨(s,[]),anU,ajL⟩ (λ_=>rfl) ?_ ?_
 ·simp only[J',↓aX,mX,seval];exact⟨4,[],rfl,rfl,rfl⟩
 rintro⟨⟨x,l⟩,hl,hm⟩;simp only at hl hm;have no:cu x=none->lB s= .bq [.nil0,.bool false]:=λh=>by unfold lB;rw[hm,h];rfl
 simp only[↓aX,mX,seval];cases x with
 |nil=>
  simp only[↓aX,mX,seval,show(([]:Bs)==[])=true from rfl];refine⟨1,l.map IV.str,0,_,rfl,rfl,ajL,Rr l,?_⟩;have:lB s= .bq [.list (l.map IV.str),.bool true]:=by unfold lB;rw[hm,la];simp
  simp only[↓aX,mX,seval,↓a_,List.drop_zero,this,List.take_of_length_le (show(l.map IV.str).length<=l.length by simp)]
 |cons c q=>
 simp only[List.length_cons] at hl;have hlen:(c::q).length=q.length+1:=rfl;simp only[↓aX,mX,seval,show(c::q==[])=false from rfl];refine ah (aeY (c::q) ajY) ?_;simp only[↓aX,mX,seval];by_cases n9:c=60
 ·subst n9;have h0:Lib.indexByte (60::q) 60=0:=by simp[Lib.indexByte]
  simp only[↓aX,mX,seval,h0,show((0:Int)==0)=true from rfl];refine ah (aeZ (60::q) ajY) ?_;cases hc:dH [62] (60::q) with
  |none=>
   have h1:=Ro (ia.1 hc);simp only[↓aX,mX,reduceCtorEq,Int.reduceLT,Nat.reduceEqDiff,Int.reduceLE,Nat.reduceLT,Nat.reduceLeDiff,Nat.reduceAdd,Nat.reduceMul,Int.reduceToNat,h1,show IntKind.i64.wrap (-1+1)=0 from rfl,show((0:Int)==0)=true from rfl,↓a_,no (by rw[rl,hc])]
  |some y=>
  obtain⟨a,b⟩:=y;obtain⟨e,ha⟩:=eU hc;have h1:Lib.indexByte (60::q) 62=(a.length:Int):=by rw[e];exact Le ha
  have uj:a.length+1+b.length=q.length+1:=by
   have:=congrArg List.length e;simp at this;omega
  have h2:(60::q).take (a.length+1)=a++[62]/\(60::q).drop (a.length+1)=b:=by
   rw[e];constructor
   ·rw[show a++62::b=(a++[62])++b by simp];exact List.take_left' ajL
   rw[show a++62::b=(a++[62])++b by simp];exact List.drop_left' ajL
  have hw:=w1 a.length;simp only[↓aX,mX,seval,h1,hw,show(((a.length+1:Nat):Int)==0)=false by simp;omega,show decide (((a.length+1:Nat):Int)<0)=false by simp;omega,iz,Int.natCast_nonneg,Int.toNat_natCast,true_and,hlen,show a.length+1<=q.length+1 by omega,Option.bind_some,Option.map_some,Nat.zero_le,List.drop_zero,h2.1];rw[bX 1 16 26 4 (l.map IV.str) (.str (a++[62])) ajR ajL rfl aj0 ajK ajN ajN ajX];simp only[↓aX,mX,seval,h1,hw,iz,Int.natCast_nonneg,Int.toNat_natCast,true_and,hlen,show a.length+1<=q.length+1 by omega,Option.bind_some,Option.map_some,Nat.zero_le,Nat.le_refl,List.take_length,h2.2];refine⟨⟨(b,l++[a++[62]]),akm,?_⟩,ajM,?_⟩
  ·rw[hm,rl,hc];simp only;cases cu b<;>simp
  exact XI
 cases hc:dH [60] (c::q) with
 |none=>
  have h1:=Ro (ia.1 hc);simp only[↓aX,mX,seval,h1,show((-1:Int)==0)=false from rfl,decide_true,iz,Int.natCast_nonneg,Int.toNat_natCast,true_and,hlen,Option.bind_some,Option.map_some,Nat.zero_le,List.drop_zero,Nat.le_refl,show List.take (q.length+1) (c::q)=c::q from List.take_length (l:=c::q)];rw[bX 1 16 26 4 (l.map IV.str) (.str (c::q)) ajR ajL rfl aj0 ajK ajN ajN ajX];simp only[↓aX,mX,seval,h1,iz,Int.natCast_nonneg,Int.toNat_natCast,true_and,hlen,Option.bind_some,Option.map_some,Nat.zero_le,Nat.le_refl,show List.take (q.length+1) (c::q)=c::q from List.take_length (l:=c::q),show List.drop (q.length+1) (c::q)=[] from List.drop_length (l:=c::q)];refine⟨⟨([],l++[c::q]),by simp only[List.length_append,List.length_singleton,List.length_nil];omega,?_⟩,am0,?_⟩
  ·rw[hm,rn n9,hc,la];simp
  exact XI
 |some y=>
 obtain⟨a,b⟩:=y;obtain⟨e,ha⟩:=eU hc;have h1:Lib.indexByte (c::q) 60=(a.length:Int):=by rw[e];exact Le ha
 have uj:a.length+1+b.length=q.length+1:=by
  have:=congrArg List.length e;simp at this;omega
 have ha0:a.length≠0:=λh=>by
  have:=List.length_eq_zero_iff.1 h;subst this;simp at e;exact n9 e.1
 have h2:(c::q).take a.length=a/\(c::q).drop a.length=60::b:=by
  rw[e];exact⟨List.take_left' rfl,List.drop_left' rfl⟩
 simp only[↓aX,mX,seval,h1,show((a.length:Int)==0)=false by rw[beq_eq_false_iff_ne];omega,show decide ((a.length:Int)<0)=false by rw[decide_eq_false_iff_not];omega,iz,Int.natCast_nonneg,Int.toNat_natCast,true_and,hlen,show a.length<=q.length+1 by omega,Option.bind_some,Option.map_some,Nat.zero_le,List.drop_zero,h2.1];rw[bX 1 16 26 4 (l.map IV.str) (.str a) ajR ajL rfl aj0 ajK ajN ajN ajX];simp only[↓aX,mX,seval,h1,iz,Int.natCast_nonneg,Int.toNat_natCast,true_and,hlen,show a.length<=q.length+1 by omega,Option.bind_some,Option.map_some,Nat.zero_le,Nat.le_refl,List.take_length,h2.2,show List.take (q.length+1) (c::q)=c::q from List.take_length (l:=c::q)];refine⟨⟨(60::b,l++[a]),by simp only[List.length_append,List.length_singleton,List.length_cons,List.length_nil];omega,?_⟩,by simp only[List.length_cons];omega,?_⟩
 ·rw[hm,rn n9,hc];simp only;cases cu (60::b)<;>simp
 exact XI
end

def ld (acc:List Attr) (m:Bs):List Attr×Bool:=
 if m.all isSp then(acc,true)
 else if(m.dropWhile isSp).length=m.length then(acc,false)
 else match h:fj (m.dropWhile isSp) with
  |some (a,r)=>ld (jL acc a) r
  |none=>(acc,false)
termination_by m.length
decreasing_by
 have:=se h;have:=gq isSp m;omega
theorem uc {m:Bs} (acc:List Attr) (h:m.all isSp=true):ld acc m=(acc,true):=by rw[ld,agc h]
theorem xg {m:Bs} (acc:List Attr) (h:m.all isSp=false) (h2:(m.dropWhile isSp).length=m.length\/fj (m.dropWhile isSp)=none):ld acc m=(acc,false):=by
 grind [ld]
theorem CU {m r:Bs} {a:Attr} (acc:List Attr) (h:m.all isSp=false) (h2:¬(m.dropWhile isSp).length=m.length) (h3:fj (m.dropWhile isSp)=some (a,r)):ld acc m=ld (jL acc a) r:=by
 grind [ld]
theorem Rs:∀(n:Nat) (m:Bs) (acc:List Attr),m.length<=n->match eG m with
  |some az=>ld acc m=(az.foldl jL acc,true)
  |none=>(ld acc m).2=false:=by
 intro n;induction n with
 |zero=>
  grind [eG,uc]
 |succ n ih=>
 intro m acc hm;cases h1:m.all isSp with
 |true=>grind [eG,uc]
 |false=>
 by_cases h2:(m.dropWhile isSp).length=m.length
 ·grind [eG,xg]
 cases h3:fj (m.dropWhile isSp) with
 |none=>
  grind [eG,xg]
 |some x=>
 obtain⟨a,r⟩:=x;have aF:=se h3;have hle:=gq isSp m;have:=ih r (jL acc a) ajK
 grind [CU,eG]
def xh (m:Bs):Bs:=Lib.trimSuffix (Lib.trimPrefix m [60]) [62]
def BQ (m:Bs):Bool:=[47].isSuffixOf (xh m)
def mz (m:Bs):Bs:=if BQ m then(xh m).take ((xh m).length - 1) else xh m
def iU (m:Bs):Bs:=(mz m).takeWhile aY
def Je (m:Bs):List Attr×Bool:=ld [] ((mz m).dropWhile aY)
def rq (m:Bs):AV:= .bq [.agg [.bool false,.str (iU m),.list (aQ (Je m).1),.nil0],.bool (BQ m),.bool ((Je m).2&&named (iU m))]
def G4 (a:Bs):let m:=60::(a++[62]);match kZ ((m.drop 1).dropLast) with
  |some (nm,az,e)=>iU m=nm/\(Je m).1=az/\BQ m=e/\((Je m).2&&named (iU m))=true
  |none=>((Je m).2&&named (iU m))=false:=by
 have h1:xh (60::(a++[62]))=a:=by
  unfold xh Lib.trimPrefix Lib.trimSuffix Lib.hasPrefix Lib.hasSuffix;simp
 have h2:((60::(a++[62])).drop 1).dropLast=a:=ajL
 have h3:BQ (60::(a++[62]))=(a.getLast?==some 47):=by
  unfold BQ;rw[h1,agP,ahO];simp;constructor
  ·rintro⟨t,rfl⟩;simp
  intro h;have cf:a≠[]:=ajV
  rw[List.getLast?_eq_some_getLast cf,afZ] at h;exact⟨a.dropLast,by rw[<-h];exact aiv cf⟩
 have h4:mz (60::(a++[62]))=if a.getLast?==some 47 then a.dropLast else a:=by
  simp_all[mz,List.dropLast_eq_take]
 simp only[h2];unfold kZ;simp only;rw[<-h4];have hR:=Rs _ ((mz (60::(a++[62]))).dropWhile aY) [] (af6 _);unfold Je iU;cases hA:eG ((mz (60::(a++[62]))).dropWhile aY) with
 |none=>
  grind
 |some az=>
 rw[hA] at hR;simp only[hR,ag7];cases hn:named ((mz (60::(a++[62]))).takeWhile aY) with
 |true=>simp[h3];rfl
 |false=>simp
def ac' (a b:Bs):(!(Op.bytesLess a b||a==b))=Op.bytesLess b a:=by
 grind [tH,vl,wJ]
theorem Ru {a y z:Bs} (h1:Op.bytesLess a y=true) (h2:Op.bytesLess z y=false):Op.bytesLess a z=true:=by
 grind [tH,qa]
def A2 {l:List Attr} {a:Attr} {k:Nat} (hs:yw l) (hk:∀y∈l.drop k,Op.bytesLess a.name y.name=true) (h0:k=0\/∃z,l[k - 1]?=some z/\0<k/\Op.bytesLess a.name z.name=false):jL l a=l.take k++a::l.drop k:=by
 have:=DT (x:=a) (pre:=l.take k) (suf:=l.drop k) (λy hy=> ?_) hk
 ·grind [agD]
 rcases h0 with rfl|⟨z,hz,pe,aF⟩
 ·grind
 have xx:k - 1<l.length:=(afY.1 hz).1;have e:l.take k=l.take (k - 1)++[z]:=by
  have:=agz (l:=l) (i:=k - 1)
  grind
 rw[e] at hy;rcases agi.1 hy with hy|hy
 ·have pN:yw (l.take (k - 1)++l.drop (k - 1)):=by grind [agD]
  have h3:=(AB pN).2 y hy z (by rw[ag1 xx,(afY.1 hz).2];simp)
  grind [Ru]
 grind

theorem V3 {p:Bs} (hp:p≠[]):∀s:Bs,Lib.cut s p=match dH p s with
  |some (a,b)=>(a,b,true)
  |none=>(s,[],false):=by
 have key:∀s:Bs,match dH p s with
   |some (a,b)=>Lib.index s p=(a.length:Int)/\s.take a.length=a/\s.drop (a.length+p.length)=b
   |none=>Lib.index s p= -1:=by
  intro s;induction s with
  |nil=>
   simp only[dH];rcases Lib.index_spec [] p with⟨h,_⟩|⟨i,h,hi,ho,_⟩
   ·exact h
   have:i=0:=alx;subst this;unfold Lib.occAt at ho;cases p with
   |nil=>exact absurd rfl hp
   |cons c p=>simp at ho
  |cons c r ih=>
  unfold dH;by_cases h:p.isPrefixOf (c::r)=true
  ·rw[agc h];simp only[agx,agh];exact⟨Lib.index_first (i:=0) (agO _) h (λ_ h=>absurd h (Nat.not_lt_zero _)),ajL⟩
  rw[af8 h];have h1:Lib.index (c::r) p=if Lib.index r p== -1 then -1 else Lib.index r p+1:=by
   have:=Lib.index_drop (s:=c::r) (sub:=p) (i:=1) (λj hj=>by
    have:j=0:=ajK;subst this;exact ai_.2 h) ajL
   simpa using this
  cases hc:dH p r with
  |none=>
   rw[hc] at ih;simp only at ih;simp only[ajm];rw[h1,ih];rfl
  |some x=>
  obtain⟨a,b⟩:=x;rw[hc] at ih;simp only at ih;obtain⟨i1,i2,i3⟩:=ih;simp only[af9,agd];have e:((a.length:Int)== -1)=false:=by rw[agZ];omega
  refine⟨?_,by rw[ahA,i2],?_⟩
  ·rw[h1,i1,e];simp
  rw[show a.length+1+p.length=(a.length+p.length)+1 by omega,ag_,i3]
 intro s;have:=key s;unfold Lib.cut;cases hc:dH p s with
 |none=>rw[hc] at this;simp only at this ⊢;rw[this,af8 ajN]
 |some x=>
 obtain⟨a,b⟩:=x;rw[hc] at this;simp only at this ⊢;rw[this.1,agc ajK];simp[this.2.1,this.2.2]
def Rv (s p:Bs):(Lib.cut s p).1.length<=s.length/\(Lib.cut s p).2.1.length<=s.length:=by
 unfold Lib.cut;split<;>simp;omega
def xi {env:Env} {H:Hp} {l:Lb} {cs:List AV} (h1:env 2= .ptr l 4 0 0) (h2:H l= .live ⟨4,[cs]⟩) (h3:cs.length=4) (R:AV->Hp->Prop) :
  eZ [(some (some 4),2),(none,3),(none,4)] R .ret env H=R (.bq [.agg cs,env 3,env 4]) H:=by
 simp[eZ,eY,qF,fw,eV,h1,h2,h3,af2]
section
variable {P:Program} {G:Nat->Option (List IV)} [KN P G]
abbrev ac_ (P:Program) (G:Nat->Option (List IV)) (f:Nat):Prop:=∀s t:Bs,s.length<=4096->aj P G f [.str s,.str t] (.bq [.str (Lib.cut s t).1,.str (Lib.cut s t).2.1,.bool (Lib.cut s t).2.2])
set_option maxHeartbeats 4000000 in
def Zl (M:Bs) (hM:M.length<=4096)
  (hTP:∀s:Bs,s.length<=4096->aj P G 144 [.str s,.str [60]] (.str (Lib.trimPrefix s [60])))
  (hTS:∀s:Bs,s.length<=4096->aj P G 102 [.str s,.str [62]] (.str (Lib.trimSuffix s [62])))
  (hCS:∀s:Bs,s.length<=4096->aj P G 50 [.str s,.str [47]] (.bq [.str (if [47].isSuffixOf s then s.take (s.length - 1) else s),.bool ([47].isSuffixOf s)]))
  (hTL:∀s:Bs,s.length<=4096->aj P G 145 [.str s,.str cV] (.str (s.dropWhile aY)))
  (hTW:∀s:Bs,s.length<=4096->aj P G 145 [.str s,.str [32,10]] (.str (s.dropWhile isSp)))
  (hT:∀s:Bs,s.length<=4096->∃t:Bs,aj P G 138 [.str s,.str [32,10]] (.str t)/\(t==[])=s.all isSp)
  (hC:ac_ P G 18) (hMe:∀s:Bs,s.length<=4096->aj P G 61 [.str s,.bool true] (gO true s))
  (hN:∀s:Bs,s.length<=4096->aj P G 97 [.str s] (.bool (named s))):aj P G 103 [.str M] (rq M):=by
 refine au (cw 103 [.f 111 1 (.rw [.loc 7] []),.f 111 4 (.rw [.loc 7] []),.f 111 8 (.rw [.loc 7] []),.f 111 14 (.rw [.loc 7] []),.f 132 0 (.rw [.loc 7] []),.f 132 3 (.rw [.loc 7] []),.f 132 5 (.rw [] [.loc 2]),.b 36 .jf,.b 83 (.uJ (.loc 1) (.loc 7) 2),.b 132 (.uJ (.loc 1) (.loc 7) 2),.f 111 12 (.rw [(.loc 94)] []),.f 111 17 (.rw [(.loc 94)] []),.f 111 19 (.rw [] [(.loc 94)]),.f 111 21 (.rw [] [(.loc 94)])]) ajL ajO (by simp[AV.aq,ai,rq]) ?_;have l1:∀s p:Bs,(Lib.trimPrefix s p).length<=s.length:=λs p=>by unfold Lib.trimPrefix;split<;>simp
 have l2:∀s p:Bs,(Lib.trimSuffix s p).length<=s.length:=λs p=>by
  unfold Lib.trimSuffix;split
  ·simp only[List.length_take];omega
  exact Nat.le_refl _
 have hX:(xh M).length<=4096:=Nat.le_trans (l2 _ _) (Nat.le_trans (l1 _ _) hM);have hY:(mz M).length<=4096:=by
  unfold mz;split
  ·simp only[List.length_take];omega
  exact hX
 have hD:((mz M).dropWhile aY).length<=(mz M).length:=gq _ _;have afU:(iU M).length+((mz M).dropWhile aY).length=(mz M).length:=by
  rw[iU,<-List.length_append,List.takeWhile_append_dropWhile]
 have ig:(mz M).take (iU M).length=iU M/\(mz M).drop (iU M).length=(mz M).dropWhile aY:=by
  have e:mz M=iU M++(mz M).dropWhile aY:=List.takeWhile_append_dropWhile.symm;constructor
  ·conv=>lhs;rw[e]
   exact List.take_left' rfl
  conv=>lhs;rw[e]
  exact List.drop_left' rfl
 have Uc:IntKind.i64.wrap (((mz M).length:Int) - (((mz M).dropWhile aY).length:Int))=((iU M).length:Int):=ajW
 simp only[↓aX,mX,seval];refine ah (hTP M hM) ?_;simp only[↓aX,mX,seval];refine ah (hTS _ (Nat.le_trans (l1 _ _) hM)) ?_;rw[show Lib.trimSuffix (Lib.trimPrefix M [60]) [62]=xh M from rfl];simp only[↓aX,mX,seval];refine ah (hCS _ hX) ?_;rw[show(if [47].isSuffixOf (xh M) then(xh M).take ((xh M).length - 1) else xh M)=mz M from rfl,show [47].isSuffixOf (xh M)=BQ M from rfl];simp only[↓aX,mX,seval];refine ah (hTL _ hY) ?_;simp only[↓aX,mX,seval,Uc,iz,Int.natCast_nonneg,Int.toNat_natCast,true_and,show(iU M).length<=(mz M).length by omega,Option.bind_some,Option.map_some,Nat.zero_le,List.drop_zero,ig.1];rw[ec];refine⟨_,_,jW (q:= .loc 7) (cs:=[.bool false,.str (iU M),.nil0,.nil0]) (j:=2) (d:=1) (sz:=2) rfl rfl ajX ajN,?_⟩;simp only[↓aX,mX,seval,Uc,iz,Int.natCast_nonneg,Int.toNat_natCast,true_and,show(iU M).length<=(mz M).length by omega,Option.bind_some,Option.map_some,Nat.zero_le,Nat.le_refl,List.take_length,ig.2];refine br (σ:={q:Bs×List Attr // q.1.length+q.2.length<=4096/\Je M=ld q.2 q.1/\yw q.2}) (λ_=>[.loc 2,.loc 7,.loc 1]) (λ_ _=>false)
  (λq=>[(0,.str q.1.1),(2,.ptr (.loc 2) 4 0 0),(5,.bool (BQ M)),(7,.ptr (.loc 7) 4 0 0)])
  (λq=>[(.loc 2,⟨4,[[.bool false,.str [],.nil0,.nil0]]⟩),(.loc 7,⟨4,[[.bool false,.str (iU M),.sl (.loc 1) 2 0 q.1.2.length,.nil0]]⟩),(.loc 1,⟨2,ak (aQ q.1.2)⟩)])
  (λq=>q.1.1.length) ⟨((mz M).dropWhile aY,[]),am0,rfl,trivial⟩ (λ_=>rfl) (λq=>by simp[ai,AV.aq]) ?_ ⟨[],?_⟩ ?_
 ·exact aa6
 ·refine⟨?_,?_,?_,ajS,λl _=>⟨id,λ_=>rfl⟩⟩
  ·exact ow
  ·exact wz
  simp[eL,aD,ae,aP,aA,aH,ak,aQ]
 rintro⟨⟨m,l⟩,hml,hA,hs⟩;simp only at hml hA hs;rw[dq];obtain⟨t,ht,V4⟩:=hT m ajK;simp only[↓aX,mX,seval,aR,aI];refine ah ht ?_;have out:∀b:Bool,ld l m=(l,b)->rq M= .bq [.agg [.bool false,.str (iU M),.list (aQ l),.nil0],.bool (BQ M),.bool (b&&named (iU M))]:=λb h=>by unfold rq;rw[hA,h]
 cases vZ:m.all isSp with
 |true=>
  rw[vZ] at V4;simp only[↓aX,mX,seval,V4];refine⟨2,aQ l,0,l.length,[.bool false,.str (iU M),.sl (.loc 1) 2 0 l.length,.nil0],rfl,rfl,rfl,ajL,akQ,gn _,?_⟩;simp only[↓aX,mX,seval,List.drop_zero,List.take_of_length_le (show(aQ l).length<=l.length by rw[aE];exact Nat.le_refl _)];refine⟨rfl,dG (hN (iU M) ajK) ?_⟩;have e:=out true (uc l vZ);simp only[Bool.true_and] at e;simp only[↓aX,mX,seval];rw[xi (l:= .loc 2) (cs:=[.bool false,.str (iU M),.list (aQ l),.nil0]) rfl ajR rfl];simp only[↓aX,mX,seval,e]
 |false=>
 rw[vZ] at V4;have xD:=gq isSp m;obtain⟨w,hw⟩:∃w,w=m.dropWhile isSp:=⟨_,rfl⟩;rw[<-hw] at xD;simp only[↓aX,mX,seval,V4];refine ah (hTW m ajK) ?_;rw[<-hw];simp only[↓aX,mX,seval];refine ah (hC w [61,34] ajK) ?_;have c1:=V3 (p:=[61,34]) ajL w;obtain⟨⟨nm,af,ok⟩,pt⟩:∃r,Lib.cut w [61,34]=r:=⟨_,rfl⟩;have g1:=Rv w [61,34];rw[pt] at c1 g1;rw[pt];simp only at g1;simp only[↓aX,mX,seval];refine ah (hC af [34] ajK) ?_;have c2:=V3 (p:=[34]) ajL af;obtain⟨⟨va,ne,th⟩,YA⟩:∃r,Lib.cut af [34]=r:=⟨_,rfl⟩;have g2:=Rv af [34];rw[YA] at c2 g2;rw[YA];simp only at g2;simp only[↓aX,mX,seval];refine ah (hMe va ajK) ?_;obtain⟨mv,mg,hmr,hmg⟩:∃mv mg,gO true va= .bq [.str mv,.bool mg]/\bB true va=if mg then some mv else none:=by
  unfold gO;cases bB true va with
  |none=>exact⟨[],false,rfl,rfl⟩
  |some t=>exact⟨t,true,rfl,rfl⟩
 rw[hmr];simp only[↓aX,mX,seval];have no1:ok=false->fj w=none:=λh=>by
  unfold fj;cases hq:dH [61,34] w with
  |none=>rfl
  |some y=>rw[hq] at c1;simp only[Prod.mk.injEq] at c1;rw[h] at c1;simp at c1
 have no2:th=false->fj w=none:=λh=>by
  unfold fj;cases hq:dH [61,34] w with
  |none=>rfl
  |some y=>
  rw[hq] at c1;simp only[Prod.mk.injEq] at c1;simp only[Option.bind_some,<-c1.2.1];cases BU:dH [34] af with
  |none=>rfl
  |some z=>rw[BU] at c2;simp only[Prod.mk.injEq] at c2;rw[h] at c2;simp at c2
 have yes:ok=true->th=true->fj w=if mg then(if named nm=true then some (⟨nm,mv⟩,ne) else none) else none:=λh1 h2=>by
  unfold fj;cases hq:dH [61,34] w with
  |none=>rw[hq] at c1;simp only[Prod.mk.injEq] at c1;rw[h1] at c1;simp at c1
  |some y=>
  rw[hq] at c1;simp only[Prod.mk.injEq] at c1;simp only[Option.bind_some,<-c1.2.1,<-c1.1];cases BU:dH [34] af with
  |none=>rw[BU] at c2;simp only[Prod.mk.injEq] at c2;rw[h2] at c2;simp at c2
  |some z=>
  rw[BU] at c2;simp only[Prod.mk.injEq] at c2;simp only[Option.bind_some,<-c2.1,<-c2.2.1,hmg];cases mg<;>simp
 have bad:w.length=m.length\/fj w=none->rq M= .bq [.agg [.bool false,.str (iU M),.list (aQ l),.nil0],.bool (BQ M),.bool false]:=λh=>out false (xg l vZ (by rw[<-hw];exact h));have OE:∀b:Bool,(((w.length:Nat):Int)==((m.length:Nat):Int))=b->(b=true↔w.length=m.length):=λb h=>by rw[<-h];simp;omega
 have yk:=List.take_of_length_le (show(aQ l).length<=l.length by rw[aE];exact Nat.le_refl _);cases h1:(((w.length:Nat):Int)==((m.length:Nat):Int)) with
 |true=>
  simp only[↓aX,mX,seval,h1];refine⟨2,aQ l,0,l.length,[.bool false,.str (iU M),.sl (.loc 1) 2 0 l.length,.nil0],rfl,rfl,rfl,ajL,akQ,gn _,?_⟩;simp only[↓aX,mX,seval,List.drop_zero,yk];rw[xi (l:= .loc 2) (cs:=[.bool false,.str (iU M),.list (aQ l),.nil0]) rfl ajR rfl];simp only[↓aX,mX,seval,bad (.inl ((OE _ h1).1 rfl))]
 |false=>
 have Ep:¬w.length=m.length:=λh=>by have:=(OE _ h1).2 h;cases this
 cases kn:ok with
 |false=>
  simp only[↓aX,mX,seval,h1,kn];refine⟨2,aQ l,0,l.length,[.bool false,.str (iU M),.sl (.loc 1) 2 0 l.length,.nil0],rfl,rfl,rfl,ajL,akQ,gn _,?_⟩;simp only[↓aX,mX,seval,List.drop_zero,yk];rw[xi (l:= .loc 2) (cs:=[.bool false,.str (iU M),.list (aQ l),.nil0]) rfl ajR rfl];simp only[↓aX,mX,seval,bad (.inr (no1 kn))]
 |true=>
 cases KD:th with
 |false=>
  simp only[↓aX,mX,seval,h1,kn,KD];refine⟨2,aQ l,0,l.length,[.bool false,.str (iU M),.sl (.loc 1) 2 0 l.length,.nil0],rfl,rfl,rfl,ajL,akQ,gn _,?_⟩;simp only[↓aX,mX,seval,List.drop_zero,yk];rw[xi (l:= .loc 2) (cs:=[.bool false,.str (iU M),.list (aQ l),.nil0]) rfl ajR rfl];simp only[↓aX,mX,seval,bad (.inr (no2 KD))]
 |true=>
 have yes:=yes kn KD;cases Jf:mg with
 |false=>
  simp only[↓aX,mX,seval,h1,kn,KD,Jf];refine⟨2,aQ l,0,l.length,[.bool false,.str (iU M),.sl (.loc 1) 2 0 l.length,.nil0],rfl,rfl,rfl,ajL,akQ,gn _,?_⟩;simp only[↓aX,mX,seval,List.drop_zero,yk];rw[xi (l:= .loc 2) (cs:=[.bool false,.str (iU M),.list (aQ l),.nil0]) rfl ajR rfl];simp only[↓aX,mX,seval,bad (.inr (by rw[yes,Jf];rfl))]
 |true=>
 simp only[↓aX,mX,seval,h1,kn,KD,Jf];refine ah (hN nm ajK) ?_;cases um:named nm with
 |false=>
  simp only[↓aX,mX,seval,h1,kn,KD,Jf,um];refine⟨2,aQ l,0,l.length,[.bool false,.str (iU M),.sl (.loc 1) 2 0 l.length,.nil0],rfl,rfl,rfl,ajL,akQ,gn _,?_⟩;simp only[↓aX,mX,seval,List.drop_zero,yk];rw[xi (l:= .loc 2) (cs:=[.bool false,.str (iU M),.list (aQ l),.nil0]) rfl ajR rfl];simp only[↓aX,mX,seval,bad (.inr (by rw[yes,Jf,um];rfl))]
 |true=>
 have yE:=CU l vZ (by rw[<-hw];exact Ep) (by rw[<-hw,yes,Jf,um];rfl);simp only[↓aX,mX,seval,h1,kn,KD,Jf,um];rw[bX 2 32 94 1 (aQ l) (.agg [.str nm,.str mv]) ajR (aE _) rfl aj0 ajK ajN ajN ajX];simp only[↓aX,mX,seval];have za:aQ l++[IV.agg [.str nm,.str mv]]=aQ (l++[⟨nm,mv⟩]):=by simp[aQ,Attr.iv,Attr.cs]
 rw[za];refine br (σ:={k:Nat // k<=l.length/\∀y∈l.drop k,Op.bytesLess nm y.name=true}) (λ_=>[.loc 2,.loc 7,.loc 94]) (λ_ _=>false)
  (λq=>[(2,.ptr (.loc 2) 4 0 0),(5,.bool (BQ M)),(7,.ptr (.loc 7) 4 0 0),(9,.str nm),(13,.str ne),(17,.int .i64 (q.1:Int))])
  (λq=>[(.loc 2,⟨4,[[.bool false,.str [],.nil0,.nil0]]⟩),(.loc 7,⟨4,[[.bool false,.str (iU M),.sl (.loc 94) 2 0 (l.length+1),.nil0]]⟩),(.loc 94,⟨2,ak (aQ (l.take q.1++⟨nm,mv⟩::l.drop q.1))⟩)])
  (λq=>q.1) ⟨l.length,Nat.le_refl _,ajL⟩ (λ_=>rfl) (λq=>by simp[ai,AV.aq]) ?_ ⟨[],?_⟩ ?_
 ·rintro q r hr cs aZ z hz;simp only[List.mem_cons,List.not_mem_nil,or_false] at hr;rcases hr with rfl|rfl|rfl
  ·exact Dp
  ·simp only[List.mem_singleton] at aZ;subst aZ;simp[ai,AV.aq] at hz;subst hz;simp
  exact Bp
 ·refine⟨?_,?_,?_,ajS,λl _=>⟨id,λ_=>rfl⟩⟩
  ·exact ow
  ·exact wz
  simp[eL,aD,ae,aP,aA,aH,aK,List.take_of_length_le,List.drop_of_length_le];simp[ak,lG]
 rintro⟨k,hk,xw⟩;rw[dq];simp only[↓aX,mX,seval,aR,aI];obtain⟨L,hL⟩:∃L,L=l.take k++(⟨nm,mv⟩:Attr)::l.drop k:=⟨_,rfl⟩;have ig:(l.take k).length=k:=by rw[List.length_take];omega
 have hLl:L.length=l.length+1:=by rw[hL];simp only[List.length_append,List.length_cons,List.length_drop,ig];omega
 have hx:L[k]?=some ⟨nm,mv⟩:=by rw[hL,List.getElem?_append_right ajK,ig,Nat.sub_self];rfl
 rw[<-hL];by_cases pe:0<k
 ·have Ch:IntKind.i64.wrap ((k:Int) - 1)=((k - 1:Nat):Int):=by rw[wrap64 ajK ajK];omega
  obtain⟨z,hz⟩:∃z,l[k - 1]?=some z:=⟨_,List.getElem?_eq_getElem ajK⟩;have hy:L[k - 1]?=some z:=by rw[hL,List.getElem?_append_left ajK,List.getElem?_take_of_lt ajK];exact hz
  simp only[↓aX,mX,seval,show decide (((k:Nat):Int)>0)=true by simpa using pe,Ch,Int.natCast_nonneg,Int.toNat_natCast,Nat.zero_add,lY hx,lY hy,show k<l.length+1 by omega,show k - 1<l.length+1 by omega,ac'];cases sH:Op.bytesLess nm z.name with
  |true=>
   simp only[↓aX,mX,seval,sH];refine⟨aj7,?_⟩;simp only[↓aX,mX,seval,Ch,Int.natCast_nonneg,Int.toNat_natCast,Nat.zero_add,lY hx,lY hy,show k<l.length+1 by omega,show k - 1<l.length+1 by omega,ie];have nE:(L.set k z)[k - 1]?=some z:=(by rw[List.getElem?_set_ne ajK];exact hy);rw[sZ L k z];simp only[↓aX,mX,seval,lY nE,Ch];rw[show(ak (aQ (L.set k z))).set (k - 1) [.str nm,.str mv]=ak (aQ ((L.set k z).set (k - 1) ⟨nm,mv⟩)) from sZ _ _ ⟨nm,mv⟩];have e1:l.take k=l.take (k - 1)++[z]:=by
    have:=List.take_add_one (l:=l) (i:=k - 1);rw[show k - 1+1=k by omega,hz] at this;exact this
   have e2:l.drop (k - 1)=z::l.drop k:=by
    have:=drop_eq hz;rw[show k - 1+1=k by omega] at this;exact this
   have hsw:(L.set k z).set (k - 1) ⟨nm,mv⟩=l.take (k - 1)++(⟨nm,mv⟩:Attr)::l.drop (k - 1):=by
    obtain⟨p,hp⟩:∃p,p=l.take (k - 1):=⟨_,rfl⟩;have HD:p.length=k - 1:=(by rw[hp,List.length_take];omega);rw[hL,e1,e2,<-hp];have hkp:k=p.length+1:=ajK;rw[hkp];simp[List.set_append_right]
   rw[hsw];refine⟨⟨k - 1,ajK,λy hy=> ?_⟩,ajM,[],?_⟩
   ·rw[e2] at hy;rcases List.mem_cons.1 hy with rfl|hy
    ·exact sH
    exact xw y hy
   refine⟨?_,?_,?_,ajS,λl _=>⟨id,λ_=>rfl⟩⟩
   ·exact ow
   ·exact wz
   have hr:∀xs:List IV,aP (aD []) ⟨2,ak xs⟩=⟨2,ak xs⟩:=λxs=>aK _ _ _;simp only[eL,hr];simp[aD,ae,aP,aA,aH]
  |false=>
  have S':jL l ⟨nm,mv⟩=L:=by rw[hL];exact A2 hs xw (.inr ⟨z,hz,pe,sH⟩)
  simp only[↓aX,mX,seval,sH];refine⟨⟨(ne,jL l ⟨nm,mv⟩),by rw[uV];simp only;omega,by rw[hA,yE],AA _ hs⟩,ajM,[(.loc 1,.loc 94)],?_⟩;refine⟨?_,?_,?_,ajS,?_⟩
  ·exact ow
  ·exact wz
  ·exact abc
  exact dq5
 have ae0:k=0:=ajK
 have S':jL l ⟨nm,mv⟩=L:=by rw[hL];exact A2 hs xw (.inl ae0)
 simp only[↓aX,mX,seval,show decide (((k:Nat):Int)>0)=false by simpa using pe];refine⟨⟨(ne,jL l ⟨nm,mv⟩),by rw[uV];simp only;omega,by rw[hA,yE],AA _ hs⟩,ajM,[(.loc 1,.loc 94)],?_⟩;refine⟨?_,?_,?_,ajS,?_⟩
 ·exact ow
 ·exact wz
 ·exact abc
 exact dq5
end

def fl (p:Nat):Lb:= .nest (.loc 900) p 3
theorem ud {p q:Nat} (h:fl p=fl q):p=q:=by simpa[fl] using h
def jP (p n:Nat):(fl p= .loc n)=False:=akV
def jQ (p n:Nat):(Lb.loc n=fl p)=False:=akV
def iK (p q:Nat):(fl p=fl q)=(p=q):=propext ⟨ud,λh=>by rw[h]⟩
def jR (p d:Nat):(fl p).app d= .loc d:=rfl
def A3 (lab:Nat->Lb) (i:Nat) (x:Tree):List AV:=[.bool false,.str x.s,if i=0 then .nil0 else .list (aQ x.attrs),.sl (lab (1+i)) 4 0 x.kids.length]
def Ee (o:List Tree) (lab:Nat->Lb) (p:Nat):Option Row:=
 if p=0 then some ⟨4,o.mapIdx (A3 lab)⟩ else(o[p - 1]?).map λx=>⟨4,ak (aM x.kids)⟩
def CV {o:List Tree} {lab:Nat->Lb} {p:Nat}:(Ee o lab p).isSome=true↔p<=o.length:=by
 grind [Ee]
def V5 (o:List Tree):n6 where
 row:=Ee o
 nat lab ρ p:=by
  unfold Ee;by_cases h:p=0
  ·simp only[h,agn,af9,afZ,aP,Row.mk.injEq,agt];refine agV λi=> ?_;simp only[ago,ahb,Option.map_map];congr 1;funext x;by_cases hi:i=0<;>simp[A3,aA,aH,hi]
  simp only[h,agk];cases o[p - 1]? with
  |none=>rfl
  |some x=>simp[aK]
 aq lab p r hr cs aZ q hq:=by
  unfold Ee at hr;by_cases h:p=0
  ·simp only[h,agn,afZ] at hr;subst hr;simp only at aZ;obtain⟨i,hi⟩:=agE aZ;rw[ahb] at hi;obtain⟨x,hx,rfl⟩:=acF.1 hi;have aF:=(afY.1 hx).1;have:q=lab (1+i):=by
    by_cases h0:i=0<;>simpa[A3,ai,AV.aq,h0] using hq
   exact⟨1+i,CV.2 ajK,this⟩
  simp only[h,agk] at hr;obtain⟨x,_,rfl⟩:=acF.1 hr;rw[bc aZ] at hq;simp at hq
def A4 {o:List Tree} {p:Nat}:(V5 o).ok p↔p<=o.length:=CV
abbrev jr (lab:Nat->Lb) (o:List Tree) (H:Hp):Prop:=ko lab (V5 o) H
section
variable {lab:Nat->Lb} {o:List Tree} {H H2:Hp}
def jr.ada (h:jr lab o H):H (lab 0)= .live ⟨4,o.mapIdx (A3 lab)⟩:=h.row 0 _ rfl
def jr.k (h:jr lab o H) {i:Nat} {x:Tree} (hx:o[i]?=some x):H (lab (1+i))= .live ⟨4,ak (aM x.kids)⟩:=h.row (1+i) _ (by
 show Ee o lab (1+i)=_;unfold Ee;rw[af8 ajK,show 1+i - 1=i by omega,hx];rfl)
def jr.mk' (hi:∀p q,p<=o.length->q<=o.length->lab p=lab q->p=q) (h0:H (lab 0)= .live ⟨4,o.mapIdx (A3 lab)⟩) (h1:∀i x,o[i]?=some x->H (lab (1+i))= .live ⟨4,ak (aM x.kids)⟩):jr lab o H:=by
 refine⟨λp r hp=> ?_,λp q hp hq=>hi p q (A4.1 hp) (A4.1 hq)⟩;change Ee o lab p=some r at hp
 grind [Ee]
def qn (i:Nat) (N:Lb) (p:Nat):Lb:=if p=1+i then N else fl p
def Ef {i:Nat} {x:Tree} (hx:o[i]?=some x):(o.mapIdx (A3 lab))[i]?=some (A3 lab i x):=by rw[ahb,hx];rfl
def jr.set (h:jr fl o H) {i:Nat} {x y:Tree} {N:Lb} (hx:o[i]?=some x) (hs:y.s=x.s) (ha:y.attrs=x.attrs) (hN:∀p,fl p≠N)
  (h0:H2 (fl 0)= .live ⟨4,(o.mapIdx (A3 fl)).set i (A3 (qn i N) i y)⟩) (h1:H2 N= .live ⟨4,ak (aM y.kids)⟩) (h2:∀p,p≠0->p≠1+i->H2 (fl p)=H (fl p)):jr (qn i N) (o.set i y) H2:=by
 have aF:=(afY.1 hx).1;refine jr.mk' ?_ ?_ ?_
 ·intro p q hp hq e;unfold qn at e;by_cases e1:p=1+i<;>by_cases e2:q=1+i<;>simp only[e1,e2,agn,agk] at e
  ·rw[e1,e2]
  ·exact absurd e.symm (hN q)
  ·exact absurd e (hN p)
  exact ud e
 ·have:qn i N 0=fl 0:=by unfold qn;rw[af8 ajK]
  rw[this,h0];congr 2;refine agV λj=> ?_;simp only[ahb,ah8,agw];by_cases e:i=j
  ·subst e;simp[aF]
  simp only[e,agk];congr 1;funext z;unfold A3 qn;rw[af8 (show ¬1+j=1+i by omega)]
 intro j z hz;rw[ah8] at hz;by_cases e:i=j
 ·subst e;simp only[aF,agn,afZ] at hz;subst hz;unfold qn;rw[agc rfl];exact h1
 simp only[e,agk] at hz;have:qn i N (1+j)=fl (1+j):=by unfold qn;rw[af8 ajK]
 rw[this,h2 _ ajK ajK];exact h.k hz
def rr (n:Nat) (A N:Lb) (p:Nat):Lb:=if p=0 then A else if p=1+n then N else fl p
def jr.push (h:jr fl o H) {y:Tree} {A N:Lb} (h00:o≠[]) (hk:y.kids=[]) (hA:∀p,fl p≠A) (hN:∀p,fl p≠N) (hAN:A≠N)
  (h0:H2 A= .live ⟨4,o.mapIdx (A3 fl)++[[.bool false,.str y.s,.list (aQ y.attrs),.sl N 4 0 0]]⟩) (h1:H2 N= .live ⟨4,[]⟩) (h2:∀p,p≠0->p<=o.length->H2 (fl p)=H (fl p)):jr (rr o.length A N) (o++[y]) H2:=by
 have EU:=ahL.2 h00;have e0:rr o.length A N 0=A:=rfl;have eN:rr o.length A N (1+o.length)=N:=by simp[rr]
 have eO:∀j,j<o.length->rr o.length A N (1+j)=fl (1+j):=λj hj=>by unfold rr;rw[af8 ajK,af8 ajK]
 refine jr.mk' ?_ ?_ ?_
 ·grind [rr,fl,ud]
 ·rw[e0,h0];congr 2;rw[ajG];congr 1
  ·refine agV λj=> ?_
   grind [A3]
  grind [A3]
 intro j z hz;by_cases e:j<o.length
 ·rw[agB e] at hz;rw[eO j e,h2 _ ajK ajK];exact h.k hz
 have hj:j=o.length:=by
  grind
 subst hj;rw[agr (af6 _),ahc] at hz;simp at hz;subst hz;rw[eN,h1,hk];rfl
def Jg (l:List Bs) (i n:Nat) (L:Lb):List (Nat×AV):=[(6,.sl L 4 0 n),(25,.list (l.map IV.str)),(26,.int .i64 l.length),(27,.int .i64 i)]
def jr.wh (h:jr lab o H) {env:Env} {l:List Bs} {i:Nat} (he:∀l:Lb,l.entry=true->H l= .unused) (hf:∀p,p<=o.length->(lab p).fresh=true) (h6:env 6= .sl (lab 0) 4 0 o.length) (y5:env 25= .list (l.map IV.str)) (h26:env 26= .int .i64 l.length) (h27:env 27= .int .i64 i) :
  ∃lab m,WH fl (V5 o) [] (λ_=>false) (Jg l i o.length (fl 0)) [] env H lab m:=by
 refine⟨lab,[],h,λq hq hu=>absurd (he q hq) hu,?_,λq hq=>by simp at hq,ajL,λq hq=>by simp at hq,λq hq=>by simp at hq,λp hp=>⟨λ_=>hf p (A4.1 hp),λh=>by simp[fl,Lb.entry] at h⟩⟩;have r0:kg fl lab (V5 o) [] (fl 0)=lab 0:=gg (λp1 p2 _ _ e=>ud e) (A4.2 ajK)
 grind [Jg,dp,aH]
end
def okP (m:Bs):Prop:=m≠[]/\(m.head?=some 60->∃a,m=60::(a++[62]))
def Ng:∀(n:Nat) (s:Bs) (l:List Bs),s.length<=n->cu s=some l->(∀m∈l,okP m)/\(∀m∈l,m.length<=s.length)/\l.length<=s.length:=by
 intro n;induction n with
 |zero=>
  intro s l hn h;have:s=[]:=agL.1 ajK;subst this;rw[la] at h;cases h;simp
 |succ n ih=>
 intro s l hn h;cases s with
 |nil=>rw[la] at h;cases h;simp
 |cons c q=>
 have step:∀(p b:Bs) (l2:List Bs),okP p->p.length+b.length=q.length+1->cu b=some l2->l=p::l2->(∀m∈l,okP m)/\(∀m∈l,m.length<=(c::q).length)/\l.length<=(c::q).length:=by
  intro p b l2 hp hl h2 e;have NP:=ahL.2 hp.1;obtain⟨g1,g2,g3⟩:=ih b l2 (by simp at hn;omega) h2;subst e;refine⟨λm hm=> ?_,λm hm=> ?_,ajY⟩
  ·rcases aga.1 hm with rfl|hm
   ·exact hp
   exact g1 m hm
  rcases aga.1 hm with rfl|hm
  ·simp;omega
  have:=g2 m hm;simp;omega
 by_cases n9:c=60
 ·subst n9;rw[rl] at h;cases hc:dH [62] (60::q) with
  |none=>rw[hc] at h;cases h
  |some x=>
  obtain⟨a,b⟩:=x;rw[hc] at h;obtain⟨l2,h2,e⟩:=acF.1 h;obtain⟨e1,ha⟩:=eU hc;have hl:=ahp List.length e1;cases a with
  |nil=>simp at e1
  |cons a0 a=>
  simp only[List.cons_append,agY] at e1;obtain⟨rfl,e1⟩:=e1;exact step _ b l2 ⟨ajL,λ_=>⟨a,rfl⟩⟩ (by simp at hl ⊢;omega) h2 e.symm
 rw[rn n9] at h;cases hc:dH [60] (c::q) with
 |none=>
  rw[hc] at h;cases h;exact step _ [] [] ⟨ajL,λh=>absurd aj6 n9⟩ ajL la rfl
 |some x=>
 obtain⟨a,b⟩:=x;rw[hc] at h;obtain⟨l2,h2,e⟩:=acF.1 h;obtain⟨e1,ha⟩:=eU hc;have hl:=ahp List.length e1;cases a with
 |nil=>simp at e1;exact absurd e1.1 n9
 |cons a0 a=>
 simp only[List.cons_append,agY] at e1;obtain⟨rfl,e1⟩:=e1;refine step _ (60::b) l2 ⟨ajL,λh=>absurd aj6 n9⟩ (by simp at hl ⊢;omega) h2 e.symm
def il (s:Bs):AV:=match(cu s).bind λl=>l.foldlM fk [jN] with
 |some o=> .bq [.list (aM ((o.getLast?.map Tree.kids).getD [])),.bool (o.length==1)]
 |none=> .bq [.nil0,.bool false]
def vP {s:Bs} {ks:List Tree} (h:lv s=some ks):il s= .bq [.list (aM ks),.bool true]:=by
 unfold lv runs at h;unfold il;cases hp:cu s with
 |none=>rw[hp] at h;cases h
 |some l=>
 rw[hp] at h;simp only[af_] at h ⊢;cases hf:l.foldlM fk [jN] with
 |none=>rw[hf] at h;cases h
 |some o=>
 rw[hf] at h;simp only[af_] at h ⊢;unfold Qj at h;split at h
 ·cases h;rfl
 cases h
def vQ {s:Bs} (h:lv s=none):∃x:AV,(x= .nil0\/∃ks,x= .list (aM ks))/\il s= .bq [x,.bool false]:=by
 unfold lv runs at h;unfold il;cases hp:cu s with
 |none=>simp
 |some l=>
 grind [af_,fk,jN,Qj,List.length_eq_one_iff,Tree.kids]

def G5 {S:St} {env:Env} {H:Hp} {l:Lb} {sz:Nat} {els:List (List AV)} (hl:H l= .live ⟨sz,els⟩):eE S env H env (aS H l (.live ⟨sz,els.map λcs=>cs.map norm⟩)):=by
 have e:pE (Kt (λq=>q==l)) H=aS H l (.live ⟨sz,els.map λcs=>cs.map norm⟩):=by
  funext q;by_cases h:q=l
  ·subst h;have:(Kt (λq'=>q'==q) q)=norm:=(by funext x;simp[Kt]);simp only[ae,agn,pE,hl,this]
  have:(Kt (λq'=>q'==l) q)=id:=by funext x;simp[Kt,h]
  rw[an _ _ h];unfold pE;cases hq:H q with
  |live r=>simp[this]
  |_=>rfl
 rw[<-e];exact xQ _
def Rw (xs:List IV):((ak xs).map λcs=>cs.map norm)=ak xs:=by
 simp only[ak,aiE];refine agX λy _=> ?_;simp only[Function.comp,aiE];refine agX λz _=> ?_;cases z<;>rfl
def Jh {S:St} {env:Env} {o:List Tree} {t d:Nat} {x y:Tree} {H H1:Hp} {els:List (List AV)} {at':AV} (hB:jr fl o H) (hE:∀l:Lb,l.entry=true->H l= .unused) (hx:o[t]?=some x) (hT:x.text=false)
  (ha:at'=if t=0 then .nil0 else .list (aQ x.attrs)) (h0:H1 (fl 0)= .live ⟨4,(o.mapIdx (A3 fl)).set t [.bool false,.str x.s,at',.sl (.loc d) 4 0 (x.kids.length+1)]⟩)
  (h1:H1 (.loc d)= .live ⟨4,els⟩) (h2:(els.map λcs=>cs.map norm)=ak (aM (x.kids++[y]))) (h3:∀q,q≠fl 0->q≠fl (1+t)->q≠ .loc d->H1 q=H q) :
  ∃H2,eE S env H1 env H2/\jr (qn t (.loc d)) (o.set t (x.bS [y])) H2/\∀l:Lb,l.entry=true->H2 l= .unused:=by
 refine⟨_,G5 h1,?_,λl he=> ?_⟩
 ·refine hB.set hx ?_ ?_ (λp=>by simp[fl]) ?_ ?_ ?_
  ·cases x;rfl
  ·cases x;rfl
  ·rw[an _ _ akV,h0];congr 3;have hk:(x.bS [y]).kids.length=x.kids.length+1:=(by cases x;simp[Tree.bS,Tree.kids]);have hs:(x.bS [y]).s=x.s/\(x.bS [y]).attrs=x.attrs:=(by cases x;exact⟨rfl,rfl⟩);simp only[A3,hk,hs,ha,qn,agn]
  ·rw[ae,agc rfl,h2];cases x;rfl
  intro p hp HP;rw[an _ _ akV];exact h3 _ (by rw[Ne,iK];exact hp) (by rw[Ne,iK];exact HP) akV
 have n1:l≠ .loc d:=akd
 rw[an _ _ n1,h3 l aj9 aj9 n1];exact hE l he
def Zm {S:St} {Q:ir} {k:List It} {env:Env} {H:Hp} (is:List bd) (es:List (List Nat)) (fs:List Fp) :
 go S Q (.code (.gh .drw (.nJ is es fs))::k) env H=((es.zipIdx.all λp=>p.1.all λe=>decide (e<p.2))=true/\R9 S is es (go S Q k) is.length [] env H):=akY
def Ut {S:St} {k:Env->Hp->Prop} {env:Env} {H:Hp} {d e:Nat} (hd:d<S.N) (he:e<S.N) (hde:e≠d) (hu:H (.loc d)= .unused)
  (hk:∀b H',(∀q,q≠ .loc d->H' q=H q)->k (put (put env d (.ptr (.loc d) 1 0 0)) e (.bool b)) H') :
  R9 S [⟨some d,none,.new [.bool false]⟩,⟨none,none,.store 1 (.t d) (.c (.bool true))⟩,⟨none,none,.store 1 (.t d) (.c (.bool false))⟩,⟨some e,none,.load none (.t d)⟩] [[],[0],[0],[0,0,1,2]] k 4 [] env H:=by
 have fin:∀(done:List Nat) (b:Bool) (H':Hp),1∈done->2∈done->0∈done->3∉done->(∀q,q≠ .loc d->H' q=H q)->H' (.loc d)= .live ⟨1,[[.bool b]]⟩ ->
   R9 S [⟨some d,none,.new [.bool false]⟩,⟨none,none,.store 1 (.t d) (.c (.bool true))⟩,⟨none,none,.store 1 (.t d) (.c (.bool false))⟩,⟨some e,none,.load none (.t d)⟩] [[],[0],[0],[0,0,1,2]] k 1 done (put env d (.ptr (.loc d) 1 0 0)) H':=by
  intro done b H' h1 h2 h0 h3 hq hb;refineλj i hj NZ Nh=> ?_
  match j with
  |0=>exact absurd h0 NZ
  |1=>exact absurd h1 NZ
  |2=>exact absurd h2 NZ
  |3=>
   simp only[aho,agF,afZ] at hj;subst hj;refine .inl ⟨rfl,λn hn=>by cases hn;exact he,.inr ⟨.bool b,?_,?_⟩⟩
   ·simp[eV,ev,put,hb]
   exact hk b H' hq
  |j+4=>simp at hj
 have st:∀(b0 b:Bool) (H':Hp),H' (.loc d)= .live ⟨1,[[.bool b0]]⟩->kF 1 (ev (put env d (.ptr (.loc d) 1 0 0)) (.t d)) (ev (put env d (.ptr (.loc d) 1 0 0)) (.c (.bool b))) H'=some (aS H' (.loc d) (.live ⟨1,[[.bool b]]⟩)):=by
  intro b0 b H' h;simp[kF,ev,put,h,AV.Bq,AV.one,AV.cells]
 refineλj i hj NZ Nh=> ?_
 match j with
 |0=>
  simp only[agF,afZ] at hj;subst hj;refine .inl ⟨rfl,λn hn=>by cases hn;exact hd,d,rfl,hu,ajL,akZ,?_⟩;refineλj i hj NZ Nh=> ?_
  match j with
  |0=>simp at NZ
  |1=>
   simp only[aho,agF,afZ] at hj;subst hj;refine .inl ⟨rfl,ajL,rfl,_,st false true _ ajR,?_⟩;refineλj i hj NZ Nh=> ?_
   match j with
   |0=>simp at NZ
   |1=>simp at NZ
   |2=>
    simp only[aho,agF,afZ] at hj;subst hj;refine .inl ⟨rfl,ajL,rfl,_,st true false _ ajR,?_⟩;exact fin _ false _ ajL ajL ajL ajL (λq hq=>by simp[an _ _ hq]) ajR
   |3=>have:=Nh 2 ajL;simp at this
   |j+4=>simp at hj
  |2=>
   simp only[aho,agF,afZ] at hj;subst hj;refine .inl ⟨rfl,ajL,rfl,_,st false false _ ajR,?_⟩;refineλj i hj NZ Nh=> ?_
   match j with
   |0=>simp at NZ
   |2=>simp at NZ
   |1=>
    simp only[aho,agF,afZ] at hj;subst hj;refine .inl ⟨rfl,ajL,rfl,_,st false true _ ajR,?_⟩;exact fin _ true _ ajL ajL ajL ajL (λq hq=>by simp[an _ _ hq]) ajR
   |3=>have:=Nh 1 ajL;simp at this
   |j+4=>simp at hj
  |3=>have:=Nh 1 ajL;simp at this
  |j+4=>simp at hj
 |1=>have:=Nh 0 ajL;simp at this
 |2=>have:=Nh 0 ajL;simp at this
 |3=>have:=Nh 0 ajL;simp at this
 |j+4=>simp at hj
def Rx {S:St} {env:Env} {o1:List Tree} {u x:Tree} {k d:Nat} {H1:Hp} {els E2:List (List AV)} {at':AV} (hk:k=o1.length) (hE:∀l:Lb,l.entry=true->H1 l= .unused) (hT:u.text=false)
  (ha:at'=if k=0 then .nil0 else .list (aQ u.attrs)) (hE2:E2.take (k+1)=(o1++[u]).mapIdx (A3 fl)) (h0:H1 (fl 0)= .live ⟨4,E2.set k [.bool false,.str u.s,at',.sl (.loc d) 4 0 (u.kids.length+1)]⟩)
  (h1:H1 (.loc d)= .live ⟨4,els⟩) (h2:(els.map λcs=>cs.map norm)=ak (aM (u.kids++[x]))) (h3:∀j z,o1[j]?=some z->H1 (fl (1+j))= .live ⟨4,ak (aM z.kids)⟩) :
  ∃H2,eE S env H1 env H2/\jr (qn k (.loc d)) (o1++[u.bS [x]]) H2/\∀l:Lb,l.entry=true->H2 l= .unused:=by
 have hs:(o1++[u]).set k (u.bS [x])=o1++[u.bS [x]]:=by rw[hk,ahr _ _ (af6 _),ahc];rfl
 have hu:(o1++[u])[k]?=some u:=by rw[hk,agr (af6 _),ahc];rfl
 have hB:jr fl (o1++[u]) (aS (aS H1 (fl (1+k)) (.live ⟨4,ak (aM u.kids)⟩)) (fl 0) (.live ⟨4,(o1++[u]).mapIdx (A3 fl)⟩)):=by
  refine jr.mk' (λp q _ _ e=>ud e) ajR λj z hz=> ?_;rw[an _ _ alu];by_cases e:j=k
  ·subst e;rw[hu] at hz;cases hz;simp[ae]
  rw[an _ _ alu];have aF:=(afY.1 hz).1;simp at aF;rw[agB ajK] at hz;exact h3 j z hz
 have cf:∀l:Lb,l.entry=true->l≠fl 0/\l≠fl (1+k):=λl he=>⟨aj9,aj9⟩;obtain⟨H2,w2,a2,e2⟩:=Jh (S:=S) (env:=env) (d:=d) (y:=x) (els:=els) (H1:=aS H1 (fl 0) (.live ⟨4,(E2.set k [.bool false,.str u.s,at',.sl (.loc d) 4 0 (u.kids.length+1)]).take (k+1)⟩)) hB
  (λl he=>by rw[an _ _ (cf l he).1,an _ _ (cf l he).2];exact hE l he) hu hT ha (by rw[<-hE2,List.take_set];simp[ae]) (by rw[an _ _ akV];exact h1) h2
  (λq a b c=>by rw[an _ _ a,an _ _ a,an _ _ b])
 exact⟨H2,(FV (k+1) h0).trans w2,by rw[<-hs];exact a2,e2⟩
def sy {ks:List Tree} {b cs:List AV} {y:Tree} (h:cs.map norm=[.bool y.text,.str y.s,.list (aQ y.attrs),.list (aM y.kids)]):(((ak (aM ks)++[b]).set ks.length cs).map λcs=>cs.map norm)=ak (aM (ks++[y])):=by
 rw[ahr _ _ (by rw[bw,ar];exact af6 _),bw,ar,ahc,ag2,Rw,ed,fR];congr 1;simp[h,aM,ak,Tree.mY,IV.cells,Tree.cs,IV.dw]
def Ni {ks:List Tree} {cs:List AV} {y:Tree} (h:cs.map norm=[.bool y.text,.str y.s,.list (aQ y.attrs),.list (aM y.kids)]):((ak (aM ks)++[cs]).map λcs=>cs.map norm)=ak (aM (ks++[y])):=by
 have:=sy (ks:=ks) (b:=cs) h
 rwa[ahr _ _ (by rw[bw,ar];exact af6 _),bw,ar,ahc] at this
def jr.loc {o:List Tree} {H:Hp} (h:jr fl o H) (n:Nat) (s:Slot):jr fl o (aS H (.loc n) s):=⟨λp r hp=>by rw[an _ _ akV];exact h.row p r hp,h.inj⟩
def A5 (t d p:Nat):(qn t (.loc d) p).fresh=true:=by unfold qn;split<;>rfl
section
variable {P:Program} {G:Nat->Option (List IV)} [KN P G]
abbrev FoS (l:List Bs):Type:={q:Nat×List Tree // q.1<=l.length/\q.2≠[]/\q.2.length<=9/\(l.drop q.1).foldlM fk q.2.reverse=l.foldlM fk [jN]/\∀x∈q.2,x.text=false/\x.kids.length<=q.1}
set_option maxHeartbeats 4000000 in
def Uu (s:Bs) (hs:s.length<=4096)
  (hP:aj P G 100 [.str s] (lB s)) (hMe:∀m:Bs,m.length<=4096->aj P G 61 [.str m,.bool false] (gO false m))
  (ae1:∀m:Bs,m.length<=4096->aj P G 91 [.str m,.str [60,47]] (.bool ([60,47].isPrefixOf m)))
  (hTS:∀s:Bs,s.length<=4096->aj P G 102 [.str s,.str [62]] (.str (Lib.trimSuffix s [62])))
  (hTR:∀s:Bs,s.length<=4096->aj P G 101 [.str s,.str [32,10]] (.str (nn s)))
  (hBg:∀m:Bs,m.length<=4096->aj P G 103 [.str m] (rq m)):aj P G 64 [.str s] (il s):=by
 refine au (cw 64 [.f 74 0 (.rw [] [.loc 74]),.f 74 1 (.rw [] [.loc 74]),.f 74 2 (.rw [] [.loc 74]),.f 74 3 (.rw [.loc 74] []),.f 129 5 (.rw [.loc 13] []),.l 24,.l 143,.b 27 .jf,.a 75 .jf,.d 74,.b 145 .jf,.f 76 8 (.rw [(.nest (.loc 900) 0 3)] []),.f 76 12 (.rw [(.nest (.loc 900) 0 3)] []),.f 76 15 (.rw [] [(.nest (.loc 900) 0 3),(.loc 91)]),.f 76 18 (.rw [] [(.nest (.loc 900) 0 3)]),.r (.tj (.nest (.loc 900) 1 3) 2),.f 44 4 (.rw [(.nest (.loc 900) 0 3)] []),.f 44 9 (.rw [] [(.nest (.loc 900) 0 3),(.loc 53)]),.f 44 11 (.rw [] [(.loc 53)]),.f 44 14 (.rw [] [(.nest (.loc 900) 0 3)]),.f 95 8 (.rw [(.nest (.loc 900) 0 3)] []),.f 95 12 (.rw [(.nest (.loc 900) 0 3)] []),.f 95 14 (.rw [] [(.nest (.loc 900) 0 3),(.loc 109)]),.f 95 17 (.rw [] [(.nest (.loc 900) 0 3)]),.f 129 4 (.rw [(.nest (.loc 900) 0 3)] []),.f 129 8 (.rw [] [(.nest (.loc 900) 0 3),(.loc 137)]),.f 129 10 (.rw [] [(.loc 137)]),.f 129 13 (.rw [] [(.nest (.loc 900) 0 3)])]) ajL ajO (by unfold il;split<;>simp[AV.aq,ai]) ?_;simp only[↓aX,mX,seval];refine ah hP ?_;cases hp:cu s with
 |none=>
  have e:il s= .bq [.nil0,.bool false]:=by unfold il;rw[hp];rfl
  simp only[↓aX,mX,seval,lB,hp,Bool.not_false,↓a_,e]
 |some l=>
 obtain⟨kn,hml,HO⟩:=Ng _ s l (Nat.le_refl _) hp;have res:∀r,l.foldlM fk [jN]=r->il s=match r with
   |some o=> .bq [.list (aM ((o.getLast?.map Tree.kids).getD [])),.bool (o.length==1)]
   |none=> .bq [.nil0,.bool false]:=λr h=>by unfold il;rw[hp,Option.bind_some,h]<;>rfl
 simp only[↓aX,mX,seval,lB,hp,Bool.not_true];rw[uR (sz:=4) (d:=24) (cs:=[.bool false,.str [],.nil0,.nil0]) alJ ajX rfl ajN];simp only[↓aX,mX,seval];rw[ec];refine⟨_,_,oa (q:= .loc 24) (N:= .loc 1001) (i:=0) (j:=3) (sz:=4) (sq:=4) (els:=[[.bool false,.str [],.nil0,.nil0]]) ajR rfl rfl ajX ajN,?_⟩;simp only[↓aX,mX,seval,List.length_map];refine sb (σ:=FoS l) fl (λq=>V5 q.1.2) [] (λ_=>false) (λq=>Jg l q.1.1 q.1.2.length (fl 0)) (λ_=>[]) (λq=>l.length - q.1.1)
  ⟨(0,[jN]),Nat.zero_le _,ajL,ajL,rfl,by simp[jN,Tree.text,Tree.kids]⟩ (λq p1 p2 _ _ e=>ud e) (λ_=>rfl) ajL ?_ ajL ?_ ?_
 ·intro q l' gR;simp[ai,AV.aq,Jg] at gR;subst gR;right;exact⟨0,A4.2 ajK,rfl⟩
 ·refine jr.wh (lab:=λp=>if p=0 then .loc 24 else .loc 1001) ?_ ?_ ?_ rfl rfl rfl rfl
  ·refine jr.mk' ?_ ?_ ?_
   ·intro p q hp hq e;simp only[List.length_singleton] at hp hq
    match p,hp,q,hq with
    |0,_,0,_|1,_,1,_=>rfl
    |0,_,1,_|1,_,0,_=>simp at e
   ·simp[ae,A3,jN,Tree.s,Tree.kids]
   intro i x hx;cases i with
   |zero=>simp at hx;subst hx;simp[ae,jN,Tree.kids,aM,ak]
   |succ i=>simp at hx
  ·intro q hq;cases q<;>simp_all[Lb.entry,ae,Hp.none]
  intro p hp;by_cases h:p=0<;>simp[h,Lb.fresh]
 rintro⟨⟨i,o⟩,hi,cf,h9,Z2,hx⟩;obtain⟨H0,rH⟩:∃H0,H0=Ar fl (V5 o) (cU (λ_=>false) []):=⟨_,rfl⟩;simp only at hi cf h9 Z2 hx ⊢;rw[<-rH];have hB:jr fl o H0:=by rw[rH];exact ko.oi (λp1 p2 _ _ e=>ud e) _
 have hU:∀l':Lb,(∀p,fl p≠l')->H0 l'= .unused:=λl' h=>by rw[rH,gx _ λp _=>h p];rfl
 have hE:∀l':Lb,l'.entry=true->H0 l'= .unused:=λl' he=>hU l' (by intro p e;subst e;simp[fl,Lb.entry] at he);have al:∀n,H0 (.loc n)= .unused:=λn=>hU _ akV;clear hU rH;simp only[↓aX,mX,seval,Jg];refine j7 (λh=> ?_) (λh=> ?_)
 ·have aF:i<l.length:=by simpa using h
  obtain⟨m,hm⟩:=gE aF;have OE:=List.mem_of_getElem? hm;have Ry:m.length<=4096:=Nat.le_trans (hml m OE) hs;have hw:=w1 i;obtain⟨o0,x,rfl⟩:∃o0 x,o=o0++[x]:=⟨o.dropLast,o.getLast cf,(List.dropLast_concat_getLast cf).symm⟩;obtain⟨t,yh⟩:∃t,t=o0.length:=⟨_,rfl⟩;have ht:(o0++[x]).length=t+1:=by simp[yh]
  have HL:(o0++[x])[t]?=some x:=by rw[yh,List.getElem?_append_right (Nat.le_refl _)];simp
  obtain⟨hxT,Mc⟩:=hx x ajL;have h9:t+1<=9:=by rw[<-ht];exact h9
  have Kh:IntKind.i64.wrap (((t+1:Nat):Int) - 1)=((t:Nat):Int):=ajW
  obtain⟨c,r,rfl⟩:∃c r,m=c::r:=by
   cases m with
   |nil=>exact absurd rfl (kn _ OE).1
   |cons c r=>exact⟨c,r,rfl⟩
  have ka:∀q,fk (x::o0.reverse) (c::r)=q->l.foldlM fk [jN]=q.bind λo'=>(l.drop (i+1)).foldlM fk o':=λq h=>by
   rw[<-Z2,drop_eq hm,List.reverse_append];simp only[List.reverse_cons,List.reverse_nil,List.nil_append,List.cons_append,List.foldlM_cons,h];rfl
  have F0:fk (x::o0.reverse) (c::r)=none->il s= .bq [.nil0,.bool false]:=λh=>res none (ka none h);have Uv:∀o':List Tree,fk (x::o0.reverse) (c::r)=some o'.reverse->o'≠[]->o'.length<=9->(∀y∈o',y.text=false/\y.kids.length<=i+1) ->
    i+1<=l.length/\o'≠[]/\o'.length<=9/\(l.drop (i+1)).foldlM fk o'.reverse=l.foldlM fk [jN]/\∀y∈o',y.text=false/\y.kids.length<=i+1:=
   λo' h1 h2 h3 h4=>⟨aF,h2,h3,by rw[ka _ h1];rfl,h4⟩
  have kH:∀y:Tree,(o0++[x]).set t y=o0++[y]:=λy=>by rw[yh,List.set_append_right _ _ (Nat.le_refl _),Nat.sub_self];rfl
  have wF:∀y:Tree,fk (x::o0.reverse) (c::r)=some (x.bS [y]::o0.reverse)->∀{d:Nat} {H2:Hp} {env:Env},jr (qn t (.loc d)) ((o0++[x]).set t (x.bS [y])) H2->(∀l:Lb,l.entry=true->H2 l= .unused) ->
    env 6= .sl (fl 0) 4 0 (t+1)->env 25= .list (l.map IV.str)->env 26= .int .i64 l.length->env 27= .int .i64 ((i+1:Nat):Int) ->
    ∃q:FoS l,l.length - q.1.1<l.length - i/\∃lab m,WH fl (V5 q.1.2) [] (λ_=>false) (Jg l q.1.1 q.1.2.length (fl 0)) [] env H2 lab m:=by
   intro y h1 d H2 env h2 h3 h6 y5 h26 h27;rw[kH] at h2;refine⟨⟨(i+1,o0++[x.bS [y]]),Uv _ (by rw[h1,List.reverse_append];rfl) ajL (by simp at ht ⊢;omega) λz hz=> ?_⟩,ajM,jr.wh h2 h3 (λp _=>A5 t d p) ?_ y5 h26 h27⟩
   ·rcases List.mem_append.1 hz with hz|hz
    ·have:=hx z akI;exact⟨this.1,ajK⟩
    simp only[List.mem_singleton] at hz;subst hz;cases x;simp only[Tree.bS,Tree.text,Tree.kids,List.length_append,List.length_singleton] at hxT Mc ⊢;exact⟨hxT,ajK⟩
   rw[h6];simp at ht ⊢;rw[yh];simp[qn];omega
  have qp:=hB.ada;have hEt:=Ef (lab:=fl) HL;have pe:=hB.k HL;have e01:(0=1+t)=False:=eq_false ajK;have e10:(1+t=0)=False:=eq_false ajK;obtain⟨E,Zn⟩:∃E,E=(o0++[x]).mapIdx (A3 fl):=⟨_,rfl⟩;rw[<-Zn] at qp hEt;have hEl:E.length=t+1:=by rw[Zn,List.length_mapIdx,ht]
  obtain⟨A,hA⟩:∃A:AV,A=if t=0 then .nil0 else .list (aQ x.attrs):=⟨_,rfl⟩;have hA1:A.one=true/\A.aq=[]:=by rw[hA];split<;>exact⟨rfl,rfl⟩
  have BR:E[t]?=some [.bool false,.str x.s,A,.sl (fl (1+t)) 4 0 x.kids.length]:=by rw[hEt,hA];rfl
  have hgm:(l.map IV.str)[i]?=some (.str (c::r)):=by simp[hm]
  have j5:dV 1 (l.map IV.str):=akA
  simp only[↓aX,mX,seval,hgm,j5,IV.cells,Int.natCast_nonneg,Int.toNat_natCast,ht,Kh,List.getElem?_cons_zero,Option.map_some,Int.toNat_zero,show(0:Int)<=0 from Int.le_refl 0];rw[show((c.toNat:Int) !=60)= !(c==60) by rw[bne,show((c.toNat:Int)==60)=(c==60) from byB c 60 ajN]];by_cases n9:c=60
  ·subst n9;obtain⟨a,ha⟩:=(kn _ OE).2 rfl;simp only[List.cons.injEq,true_and] at ha;subst ha;simp only[↓aX,mX,seval,beq_self_eq_true,Bool.not_true];refine ah (ae1 _ Ry) ?_;cases KM:[60,47].isPrefixOf (60::(a++[62])) with
   |true=>
    obtain⟨y,rfl⟩:∃y,a=47::y:=by
     cases a with
     |nil=>simp[List.isPrefixOf] at KM
     |cons d y=>simp[List.isPrefixOf] at KM;exact⟨y,by rw[KM]⟩
    have e1:Lib.trimSuffix (y++[62]) [62]=y:=(by simp[Lib.trimSuffix,Lib.hasSuffix]);have hyl:(y++[62]).length+2=(60::(47::y++[62])).length:=ajL;simp only[↓aX,mX,seval,iz,Int.natCast_nonneg,show(0:Int)<=2 by decide,show(2:Int).toNat=2 from rfl,true_and,Option.bind_some,Option.map_some,List.take_length,List.cons_append,List.length_cons,show 2<=(y++[62]).length+1+1 by omega,List.drop_succ_cons,List.drop_zero,Nat.le_refl,show List.take ((y++[62]).length+1+1) (60::47::(y++[62]))=60::47::(y++[62]) from List.take_length (l:=60::47::(y++[62]))];refine ah (hTS _ ajK) ?_;rw[e1];simp only[↓aX,mX,seval];refine ah (hTR y (by simp at Ry;omega)) ?_;have hc:fk (x::o0.reverse) (60::(47::y++[62]))=match o0.reverse with
      |[]=>none
      |up::rest=>if nn y=x.s then some (up.bS [x]::rest) else none:=by
     have hd:((60::(47::y++[62])).drop 2).dropLast=y:=ajL;unfold fk;simp only[List.head?_cons,ne_eq,not_true_eq_false,if_false,KM,if_true,hd];rfl
    simp only[↓aX,mX,seval,Kh,ht];rcases List.eq_nil_or_concat o0 with h0|⟨o1,u,h0⟩
    ·subst h0;have ae2:t=0:=yh;simp only[↓aX,mX,seval,Kh,ht,show(((t:Nat):Int)==0)=true by rw[ae2];rfl,↓a_,F0 hc]
    rw[List.concat_eq_append] at h0;subst h0;have NM:(o1++[u]).reverse=u::o1.reverse:=ajL;rw[NM] at hc;simp only at hc;have e0:(((t:Nat):Int)==0)=false:=(by rw[beq_eq_false_iff_ne];simp at yh;omega);simp only[↓aX,mX,seval,Kh,ht,e0,Int.natCast_nonneg,Int.toNat_natCast,show t<t+1 by omega,Nat.zero_add,qp,BR];cases um:(nn y==x.s) with
    |false=>
     rw[if_neg (by simpa using um)] at hc;simp only[↓aX,mX,seval,Kh,ht,e0,um,Bool.not_false,↓a_,F0 (by rw[NM];exact hc)]
    |true=>
    rw[if_pos (by simpa using um)] at hc;simp only[↓aX,mX,seval,Kh,ht,e0,um,Bool.not_true];rw[Zm];refine⟨rfl,Ut (show 74<153 by decide) (show 75<153 by decide) ajN (al 74) λb H' hH'=> ?_⟩;obtain⟨k,hk⟩:∃k,k=o1.length:=⟨_,rfl⟩;have ig:t=k+1:=(by simp at yh;omega);subst ig;obtain⟨X,hX⟩:∃X:Lb->Option (Nat×List IV),X=λq=>if q=fl (1+(k+1)) then some (4,aM x.kids) else none:=⟨_,rfl⟩;have X0:∀p,p≠1+(k+1)->X (fl p)=none:=λp hp=>(by rw[hX];simp only[iK,hp,if_false]);have XL:∀n,X (.loc n)=none:=λn=>(by rw[hX];simp only[jQ,if_false]);have X1:X (fl (1+(k+1)))=some (4,aM x.kids):=(by rw[hX];simp only[if_true]);have hxu:(o1++[u]++[x])[k]?=some u:=(by rw[hk,List.append_assoc,List.getElem?_append_right (Nat.le_refl _)];simp);obtain⟨huT,NN⟩:=hx u ajL;have hku:=hB.k hxu;have hEu:=Ef (lab:=fl) hxu;rw[<-Zn] at hEu;have Sa:∀p,H' (fl p)=H0 (fl p):=λp=>hH' _ akV;rw[ec];refine⟨_,_,rV X (λq sz xs h=> ?_) (env2:=iX [(6,.sl (fl 0) 4 0 (k+1+1)),(9,.int .i64 ((k+1:Nat):Int)),(25,.list (l.map IV.str)),(26,.int .i64 l.length),(27,.int .i64 i),(75,.bool b)]) (D3 ?_),?_⟩
    ·rw[hX] at h;by_cases e:q=fl (1+(k+1))
     ·subst e;simp only[if_true,Option.some.injEq,Prod.mk.injEq] at h;obtain⟨rfl,rfl⟩:=h;exact⟨(Sa _).trans pe,rfl,gd _⟩
     simp only[e,if_false] at h;cases h
    ·intro q hq;simp only[List.mem_cons,List.not_mem_nil,or_false] at hq;rcases hq with rfl|rfl|rfl|rfl|rfl|rfl
     ·simp[put,pC,X0,ht]
     all_goals rfl
    have g0:mK X H' (fl 0)= .live ⟨4,E.map (iG X)⟩:=(by rw[oX (X0 0 ajK) ((Sa 0).trans qp)]);have gk:∀j z,o1[j]?=some z->mK X H' (fl (1+j))= .live ⟨4,ak (aM z.kids)⟩:=λj z hz=>by
     have aF:=(List.getElem?_eq_some_iff.1 hz).1;have Dd:(o1++[u]++[x])[j]?=some z:=(by rw[List.append_assoc,List.getElem?_append_left aF];exact hz);rw[oX (X0 (1+j) ajK) ((Sa _).trans (hB.k Dd)),PF]
    have gu:mK X H' (fl (1+k))= .live ⟨4,ak (aM u.kids)⟩:=(by rw[oX (X0 (1+k) ajK) ((Sa _).trans hku),PF]);have gE:∀l:Lb,l.entry=true->mK X H' l= .unused:=λl he=>by
     have n1:l≠ .loc 74:=akd;have n2:X l=none:=(by rw[hX];simp only;rw[if_neg];rintro rfl;simp[fl,Lb.entry] at he);unfold mK;rw[n2,hH' l n1,hE l he]
    have gl:∀n,n≠74->mK X H' (.loc n)= .unused:=λn hn=>by
     unfold mK;rw[XL n,hH' _ aly,al n]
    obtain⟨E2,hE2⟩:∃E2,E2=E.map (iG X):=⟨_,rfl⟩;rw[<-hE2] at g0;have hA2:A= .list (aQ x.attrs):=(by rw[hA,if_neg ajK]);obtain⟨A',W0⟩:∃A':AV,A'=if k=0 then .nil0 else .list (aQ u.attrs):=⟨_,rfl⟩;have fA:pC X A'=A':=(by rw[W0];split<;>rfl);have f1:E2[k+1]?=some [.bool false,.str x.s,.list (aQ x.attrs),.list (aM x.kids)]:=by
     rw[hE2,List.getElem?_map,BR,hA2];simp only[Option.map_some,wL,zX,Yh X1 (ar _).symm];rfl
    have f2:E2[k]?=some [.bool false,.str u.s,A',.sl (fl (1+k)) 4 0 u.kids.length]:=by
     rw[hE2,List.getElem?_map,hEu];simp only[Option.map_some,A3,wL,zX,<-W0,fA,pC,X0 (1+k) ajK]
    have f3:E2.take (k+1)=(o1++[u]).mapIdx (A3 fl):=by
     refine List.ext_getElem? λj=> ?_;rw[hE2,Zn,List.getElem?_take,List.getElem?_map,List.getElem?_mapIdx,List.getElem?_mapIdx];by_cases hj:j<k+1
     ·rw[if_pos hj,List.getElem?_append_left ajY];cases hz:(o1++[u])[j]? with
      |none=>rfl
      |some z=>
      have:pC X (if j=0 then AV.nil0 else .list (aQ z.attrs))=if j=0 then AV.nil0 else .list (aQ z.attrs):=(by split<;>rfl);simp only[Option.map_some,A3,wL,zX,this,pC,X0 (1+j) ajK]
     rw[if_neg hj,List.getElem?_eq_none ajY];rfl
    have Hn:IntKind.i64.wrap (((k+1:Nat):Int) - 1)=((k:Nat):Int):=ajW;clear hX X0 XL X1 Sa hH';generalize mK X H'=H3 at *;have adb:∀{d:Nat} {H2:Hp} {env:Env},jr (qn k (.loc d)) (o1++[u.bS [x]]) H2->(∀l:Lb,l.entry=true->H2 l= .unused) ->
      env 6= .sl (fl 0) 4 0 (k+1)->env 25= .list (l.map IV.str)->env 26= .int .i64 l.length->env 27= .int .i64 ((i+1:Nat):Int) ->
      ∃q:FoS l,l.length - q.1.1<l.length - i/\∃lab m,WH fl (V5 q.1.2) [] (λ_=>false) (Jg l q.1.1 q.1.2.length (fl 0)) [] env H2 lab m:=by
     intro d H2 env h2 h3 h6 y5 h26 h27;refine⟨⟨(i+1,o1++[u.bS [x]]),Uv _ (by rw[NM,hc,List.reverse_append];rfl) ajL ajY λz hz=> ?_⟩,ajM,jr.wh h2 h3 (λp _=>A5 k d p) ?_ y5 h26 h27⟩
     ·rcases List.mem_append.1 hz with hz|hz
      ·have:=hx z akI;exact⟨this.1,ajK⟩
      simp only[List.mem_singleton] at hz;subst hz;cases u;simp only[Tree.bS,Tree.text,Tree.kids,List.length_append,List.length_singleton] at huT NN ⊢;exact⟨huT,ajK⟩
     rw[h6];simp[qn,hk];intro h;omega
    have e0k:(0=1+k)=False:=eq_false ajK;cases b with
    |true=>
     simp only[↓aX,mX,seval];refine⟨aj7,?_⟩;simp only[↓aX,mX,seval,Hn,Int.natCast_nonneg,Int.toNat_natCast,show k<k+1+1 by omega,show k+1<k+1+1 by omega,g0,gu,f1,f2,Nat.zero_add,jP,jQ,iK];refine⟨rfl,rfl,?_⟩;rw[nX (l:=fl (1+k)) gu anZ rfl aj0 ajK ajN alW anm,jR];simp only[↓aX,mX,seval,Hn,Int.natCast_nonneg,Int.toNat_natCast,show k<k+1+1 by omega,show k+1<k+1+1 by omega,g0,gu,f1,f2,Nat.zero_add,jP,jQ,iK,e0k];refine⟨akH,?_⟩;refine⟨rfl,?_⟩;rw[show(ak [IV.agg [IV.bool false,IV.str [],IV.list [],IV.list []]])=[[.bool false,.str [],.list [],.list []]] from rfl];simp only[↓aX,mX,seval,show u.kids.length<u.kids.length+1 by omega,List.getElem?_append_right,bw,ar,Nat.le_refl,Nat.sub_self,jP,jQ,iK,List.getElem?_cons_zero,nH,nG,iz,Int.natCast_nonneg,Int.toNat_natCast,true_and,show k+1<=k+1+1 by omega,Option.bind_some,Option.map_some,Nat.zero_le,Option.isSome_none,Nat.add_zero,Nat.sub_zero];rw[ec];refine Exists.elim (Rx (d:=91) (x:=x) (u:=u) (o1:=o1) (E2:=E2) hk ?_ huT W0 f3 (by simp[ae,fl]) amv ?_ ?_) λH4 h4=>⟨_,H4,h4.1,?_⟩
     ·intro q he;rw[an _ _ aj9,an _ _ aj9,an _ _ aj9,an _ _ aj9];exact gE q he
     ·exact sy (by rw[hxT];rfl)
     ·intro j z hz;have aF:=(List.getElem?_eq_some_iff.1 hz).1;rw[an _ _ akV,an _ _ alu,an _ _ akV,an _ _ alu];exact gk j z hz
     simp only[↓aX,mX,seval,hw];exact adb h4.2.1 h4.2.2 rfl rfl rfl rfl
    |false=>
    simp only[↓aX,mX,seval];refine⟨aj7,?_⟩;simp only[↓aX,mX,seval,Hn,Int.natCast_nonneg,Int.toNat_natCast,show k<k+1+1 by omega,show k+1<k+1+1 by omega,g0,gu,f1,f2,Nat.zero_add,jP,jQ,iK];refine⟨rfl,rfl,?_⟩;rw[nX (l:=fl (1+k)) gu anZ rfl aj0 ajK ajN alW anm,jR];simp only[↓aX,mX,seval,Hn,Int.natCast_nonneg,Int.toNat_natCast,show k<k+1+1 by omega,show k+1<k+1+1 by omega,g0,gu,f1,f2,Nat.zero_add,jP,jQ,iK,e0k];refine⟨akH,?_⟩;refine⟨rfl,?_⟩;simp only[↓aX,mX,seval,nH,nG,iz,Int.natCast_nonneg,Int.toNat_natCast,true_and,show k+1<=k+1+1 by omega,Option.bind_some,Option.map_some,Nat.zero_le,Option.isSome_none,Nat.add_zero,Nat.sub_zero];rw[ec];refine Exists.elim (Rx (d:=109) (x:=x) (u:=u) (o1:=o1) (E2:=E2) hk ?_ huT W0 f3 (by simp[ae,fl]) amv ?_ ?_) λH4 h4=>⟨_,H4,h4.1,?_⟩
    ·intro q he;rw[an _ _ aj9,an _ _ aj9,an _ _ aj9];exact gE q he
    ·exact Ni (by rw[hxT];rfl)
    ·intro j z hz;have aF:=(List.getElem?_eq_some_iff.1 hz).1;rw[an _ _ alu,an _ _ akV,an _ _ alu];exact gk j z hz
    simp only[↓aX,mX,seval,hw];exact adb h4.2.1 h4.2.2 rfl rfl rfl rfl
   |false=>
   obtain⟨m,hmE⟩:∃m,m=60::(a++[62]):=⟨_,rfl⟩;have MS:=G4 a;simp only at MS;rw[<-hmE] at MS;have hd:(m.drop 1).dropLast=a:=(by rw[hmE];simp);rw[hd] at MS;have hc:fk (x::o0.reverse) m=(kZ a).bind λz=>if 8<(x::o0.reverse).length then none else if z.2.2 then some (x.bS [.mk false z.1 z.2.1 []]::o0.reverse) else some (.mk false z.1 z.2.1 []::x::o0.reverse):=by
    unfold fk;simp only;rw[if_neg (by rw[hmE];simp),if_neg (by rw[hmE,KM];simp),hd]
   rw[<-hmE] at Ry F0 Uv wF;rw[<-hmE];simp only[↓aX,mX,seval];refine ah (hBg m Ry) ?_;simp only[↓aX,mX,seval,rq,al 13,IV.dw];have ade:(x::o0.reverse).length=t+1:=(by simp[yh]);cases hbg:kZ a with
   |none=>
    rw[hbg] at hc MS;simp only[↓aX,mX,seval,MS,Bool.not_false,↓a_,F0 hc]
   |some z=>
   obtain⟨nm,ats,e⟩:=z;rw[hbg] at hc MS;obtain⟨b1,b2,b3,b4⟩:=MS;rw[b1] at b4;rw[Option.bind_some,ade] at hc;simp only at hc;simp only[↓aX,mX,seval,b1,b2,b3,b4,Bool.not_true,ht];by_cases h8:8<t+1
   ·rw[if_pos h8] at hc;simp only[↓aX,mX,seval,show decide (((t+1:Nat):Int)>8)=true by simp;omega,↓a_,F0 hc]
   rw[if_neg h8] at hc;simp only[↓aX,mX,seval,show decide (((t+1:Nat):Int)>8)=false by simp;omega];have ae3:∀r1 r2 p,(aS (aS H0 (.loc 13) r1) (.loc 13) r2) (fl p)=H0 (fl p):=λr1 r2 p=>(by simp only[ae,jP,if_false]);cases e with
   |true=>
    rw[if_pos rfl] at hc;simp only[↓aX,mX,seval,b3];refine⟨aj7,?_⟩;simp only[↓aX,mX,seval,ht,Kh,Int.natCast_nonneg,Int.toNat_natCast,show t<t+1 by omega,qp,BR,pe,Nat.zero_add,jP,jQ,iK];refine⟨rfl,?_⟩;rw[nX (l:=fl (1+t)) ((ae3 _ _ _).trans pe) anZ rfl aj0 ajK ajN alW (by rw[jR];simp[ae,al]),jR];simp only[↓aX,mX,seval,ht,Kh,Int.natCast_nonneg,Int.toNat_natCast,show t<t+1 by omega,qp,BR,pe,Nat.zero_add,jP,jQ,iK];refine⟨akH,?_⟩;simp only[↓aX,mX,seval,show x.kids.length<x.kids.length+1 by omega,Nat.zero_add,List.getElem?_append_right,bw,ar,Nat.le_refl,Nat.sub_self,jP,jQ,iK,qp,BR,e01];rw[show(ak [IV.agg [IV.bool false,IV.str [],IV.list [],IV.list []]])[0]?=some [.bool false,.str [],.list [],.list []] from rfl];simp only[↓aX,mX,seval,List.length_cons,List.length_nil,show 4<=0+1+1+1+1 by decide,ie,jP,jQ,iK,qp,BR,show t<t+1 by omega,Nat.zero_add,Nat.reduceAdd,e01,ht];refine⟨rfl,?_⟩;rw[ec];refine Exists.elim (Jh (d:=137) (y:= .mk false nm ats []) ((hB.loc 13 _).loc 13 _) (λq he=> ?_) HL hxT hA (by rw[<-Zn];simp[ae,fl]) amv ?_ (λq a b c=>by rw[an _ _ a,an _ _ c,an _ _ c,an _ _ b])) λH2 h=>⟨_,H2,h.1,?_⟩
    ·rw[an _ _ akd,an _ _ akd];exact hE q he
    ·exact sy (by rw[b1,b2];rfl)
    simp only[↓aX,mX,seval,hw];exact wF _ hc h.2.1 h.2.2 rfl rfl rfl rfl
   |false=>
   rw[if_neg ajN] at hc;simp only[↓aX,mX,seval,b3];rw[uR (sz:=4) (d:=143) (cs:=[.bool false,.str nm,.list (aQ ats),.nil0]) (by simp[gF,AV.cells,AV.Bq,AV.one,b1,b2]) (by simp[ae,al]) rfl ajN];simp only[↓aX,mX,seval,ht];rw[K3 (l:=fl 0) (q:= .loc 143) (els:=E) (cs:=[.bool false,.str nm,.list (aQ ats),.nil0]) (by simp[ae,fl];exact qp) ajR (by intro z hz;simp at hz;rcases hz with rfl|rfl|rfl|rfl<;>rfl) hEl ajK ajN alW (by rw[jR];simp[ae,al]),jR];simp only[↓aX,mX,seval,hw];rw[ec];refine⟨_,_,oa (q:= .loc 144) (N:= .loc 1001) (i:=t+1) (j:=3) (sz:=4) (sq:=4) (els:=E++[[.bool false,.str nm,.list (aQ ats),.nil0]]) (cs:=[.bool false,.str nm,.list (aQ ats),.nil0]) ajR (by rw[List.getElem?_append_right ajK,hEl,Nat.sub_self];rfl) rfl (by simp[ae,fl,al]) ajN,?_⟩;simp only[↓aX,mX,seval,hw];refine⟨⟨(i+1,o0++[x]++[.mk false nm ats []]),Uv _ (by rw[hc];simp) ajL (by simp at ht ⊢;omega) λz hz=> ?_⟩,ajM,jr.wh (lab:=rr (t+1) (.loc 144) (.loc 1001)) ?_ ?_ ?_ ?_ rfl rfl rfl⟩
   ·rcases List.mem_append.1 hz with hz|hz
    ·have:=hx z hz;exact⟨this.1,ajK⟩
    simp only[List.mem_singleton] at hz;subst hz;exact⟨rfl,by simp[Tree.kids]⟩
   ·rw[show rr (t+1) (Lb.loc 144) (Lb.loc 1001)=rr (o0++[x]).length (.loc 144) (.loc 1001) by rw[ht]];refine jr.push hB cf rfl akV akV ajL ?_ ?_ ?_
    ·rw[ae,if_pos rfl,<-Zn,List.set_append_right _ _ ajK,hEl,Nat.sub_self];rfl
    ·simp[ae]
    intro p hp _;simp[ae,fl,hp]
   ·intro q he;have hq:=hE q he;cases q<;>simp[Lb.entry] at he;simp[ae,fl,hq]
   ·intro p _;unfold rr;split
    ·rfl
    split<;>rfl
   show AV.sl (Lb.loc 144) 4 0 (t+1+1)=AV.sl (Lb.loc 144) 4 0 (o0++[x]++[_]).length;rw[List.length_append,ht];rfl
  have hh:(c::r).head?≠some 60:=by simpa using n9
  have fG:fk (x::o0.reverse) (c::r)=(bB false (c::r)).map λv=>x.bS [.mk true v [] []]::o0.reverse:=by unfold fk;simp only[if_pos hh]
  simp only[↓aX,mX,seval,show(c==60)=false by simpa using n9,Bool.not_false];refine ah (hMe (c::r) Ry) ?_;cases hmv:bB false (c::r) with
  |none=>
   rw[hmv] at fG;simp only[↓aX,mX,seval,gO,hmv,Bool.not_false,↓a_,F0 fG]
  |some v=>
  rw[hmv] at fG;simp only[↓aX,mX,seval,gO,hmv,Bool.not_true,ht,Kh,Int.natCast_nonneg,Int.toNat_natCast,show t<t+1 by omega];refine⟨aj7,?_⟩;simp only[↓aX,mX,seval,gO,hmv,Bool.not_true,ht,Kh,Int.natCast_nonneg,Int.toNat_natCast,show t<t+1 by omega,qp,BR,pe,Nat.zero_add,jP,jQ,iK];refine⟨rfl,?_⟩;rw[nX (l:=fl (1+t)) pe anZ rfl aj0 ajK ajN alW (by rw[jR];exact al _),jR];simp only[↓aX,mX,seval,gO,hmv,Bool.not_true,ht,Kh,Int.natCast_nonneg,Int.toNat_natCast,show t<t+1 by omega,qp,BR,pe,Nat.zero_add,jP,jQ,iK];refine⟨akH,?_⟩;simp only[↓aX,mX,seval,show x.kids.length<x.kids.length+1 by omega,Nat.zero_add,List.getElem?_append_right,bw,ar,Nat.le_refl,Nat.sub_self,jP,jQ,iK,qp,BR,e01];rw[show(ak [IV.agg [IV.bool false,IV.str [],IV.list [],IV.list []]])[0]?=some [.bool false,.str [],.list [],.list []] from rfl];simp only[↓aX,mX,seval,List.length_cons,List.length_nil,show 4<=0+1+1+1+1 by decide,ie,jP,jQ,iK,qp,BR,show t<t+1 by omega,Nat.zero_add,Nat.reduceAdd,e01];refine⟨rfl,?_⟩;rw[ec];refine Exists.elim (Jh (d:=53) (y:= .mk true v [] []) hB hE HL hxT hA (by rw[<-Zn];simp[ae,fl]) amv ?_ (λq a b c=>by rw[an _ _ a,an _ _ c,an _ _ c,an _ _ b])) λH2 h=>⟨_,H2,h.1,?_⟩
  ·exact sy rfl
  simp only[↓aX,mX,seval,hw];exact wF _ fG h.2.1 h.2.2 (show AV.sl (fl 0) 4 0 (o0++[x]).length=_ by rw[ht]) rfl rfl rfl
 have je:i=l.length:=by
  have:¬i<l.length:=aj6
  omega
 obtain⟨x,o2,rfl⟩:∃x o2,o=x::o2:=by
  cases o with
  |nil=>exact absurd rfl cf
  |cons x o2=>exact⟨x,o2,rfl⟩
 have hd:l.drop i=[]:=by rw[je];exact List.drop_length
 rw[hd] at Z2;have hr:=res (some (x::o2).reverse) Z2.symm;have qp:=hB.ada;have pe:=hB.k (i:=0) (x:=x) rfl;have hE:=Ef (lab:=fl) (o:=x::o2) (i:=0) rfl;simp only[↓aX,mX,seval,iK,jP,jQ,qp,hE,A3,Int.toNat_zero,show(0:Int)<=0 from Int.le_refl 0,List.length_cons,show 0<o2.length+1 by omega,Nat.zero_add];refine⟨4,aM x.kids,0,_,rfl,pe,akD,gd _,?_⟩;have yk:List.take x.kids.length (aM x.kids)=aM x.kids:=List.take_of_length_le (by rw[ar];exact Nat.le_refl _);have Om:(((o2.length+1:Nat):Int)==1)=((x::o2).reverse.length==1):=by
  rw[Bool.eq_iff_iff];simp only[beq_iff_eq,List.length_reverse,List.length_cons];omega
 simp only[↓aX,mX,seval,↓a_,hr,List.drop_zero,yk,Om,List.getLast?_reverse,List.head?_cons,Option.map_some,Option.getD_some]
end

theorem G6 (s:Bs):ya s=match lv s with
  |some l=>if content l then(l,0) else([],1)
  |none=>([],1):=by
 unfold ya;rw[pJ];split
 ·rename_i l h;rw[h]
 rename_i h;split
 ·rename_i l h2;split at h2
  ·rename_i ks h3;exact absurd h3 (h ks)
  cases h2
 rfl
def Ji {d:Nat} {s:Bs} (h:s.head?≠some 60\/[60,47].isPrefixOf s=true):aV d s=none:=by
 cases d with
 |zero=>rfl
 |succ d=>
 have:n5 s=none:=by
  unfold n5;cases s with
  |nil=>simp[da]
  |cons c q=>
  by_cases hc:c=60
  ·subst hc;rcases h with h|h
   ·simp at h
   cases q with
   |nil=>simp[List.isPrefixOf] at h
   |cons e q=>
   have he:e=47:=by
    have h':=h;simp[List.isPrefixOf] at h'
    first|exact h'|exact h'.symm
   subst he;have h1:da [60] (60::47::q)=some (47::q):=(by simp[da,List.isPrefixOf]);have h2:ke (47::q)=none:=(by simp[ke,aY]);rw[h1,af_,h2,aib]
  have h1:da [60] (c::q)=none:=by simp[da,List.isPrefixOf,agQ hc]
  rw[h1,aib]
 unfold aV;rw[this,aib]
theorem Eg (s:Bs):ot s=match lv s with
  |some [t]=>if t.cA then(t,0) else(GU,1)
  |_=>(GU,1):=by
 have hk:∀q:Bs,s=60::q->¬[60,47].isPrefixOf s=true->(∀t,aV 8 s=some (t,[])↔cF (aV 8) s=some ([t],[])/\t.text=false):=by
  intro q hq hn t;subst hq;rw[F_ hn];constructor
  ·intro h;rw[h];refine⟨by simp[cF],?_⟩;unfold aV at h;obtain⟨x,_,h⟩:=afX.1 h;split at h
   ·simp only[afZ,agq] at h;rw[<-h.1];rfl
   obtain⟨r,_,h⟩:=afX.1 h;obtain⟨y,_,h⟩:=afX.1 h;obtain⟨z,_,h⟩:=acF.1 h;simp only[agq] at h;rw[<-h.1];rfl
  rintro⟨h,_⟩;obtain⟨⟨t',r⟩,h1,h2⟩:=afX.1 h;obtain⟨⟨ks,r2⟩,h3,h4⟩:=acF.1 h2;simp only[agq,agY] at h4;obtain⟨⟨rfl,rfl⟩,rfl⟩:=h4;simp only at h3;cases r with
  |nil=>exact h1
  |cons c r=>
  exfalso;rw[cF] at h3;split at h3
  ·simp at h3
  split at h3
  ·split at h3
   ·obtain⟨y,_,h5⟩:=acF.1 h3;simp at h5
   cases h3
  cases h3
 have Lf:∀t:Tree,t.cA=true->t.text=false:=λt h=>((fg t).1 h).1;unfold ot;rw[pJ];by_cases hs:∃q,s=60::q/\¬[60,47].isPrefixOf s=true
 ·obtain⟨q,hq,hn⟩:=hs;split
  ·rename_i t h;obtain⟨h1,_⟩:=(hk q hq hn t).1 h;rw[h1]
  rename_i h;split
  ·rename_i t h2;split at h2
   ·rename_i ks h3;simp only[afZ] at h2;subst h2;split
    ·rename_i hg;exact absurd ((hk q hq hn t).2 ⟨h3,Lf t hg⟩) (h t)
    rfl
   cases h2
  rfl
 have oe:aV 8 s=none:=Ji (by
  by_cases hh:s.head?=some 60
  ·right;cases s with
   |nil=>simp at hh
   |cons c q=>
   simp at hh;subst hh;exact ahh λhn=>hs ⟨q,rfl,hn⟩
  exact .inl hh)
 rw[oe];simp only;split
 ·rename_i t h2;split at h2
  ·rename_i ks h3;simp only[afZ] at h2;subst h2;split
   ·rename_i hg;exfalso;cases s with
    |nil=>rw[cF] at h3;simp at h3
    |cons c q=>
    rw[cF] at h3;split at h3
    ·simp at h3
    rename_i hp;by_cases hc:c=60
    ·exact hs ⟨q,by rw[hc],hp⟩
    rw[af8 hc] at h3;split at h3
    ·rename_i t' r he;obtain⟨y,_,he⟩:=acF.1 he;simp only[agq] at he;obtain⟨rfl,rfl⟩:=he;split at h3
     ·obtain⟨y',_,h5⟩:=acF.1 h3;simp only[agq,agY] at h5;have:=Lf t hg;rw[<-h5.1.1] at this;simp[Tree.text] at this
     cases h3
    cases h3
   rfl
  cases h2
 rfl
theorem Nj (s:Bs):ep s=if 2500<s.length then(([],2):Bs×Int) else match bB false s with
  |some t=>if plain t then((t,0):Bs×Int) else(([],1):Bs×Int)
  |none=>(([],1):Bs×Int):=by
 unfold ep bB;split
 ·rfl
 cases bb false s with
 |none=>rfl
 |some y=>obtain⟨t,r⟩:=y;cases r<;>rfl
section
variable {P:Program} {G:Nat->Option (List IV)} [KN P G]
def Jj (s:Bs) (hl:s.length<=B) (hFo:∀s:Bs,s.length<=4096->aj P G 64 [.str s] (il s))
  (hI:∀t:Tree,t.wt<=3*s.length->aj P G 75 [t.av] (.bool t.cA)):aj P G 37 [.str s] (.bq [(cj s).1.av,.int .i64 (cj s).2]):=by
 refine cO (cw 37 []) ajL ajO ale ?_;have gV:B=1073741824:=rfl;unfold cj;simp only[↓aX,mX,seval];by_cases y5:2500<s.length
 ·simp only[↓aX,mX,seval,show decide ((s.length:Int)>2500)=true by simp;omega,cS,y5,agn,norm,bP,GU,Tree.av,Tree.text,Tree.s,Tree.attrs,Tree.kids,aQ,aM,ag6]
  try rfl
 simp only[↓aX,mX,seval,show decide ((s.length:Int)>2500)=false by simp;omega,y5,agk];refine ah (hFo s ajK) ?_;rw[Eg];cases hf:lv s with
 |none=>
  obtain⟨x,hx,hr⟩:=vQ hf;simp only[hr];rcases hx with rfl|⟨ks,rfl⟩<;>simp only[↓aX,mX,seval,af1,cS,y5,agk,norm,bP,GU,Tree.av,Tree.text,Tree.s,Tree.attrs,Tree.kids,aQ,aM,ag6]<;>rfl
 |some l=>
 have hw:bH l<=3*s.length:=by
  rw[pJ] at hf;split at hf
  ·exact abu
  cases hf
 rw[vP hf];rcases l with _|⟨t,_|⟨t2,q⟩⟩
 ·simp only[↓aX,mX,seval,af4,aM,agx,agd,show(((0:Nat):Int) !=1)=true by decide,cS,y5,agk,norm,bP,GU,Tree.av,Tree.text,Tree.s,Tree.attrs,Tree.kids,aQ,ag6]
  try rfl
 ·simp only[↓aX,mX,seval,af4,aM,agx,agd,show(((0+1:Nat):Int) !=1)=false by decide];simp only[↓aX,mX,seval,show dV 4 [t.iv] by simpa[aM] using fa [t],agn,Tree.ax,Tree.cs];have hI':=hI t (by simp only[bH] at hw;omega);simp only[Tree.av] at hI';refine ah hI' ?_;cases hg:t.cA with
  |false=>
   simp only[↓aX,mX,seval,af1,hg,cS,y5,agk,norm,bP,GU,Tree.av,Tree.text,Tree.s,Tree.attrs,Tree.kids,aQ,aM,ag6]
   try rfl
  |true=>
  simp only[↓aX,mX,seval,af4,show dV 4 [t.iv] by simpa[aM] using fa [t],agn,Tree.ax,Tree.cs,hg,cS,y5,agk,norm,bP,Tree.av]
  try rfl
 have e:(((q.length+1+1:Nat):Int) !=1)=true:=ajY
 simp only[↓aX,mX,seval,af4,aM,ar,agd,e,cS,y5,agk,norm,bP,GU,Tree.av,Tree.text,Tree.s,Tree.attrs,Tree.kids,aQ,ag6]
 try rfl
def BS (s:Bs) (hl:s.length<=B) (hFo:∀s:Bs,s.length<=4096->aj P G 64 [.str s] (il s))
  (hI:∀l:List Tree,bH l<=3*s.length->aj P G 65 [.list (aM l)] (.bool (content l))):aj P G 28 [.str s] (.bq [.list (aM (eC s).1),.int .i64 (eC s).2]):=by
 refine cO (cw 28 []) ajL ajO ajU ?_;have gV:B=1073741824:=rfl;unfold eC;simp only[↓aX,mX,seval];by_cases y5:2500<s.length
 ·simp only[↓aX,mX,seval,show decide ((s.length:Int)>2500)=true by simp;omega,y5,agn,↓a_]
  try rfl
 simp only[↓aX,mX,seval,show decide ((s.length:Int)>2500)=false by simp;omega,y5,agk];refine ah (hFo s ajK) ?_;rw[G6];cases hf:lv s with
 |none=>
  obtain⟨x,hx,hr⟩:=vQ hf;simp only[hr];rcases hx with rfl|⟨ks,rfl⟩<;>simp only[↓aX,mX,seval,af1,↓a_,y5,agk]<;>rfl
 |some l=>
 have hw:bH l<=3*s.length:=by
  rw[pJ] at hf;split at hf
  ·exact abu
  cases hf
 rw[vP hf];simp only[↓aX,mX,seval,af4];refine ah (hI l hw) ?_;cases hc:content l with
 |false=>simp only[↓aX,mX,seval,af1,↓a_,y5,agk,hc];rfl
 |true=>simp only[↓aX,mX,seval,af4,↓a_,y5,agk,hc];rfl
def Jk (s:Bs) (hl:s.length<=B) (hMe:∀s:Bs,s.length<=4096->aj P G 61 [.str s,.bool false] (gO false s))
  (hI:∀t:Bs,t.length<=4096->aj P G 62 [.str t] (.bool (plain t))):aj P G 26 [.str s] (.bq [.str (ep s).1,.int .i64 (ep s).2]):=by
 refine au (cw 26 []) ajL ajO ajU ?_;rw[Nj];simp only[↓aX,mX,seval];by_cases y5:2500<s.length
 ·simp only[↓aX,mX,seval,show decide ((s.length:Int)>2500)=true by simp;omega,y5,agn,↓a_]
 simp only[↓aX,mX,seval,show decide ((s.length:Int)>2500)=false by simp;omega,y5,agk];refine ah (hMe s ajK) ?_;cases hm:bB false s with
 |none=>simp only[↓aX,mX,seval,gO,hm,af1,↓a_,y5,agk]
 |some t=>
 have ht:t.length<=s.length:=by
  unfold bB at hm;split at hm
  ·rename_i t' h;cases hm;have:=rU _ s t [] (af6 _) h;simp at this;exact this
  cases hm
 simp only[↓aX,mX,seval,gO,hm,af4];refine ah (hI t ajK) ?_;cases hp:plain t with
 |false=>simp only[↓aX,mX,seval,af1,hp,↓a_,y5,agk];try rfl
 |true=>simp only[↓aX,mX,seval,af4,hp,↓a_,y5,agk];try rfl
set_option maxRecDepth 100000 in
def Uw (s t:Bs) (hs:s.length<=B) (ht:2<=t.length)
  (hM:aj P G 140 [.str t] (.bq [.agg (fZ (eS t)),.bool true]))
  (hR:cM P G 141 [.str s,.ptr (.par 0) 256 0 0] (fZ (eS t)) λx cs=>x= .str (gf (eS t) s)/\cs=fZ (eS t)) :
  aj P G 101 [.str s,.str t] (.str (gf (eS t) s)):=by
 refine au (cw 101 []) ajL ajO ajP ?_;simp only[↓aX,mX,reduceCtorEq,Int.reduceLT,Nat.reduceEqDiff,Int.reduceLE,Nat.reduceLT,Nat.reduceLeDiff,Nat.reduceAdd,Nat.reduceMul,Int.reduceToNat];have e1:(t==[])=false:=ane
 have e2:(((t.length:Nat):Int)==1)=false:=alO
 cases R0:(s==[]) with
 |true=>
  have:s=[]:=anV
  subst this;simp only[↓aX,mX,seval];rfl
 |false=>
 simp only[↓aX,mX,reduceCtorEq,Int.reduceLT,Nat.reduceEqDiff,Int.reduceLE,Nat.reduceLT,Nat.reduceLeDiff,Nat.reduceAdd,Nat.reduceMul,Int.reduceToNat,e1,e2];refine ah hM ?_;simp only[↓aX,mX,reduceCtorEq,Int.reduceLT,Nat.reduceEqDiff,Int.reduceLE,Nat.reduceLT,Nat.reduceLeDiff,Nat.reduceAdd,Nat.reduceMul,Int.reduceToNat,List.length_replicate,yR,bh,rQ,rR,vk,List.append_nil];refine ba (l:= .loc 5) hR rfl akT ?_;rintro x1 fB ⟨rfl,rfl⟩ _ _ _;simp only[↓aX,mX,reduceCtorEq,Int.reduceLT,Nat.reduceEqDiff,Int.reduceLE,Nat.reduceLT,Nat.reduceLeDiff,Nat.reduceAdd,Nat.reduceMul,Int.reduceToNat,bh,List.length_replicate]
def Rz (s:Bs):gf (eS [32,10]) s=nn s:=by unfold gf nn;rw[yW]
end
end Go.Am

namespace Go.Am
open Go Go.RowKit Go.Shelf Go.Proofs
section
variable {P:Program} {G:Nat->Option (List IV)} [KN P G] {ρ:Ren}
def Eh (s:Bs):(⟨s.toArray⟩:ByteArray).size=s.length:=by simp[ByteArray.size]
def G7 {w:World} {I:Nat->Prop} {g:Nat} {m:Int} (hG:D_ G I w) (h1:G g=some [.int .i64 m]):w.cell? ⟨g,0,none⟩=some (.int .i64 m):=by
 obtain⟨⟨⟨v,e1,e2⟩,_⟩,_⟩:=hG _ _ h1;simp only[iM] at e2;rw[e1,e2]
def RA (L:Lays.n143 P ρ) {m:Int} (h1:G (ρ.g 1)=some [.int .i64 m]) (s t:Bs) (hs:s.length<=2^24):aj P G (ρ.f 143) [.str s,.str t] (.int .i64 (Lib.index s t)):=by
 refine dU ajO ajP λw I vs hG hv=> ?_;simp only[bA,RV] at hv;obtain⟨v1,u1,rfl,rfl,v2,u2,rfl,rfl,rfl⟩:=hv;refine(Any.strings_Index L ⟨s.toArray⟩ ⟨t.toArray⟩ m w an9 (G7 hG h1)).mono ?_;rintro e w' ⟨rfl,rfl⟩;exact⟨_,rfl,Below.refl _ _,λI'=>by simp[RV]⟩
end
end Go.Am

namespace Go.Am
open Go Go.RowKit Go.Shelf Go.Proofs
section
variable {P:Program} {G:Nat->Option (List IV)} [KN P G] {ρ:Ren}
def ae4 (L:Lays.n145 P ρ) {m:Int} (h1:G (ρ.g 1)=some [.int .i64 m]):ac_ P G (ρ.f 145):=by
 intro s t hs;refine dU ajO ajU λw I vs hG hv=> ?_;simp only[bA,RV] at hv;obtain⟨v1,u1,rfl,rfl,v2,u2,rfl,rfl,rfl⟩:=hv;refine(Any.strings_Cut L ⟨s.toArray⟩ ⟨t.toArray⟩ m w an9 (G7 hG h1)).mono ?_;rintro e w' ⟨rfl,n,rfl⟩;exact⟨_,rfl,⟨rfl,rfl,rfl,af6 _,λ_ _=>rfl⟩,λI'=>by simp[RV,bA]⟩
def Zo (L:Lays.n101 P ρ) (s t:Bs):aj P G (ρ.f 101) [.str s,.str t] (.str (Lib.trimPrefix s t)):=by
 refine dU ajO ajP λw I vs hG hv=> ?_;simp only[bA,RV] at hv;obtain⟨v1,u1,rfl,rfl,v2,u2,rfl,rfl,rfl⟩:=hv;refine(Any.strings_TrimPrefix L ⟨s.toArray⟩ ⟨t.toArray⟩ w).mono ?_;rintro e w' ⟨rfl,rfl⟩;exact⟨_,rfl,Below.refl _ _,λI'=>by simp[RV]⟩
def Zp (L:Lays.n102 P ρ) (s t:Bs) (hs:s.length<=4096):aj P G (ρ.f 102) [.str s,.str t] (.str (Lib.trimSuffix s t)):=by
 refine dU ajO ajP λw I vs hG hv=> ?_;simp only[bA,RV] at hv;obtain⟨v1,u1,rfl,rfl,v2,u2,rfl,rfl,rfl⟩:=hv;refine(Any.strings_TrimSuffix L ⟨s.toArray⟩ ⟨t.toArray⟩ w an9).mono ?_;rintro e w' ⟨rfl,rfl⟩;exact⟨_,rfl,Below.refl _ _,λI'=>by simp[RV]⟩
def RB (c:UInt8):eS cV c.toNat=aY c:=by
 have:∀n:Fin 256,eS cV (UInt8.ofNat n.val).toNat=aY (UInt8.ofNat n.val):=aj7
 have h:=this ⟨c.toNat,c.toNat_lt⟩;simpa using h
def Nk (s:Bs):eM (eS cV) s=s.dropWhile aY:=by
 unfold eM;congr 1;funext c;exact RB c
theorem A6 {p:UInt8->Bool}:∀s:Bs,(s.dropWhile p==[])=s.all p
 |[]=>rfl
 |c::q=>by
  rw[ahX,ai9];cases h:p c with
  |true=>simp only[agn,ag7];exact A6 q
  |false=>simp
theorem CW {p:UInt8->Bool}:∀s:Bs,(s.dropWhile p).all p=s.all p
 |[]=>rfl
 |c::q=>by
  rw[ahX];cases h:p c with
  |true=>simp only[agn,ai9,h,ag7];exact CW q
  |false=>simp[h]
def Nl (s:Bs):(eM (eS [32,10]) (gf (eS [32,10]) s)==[])=s.all isSp:=by
 rw[yW,A6];unfold gf;rw[aiM,yW,CW,aiM]
end
section
variable {P:Program} {G:Nat->Option (List IV)} [KN P G]
def ae5 (s:Bs) (c:UInt8)
  (h:aj P G 63 [.str s,.int .u8 (c.toNat:Int)] (.int .i64 (Lib.indexByte s c))):aj P G 27 [.str s,.int .u8 (c.toNat:Int)] (.int .i64 (Lib.indexByte s c)):=by
 refine au (cw 27 []) ajL ajO ajP ?_;simp only[↓aX,mX,seval];refine ah h ?_;simp only[↓aX,mX,seval]
end
end Go.Am

namespace Go.Am
open Go Go.RowKit
def yz (c:UInt8):Bool:=decide (97<=c.toNat)&&decide (c.toNat<=122)
def Ey (c:UInt8):Bool:=decide (48<=c.toNat)&&decide (c.toNat<=57)
def gI:Bs->Option (Bs×Bs)
 |42::r=>some ([42],r)
 |35::r=>some ([],r)
 |s=>if s.takeWhile yz=[] then none else some (s.takeWhile yz,s.dropWhile yz)
def kq (t:Bs):Nat:=t.foldl (λn c=>min (10*n+(c.toNat - 48)) 1000) 0
def nC:Bs->Option (Nat×Bs)
 |91::r=>if r.takeWhile Ey=[]\/(r.takeWhile Ey).head?=some 48 then none else match r.dropWhile Ey with
  |93::r2=>some (kq (r.takeWhile Ey),r2)
  |_=>none
 |s=>some (0,s)
def xj:Nat->Bs->Option (List Step)
 |_,[]=>some []
 |0,_=>none
 |n+1,c::r=>if c=47 then(gI r).bind λx=>(nC x.2).bind λy=>(xj n y.2).map λl=>⟨x.1,y.1⟩::l else none
def Ei (s:Bs):Option (List Step):=if s.length<=2500/\s≠[] then(xj s.length s).bind λl=>if bm l then some l else none else none
def CX (w:Bs):Option Step:=(gI w).bind λx=>(nC x.2).bind λy=>if y.2=[] then some ⟨x.1,y.1⟩ else none
def Ux (t:Bs):Prop:=t=[]\/∃r,t=47::r
theorem Jl {p:UInt8->Bool} (hp:p 47=false) {t:Bs} (ht:Ux t):∀w:Bs,(w++t).takeWhile p=w.takeWhile p/\(w++t).dropWhile p=w.dropWhile p++t
 |[]=>by
  rcases ht with rfl|⟨r,rfl⟩
  ·simp
  simp[hp]
 |c::w=>by
  obtain⟨h1,h2⟩:=Jl hp ht w;cases hc:p c<;>simp[hc,h1,h2]
def Nn {t:Bs} (ht:Ux t) (w:Bs):gI (w++t)=(gI w).map λx=>(x.1,x.2++t):=by
 obtain⟨h1,h2⟩:=Jl (p:=yz) ajN ht w
 match w with
 |[]=>
  rcases ht with rfl|⟨r,rfl⟩<;>rfl
 |c::w=>
  by_cases e1:c=42
  ·subst e1;rfl
  by_cases e2:c=35
  ·subst e2;rfl
  have g:∀v:Bs,gI (c::v)=if(c::v).takeWhile yz=[] then none else some ((c::v).takeWhile yz,(c::v).dropWhile yz):=λv=>by
   simp_all[gI]
  grind
def RC {t:Bs} (ht:Ux t) (w:Bs):nC (w++t)=(nC w).map λx=>(x.1,x.2++t):=by
 match w with
 |[]=>rcases ht with rfl|⟨r,rfl⟩<;>rfl
 |c::w=>
  by_cases e1:c=91
  ·subst e1;obtain⟨h1,h2⟩:=Jl (p:=Ey) ajN ht w;simp[List.cons_append,nC,h1,h2];split
   ·rfl
   cases hd:w.dropWhile Ey with
   |nil=>rcases ht with rfl|⟨r,rfl⟩<;>rfl
   |cons a b=>
   grind
  simp_all[Bs,nC,List.cons_append]
def xk:List Bs->Option (List Step)
 |[]=>some []
 |w::r=>(CX w).bind λx=>(xk r).map λl=>x::l
def glue (ws:List Bs):Bs:=(ws.map λw=>47::w).flatten
def Lg (ws:List Bs):Ux (glue ws):=by
 cases ws with
 |nil=>exact .inl rfl
 |cons w r=>exact .inr ⟨_,rfl⟩
def A7 {w:Bs} {x:Bs×Bs} (h:gI w=some x):x.2 <:+ w:=by
 unfold gI at h
 grind [List.suffix_cons,ag8]
def Ej {w:Bs} {x:Nat×Bs} (h:nC w=some x):x.2 <:+ w:=by
 unfold nC at h
 grind [ag8,Ey,List.suffix_cons,List.suffix_refl]
theorem CY:∀(ws:List Bs) (n:Nat),(glue ws).length<=n->(∀w∈ws,(47:UInt8)∉w)->xj n (glue ws)=xk ws
 |[],n,_,_=>by cases n<;>rfl
 |w::r,n,hn,h=>by
  have e:glue (w::r)=47::(w++glue r):=rfl;rw[e] at hn ⊢
  match n,hn with
  |n+1,hn=>
   simp[xj,agn,Nn (Lg r),xk,CX];cases hx:gI w with
   |none=>rfl
   |some x=>
   simp[af9,af_,RC (Lg r)];cases hy:nC x.2 with
   |none=>rfl
   |some y=>
   simp;have hs:y.2 <:+ w:=(Ej hy).trans (A7 hx);by_cases e2:y.2=[]
   ·rw[e2,List.nil_append,agc rfl,af_,CY r n ajV λv hv=>h v (by simp[hv])]
   rw[af8 e2];cases BH:y.2 with
   |nil=>grind
   |cons a b=>
   have ha:a∈w:=hs.subset ajV;have:a≠47:=λe=>h w ajL (e▸ha);cases n with
   |zero=>rfl
   |succ n=>grind [xj]
theorem ue (c:UInt8):∀s:Bs,((bF c s).map λw=>c::w).flatten=c::s/\∀w∈bF c s,c∉w
 |[]=>by simp[bF]
 |b::r=>by
  obtain⟨h1,h2⟩:=ue c r
  grind [bF]

theorem G8 {c:UInt8}:∀{a b a' b':Bs},a++c::b=a'++c::b'->c∉a->c∉a'->a=a'/\b=b'
 |[],b,[],b',h,_,_=>by simpa using h
 |[],b,x::a',b',h,_,h2=>by simp at h;exact absurd (by simp[h.1]) h2
 |x::a,b,[],b',h,h1,_=>by simp at h;exact absurd (by simp[h.1]) h1
 |x::a,b,y::a',b',h,h1,h2=>by
  simp at h;obtain⟨e,g⟩:=G8 h.2 (λm=>h1 ajV) (λm=>h2 (by simp[m]))
  grind
theorem xl (c:UInt8) (w:Bs):(c∉w/\a6 c w=(w,[],false))\/∃a b,w=a++c::b/\c∉a/\a6 c w=(a,b,true):=by
 grind [ue,eT,a6]
theorem RD {c:UInt8} {w:Bs} (h:c∉w):a6 c w=(w,[],false):=by
 grind [xl]
theorem RE {c:UInt8} {a b:Bs} (h:c∉a):a6 c (a++c::b)=(a,b,true):=by
 rcases xl c (a++c::b) with⟨h1,_⟩|⟨a',b',e,h1,h2⟩
 ·grind
 grind [G8]
theorem sB {c:UInt8}:Ey c=true↔48<=c.toNat/\c.toNat<=57:=by simp[Ey]
theorem u8 {c d:UInt8} (h:c.toNat=d.toNat):c=d:=aim.1 h
theorem Zq {m:Nat} (h:m<256):(UInt8.ofNat m).toNat=m:=by rw[UInt8.toNat_ofNat'];omega
theorem V6 {k:Nat} (h:k<10):Lib.itoa (k:Int)=[UInt8.ofNat (48+k)]:=by
 unfold Lib.itoa;rw[af8 ajK,af0,Lib.decDigits_one h]
def V7 {k:Nat} (h1:¬k<10) (h2:k<100):Lib.itoa (k:Int)=[UInt8.ofNat (48+k/10),UInt8.ofNat (48+k%10)]:=by
 unfold Lib.itoa;rw[af8 ajK,af0,Lib.decDigits_two h1 h2]
theorem RF:∀(t:Bs) (n:Nat),min n 1000<=t.foldl (λn c=>min (10*n+(c.toNat - 48)) 1000) n
 |[],n=>by simp;omega
 |c::r,n=>by
  have:=RF r (min (10*n+(c.toNat - 48)) 1000)
  grind
theorem Zr {t:Bs} (h1:t≠[]) (h2:∀c∈t,Ey c=true) (h3:t.head?≠some 48) (h4:kq t<=99):An t=some (kq t:Int):=by
 match t,h1 with
 |d::r,_=>
  have hd:=sB.1 (h2 d ajL);have h48:d.toNat≠48:=λe=>h3 (by simp;rw[u8 (c:=d) (d:=48) e])
  match r with
  |[]=>
   have hc:kq [d]=d.toNat - 48:=(by simp[kq];omega);have ha:Lib.atoiAll [d]= .ok ((d.toNat - 48:Nat):Int):=by
    rw[Lib.atoiAll_plain d [] ajK ajK];simp only[Lib.parseMag,Lib.parseUint10,List.cons_ne_nil,agk,hd,agR,agn,ahM,agh,Lib.signless]
    grind
   grind [V6,u8,Zq,An]
  |[e]=>
   have he:=sB.1 (h2 e ajL);have hc:kq [d,e]=10*(d.toNat - 48)+(e.toNat - 48):=(by simp[kq];omega);obtain⟨k,hk⟩:∃k,k=10*(d.toNat - 48)+(e.toNat - 48):=⟨_,rfl⟩;have ha:Lib.atoiAll [d,e]= .ok (k:Int):=by
    rw[Lib.atoiAll_plain d [e] ajK ajK];simp only[Lib.parseMag,Lib.parseUint10,List.cons_ne_nil,agk,hd,he,agR,agn,agh];rw[af8 ajK,af8 ajK,af8 ajK,af8 ajK];simp only[Lib.signless]
    grind
   have hi:Lib.itoa (k:Int)=[d,e]:=by
    rw[V7 ajK ajK]
    grind [u8,Zq]
   grind [An]
  |e::f::r=>
   exfalso;have:=RF r (min (10*(min (10*(min (10*0+(d.toNat - 48)) 1000)+(e.toNat - 48)) 1000)+(f.toNat - 48)) 1000)
   grind [kq,ah2]
def Zs {t:Bs} {k:Int} (h:An t=some k) (hk:k<=99):t≠[]/\(∀c∈t,Ey c=true)/\t.head?≠some 48/\(kq t:Int)=k:=by
 unfold An at h;split at h
 ·rename_i v hv;split at h
  ·rename_i hq;cases h;obtain⟨n,rfl⟩:=ahx (show 0<=k by omega);rw[<-hq.1];by_cases JI:n<10
   ·rw[V6 JI];have e:=Zq (m:=48+n) ajK;refine⟨ajL,λc hc=> ?_,λe2=> ?_,?_⟩
    ·grind [af',sB]
    ·simp only[List.head?_cons,afZ] at e2;simp_all
    grind [kq]
   rw[V7 JI ajK];have e:=Zq (m:=48+n/10) ajK;have g:=Zq (m:=48+n%10) ajK;refine⟨ajL,λc hc=> ?_,λe2=> ?_,?_⟩
   ·grind [sB]
   ·simp only[List.head?_cons,afZ] at e2;rw[e2] at e
    grind
   grind [kq]
  grind
 grind

theorem RG (t:Bs):([93]:Bs).isSuffixOf (t++[93])=true/\wS [93] (t++[93])=t:=by
 simp[Bs,ahO,List.suffix_append,wS]
def Zt {b:Bs} (h:([93]:Bs).isSuffixOf b=true):∃t,b=t++[93]:=by
 rw[ahO] at h;obtain⟨t,ht⟩:=h
 grind
theorem Jm {p:UInt8->Bool}:∀{s:Bs} {c:UInt8},c∈s.takeWhile p->p c=true
 |[],c,h=>by simp at h
 |a::s,c,h=>by
  cases ha:p a with
  |false=>simp[ha] at h
  |true=>
  simp[aif,ha,agn,aga] at h;rcases h with rfl|h
  ·grind
  exact Jm h
theorem Ek {p:UInt8->Bool}:∀{a z:Bs},(∀c∈a,p c=true)->(∀c r,z=c::r->p c=false)->(a++z).takeWhile p=a/\(a++z).dropWhile p=z
 |[],z,_,hz=>by
  cases z with
  |nil=>simp
  |cons c r=>simp[hz c r rfl]
 |c::a,z,ha,hz=>by
  obtain⟨h1,h2⟩:=Ek (a:=a) (λc hc=>ha c ajV) hz;simp[ha c ajL,h1,h2]
def Uy {w:Bs} {x:Bs×Bs} (h:gI w=some x):∃pre,w=pre++x.2/\(91:UInt8)∉pre/\kz pre=some x.1:=by
 unfold gI at h;split at h
 ·cases h;exact⟨[42],rfl,ajN,rfl⟩
 ·cases h;exact⟨[35],rfl,ajN,rfl⟩
 grind [yz,ahm,Jm,kz]
def No {r:Bs} {y:Nat×Bs} (h:nC r=some y) (h2:y.2=[]):(r=[]/\y.1=0)\/∃t,r=91::(t++[93])/\t≠[]/\(∀c∈t,Ey c=true)/\t.head?≠some 48/\y.1=kq t:=by
 unfold nC at h
 grind [Ey,Jm,ahm]
def adf {x:Step} (h:dZ x=true):(x.name=[]\/x.name=[42]\/named x.name=true)/\0<=x.n/\x.n<=99:=by
 simpa[dZ] using h
theorem Np {w:Bs} {x:Step} (h:CX w=some x) (hk:dZ x=true):gr w=some x:=by
 unfold CX at h;simp only[afX] at h;obtain⟨⟨nm,r1⟩,hn,⟨n,r2⟩,hm,h⟩:=h;split at h
 ·rename_i e;cases h;obtain⟨pre,hw,h91,hs⟩:=Uy hn;obtain⟨_,_,h99⟩:=adf hk;simp only at h99;rcases No hm e with⟨hr,h0⟩|⟨t,hr,t1,t2,t3,t4⟩
  ·grind [gr,qX,RD]
  grind [gr,qX,RE,RG,Zr]
 grind
theorem Nq {w:Bs} {x:Step} (h:gr w=some x) (hk:dZ x=true):CX w=some x:=by
 simp[gr,afX,acF] at h;obtain⟨k,hn,nm,ha,rfl⟩:=h;obtain⟨h1,_,h99⟩:=adf hk;have key:∀(a z:Bs),kz a=some nm->(∀c r,z=c::r->yz c=false)->gI (a++z)=some (nm,z):=by
  intro a z ha hz;unfold kz at ha;split at ha
  ·grind
  split at ha
  ·rename_i e;subst e;cases ha;rfl
  rename_i e1 e2;cases ha;rcases h1 with e|e|e
  ·grind
  ·subst e;rfl
  have bV:∀c∈nm,yz c=true:=λc hc=>by
   grind [named,mh,yz]
  obtain⟨g1,g2⟩:=Ek bV hz
  match nm,e1,bV,g1,g2 with
  |c::a,_,bV,g1,g2=>
   have hc:=bV c ajL;unfold gI;split
   ·grind [yz]
   ·grind [yz]
   grind
 unfold CX;rcases xl 91 w with⟨_,hc⟩|⟨a,b,rfl,_,hc⟩
 ·simp[qX,hc,agl,agk,afZ] at hn ha;subst hn;have:=key w [] ha (λc r e=>by cases e);rw[agb] at this;rw[this];rfl
 simp only[qX,hc,agn] at hn ha;split at hn
 ·rename_i hs;obtain⟨t,rfl⟩:=Zt hs;rw[(RG t).2] at hn;obtain⟨t1,t2,t3,t4⟩:=Zs hn h99;obtain⟨g1,g2⟩:=Ek (p:=Ey) (z:=[93]) t2 (λc r e=>by cases e;decide);rw[key a _ ha (λc r e=>by cases e;decide)]
  grind [af_,nC]
 grind
theorem Nr {l:List Step} (hl:∀x∈l,dZ x=true):∀{ws:List Bs},xk ws=some l↔eo ws=some l:=by
 intro ws;induction ws generalizing l with
 |nil=>rfl
 |cons w r ih=>
 grind [xk,eo,afX,acF,Np,Nq]
def Ns (s:Bs):Ei s=lM s:=by
 match s with
 |[]=>rfl
 |c::r=>
  by_cases hc:c=47
  ·subst hc;obtain⟨g1,g2⟩:=ue 47 r;have e:xj (47::r).length (47::r)=xk (bF 47 r):=by
    have g3:glue (bF 47 r)=47::r:=g1;rw[<-g3];exact CY _ _ (af6 _) g2
   unfold Ei lM;simp only[e,agj];by_cases hl:(47::r:Bs).length<=2500
   ·rw[agc ⟨hl,ajL⟩,agc ⟨ajL,hl⟩];apply Option.ext;intro l;simp only[afX]
    grind [dZ,bm,Nr]
   grind
  grind [Ei,lM,xj]
end Go.Am
