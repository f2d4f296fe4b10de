import Derived.Test.YtfinkeaikbmpgaaGreatDoorKD2
import Derived.Test.YtfinkeaikbmpgaaGreatDoorKAm25
import Derived.Test.YtfinkeaikbmpgaaGreatDoorKT4
import Derived.Test.YtfinkeaikbmpgaaGreatDoorKT15
set_option linter.unusedSimpArgs false
set_option linter.unusedVariables false
set_option linter.unnecessarySimpa false
set_option linter.defProp false
/- Letters: sets of bytes; a string cut at both ends. -/
namespace Go.Am
open Go Go.RowKit
def R8:AV→Nat→Option Nat
 | .int _ v,mx=>if 0≤v∧v.toNat≤mx then some v.toNat else none
 |_,_=>none
def Z8 (env:Env) (d mx:Nat):mW env none d mx=some d:=rfl
def Z9 (env:Env) (x:O) (d mx:Nat):mW env (some x) d mx=R8 (ev env x) mx:=by
 simp only[mW];generalize ev env x=v;cases v<;>rfl
def N6 (k:IntKind) (n mx:Nat) (h:n≤mx):R8 (.int k (n:Int)) mx=some n:=by simp[R8,h]
def mU (f:Nat→Bool):List AV:=(List.range 256).map fun i=> .bool (f i)
def eL (f:Nat→Bool):(mU f).length=256:=by simp[mU]
def wR (f:Nat→Bool) (i:Nat) (h:i<256):(mU f)[i]?=some (.bool (f i)):=by simp[mU,List.getElem?_range h]
def oE (f:Nat→Bool):ah (mU f)=[]:=by
 have:∀l:List Nat,ah (l.map fun i=>AV.bool (f i))=[]:=by
  intro l;induction l with
  |nil=>rfl
  |cons a r ih=>simp[ah,AV.aB,ih]
 exact this _
def Jr:List.replicate 256 (AV.bool false)=mU (fun _=>false):=by
 apply aeU;intro i;by_cases h:i<256
 ·rw[wR _ _ h,afr,adv h]
 rw[aes (by rw[aeS];omega),aes (by rw[eL];omega)]
def N7 (f:Nat→Bool) (j:Nat):(mU f).set j (.bool true)=mU (fun k=>k==j||f k):=by
 apply aeU;intro i;by_cases h:i<256
 ·rw[wR _ _ h,afD];by_cases e:j=i
  ·subst e;rw[adv rfl,adv (by rw[eL];exact h)];simp
  rw[ag8 e,wR _ _ h];have:(i==j)=false:=by simpa using aef e
  rw[this];simp
 rw[aes (by rw[agh,eL];omega),aes (by rw[eL];omega)]
def N8 (f:Nat→Bool) (j:Nat) (h:j<256):(mU f).take j++[.bool true]++(mU f).drop (j+1)=mU (fun k=>k==j||f k):=by
 rw[←N7,afE,adv (by rw[eL];exact h)];simp
def CB (f:Nat→Bool):(mU f).take 256=mU f:=ads (by rw[eL];exact adw _)
def CC (f:Nat→Bool):(mU f).drop 256=[]:=afM (by rw[eL];exact adw _)
def Fg (f:Nat→Bool):(mU f).all AV.one=true:=by
 rw[aeg];intro x hx;obtain⟨i,_,rfl⟩:=adY.1 hx;rfl
def xV (s:Bs) (k:Nat):Bool:=s.any fun c=>k==c.toNat
def Fh {α:Type} {l:List α} {i:Nat} {x:α} (h:l[i]?=some x):l.take (i+1)=l.take i++[x]:=by rw[aei,h];rfl
def K3 (s:Bs) (c:UInt8):xV (s++[c])=fun k=>k==c.toNat||xV s k:=by
 funext k;simp[xV,Bool.or_comm]
def kf:AC:=
(ay [aE 2 (.new (List.replicate 256 (.bool false))),jK 3 false] (.seq (ay [eX 4 0] (.block 0 (.loop (.seq (ay [af 6 4,af 7 0,wg 8 7,eS 9 .lss 6 8] (.cond (.t 9) .skip (.exit 0))) (.seq (.block 1 (ay [af 12 0,af 13 4,aE 14 (.vd (.t 12) (.t 13)),af 5 14] (.seq (ay [af 15 5,aE 16 (.bin .geq (.t 15) (.c (.int .u8 128)))] (.cond (.t 16) (ay [gd 17 256 2,dT (.store 256 (.t 2) (.t 17)),jK 3 false] .ret) .skip)) (.ec [af 18 5,aE 19 (.ME (.t 2) (.t 18) 256 1),dT (.store 1 (.t 19) (vC true))])))) (.ec [af 10 4,db 11 .add 10 1,af 4 11])))))) (ay [gd 20 256 2,dT (.store 256 (.t 2) (.t 20)),jK 3 true] .ret)))
def N9 {P:Program} {G:Nat→Option (List IV)} {eh:Nat} (hF:an P G eh=some (21,[((some (some 256)),2),(none,3)],kf.bare)) (s:Bs) (hs:s.length≤B) (ab6:∀c∈s,c.toNat<128) :
  aw P G eh [.str s] (.dM [.agg (mU (xV s)),.bool true]):=by
 refine aM hF (by simp) (by simp[ah,AV.aB]) (by simp[AV.aB,ah,oE]) ?_;unfold kf;simp only[↓aX,mX,reduceCtorEq,Nat.reduceEqDiff,Nat.reduceLT,Nat.reduceLeDiff,Nat.reduceAdd,Nat.reduceMul,Int.reduceToNat,Int.reduceLE,Int.reduceLT,Jr,eL];refine eB (σ:={i:Nat // i≤s.length}) [.loc 2] (fun q=>[(0,.str s),(2,.ptr (.loc 2) 256 0 0),(4,.int .i64 q.1)]) (fun q=>[(.loc 2,⟨256,[mU (xV (s.take q.1))]⟩)]) (fun q=>s.length - q.1) ⟨0,ad3 _⟩
  (fun _=>rfl) (by decide) (by simp[ah,AV.aB]) (fun q r hr cs bS l hl=>by
   simp only[adr] at hr;subst hr;simp only[adr] at bS;subst bS;rw[oE] at hl;simp at hl) ?_ ?_
 ·exact jI (by simp only[qo,ox]) (by repeat' constructor) ⟨rfl,trivial⟩
 rintro⟨i,hi⟩;simp only[↓aX,mX,reduceCtorEq,Nat.reduceEqDiff,Nat.reduceLT,Nat.reduceLeDiff,Nat.reduceAdd,Nat.reduceMul,Int.reduceToNat,Int.reduceLE,Int.reduceLT,ed,dk,eL];by_cases bO:i<s.length
 ·rw[show decide ((i:Int)<(s.length:Int))=true by simpa using bO];obtain⟨c,hc⟩:∃c,s[i]?=some c:=⟨_,ag7 bO⟩;have hw:IntKind.i64.wrap ((i:Int)+1)=((i+1:Nat):Int):=wrap64 (by omega) (by unfold B at hs;omega);have BE:=ab6 c (adu hc);simp only[↓aX,mX,reduceCtorEq,Nat.reduceEqDiff,Nat.reduceLT,Nat.reduceLeDiff,Nat.reduceAdd,Nat.reduceMul,Int.reduceToNat,Int.reduceLE,Int.reduceLT,hc,show decide (((c.toNat:Nat):Int)≥128)=false by simp;omega,eL,hw];simp only[↓aX,mX,reduceCtorEq,Nat.reduceEqDiff,Nat.reduceLT,Nat.reduceLeDiff,Nat.reduceAdd,Nat.reduceMul,Int.reduceToNat,Int.reduceLE,Int.reduceLT,adv (show c.toNat<256 by omega),adv (show c.toNat≤255 by omega),N8 _ _ (show c.toNat<256 by omega),eL,hw];refine⟨⟨i+1,bO⟩,by simp only;omega,jI (by simp only[qo,ox]) (by repeat' constructor) ⟨?_,trivial⟩⟩;rw[Fh hc,K3];rfl
 have qV:i=s.length:=by omega
 subst qV;rw[show decide ((s.length:Int)<(s.length:Int))=false by simp];simp only[↓aX,mX,reduceCtorEq,Nat.reduceEqDiff,Nat.reduceLT,Nat.reduceLeDiff,Nat.reduceAdd,Nat.reduceMul,Int.reduceToNat,Int.reduceLE,Int.reduceLT,aee,eL,CB,CC,Fg,adN,jM]
def ix:AC:=
(ay [jK 4 false] (ay [af 5 0,af 6 1,aE 7 (.dc (.t 5)),aE 8 (.ME (.t 7) (.t 6) 256 1),cS 9 8,af 4 9] .ret))
def K4 {P:Program} {G:Nat→Option (List IV)} {df:Nat} (hF:an P G df=some (10,[(none,4)],ix.bare)) (f:Nat→Bool) (c:UInt8) :
  ez P G df [.ptr (.par 0) 256 0 0,.int .u8 (c.toNat:Int)] (mU f) fun x cs=>x= .bool (f c.toNat)∧cs=mU f:=by
 refine ft hF (by simp) (by simp[ah,AV.aB]) (oE f) ?_;have hc:c.toNat<256:=c.toNat_lt;unfold ix;simp only[↓aX,mX,seval,kY,eL,adv hc,wR f _ hc];exact⟨_,rfl,rfl,oE f,eL f,rfl⟩
def jV (df:Nat):AC:=
(ay [aE 4 (.nE (.c (.str [])))] (.seq (.block 0 (.loop (.seq (ay [af 5 0,wg 6 5,db 7 .gtr 6 0] (.cond (.t 7) .skip (.exit 0))) (.block 1 (.seq (ay [af 8 1,af 9 0,aE 10 (.vd (.t 9) (ij 0)),aE 11 (.call df [(.t 8),(.t 10)]),uk 12 11] (.cond (.t 12) (.exit 0) .skip)) (.ec [af 13 0,aE 14 (.ot (.t 13) (some (ij 1)) none),af 0 14])))))) (ay [af 15 0,af 4 15] .ret)))
def sQ (f:Nat→Bool) (s:Bs):Bs:=s.dropWhile fun c=>f c.toNat
def K5 {f:Nat→Bool} {q:Lb×Row} (hr:q∈[((.par 0:Lb),(⟨256,[mU f]⟩:Row))]) {ls:List Lb}:∀cs∈q.2.els,∀l∈ah cs,l∈ls:=by
 intro cs bS l hl;simp only[adr] at hr;subst hr;simp only[adr] at bS;subst bS;rw[oE] at hl;simp at hl
def K6 {P:Program} {G:Nat→Option (List IV)} {dW df:Nat} (hF:an P G dW=some (16,[(none,4)],(jV df).bare)) (f:Nat→Bool) (s:Bs) (hs:s.length≤B)
  (hC:∀c:UInt8,ez P G df [.ptr (.par 0) 256 0 0,.int .u8 (c.toNat:Int)] (mU f) fun x cs=>x= .bool (f c.toNat)∧cs=mU f) :
  ez P G dW [.str s,.ptr (.par 0) 256 0 0] (mU f) fun x cs=>x= .str (sQ f s)∧cs=mU f:=by
 refine ft hF (by simp) (by simp[ah,AV.aB]) (oE f) ?_;unfold jV;simp only[↓aX,mX,reduceCtorEq,Nat.reduceEqDiff,Nat.reduceLT,Nat.reduceLeDiff,Nat.reduceAdd,Nat.reduceMul,Int.reduceToNat,Int.reduceLE,Int.reduceLT,kY,eL];refine eB (σ:={t:Bs // t.length≤B∧sQ f t=sQ f s}) [.par 0] (fun t=>[(0,.str t.1),(1,.ptr (.par 0) 256 0 0)]) (fun _=>[(.par 0,⟨256,[mU f]⟩)]) (fun t=>t.1.length) ⟨s,hs,rfl⟩
  (fun _=>rfl) (by decide) (by simp[ah,AV.aB]) (fun _ q hr=>K5 hr) ?_ ?_
 ·refine jI ?_ (by repeat' constructor) ⟨rfl,trivial⟩;intro l hl hu;by_cases e:l= .par 0
  ·subst e;simp
  exfalso;apply hu;cases l<;>simp_all[Lb.fresh,ae,Hp.none]
 rintro⟨t,ht,mZ⟩;cases t with
 |nil=>
  simp only[↓aX,mX,reduceCtorEq,Nat.reduceEqDiff,Nat.reduceLT,Nat.reduceLeDiff,Nat.reduceAdd,Nat.reduceMul,Int.reduceToNat,Int.reduceLE,Int.reduceLT,ed,dk,aek,show decide (((0:Nat):Int)>0)=false from rfl];rw[←mZ];exact⟨_,⟨rfl,rfl⟩,rfl,oE f,eL f,rfl⟩
 |cons c r=>
 have hg:decide (((r.length+1:Nat):Int)>0)=true:=by rw[adM];omega
 have hi0:(c::r)[0]?=some c:=rfl;simp only[↓aX,mX,reduceCtorEq,Nat.reduceEqDiff,Nat.reduceLT,Nat.reduceLeDiff,Nat.reduceAdd,Nat.reduceMul,Int.reduceToNat,Int.reduceLE,Int.reduceLT,ed,dk,adK,hg,hi0];refine a7 (l:= .par 0) (hC c) rfl (by simp only[↓aX,mX,reduceCtorEq,Nat.reduceEqDiff,Nat.reduceLT,Nat.reduceLeDiff,Nat.reduceAdd,Nat.reduceMul,Int.reduceToNat,Int.reduceLE,Int.reduceLT,eL]) ?_;rintro x1 jm ⟨rfl,rfl⟩ _ _ _;simp only[↓aX,mX,reduceCtorEq,Nat.reduceEqDiff,Nat.reduceLT,Nat.reduceLeDiff,Nat.reduceAdd,Nat.reduceMul,Int.reduceToNat,Int.reduceLE,Int.reduceLT,eL];cases hf:f c.toNat with
 |false=>
  have:sQ f s=c::r:=by rw[←mZ];simp[sQ,hf]
  simp only[↓aX,mX,reduceCtorEq,Nat.reduceEqDiff,Nat.reduceLT,Nat.reduceLeDiff,Nat.reduceAdd,Nat.reduceMul,Int.reduceToNat,Int.reduceLE,Int.reduceLT,adI,this];exact⟨_,rfl,rfl,oE f,eL f,by rw[eL]⟩
 |true=>
 have h2:sQ f r=sQ f s:=by rw[←mZ];simp[sQ,hf]
 have hb:R8 (.int .i64 1) (r.length+1)=some 1:=N6 .i64 1 _ (by omega);have s4:(c::r).take (r.length+1)=c::r:=ads (by simp);simp only[↓aX,mX,reduceCtorEq,Nat.reduceEqDiff,Nat.reduceLT,Nat.reduceLeDiff,Nat.reduceAdd,Nat.reduceMul,Int.reduceToNat,Int.reduceLE,Int.reduceLT,adL,eL,adK,Z8,Z9,hb,s4,adA,adB,aet,ad1];refine⟨⟨r,by rw[adK] at ht;omega,h2⟩,by simp only[adK];omega,jI ?_ (by repeat' constructor) ⟨rfl,trivial⟩⟩;intro l hl hu;by_cases e:l= .par 0
 ·subst e;simp
 exfalso;apply hu;cases l<;>simp_all[Lb.fresh,ae,Hp.none]

def Js:Bs:=[38,108,116,59]
def K7:Bs:=[38,103,116,59]
def zj:Bs:=[38,97,109,112,59]
def tv:Bs:=[38,113,117,111,116,59]
def u9 (v:Bool) (c:UInt8):Bs:=
 if c=60 then Js else if c=62 then K7 else if c=38 then zj else if c=34∧v=true then tv else [c]
def nW (v:Bool) (s:Bs):Bs:=s.flatMap (u9 v)
def xW (a:Attr):Bs:=32::a.name++[61,34]++nW true a.val++[34]
def ey (as:List Attr):Bs:=as.flatMap xW
mutual
def Tree.sh:Tree→Bs
 | .mk t s as ks=>if t then nW false s else 60::s++ey as++(match ks with
  |[]=>[47,62]
  |k::r=>62::(k.sh++uG r)++[60,47]++s++[62])
def uG:List Tree→Bs
 |[]=>[]
 |x::r=>x.sh++uG r
end
def Tree.R9 (x:Tree) (h:x.text=true):x.sh=nW false x.s:=by
 cases x with
 |mk t s as ks=>simp only[Tree.text] at h;subst h;cases ks<;>simp[Tree.sh,Tree.s]
def AK (s:Bs):List Tree→Bs
 |[]=>[47,62]
 |k::r=>62::uG (k::r)++[60,47]++s++[62]
def Jt (s:Bs) {ks:List Tree} (h:ks≠[]):AK s ks=62::uG ks++[60,47]++s++[62]:=by
 cases ks with
 |nil=>exact absurd rfl h
 |cons k r=>rfl
def Tree.N' (x:Tree) (h:x.text=false):x.sh=60::x.s++ey x.attrs++AK x.s x.kids:=by
 cases x with
 |mk t s as ks=>
 simp only[Tree.text] at h;subst h;cases ks<;>simp[Tree.sh,Tree.s,Tree.attrs,Tree.kids,uG,AK]
def dn (c:UInt8):Bool:=decide (97≤c)&&decide (c≤122)
def isSp (c:UInt8):Bool:=c==32||c==10
def nX (c:UInt8):Bool:=c==10||(decide (32≤c)&&decide (c≤126))
def wS (s:Bs):Option (Bs×Bs):=
 let n:=s.takeWhile dn
 if n=[]∨8<n.length then none else some (n,s.dropWhile dn)
def qu (p s:Bs):Option Bs:=if p.isPrefixOf s then some (s.drop p.length) else none
def AL (s:Bs):Option (UInt8×Bs):=
 if Js.isPrefixOf s then some (60,s.drop 4) else if K7.isPrefixOf s then some (62,s.drop 4) else if zj.isPrefixOf s then some (38,s.drop 5) else if tv.isPrefixOf s then some (34,s.drop 6) else none
def zD {s r:Bs} {c:UInt8} (h:AL s=some (c,r)):r.length<s.length:=by
 unfold AL at h;have key:∀p:Bs,0<p.length→p.isPrefixOf s=true→(s.drop p.length).length<s.length:=fun p h0 hp=>by
  obtain⟨q,rfl⟩:=ae6.1 hp;simp;omega
 split at h
 ·rename_i hp;simp only[jl,adJ] at h;obtain⟨_,rfl⟩:=h;exact key Js (by decide) hp
 split at h
 ·rename_i hp;simp only[jl,adJ] at h;obtain⟨_,rfl⟩:=h;exact key K7 (by decide) hp
 split at h
 ·rename_i hp;simp only[jl,adJ] at h;obtain⟨_,rfl⟩:=h;exact key zj (by decide) hp
 split at h
 ·rename_i hp;simp only[jl,adJ] at h;obtain⟨_,rfl⟩:=h;exact key tv (by decide) hp
 simp at h
def cC (v:Bool) (s:Bs):Option (Bs×Bs):=
 match s with
 |[]=>some ([],[])
 |c::r=>
  if c=60∨(c=34∧v=true) then some ([],c::r)
  else if c=38 then
   match h:AL (c::r) with
   |some (e,q)=>(cC v q).map fun x=>(e::x.1,x.2)
   |none=>none
  else if c=62∨nX c=false then none
  else(cC v r).map fun x=>(c::x.1,x.2)
termination_by s.length
decreasing_by
 ·exact zD h
 simp
def xX {v:Bool}:∀(n:Nat) (s t r:Bs),s.length≤n→cC v s=some (t,r)→r.length+t.length≤s.length:=by
 intro n;induction n with
 |zero=>
  intro s t r hn h;have:s=[]:=aea.1 (by omega);subst this;rw[cC] at h;simp at h;obtain⟨rfl,rfl⟩:=h;simp
 |succ n ih=>
 intro s t r hn h;cases s with
 |nil=>rw[cC] at h;simp at h;obtain⟨rfl,rfl⟩:=h;simp
 |cons c q=>
 rw[cC] at h;split at h
 ·simp only[jl,adJ] at h;obtain⟨rfl,rfl⟩:=h;simp
 split at h
 ·split at h
  ·rename_i e q' he;have:=zD he;obtain⟨⟨t',r'⟩,h1,h2⟩:=ag4.1 h;simp only[adJ] at h2;obtain⟨rfl,rfl⟩:=h2;have:=ih q' t' r' (by simp at this hn;omega) h1;simp at *;omega
  simp at h
 split at h
 ·simp at h
 obtain⟨⟨t',r'⟩,h1,h2⟩:=ag4.1 h;simp only[adJ] at h2;obtain⟨rfl,rfl⟩:=h2;have:=ih q t' r' (by simp at hn;omega) h1;simp at *;omega
theorem uH (v:Bool):∀(s r:Bs),s.all pM=true→(∀c r',r=c::r'→c=60∨(c=34∧v=true))→cC v (nW v s++r)=some (s,r)
 |[],r,_,hr=>by
  cases r with
  |nil=>simp[nW,cC]
  |cons c r'=>simp only[nW,afG,aec];rw[cC,adv (hr c r' rfl)]
 |c::s,r,hp,hr=>by
  simp only[List.all_cons,ady] at hp;have ih:=uH v s r hp.2 hr;have e:nW v (c::s)++r=u9 v c++(nW v s++r):=by simp[nW]
  rw[e];have ent:∀(w:Bs) (d:UInt8),(∀q:Bs,AL (w++q)=some (d,q))→(∃w',w=38::w')→cC v (w++(nW v s++r))=some (d::s,r):=by
   intro w d h1 ⟨w',h2⟩;have h3:=h1 (nW v s++r);subst h2;simp only[adR] at h3 ⊢;rw[cC,ag8 (by simp),adv rfl];split
   ·rename_i e q h4;rw[h3] at h4;simp only[jl,adJ] at h4;obtain⟨rfl,rfl⟩:=h4;rw[ih];rfl
   rename_i h4;rw[h3] at h4;cases h4
  unfold u9;split
  ·rename_i h;subst h;exact ent Js 60 (fun q=>by simp[AL,Js,List.isPrefixOf]) ⟨_,rfl⟩
  rename_i h1;split
  ·rename_i h;subst h;exact ent K7 62 (fun q=>by simp[AL,Js,K7,List.isPrefixOf]) ⟨_,rfl⟩
  rename_i h2;split
  ·rename_i h;subst h;exact ent zj 38 (fun q=>by simp[AL,Js,K7,zj,List.isPrefixOf]) ⟨_,rfl⟩
  rename_i h3;split
  ·rename_i h;obtain⟨rfl,rfl⟩:=h;exact ent tv 34 (fun q=>by simp[AL,Js,K7,zj,tv,List.isPrefixOf]) ⟨_,rfl⟩
  rename_i h4;simp only[adR,aec];have hc:nX c=true:=by
   have h:=hp.1;simp only[pM,aeT,agJ,ae5,bne_eq_false_iff_eq,aeV] at h;simp only[nX,aeJ,aep,ady,adM,ae8];rcases h with h|h
   ·left;exact BC (by show c.toNat=10;omega)
   right;constructor
   ·show(32:UInt8).toNat≤_;simp;omega
   show _≤(126:UInt8).toNat;simp;omega
  rw[cC,ag8 (fun h=>h.elim h1 h4),ag8 h3,ag8 (fun h=>h.elim h2 (fun h=>by rw[hc] at h;cases h)),ih];rfl

def oX (l:List Attr) (a:Attr):List Attr:=
 match l with
 |[]=>[a]
 |b::r=>if Op.bytesLess a.name b.name then a::b::r else b::oX r a
def gb (l:List Attr):List Attr:=l.foldl oX []
def wT (s:Bs):Option (Attr×Bs):=
 (wS s).bind fun x=>(qu [61,34] x.2).bind fun r=>(cC true r).bind fun y=>(qu [34] y.2).map fun q=>(⟨x.1,y.1⟩,q)
def pn {p s r:Bs} (h:qu p s=some r):r.length+p.length=s.length:=by
 unfold qu at h;split at h
 ·rename_i hp;obtain⟨q,rfl⟩:=ae6.1 hp;simp only[jl] at h;subst h;simp;omega
 simp at h
def xY {s n r:Bs} (h:wS s=some (n,r)):s=n++r∧n≠[]:=by
 unfold wS at h;simp only at h;split at h
 ·simp at h
 rename_i hn;simp only[jl,adJ] at h;obtain⟨rfl,rfl⟩:=h;exact⟨aga.symm,fun e=>hn (.inl e)⟩
def Fi {s r:Bs} {a:Attr} (h:wT s=some (a,r)):r.length+a.name.length+a.val.length+3≤s.length:=by
 unfold wT at h;obtain⟨⟨n,r1⟩,h1,h⟩:=adx.1 h;obtain⟨r2,h2,h⟩:=adx.1 h;obtain⟨⟨v,r3⟩,h3,h⟩:=adx.1 h;obtain⟨r4,h4,h⟩:=ag4.1 h;simp only[adJ] at h;obtain⟨rfl,rfl⟩:=h;obtain⟨rfl,_⟩:=xY h1;have e2:=pn h2;have e3:=xX _ _ _ _ (adw _) h3;have e4:=pn h4;simp at *;omega
def ru (p:UInt8→Bool) (s:Bs):(s.dropWhile p).length≤s.length:=(List.dropWhile_suffix p).length_le
def qJ (s s1:Bs):Bool:=decide (s1.length<s.length)&&match s1 with
 |[]=>false
 |c::_=> !(c==62)&& !(c==47)
def kg (s:Bs):Option (List Attr×Bs):=
 if qJ s (s.dropWhile isSp) then match h:wT (s.dropWhile isSp) with
  |some (a,r)=>(kg r).map fun x=>(a::x.1,x.2)
  |none=>none
 else some ([],s.dropWhile isSp)
termination_by s.length
decreasing_by
 have:=Fi h;have:=ru isSp s;omega
def vw (s:Bs):Option (Bs×List Attr×Bs):=
 (qu [60] s).bind fun r=>(wS r).bind fun x=>(kg x.2).map fun y=>(x.1,y.1,y.2)
def tw (nm s:Bs):Option Bs:=
 (qu [60,47] s).bind fun r=>(wS r).bind fun x=>if x.1=nm then qu [62] (x.2.dropWhile isSp) else none
def iQ (el:Bs→Option (Tree×Bs)) (s:Bs):Option (List Tree×Bs):=
 match s with
 |[]=>some ([],[])
 |c::q=>
  if [60,47].isPrefixOf (c::q) then some ([],c::q)
  else match(if c=60 then el (c::q) else(cC false (c::q)).map fun x=>(Tree.mk true x.1 [] [],x.2)) with
   |some (t,r)=>if h:r.length<(c::q).length then(iQ el r).map fun x=>(t::x.1,x.2) else none
   |none=>none
termination_by s.length
def dy:Nat→Bs→Option (Tree×Bs)
 |0,_=>none
 |d+1,s=>(vw s).bind fun x=>
  if [47,62].isPrefixOf x.2.2 then some (.mk false x.1 (gb x.2.1) [],x.2.2.drop 2)
  else(qu [62] x.2.2).bind fun r=>(iQ (dy d) r).bind fun y=>(tw x.1 y.2).map fun q=>(.mk false x.1 (gb x.2.1) y.1,q)
def Hu:∀(n:Nat) (s:Bs) (l:List Attr) (r:Bs),s.length≤n→kg s=some (l,r)→r.length+j0 l≤s.length:=by
 intro n;induction n with
 |zero=>
  intro s l r hn h;have:s=[]:=aea.1 (by omega);subst this;rw[kg] at h;simp[qJ] at h;obtain⟨rfl,rfl⟩:=h;simp[j0]
 |succ n ih=>
 intro s l r hn h;rw[kg] at h;have h0:=ru isSp s;split at h
 ·split at h
  ·rename_i a q ha;have h1:=Fi ha;obtain⟨⟨l',r'⟩,h2,h3⟩:=ag4.1 h;simp only[adJ] at h3;obtain⟨rfl,rfl⟩:=h3;have:=ih q l' r' (by omega) h2;simp only[j0,Attr.wt];omega
  simp at h
 simp only[jl,adJ] at h;obtain⟨rfl,rfl⟩:=h;simp[j0];exact h0
theorem Ju (a:Attr):∀l:List Attr,j0 (oX l a)=j0 l+a.wt
 |[]=>by simp[oX,j0]
 |b::r=>by unfold oX;split<;>simp[j0,Ju a r]<;>omega
theorem Fj:∀(l acc:List Attr),j0 (l.foldl oX acc)=j0 acc+j0 l
 |[],acc=>by simp[j0]
 |a::r,acc=>by simp only[aeP,Fj r,Ju,j0];omega
def Fk (l:List Attr):j0 (gb l)=j0 l:=by unfold gb;rw[Fj];simp[j0]
def K8 {s nm r:Bs} {as:List Attr} (h:vw s=some (nm,as,r)):r.length+nm.length+j0 as+1≤s.length∧0<nm.length:=by
 unfold vw at h;obtain⟨r1,h1,h⟩:=adx.1 h;obtain⟨⟨n,r2⟩,h2,h⟩:=adx.1 h;obtain⟨⟨l,r3⟩,h3,h⟩:=ag4.1 h;simp only[adJ] at h;obtain⟨rfl,rfl,rfl⟩:=h;have e1:=pn h1;obtain⟨rfl,e2⟩:=xY h2;have e3:=Hu _ _ _ _ (adw _) h3;have:0<n.length:=afs.2 e2;simp at *;omega
def Hv {nm s r:Bs} (h:tw nm s=some r):r.length<s.length:=by
 unfold tw at h;obtain⟨r1,h1,h⟩:=adx.1 h;obtain⟨⟨n,r2⟩,h2,h5⟩:=adx.1 h;split at h5
 ·have e1:=pn h1;have e3:=pn h5;obtain⟨rfl,e2⟩:=xY h2;have:=ru isSp r2;simp at *;omega
 simp at h5
def K9 {el:Bs→Option (Tree×Bs)} (oS:∀s t r,el s=some (t,r)→t.wt+3*r.length≤3*s.length):∀(n:Nat) (s:Bs) (l:List Tree) (r:Bs),s.length≤n→iQ el s=some (l,r)→er l+3*r.length≤3*s.length:=by
 intro n;induction n with
 |zero=>
  intro s l r hn h;have:s=[]:=aea.1 (by omega);subst this;rw[iQ] at h;simp at h;obtain⟨rfl,rfl⟩:=h;simp[er]
 |succ n ih=>
 intro s l r hn h;cases s with
 |nil=>rw[iQ] at h;simp at h;obtain⟨rfl,rfl⟩:=h;simp[er]
 |cons c q=>
 rw[iQ] at h;split at h
 ·simp only[jl,adJ] at h;obtain⟨rfl,rfl⟩:=h;simp[er]
 split at h
 ·rename_i t r1 h1;split at h
  ·rename_i bO;obtain⟨⟨l',r'⟩,h2,h3⟩:=ag4.1 h;simp only[adJ] at h3;obtain⟨rfl,rfl⟩:=h3;have e1:=ih r1 l' r' (by omega) h2;have e2:t.wt+3*r1.length≤3*(c::q).length:=by
    split at h1
    ·exact oS _ _ _ h1
    obtain⟨⟨tx,r2⟩,h4,h5⟩:=ag4.1 h1;simp only[adJ] at h5;obtain⟨rfl,rfl⟩:=h5;have:=xX _ _ _ _ (adw _) h4;simp[Tree.wt,j0,er] at *;omega
   simp only[er];omega
  simp at h
 simp at h
theorem wU:∀(d:Nat) (s:Bs) (t:Tree) (r:Bs),dy d s=some (t,r)→t.wt+3*r.length≤3*s.length
 |0,s,t,r,h=>by simp[dy] at h
 |d+1,s,t,r,h=>by
  unfold dy at h;obtain⟨⟨nm,as,r1⟩,h1,h⟩:=adx.1 h;obtain⟨e1,e2⟩:=K8 h1;split at h
  ·rename_i hp;obtain⟨q,hq⟩:=ae6.1 hp;simp only[jl,adJ] at h;obtain⟨rfl,rfl⟩:=h;simp only at hq;subst hq;simp[Tree.wt,Fk,er] at *;omega
  obtain⟨r2,h2,h⟩:=adx.1 h;obtain⟨⟨ks,r3⟩,h3,h⟩:=adx.1 h;obtain⟨r4,h4,h⟩:=ag4.1 h;simp only[adJ] at h;obtain⟨rfl,rfl⟩:=h;have k1:=pn h2;have k2:=K9 (wU d) _ _ _ _ (adw _) h3;have k3:=Hv h4;simp[Tree.wt,Fk] at *;omega
def K' (c:UInt8):vn c=dn c:=by
 unfold vn dn;rw[aeG];simp only[aeT,ae5,aeV,ady,adM,ae8];show _↔97≤c.toNat∧c.toNat≤122;omega
def xZ (s:Bs):named s=true↔(∀c∈s,dn c=true)∧s≠[]∧s.length≤8:=by
 simp only[named,ady,aeg,adM,K'];constructor
 ·rintro⟨h1,h2,h3⟩;exact⟨h1,by rintro rfl;simp at h2,by omega⟩
 rintro⟨h1,h2,h3⟩;have:=afs.2 h2;exact⟨h1,by omega,by omega⟩
theorem uJ {p:UInt8→Bool}:∀(s r:Bs),(∀c∈s,p c=true)→(∀c q,r=c::q→p c=false)→(s++r).takeWhile p=s∧(s++r).dropWhile p=r
 |[],r,_,h=>by
  cases r with
  |nil=>simp
  |cons c q=>simp[h c q rfl]
 |c::s,r,h1,h2=>by
  have h:=uJ s r (fun x hx=>h1 x (by simp[hx])) h2;simp[h1 c (by simp),h.1,h.2]
def x5 {n r:Bs} (hn:named n=true) (hr:∀c q,r=c::q→dn c=false):wS (n++r)=some (n,r):=by
 obtain⟨h1,h2,h3⟩:=(xZ n).1 hn;obtain⟨e1,e2⟩:=uJ n r h1 hr;unfold wS;simp only[e1,e2];rw[ag8 (by rintro(h|h);exact h2 h;omega)]
def po (p r:Bs):qu p (p++r)=some r:=by
 unfold qu;rw[adv (ae6.2 ⟨r,rfl⟩)];simp
def CD {s:Bs} (h:plain s=true):s.all pM=true:=by
 simp only[plain,ady] at h;exact h.1
def CE {a:Attr} {r:Bs} (hn:named a.name=true) (hv:plain a.val=true):wT (a.name++([61,34]++(nW true a.val++([34]++r))))=some (a,r):=by
 unfold wT;rw[x5 hn (by intro c q h;simp only[adR,aeu] at h;rw[←h.1];rfl)];simp only[adA];rw[po];simp only[adA];rw[uH true a.val _ (CD hv) (by intro c q h;simp only[adR,aeu] at h;exact .inr ⟨h.1.symm,rfl⟩)];simp only[adA];rw[po];rfl
theorem AM:∀(as:List Attr) (r:Bs),(∀a∈as,named a.name=true∧plain a.val=true)→(∀c q,r=c::q→c=62∨c=47)→kg (ey as++r)=some (as,r)
 |[],r,_,hr=>by
  have hd:r.dropWhile isSp=r:=by
   cases r with
   |nil=>rfl
   |cons c q=>rcases hr c q rfl with rfl|rfl<;>rfl
  rw[kg];simp only[ey,afG,aec,hd];rw[ag8 (by simp[qJ])]
 |a::as,r,ha,hr=>by
  have hn:=ha a (by simp);obtain⟨h1,h2,h3⟩:=(xZ a.name).1 hn.1;have e:ey (a::as)++r=32::(a.name++([61,34]++(nW true a.val++([34]++(ey as++r))))):=by simp[ey,xW]
  obtain⟨c,q,hc⟩:∃c q,a.name=c::q:=by cases hx:a.name with
   |nil=>exact absurd hx h2
   |cons c q=>exact⟨c,q,rfl⟩
  have K_:dn c=true:=h1 c (by rw[hc];simp);have Ey:isSp c=false:=by
   simp only[dn,ady,adM,ae8] at K_;simp only[isSp,ae5,aew];constructor<;>(rintro rfl;revert K_;decide)
  have ff:(c==62)=false∧(c==47)=false:=by
   simp only[dn,ady,adM,ae8] at K_;simp only[aew];constructor<;>(rintro rfl;revert K_;decide)
  have hd:(32::(a.name++([61,34]++(nW true a.val++([34]++(ey as++r)))))).dropWhile isSp=a.name++([61,34]++(nW true a.val++([34]++(ey as++r)))):=by
   rw[List.dropWhile_cons_of_pos (by rfl),hc];simp[Ey]
  rw[e,kg,hd,adv (by
   unfold qJ;rw[hc];simp only[adR,ff.1,ff.2];simp)]
  split
  ·rename_i a' q' h4;rw[CE hn.1 hn.2] at h4;simp only[jl,adJ] at h4;obtain⟨rfl,rfl⟩:=h4;rw[AM as r (fun x hx=>ha x (by simp[hx])) hr];rfl
  rename_i h4;rw[CE hn.1 hn.2] at h4;cases h4

def pq (a:UInt8):¬a<a:=by rw[af9];omega
def N_ {a b c:UInt8} (h:a<b) (h2:b<c):a<c:=by rw[af9] at *;omega
def Hw (a b:UInt8):a<b∨a=b∨b<a:=by
 simp only[af9];rcases Nat.lt_trichotomy a.toNat b.toNat with h|h|h
 ·exact .inl h
 ·exact .inr (.inl (BC h))
 exact .inr (.inr h)
theorem vW:∀x:Bs,Op.bytesLess x x=false
 |[]=>rfl
 |a::x=>by simp[Op.bytesLess,pq,vW x]
theorem sR:∀{x y z:Bs},Op.bytesLess x y=true→Op.bytesLess y z=true→Op.bytesLess x z=true
 |[],[],_,h,_=>by simp[Op.bytesLess] at h
 |[],_::_,[],_,h=>by simp[Op.bytesLess] at h
 |[],_::_,_::_,_,_=>rfl
 |_::_,[],_,h,_=>by simp[Op.bytesLess] at h
 |_::_,_::_,[],_,h=>by simp[Op.bytesLess] at h
 |a::x,b::y,c::z,h1,h2=>by
  simp only[Op.bytesLess,aeJ,adM,ady,aep] at h1 h2 ⊢;rcases h1 with h1|⟨rfl,h1⟩
  ·rcases h2 with h2|⟨rfl,h2⟩
   ·exact .inl (N_ h1 h2)
   exact .inl h1
  rcases h2 with h2|⟨rfl,h2⟩
  ·exact .inl h2
  exact .inr ⟨rfl,sR h1 h2⟩
def zE {x y:Bs} (h:Op.bytesLess x y=true):Op.bytesLess y x=false:=by
 cases h2:Op.bytesLess y x with
 |false=>rfl
 |true=>have:=sR h h2;rw[vW] at this;cases this
theorem AN:∀x y:Bs,Op.bytesLess x y=true∨x=y∨Op.bytesLess y x=true
 |[],[]=> .inr (.inl rfl)
 |[],_::_=> .inl rfl
 |_::_,[]=> .inr (.inr rfl)
 |a::x,b::y=>by
  simp only[Op.bytesLess,aeJ,adM,ady,aep,aeu];rcases Hw a b with h|rfl|h
  ·exact .inl (.inl h)
  ·rcases AN x y with h|rfl|h
   ·exact .inl (.inr ⟨rfl,h⟩)
   ·exact .inr (.inl ⟨rfl,rfl⟩)
   exact .inr (.inr (.inr ⟨rfl,h⟩))
  exact .inr (.inr (.inl h))
def j5:List Attr→Bool
 |[]=>true
 |[_]=>true
 |a::b::r=>Op.bytesLess a.name b.name&&j5 (b::r)
def tE (a:Attr) (l:List Attr) (i:Nat):mq (a::l) (i+1)=(mq l i&&(if i=0 then match l[0]? with|some b=>Op.bytesLess a.name b.name|none=>true else true)):=by
 unfold mq;cases i with
 |zero=>
  simp only[afa,adC,afz,aem,adH];cases l[0]?<;>simp[Bool.and_assoc]
 |succ i=>
 simp only[afa,afz];cases l[i+1]?<;>simp
def mg (as:List Attr):iI as=true↔(∀a∈as,named a.name=true∧plain a.val=true)∧j5 as=true∧as.length≤4:=by
 have key:∀as:List Attr,(∀i,i<as.length→mq as i=true)↔(∀a∈as,named a.name=true∧plain a.val=true)∧j5 as=true:=by
  intro as;induction as with
  |nil=>simp[j5]
  |cons a l ih=>
  constructor
  ·intro h;have h0:=h 0 (by simp);have ih':=ih.1 fun i hi=>by
    have:=h (i+1) (by simpa using hi);rw[tE,ady] at this;exact this.1
   simp only[mq,aem,ady] at h0;refine⟨fun x hx=> ?_,?_⟩
   ·simp only[adz] at hx;rcases hx with rfl|hx
    ·exact⟨h0.1,h0.2.1⟩
    exact ih'.1 x hx
   cases l with
   |nil=>rfl
   |cons b r=>
   have:=h 1 (by simp);rw[tE,ady] at this;simp only[j5,ady];exact⟨by simpa using this.2,ih'.2⟩
  rintro⟨h1,h2⟩ i hi;have hl:∀i,i<l.length→mq l i=true:=ih.2 ⟨fun x hx=>h1 x (by simp[hx]),by
   cases l with
   |nil=>rfl
   |cons b r=>simp only[j5,ady] at h2;exact h2.2⟩
  cases i with
  |zero=>simp[mq,(h1 a (by simp)).1,(h1 a (by simp)).2]
  |succ i=>
  rw[tE,hl i (by simpa using hi)];cases l with
  |nil=>simp at hi
  |cons b r=>
  simp only[j5,ady] at h2;by_cases e:i=0
  ·simp[e,h2.1]
  simp[e]
 unfold iI;rw[ady,aeg,←and_assoc,←key];constructor
 ·rintro⟨h1,h2⟩;simp only[adM] at h2;exact⟨fun i hi=>h1 i (by simpa using hi),by omega⟩
 rintro⟨h1,h2⟩;exact⟨fun i hi=>h1 i (by simpa using hi),by simp only[adM];omega⟩
theorem rX:∀{a:Attr} {l:List Attr},j5 (a::l)=true→∀b∈l,Op.bytesLess a.name b.name=true
 |_,[],_,b,hb=>by simp at hb
 |a,c::r,h,b,hb=>by
  simp only[j5,ady] at h;simp only[adz] at hb;rcases hb with rfl|hb
  ·exact h.1
  exact sR h.1 (rX h.2 b hb)
def pr {a:Attr} {l:List Attr} (h:j5 (a::l)=true):j5 l=true:=by
 cases l with
 |nil=>rfl
 |cons b r=>simp only[j5,ady] at h;exact h.2
theorem CF {a:Attr}:∀(l:List Attr),(∀b∈l,Op.bytesLess b.name a.name=true)→oX l a=l++[a]
 |[],_=>rfl
 |b::r,h=>by
  unfold oX;rw[ag8 (by rw[zE (h b (by simp))];simp),CF r (fun c hc=>h c (by simp[hc]))];rfl
theorem CG:∀(l acc:List Attr),j5 l=true→(∀a∈l,∀b∈acc,Op.bytesLess b.name a.name=true)→l.foldl oX acc=acc++l
 |[],acc,_,_=>by simp
 |a::r,acc,h,hb=>by
  simp only[aeP];rw[CF acc (hb a (by simp)),CG r _ (pr h)]
  ·simp
  intro x hx b Yp;simp only[adD,adr] at Yp;rcases Yp with Yp|rfl
  ·exact hb x (by simp[hx]) b Yp
  exact rX h x hx
def La {l:List Attr} (h:j5 l=true):gb l=l:=by unfold gb;rw[CG l [] h (by simp)];simp
def CH {s r:Bs} {as:List Attr} (hn:named s=true) (ha:iI as=true) (hr:∀c q,r=c::q→c=62∨c=47) (CI:r≠[]):vw ([60]++(s++(ey as++r)))=some (s,as,r):=by
 unfold vw;rw[po];simp only[adA];rw[x5 hn]
 ·simp only[adA];rw[AM as r ((mg as).1 ha).1 hr];rfl
 intro c q h;cases as with
 |nil=>
  simp only[ey,afG,aec] at h;rcases hr c q h with rfl|rfl<;>rfl
 |cons a as=>
 simp only[ey,aeK,xW,adR,aeu] at h;rw[←h.1];rfl
def Hx {s r:Bs} (hn:named s=true):tw s ([60,47]++(s++([62]++r)))=some r:=by
 unfold tw;rw[po];simp only[adA];rw[x5 hn (by intro c q h;simp only[adR,aeu] at h;rw[←h.1];rfl)];simp only[adA,adH];have:([62]++r:Bs).dropWhile isSp=[62]++r:=rfl;rw[this,po]
def Oa {v:Bool} {s:Bs} {c:UInt8} {q:Bs} (h:nW v s=c::q):c≠60:=by
 cases s with
 |nil=>simp[nW] at h
 |cons d s=>
 simp only[nW,aeK] at h;unfold u9 at h;split at h
 ·simp only[Js,adR,aeu] at h;rw[←h.1];decide
 rename_i h1;split at h
 ·simp only[K7,adR,aeu] at h;rw[←h.1];decide
 split at h
 ·simp only[zj,adR,aeu] at h;rw[←h.1];decide
 split at h
 ·simp only[tv,adR,aeu] at h;rw[←h.1];decide
 simp only[adR,aeu] at h;rw[←h.1];exact h1
def R_ (v:Bool) (c:UInt8):u9 v c≠[]:=by
 unfold u9;split
 ·decide
 split
 ·decide
 split
 ·decide
 split
 ·decide
 simp
def WA {v:Bool} {s:Bs} (h:s≠[]):nW v s≠[]:=by
 cases s with
 |nil=>exact absurd rfl h
 |cons c s=>
 simp only[nW,aeK];intro e;exact R_ v c (afy.1 e).1
mutual
theorem yJ:∀(x:Tree) (d:Nat) (r:Bs),x.k_=true→x.text=false→x.dep≤d→dy d (x.sh++r)=some (x,r)
 | .mk t s as ks,0,r,_,_,hd=>by simp[Tree.dep] at hd
 | .mk t s as ks,d+1,r,hf,ht,hd=>by
  simp only[Tree.text] at ht;subst ht;have IT:=hf;rw[Tree.vQ _ rfl] at IT;simp only[Tree.s,Tree.attrs,Tree.kids,ady] at IT;obtain⟨h1,h2,h3⟩:=IT;have hs:=La ((mg as).1 h2).2.1;simp only[Tree.dep] at hd;rw[Tree.N' _ rfl];simp only[Tree.s,Tree.attrs,Tree.kids];unfold dy;by_cases hk:ks=[]
  ·subst hk;have e:60::s++ey as++AK s []++r=[60]++(s++(ey as++([47,62]++r))):=(by simp[AK]);rw[e,CH h1 h2 (by intro c q h;simp only[adR,aeu] at h;exact .inr h.1.symm) (by simp)];simp only[adA,hs];rw[adv (by simp[List.isPrefixOf])];rfl
  have e:60::s++ey as++AK s ks++r=[60]++(s++(ey as++([62]++(uG ks++([60,47]++(s++([62]++r))))))):=by rw[Jt s hk];simp
  rw[e,CH h1 h2 (by intro c q h;simp only[adR,aeu] at h;exact .inl h.1.symm) (by simp)];simp only[adA,hs];rw[ag8 (by simp[List.isPrefixOf])];rw[po];simp only[adA];rw[AP ks none d ([60,47]++(s++([62]++r))) h3 (by omega) (by intro c q h;simp only[adR,aeu] at h;exact h.1.symm) (by simp[List.isPrefixOf])];simp only[adA];rw[Hx h1];rfl
theorem AP:∀(ks:List Tree) (p:Option Bool) (d:Nat) (r:Bs),iD p ks=true→lG ks≤d→(∀c q,r=c::q→c=60)→(r=[]∨[60,47].isPrefixOf r=true)→iQ (dy d) (uG ks++r)=some (ks,r)
 |[],p,d,r,_,_,_,hr=>by
  simp only[uG,aec];cases r with
  |nil=>rw[iQ]
  |cons c q=>
  rw[iQ,adv (by rcases hr with hr|hr;simp at hr;exact hr)]
 |x::ks,p,d,r,hf,hd,hc,hr=>by
  simp only[iD,ady] at hf;obtain⟨h1,h2,h3⟩:=hf;simp only[lG] at hd;have ih:=AP ks (some x.text) d r h3 (by omega) hc hr;have e:uG (x::ks)++r=x.sh++(uG ks++r):=by simp[uG]
  rw[e];cases hx:x.text with
  |false=>
   have he:=yJ x d (uG ks++r) h1 hx (by omega);have hl:=wU d _ _ _ he;have hw:=x.kZ;have hn:named x.s=true:=by
    rw[x.vQ hx] at h1;simp only[ady] at h1;exact h1.1
   obtain⟨n1,n2,n3⟩:=(xZ x.s).1 hn;obtain⟨c,q,hq⟩:∃c q,x.s=c::q:=by cases hx:x.s with
    |nil=>exact absurd hx n2
    |cons c q=>exact⟨c,q,rfl⟩
   have K_:dn c=true:=n1 c (by rw[hq];simp);have h47:c≠47:=(by rintro rfl;revert K_;decide);obtain⟨q',xq⟩:∃q',x.sh++(uG ks++r)=60::c::q':=(by rw[x.N' hx,hq];simp);rw[xq] at he hl ⊢;rw[iQ,ag8 (by simp[List.isPrefixOf,aef h47]),adv rfl,he];simp only;rw[agK (by omega),ih];rfl
  |true=>
  rw[x.Ao hx] at h1;simp only[ady,agb,aep,aea] at h1;obtain⟨g1,g2,g3,g4⟩:=h1;have hnx:∀c q,uG ks++r=c::q→c=60:=by
   intro c q h;cases ks with
   |nil=>exact hc c q h
   |cons y ks=>
   simp only[iD,ady] at h3;have hy:y.text=false:=by
    have:=h3.2.1;rw[hx] at this;simpa using this
   simp only[uG,y.N' hy,adR,aeu] at h;exact h.1.symm
  have ht:=uH false x.s (uG ks++r) (CD g1) (fun c q h=> .inl (hnx c q h));rw[x.R9 hx];obtain⟨c,q,hq⟩:∃c q,nW false x.s=c::q:=by cases hx:nW false x.s with
   |nil=>exact absurd hx (WA g2)
   |cons c q=>exact⟨c,q,rfl⟩
  have Z':=Oa hq;have Yk:x=Tree.mk true x.s [] []:=Tree.ext hx rfl g3 g4;rw[hq] at ht ⊢;simp only[adR] at ht ⊢;rw[iQ,ag8 (by simp[List.isPrefixOf,aef Z']),ag8 Z',ht];simp only[adB];rw[agK (by simp;omega),ih];simp only[adB];rw[←Yk]
end

def Ob (sz b d k:Nat) (xs ys:List IV) {n:Nat} {H:Hp} (hl:H (.loc k)= .live ⟨sz,ar xs⟩) (hn:xs.length=n) (he:ko sz ys) (hf:Flat ys) (hb:(n+ys.length)*b≤140737488355328) (h0:0<b)
  (ff:k≠d) (hu:H (.loc d)= .unused) :
  nH sz b d (.sl (.loc k) sz 0 n) (.list ys) H=some (.sl (.loc d) sz 0 (n+ys.length),bF (bF H (.loc k) .dead) (.loc d) (.live ⟨sz,ar (xs++ys)⟩)):=by
 have h1:(ar xs).length=n:=by rw[dw,hn]
 rw[Hg (l:= .loc k) (els:=ar xs) hl (by omega) he hf hb h0 (by simpa[Lb.app,Lb.fresh] using ff) (by simpa[Lb.app,Lb.fresh] using hu)];simp only[Lb.app,Lb.fresh,adH];rw[ads (by omega),iN]

mutual
def DJ (X:Lb→Option (Nat×List IV)):AV→AV
 | .sl l sz i n=>match X l with
  |some (s,xs)=>if s=sz∧i+n≤xs.length then .list ((xs.drop i).take n) else .sl l sz i n
  |none=> .sl l sz i n
 | .agg cs=> .agg (qK X cs)
 | .dM cs=> .dM (qK X cs)
 |x=>x
def qK (X:Lb→Option (Nat×List IV)):List AV→List AV
 |[]=>[]
 |x::r=>DJ X x::qK X r
end
def u_ (X:Lb→Option (Nat×List IV)) (H:Hp):Hp:=fun l=>match X l with
 |some _=> .dead
 |none=>match H l with
  | .live r=> .live ⟨r.sz,r.els.map (qK X)⟩
  |s=>s
theorem Fl (X:Lb→Option (Nat×List IV)):∀xs,(qK X xs).length=xs.length
 |[]=>rfl
 |x::r=>by simp[qK,Fl X r]
theorem Fm (X:Lb→Option (Nat×List IV)):∀(xs:List AV) (i:Nat),(qK X xs)[i]?=xs[i]?.map (DJ X)
 |[],i=>by simp[qK]
 |x::r,0=>by simp[qK]
 |x::r,i+1=>by simp[qK,Fm X r]
mutual
theorem Jv (X:Lb→Option (Nat×List IV)):∀(x:AV) (l:Lb),l∈(DJ X x).aB→l∈x.aB
 | .sl q sz i n,l,h=>by
  simp only[DJ] at h;split at h
  ·split at h
   ·simp[AV.aB] at h
   exact h
  exact h
 | .agg cs,l,h=>by simp only[DJ,AV.aB] at h ⊢;exact wV X cs l h
 | .dM cs,l,h=>by simp only[DJ,AV.aB] at h ⊢;exact wV X cs l h
 | .slk ..,l,h| .ptr ..,l,h| .any,l,h| .un,l,h| .bool _,l,h| .int ..,l,h| .str _,l,h| .list _,l,h| .nD,l,h| .nil0,l,h| .mH,l,h| .lptr _,l,h| .fn ..,l,h| .ifc ..,l,h=>h
theorem wV (X:Lb→Option (Nat×List IV)):∀(xs:List AV) (l:Lb),l∈ah (qK X xs)→l∈ah xs
 |[],l,h=>h
 |x::r,l,h=>by
  simp only[qK,ah,adD] at h ⊢;exact h.imp (Jv X x l) (wV X r l)
end
def wW {X:Lb→Option (Nat×List IV)} {H:Hp} {l:Lb} {r:Row} (h:u_ X H l= .live r):X l=none∧∃r0,H l= .live r0∧r=⟨r0.sz,r0.els.map (qK X)⟩:=by
 unfold u_ at h;split at h
 ·cases h
 rename_i e;split at h
 ·rename_i r0 h0;simp only[Slot.live.injEq] at h;exact⟨e,r0,h0,h.symm⟩
 rename_i hn;exact absurd h (hn r)
def AQ {X:Lb→Option (Nat×List IV)} {H:Hp} {l:Lb} (h:H l≠ .unused):u_ X H l≠ .unused:=by
 unfold u_;split
 ·simp
 split
 ·simp
 exact h
section
variable {K:Kx} {β:Lb→Option Nat} {env:Env} {H:Hp} {a:Act} {w:World} {X:Lb→Option (Nat×List IV)}
def rY (l:Lb) (h:live (u_ X H) l):live H l:=by
 obtain⟨r,h⟩:=h;obtain⟨_,r0,h0,_⟩:=wW h;exact⟨r0,h0⟩
def wX (ls:List Lb):kR w w β β H (u_ X H) (Im K β H) (Im K β (u_ X H)) ls:=
 ⟨⟨fun k hk hs=>⟨⟨hk.1,fun l hl=>hk.2 l (rY l hl)⟩,hs,rfl⟩⟩,fun l _ hl=>⟨rY l hl,rfl,fun _ _ _ h=>h⟩⟩
mutual
theorem Oc (hr:bu K β env H a w) (hX:∀l sz xs,X l=some (sz,xs)→H l= .live ⟨sz,ar xs⟩∧l.fresh=true∧Flat xs):∀(x:AV) (v:Value),RV w β H (Im K β H) x v→RV w β (u_ X H) (Im K β (u_ X H)) (DJ X x) v
 | .sl l sz i n,v,h=>by
  simp only[DJ];split
  ·rename_i s xs e;split
   ·rename_i hc;obtain⟨rfl,qW⟩:=hc;obtain⟨h1,h2,h3⟩:=hX l _ _ e;have h4:=Hb hr h1 h2 qW h3 h;simp only[RV] at h4 ⊢;refine kP.mono ⟨fun k hk hs=>⟨⟨hk.1,fun q hq=>hk.2 q ?_⟩,hs,rfl⟩⟩ _ _ h4;obtain⟨r,hq⟩:=hq;obtain⟨q1,r0,q2,_⟩:=wW hq;refine⟨r0,?_⟩;rw[ax _ _ (by rintro rfl;rw[e] at q1;cases q1)];exact q2
   exact RV.mono _ _ (wX _) h
  exact RV.mono _ _ (wX _) h
 | .agg cs,v,h=>by
  simp only[DJ,RV] at h ⊢;obtain⟨vs,rfl,h1⟩:=h;exact⟨vs,rfl,Hy hr hX cs vs h1⟩
 | .dM cs,v,h=>by
  simp only[DJ,RV] at h ⊢;obtain⟨vs,rfl,h1⟩:=h;exact⟨vs,rfl,Hy hr hX cs vs h1⟩
 | .slk ..,v,h| .ptr ..,v,h| .any,v,h| .un,v,h| .bool _,v,h| .int ..,v,h| .str _,v,h| .list _,v,h| .nD,v,h| .nil0,v,h| .mH,v,h| .lptr _,v,h| .fn ..,v,h| .ifc ..,v,h=>RV.mono _ _ (wX _) h
theorem Hy (hr:bu K β env H a w) (hX:∀l sz xs,X l=some (sz,xs)→H l= .live ⟨sz,ar xs⟩∧l.fresh=true∧Flat xs):∀(xs:List AV) (vs:List Value),cM w β H (Im K β H) xs vs→cM w β (u_ X H) (Im K β (u_ X H)) (qK X xs) vs
 |[],vs,h=>h
 |x::r,vs,h=>by
  simp only[qK,cM] at h ⊢;obtain⟨v,us,rfl,h1,h2⟩:=h;exact⟨v,us,rfl,Oc hr hX x v h1,Hy hr hX r us h2⟩
end
def bu.fz (hr:bu K β env H a w) (hX:∀l sz xs,X l=some (sz,xs)→H l= .live ⟨sz,ar xs⟩∧l.fresh=true∧Flat xs) {env2:Env} (he:∀n,env2 n= .any∨env2 n=DJ X (env n)):bu K β env2 (u_ X H) a w where
 defers:=hr.defers
 size:=hr.size
 mS n:=by
  rcases he n with e|e
  ·rw[e];simp[RV]
  rw[e];exact Oc hr hX _ _ (hr.mS n)
 rows l r hl:=by
  obtain⟨_,r0,h0,rfl⟩:=wW hl;obtain⟨h1,h2,h3⟩:=hr.rows l r0 h0;refine⟨h1,?_,?_⟩
  ·intro cs bS;obtain⟨c0,EG,rfl⟩:=adY.1 bS;rw[Fl];exact h2 c0 EG
  cases hb:β l with
  |none=>rw[hb] at h3;simp only at h3;simp[h3]
  |some g=>
  rw[hb] at h3;simp only at h3 ⊢;obtain⟨cur,e,cap,e1,e2,e3,e4,e5⟩:=h3;refine⟨cur,e,cap,e1,e2,e3,by simpa using e4,?_⟩;intro i j cs x hi hj;rw[adX,ag4] at hi;obtain⟨c0,hi,rfl⟩:=hi;rw[Fm,ag4] at hj;obtain⟨x0,hj,rfl⟩:=hj;obtain⟨v,k1,k2⟩:=e5 i j c0 x0 hi hj;exact⟨v,k1,Oc hr hX _ _ k2⟩
 own l g hl:=hr.own l g (rY l hl)
 inj l l' g hl mT:=hr.inj l l' g (rY l hl) (rY l' mT)
 kL n l hl:=by
  rcases he n with e|e
  ·rw[e] at hl;simp[AV.aB] at hl
  rw[e] at hl;exact AQ (hr.kL n l (Jv X _ l hl))
 fk l r hl cs bS q hq:=by
  obtain⟨_,r0,h0,rfl⟩:=wW hl;obtain⟨c0,EG,rfl⟩:=adY.1 bS;exact AQ (hr.fk l r0 h0 c0 EG q (wV X _ q hq))
 frame:=hr.frame
 l_ g cs hg:=by
  obtain⟨h1,h2,h3⟩:=hr.l_ g cs hg;have hk:=(wX (K:=K) (β:=β) (H:=H) (X:=X) (w:=w) []).tomV;exact⟨(hk.im g h1 h2).1,h2,gX.mono hk h1 h2 h3⟩
 nF l hl:=⟨AQ (hr.nF l hl).1,fun h=>(hr.nF l hl).2 (rY l h)⟩
 fr l g hl:=hr.fr l g (rY l hl)
end
def CJ {S:St} {env:Env} {H:Hp} (X:Lb→Option (Nat×List IV)) (hX:∀l sz xs,X l=some (sz,xs)→H l= .live ⟨sz,ar xs⟩∧l.fresh=true∧Flat xs) {env2:Env}
  (he:∀n,env2 n= .any∨env2 n=DJ X (env n)):nb S env H env2 (u_ X H):=
 fun K β a w _ _ hr=>⟨β,hr.fz hX he⟩
def nb.trans {S:St} {env env2 Z_:Env} {H H2 H3:Hp} (h1:nb S env H env2 H2) (h2:nb S env2 H2 Z_ H3):nb S env H Z_ H3:=fun K β a w e hf hr=>by
 obtain⟨β',sY⟩:=h1 K β a w e hf hr;exact h2 K β' a w e hf sY
def AR {X:Lb→Option (Nat×List IV)} {H:Hp} {l:Lb} {r:Row} (h:X l=none) (hl:H l= .live r):u_ X H l= .live ⟨r.sz,r.els.map (qK X)⟩:=by simp[u_,h,hl]

def AS (n:Int):(aW n).cells=[.int .i64 n]:=rfl

structure MdS (x:Tree) where
 d:List Node
 l:List (Tree×Int)
 hw:whole d l=aK x
 hp:∀y∈l,y.2<(d.length:Int)
 hc:d.length+bC (l.map Prod.fst)=x.fI
 hb:er (l.map Prod.fst)≤B
 hk:∀y∈d,y.kids.length≤d.length

def qv (dp:Nat):AC:=
(ay [oN 2 0,oN 3 1,jK 4 false] (.seq (ay [b7 7 2 0,cS 8 7,b7 9 3 0,cS 10 9,aE 11 (.Mr true (.t 8) (.t 10)),af 12 11,j3 13 12 2 1,jP 14 12 13,j3 15 12 3 1,jP 16 12 15,hQ 17 12 (.bin .neq (.t 14) (.t 16)),nC 18 12 17,af 19 18,j3 20 19 2 2,jP 21 19 20,hQ 22 19 (.len (.t 21)),j3 23 19 3 2,jP 24 19 23,hQ 25 19 (.len (.t 24)),hQ 26 19 (.bin .neq (.t 22) (.t 25)),nC 27 19 26,af 28 27,j3 29 28 2 3,jP 30 28 29,hQ 31 28 (.len (.t 30)),j3 32 28 3 3,jP 33 28 32,hQ 34 28 (.len (.t 33)),hQ 35 28 (.bin .neq (.t 31) (.t 34)),nC 36 28 35] (.cond (.t 36) (ay [jK 4 false] .ret) .skip)) (.seq (ay [b7 37 2 2,cS 38 37,ky 39 38,eX 40 0] (.block 0 (.loop (ay [eS 41 .lss 40 39] (.seq (.cond (.t 41) .skip (.exit 0)) (.seq (.block 1 (ay [af 42 40,af 5 42] (.seq (.fg [b7 43 2 2,cS 44 43,af 45 5,ig 46 44 45 2,gd 47 2 46,b7 48 3 2,cS 49 48,af 50 5,ig 51 49 50 2,gd 52 2 51,aE 53 (.zc true [.s,.s] (.t 47) (.t 52))] [[],[0],[],[1,2],[3],[],[5],[],[6,7],[8],[4,9]] [.no,.rw [.loc 2] [],.no,.no,.no,.no,.rw [.loc 3] [],.no,.no,.no,.no]) (.cond (.t 53) (ay [jK 4 false] .ret) .skip)))) (.ec [db 54 .add 40 1,af 40 54]))))))) (.seq (ay [b7 55 2 3,cS 56 55,ky 57 56,eX 58 0] (.block 2 (.loop (ay [eS 59 .lss 58 57] (.seq (.cond (.t 59) .skip (.exit 2)) (.seq (.block 3 (ay [af 60 58,af 6 60] (.seq (.fg [b7 61 2 3,cS 62 61,af 63 6,ig 64 62 63 4,gd 65 4 64,b7 66 3 3,cS 67 66,af 68 6,ig 69 67 68 4,gd 70 4 69,aE 71 (.call dp [(.t 65),(.t 70)]),uk 72 71] [[],[0],[],[1,2],[3],[],[5],[],[6,7],[8],[4,9],[10]] [.no,.rw [.loc 2] [],.no,.no,.no,.no,.rw [.loc 3] [],.no,.no,.no,.no,.no]) (.cond (.t 72) (ay [jK 4 false] .ret) .skip)))) (.ec [db 73 .add 58 1,af 58 73]))))))) (ay [jK 4 true] .ret)))))
def BT (x y:Tree):List (Nat×AV):=[(2,.ptr (.loc 2) 4 0 0),(3,.ptr (.loc 3) 4 0 0)]
def BU (x y:Tree):List (Lb×Row):=[(.loc 3,⟨4,[[.bool y.text,.str y.s,.list (dA y.attrs),.list (eR y.kids)]]⟩),(.loc 2,⟨4,[[.bool x.text,.str x.s,.list (dA x.attrs),.list (eR x.kids)]]⟩)]
def Lc {P:Program} {G:Nat→Option (List IV)} {dp:Nat} (hF:an P G dp=some (74,[(none,4)],(qv dp).bare)) (x y:Tree) (hx:x.attrs.length≤B) (hk:x.kids.length≤B)
  (hS:∀a∈x.kids,∀b∈y.kids,aw P G dp [a.av,b.av] (.bool (GM a b))):aw P G dp [x.av,y.av] (.bool (GM x y)):=by
 refine aM hF (by simp) (by simp[ah,AV.aB,Tree.av]) (by simp[AV.aB]) ?_;unfold qv;simp only[↓aX,mX,seval,Tree.av];by_cases h1:x.text=y.text
 case neg=>
  have e1:(x.text==y.text)=false:=by simpa using h1
  have:x≠y:=fun e=>h1 (by rw[e]);simp only[e1,↓aX,mX,seval,vP this]
 have e1:(x.text==y.text)=true:=by rw[h1];simp
 simp only[e1,↓aX,mX,seval];by_cases h2:x.s=y.s
 case neg=>
  have e2:(x.s==y.s)=false:=by simpa using h2
  have:x≠y:=fun e=>h2 (by rw[e]);simp only[e2,↓aX,mX,seval,vP this]
 have e2:(x.s==y.s)=true:=by rw[h2];simp
 simp only[e2,↓aX,mX,seval,bQ];by_cases h3:x.attrs.length=y.attrs.length
 case neg=>
  rw[show((x.attrs.length:Int) !=(y.attrs.length:Int))=true by simp;omega];have:x≠y:=fun e=>h3 (by rw[e]);simp only[↓aX,mX,seval,vP this]
 rw[show((x.attrs.length:Int) !=(y.attrs.length:Int))=false by simp[h3]];simp only[↓aX,mX,seval,bx];by_cases h4:x.kids.length=y.kids.length
 case neg=>
  rw[show((x.kids.length:Int) !=(y.kids.length:Int))=true by simp;omega];have:x≠y:=fun e=>h4 (by rw[e]);simp only[↓aX,mX,seval,vP this]
 rw[show((x.kids.length:Int) !=(y.kids.length:Int))=false by simp[h4]];simp only[↓aX,mX,seval,bQ];refine eB (σ:={i:Nat // i≤x.attrs.length∧∀j,j<i→x.attrs[j]?=y.attrs[j]?}) [.loc 3,.loc 2] (fun q=>BT x y++[(39,.int .i64 x.attrs.length),(40,.int .i64 q.1)])
  (fun _=>BU x y) (fun q=>x.attrs.length - q.1) ⟨0,by simp⟩ (fun _=>rfl) (by decide) (by simp[ah,AV.aB,BT]) (by simp[ah,AV.aB,BU]) ?_ ?_
 ·exact jI (by simp only[qo,ox]) (by(try simp only[BT,adR,aec]);repeat' constructor) (by(try simp only[BU]);repeat' constructor)
 rintro⟨i,hi,hs⟩;simp only[↓aX,mX,seval,BT,BU,adR,aec,ed,dk];by_cases bO:i<x.attrs.length
 ·rw[show decide ((i:Int)<(x.attrs.length:Int))=true by simpa using bO];obtain⟨a,ha⟩:∃a,x.attrs[i]?=some a:=⟨_,ag7 bO⟩;obtain⟨b,hb⟩:∃b,y.attrs[i]?=some b:=⟨_,ag7 (h3▸bO)⟩;have hw:IntKind.i64.wrap ((i:Int)+1)=((i+1:Nat):Int):=wrap64 (by omega) (by unfold B at hx;omega);simp only[↓aX,mX,seval,rU,ha,hb,tk,Attr.bw,Attr.cs,eqs,eq1];refine⟨rfl,?_⟩;by_cases Ld:a=b
  ·subst Ld;rw[show(a.name==a.name&&a.val==a.val)=true by simp];simp only[↓aX,mX,seval,adL,Bool.true_xor,hw];exact⟨⟨i+1,bO,fun j hj=>by
    by_cases e:j=i
    ·rw[e,ha,hb]
    exact hs j (by omega)⟩,by simp only;omega,jI (by simp only[qo,ox]) (by(try simp only[BT,adR,aec]);repeat' constructor) (by(try simp only[BU]);repeat' constructor)⟩
  have ff:x≠y:=fun e=>Ld (by rw[e,hb] at ha;cases ha;rfl);have Hz:(a.name==b.name&&a.val==b.val)=false:=by
   simp only[agJ,aew];by_cases e1:a.name=b.name
   ·exact .inr fun e2=>Ld (Attr.ext e1 e2)
   exact .inl e1
  rw[Hz];simp only[↓aX,mX,seval,adI,Bool.true_xor,vP ff]
 rw[show decide ((i:Int)<(x.attrs.length:Int))=false by simpa using bO];have ha:x.attrs=y.attrs:=aeU fun j=>by
  by_cases hj:j<i
  ·exact hs j hj
  rw[aes (by omega),aes (by omega)]
 simp only[↓aX,mX,seval,bx];refine eB (σ:={i:Nat // i≤x.kids.length∧∀j,j<i→x.kids[j]?=y.kids[j]?}) [.loc 3,.loc 2] (fun q=>BT x y++[(57,.int .i64 x.kids.length),(58,.int .i64 q.1)])
  (fun _=>BU x y) (fun q=>x.kids.length - q.1) ⟨0,by simp⟩ (fun _=>rfl) (by decide) (by simp[ah,AV.aB,BT]) (by simp[ah,AV.aB,BU]) ?_ ?_
 ·exact jI (by simp only[qo,ox]) (by(try simp only[BT,adR,aec]);repeat' constructor) (by(try simp only[BU]);repeat' constructor)
 rintro⟨i,hi,hs⟩;simp only[↓aX,mX,seval,BT,BU,adR,aec,ed,dk];by_cases bO:i<x.kids.length
 ·rw[show decide ((i:Int)<(x.kids.length:Int))=true by simpa using bO];obtain⟨a,jd⟩:∃a,x.kids[i]?=some a:=⟨_,ag7 bO⟩;obtain⟨b,hkb⟩:∃b,y.kids[i]?=some b:=⟨_,ag7 (h4▸bO)⟩;have hw:IntKind.i64.wrap ((i:Int)+1)=((i+1:Nat):Int):=wrap64 (by omega) (by unfold B at hk;omega);have hc:=hS a (adu jd) b (adu hkb);simp only[Tree.av] at hc;simp only[↓aX,mX,seval,ml,jd,hkb,tj,Tree.bw,Tree.cs];refine⟨rfl,gJ hc ?_⟩;by_cases Ld:a=b
  ·subst Ld;simp only[↓aX,mX,seval,ng,adL,hw];exact⟨⟨i+1,bO,fun j hj=>by
    by_cases e:j=i
    ·rw[e,jd,hkb]
    exact hs j (by omega)⟩,by simp only;omega,jI (by simp only[qo,ox]) (by(try simp only[BT,adR,aec]);repeat' constructor) (by(try simp only[BU]);repeat' constructor)⟩
  have ff:x≠y:=fun e=>Ld (by rw[e,hkb] at jd;cases jd;rfl);simp only[↓aX,mX,seval,vP Ld,adI,vP ff]
 rw[show decide ((i:Int)<(x.kids.length:Int))=false by simpa using bO];have Qx:x.kids=y.kids:=aeU fun j=>by
  by_cases hj:j<i
  ·exact hs j hj
  rw[aes (by omega),aes (by omega)]
 have:x=y:=Tree.ext h1 h2 ha Qx;subst this;simp only[↓aX,mX,seval,ng]
def CK {P:Program} {G:Nat→Option (List IV)} {dp:Nat} (hF:an P G dp=some (74,[(none,4)],(qv dp).bare)) (x y:Tree) (hx:x.wt≤B):aw P G dp [x.av,y.av] (.bool (GM x y)):=by
 have key:=KW (M:=fun l=>∀x∈l,∀y:Tree,x.wt≤B→aw P G dp [x.av,y.av] (.bool (GM x y))) (fun xs h x hx y hB=>by
  have h2:=wJ x;have h3:=tm x;have h4:=oc x.attrs;have h5:=jr x.kids;exact Lc hF x y (by omega) (by omega) fun a ha b _=>h x hx a ha b (by have:=xR ha;omega)) [x]
 exact key x (by simp) y hx
end Go.Am
