import Derived.Test.YtfinkeaikbmpgaaGreatDoorKT8
import Derived.Test.YtfinkeaikbmpgaaGreatDoorKAm33
import Derived.Test.YtfinkeaikbmpgaaGreatDoorKAm24
import Derived.Test.YtfinkeaikbmpgaaGreatDoorKT16
set_option linter.unusedSimpArgs false
set_option linter.unusedVariables false
set_option linter.unnecessarySimpa false
set_option linter.defProp false
/- Letters: sets of bytes; a string cut at both ends. -/
namespace Go.Am
open Go Go.RowKit
def ya:AV→Nat→Option Nat
 | .int _ v,mx=>if 0≤v∧v.toNat≤mx then some v.toNat else none
 |_,_=>none
def Ck (env:Env) (d mx:Nat):bnd env none d mx=some d:=rfl
def Cl (env:Env) (x:O) (d mx:Nat):bnd env (some x) d mx=ya (ev env x) mx:=by
 simp only[bnd];generalize ev env x=v;cases v<;>rfl
def rA (k:IntKind) (n mx:Nat) (h:n≤mx):ya (.int k (n:Int)) mx=some n:=by simp[ya,h]
def eh (f:Nat→Bool):List AV:=(List.range 256).map fun i=> .bool (f i)
def bc (f:Nat→Bool):(eh f).length=256:=by simp[eh]
def ajH (f:Nat→Bool) (i:Nat) (h:i<256):(eh f)[i]?=some (.bool (f i)):=by simp[eh,la h]
def eD (f:Nat→Bool):ah (eh f)=[]:=by
 have:∀l:List Nat,ah (l.map fun i=>AV.bool (f i))=[]:=by
  intro l;induction l with
  |nil=>rfl
  |cons a r ih=>simp[ah,AV.an,ih]
 exact this _
def qo:List.replicate 256 (AV.bool false)=eh (fun _=>false):=by
 apply fe;intro i;by_cases h:i<256
 ·rw[ajH _ _ h,JE,eE h]
 rw[dV (by rw[MS];omega),dV (by rw[bc];omega)]
def yb (f:Nat→Bool) (j:Nat):(eh f).set j (.bool true)=eh (fun k=>k==j||f k):=by
 apply fe;intro i;by_cases h:i<256
 ·rw[ajH _ _ h,JC];by_cases e:j=i
  ·subst e;rw[eE rfl,eE (by rw[bc];exact h)];simp
  rw[cY e,ajH _ _ h];have:(i==j)=false:=by simpa using yd e
  rw[this];simp
 rw[dV (by rw[NT,bc];omega),dV (by rw[bc];omega)]
def yc (f:Nat→Bool) (j:Nat) (h:j<256):(eh f).take j++[.bool true]++(eh f).drop (j+1)=eh (fun k=>k==j||f k):=by
 rw[←yb,MX,eE (by rw[bc];exact h)];simp
def mz (f:Nat→Bool):(eh f).take 256=eh f:=eN (by rw[bc];exact eM _)
def mA (f:Nat→Bool):(eh f).drop 256=[]:=M_ (by rw[bc];exact eM _)
def od (f:Nat→Bool):(eh f).all AV.one=true:=by
 rw[yq];intro x hx;obtain⟨i,_,rfl⟩:=pb.1 hx;rfl
def er (s:Bs) (k:Nat):Bool:=s.any fun c=>k==c.toNat
def mW {α:Type} {l:List α} {i:Nat} {x:α} (h:l[i]?=some x):l.take (i+1)=l.take i++[x]:=by rw[yf,h];rfl
def vM (s:Bs) (c:UInt8):er (s++[c])=fun k=>k==c.toNat||er s k:=by
 funext k;simp[er,Bool.or_comm]
def Wg:AC:=
(aM [aQ 2 (.new (List.replicate 256 (.bool false))),jM 3 false] (.seq (aM [gH 4 0] (.block 0 (.loop (.seq (aM [MR 6 4,MR 7 0,oF 8 7,et 9 .lss 6 8] (.cond (.t 9) .skip (.exit 0))) (.seq (.block 1 (aM [MR 12 0,MR 13 4,aQ 14 (.lj (.t 12) (.t 13)),MR 5 14] (.seq (aM [MR 15 5,aQ 16 (.bin .geq (.t 15) (.c (.int .u8 128)))] (.cond (.t 16) (aM [gz 17 256 2,gg (.store 256 (.t 2) (.t 17)),jM 3 false] .ret) .skip)) (.cq [MR 18 5,aQ 19 (.wC (.t 2) (.t 18) 256 1),gg (.store 1 (.t 19) (me true))])))) (.cq [MR 10 4,eY 11 .add 10 1,MR 4 11])))))) (aM [gz 20 256 2,gg (.store 256 (.t 2) (.t 20)),jM 3 true] .ret)))
def rB {P:Program} {G:Nat→Option (List IV)} {aS:Nat} (hF:aw P G aS=some (21,[((some (some 256)),2),(none,3)],Wg.bare)) (s:Bs) (hs:s.length≤B) (I8:∀c∈s,c.toNat<128) :
  au P G aS [.str s] (.gf [.agg (eh (er s)),.bool true]):=by
 refine aR hF (by simp) (by simp[ah,AV.an]) (by simp[AV.an,ah,eD]) ?_;unfold Wg;simp only[↓aX,mX,reduceCtorEq,Nat.reduceEqDiff,Nat.reduceLT,Nat.reduceLeDiff,Nat.reduceAdd,Nat.reduceMul,Int.reduceToNat,Int.reduceLE,Int.reduceLT,qo,bc];refine ca (σ:={i:Nat // i≤s.length}) [.loc 2] (fun q=>[(0,.str s),(2,.ptr (.loc 2) 256 0 0),(4,.int .i64 q.1)]) (fun q=>[(.loc 2,⟨256,[eh (er (s.take q.1))]⟩)]) (fun q=>s.length - q.1) ⟨0,zd _⟩
  (fun _=>rfl) (by decide) (by simp[ah,AV.an]) (fun q r hr cs bV l hl=>by
   simp only[bY] at hr;subst hr;simp only[bY] at bV;subst bV;rw[eD] at hl;simp at hl) ?_ ?_
 ·exact eL (by simp only[uu,rn]) (by repeat' constructor) ⟨rfl,trivial⟩
 rintro⟨i,hi⟩;simp only[↓aX,mX,reduceCtorEq,Nat.reduceEqDiff,Nat.reduceLT,Nat.reduceLeDiff,Nat.reduceAdd,Nat.reduceMul,Int.reduceToNat,Int.reduceLE,Int.reduceLT,cF,bW,bc];by_cases bI:i<s.length
 ·rw[show decide ((i:Int)<(s.length:Int))=true by simpa using bI];obtain⟨c,hc⟩:∃c,s[i]?=some c:=⟨_,bS bI⟩;have hw:IntKind.i64.wrap ((i:Int)+1)=((i+1:Nat):Int):=wrap64 (by omega) (by unfold B at hs;omega);have qT:=I8 c (dc hc);simp only[↓aX,mX,reduceCtorEq,Nat.reduceEqDiff,Nat.reduceLT,Nat.reduceLeDiff,Nat.reduceAdd,Nat.reduceMul,Int.reduceToNat,Int.reduceLE,Int.reduceLT,hc,show decide (((c.toNat:Nat):Int)≥128)=false by simp;omega,bc,hw];simp only[↓aX,mX,reduceCtorEq,Nat.reduceEqDiff,Nat.reduceLT,Nat.reduceLeDiff,Nat.reduceAdd,Nat.reduceMul,Int.reduceToNat,Int.reduceLE,Int.reduceLT,eE (show c.toNat<256 by omega),eE (show c.toNat≤255 by omega),yc _ _ (show c.toNat<256 by omega),bc,hw];refine⟨⟨i+1,bI⟩,by simp only;omega,eL (by simp only[uu,rn]) (by repeat' constructor) ⟨?_,trivial⟩⟩;rw[mW hc,vM];rfl
 have XV:i=s.length:=by omega
 subst XV;rw[show decide ((s.length:Int)<(s.length:Int))=false by simp];simp only[↓aX,mX,reduceCtorEq,Nat.reduceEqDiff,Nat.reduceLT,Nat.reduceLeDiff,Nat.reduceAdd,Nat.reduceMul,Int.reduceToNat,Int.reduceLE,Int.reduceLT,va,bc,mz,mA,od,rI,kq]
def VN:AC:=
(aM [jM 4 false] (aM [MR 5 0,MR 6 1,aQ 7 (.dp (.t 5)),aQ 8 (.wC (.t 7) (.t 6) 256 1),fm 9 8,MR 4 9] .ret))
def mB {P:Program} {G:Nat→Option (List IV)} {aG:Nat} (hF:aw P G aG=some (10,[(none,4)],VN.bare)) (f:Nat→Bool) (c:UInt8) :
  cR P G aG [.ptr (.par 0) 256 0 0,.int .u8 (c.toNat:Int)] (eh f) fun x cs=>x= .bool (f c.toNat)∧cs=eh f:=by
 refine dw hF N7 PC (eD f) ?_;have hc:c.toNat<256:=c.toNat_lt;unfold VN;simp only[↓aX,mX,seval,Oj,bc,eE hc,ajH f _ hc];exact⟨_,rfl,rfl,eD f,bc f,rfl⟩
def cS (aG:Nat):AC:=
(aM [aQ 4 (.iC (.c (.str [])))] (.seq (.block 0 (.loop (.seq (aM [MR 5 0,oF 6 5,eY 7 .gtr 6 0] (.cond (.t 7) .skip (.exit 0))) (.block 1 (.seq (aM [MR 8 1,MR 9 0,aQ 10 (.lj (.t 9) (jS 0)),aQ 11 (.call aG [(.t 8),(.t 10)]),sB 12 11] (.cond (.t 12) (.exit 0) .skip)) (.cq [MR 13 0,aQ 14 (.ZL (.t 13) (some (jS 1)) none),MR 0 14])))))) (aM [MR 15 0,MR 4 15] .ret)))
def dB (f:Nat→Bool) (s:Bs):Bs:=s.dropWhile fun c=>f c.toNat
def pn {f:Nat→Bool} {q:Lb×Row} (hr:q∈[((.par 0:Lb),(⟨256,[eh f]⟩:Row))]) {ls:List Lb}:∀cs∈q.2.els,∀l∈ah cs,l∈ls:=by
 intro cs bV l hl;simp only[bY] at hr;subst hr;simp only[bY] at bV;subst bV;rw[eD] at hl;simp at hl
def po {P:Program} {G:Nat→Option (List IV)} {aO aG:Nat} (hF:aw P G aO=some (16,[(none,4)],(cS aG).bare)) (f:Nat→Bool) (s:Bs) (hs:s.length≤B)
  (hC:∀c:UInt8,cR P G aG [.ptr (.par 0) 256 0 0,.int .u8 (c.toNat:Int)] (eh f) fun x cs=>x= .bool (f c.toNat)∧cs=eh f) :
  cR P G aO [.str s,.ptr (.par 0) 256 0 0] (eh f) fun x cs=>x= .str (dB f s)∧cs=eh f:=by
 refine dw hF (by simp) (by simp[ah,AV.an]) (eD f) ?_;unfold cS;simp only[↓aX,mX,reduceCtorEq,Nat.reduceEqDiff,Nat.reduceLT,Nat.reduceLeDiff,Nat.reduceAdd,Nat.reduceMul,Int.reduceToNat,Int.reduceLE,Int.reduceLT,Oj,bc];refine ca (σ:={t:Bs // t.length≤B∧dB f t=dB f s}) [.par 0] (fun t=>[(0,.str t.1),(1,.ptr (.par 0) 256 0 0)]) (fun _=>[(.par 0,⟨256,[eh f]⟩)]) (fun t=>t.1.length) ⟨s,hs,rfl⟩
  (fun _=>rfl) (by decide) (by simp[ah,AV.an]) (fun _ q hr=>pn hr) ?_ ?_
 ·refine eL ?_ (by repeat' constructor) ⟨rfl,trivial⟩;intro l hl hu;by_cases e:l= .par 0
  ·subst e;simp
  exfalso;apply hu;cases l<;>simp_all[Lb.fresh,ae,Hp.none]
 rintro⟨t,ht,g_⟩;cases t with
 |nil=>
  simp only[↓aX,mX,reduceCtorEq,Nat.reduceEqDiff,Nat.reduceLT,Nat.reduceLeDiff,Nat.reduceAdd,Nat.reduceMul,Int.reduceToNat,Int.reduceLE,Int.reduceLT,cF,bW,yg,show decide (((0:Nat):Int)>0)=false from rfl];rw[←g_];exact⟨_,⟨rfl,rfl⟩,rfl,eD f,bc f,rfl⟩
 |cons c r=>
 have hg:decide (((r.length+1:Nat):Int)>0)=true:=by rw[dj];omega
 have Lr:(c::r)[0]?=some c:=rfl;simp only[↓aX,mX,reduceCtorEq,Nat.reduceEqDiff,Nat.reduceLT,Nat.reduceLeDiff,Nat.reduceAdd,Nat.reduceMul,Int.reduceToNat,Int.reduceLE,Int.reduceLT,cF,bW,gL,hg,Lr];refine bj (l:= .par 0) (hC c) rfl (by simp only[↓aX,mX,reduceCtorEq,Nat.reduceEqDiff,Nat.reduceLT,Nat.reduceLeDiff,Nat.reduceAdd,Nat.reduceMul,Int.reduceToNat,Int.reduceLE,Int.reduceLT,bc]) ?_;rintro x1 dF ⟨rfl,rfl⟩ _ _ _;simp only[↓aX,mX,reduceCtorEq,Nat.reduceEqDiff,Nat.reduceLT,Nat.reduceLeDiff,Nat.reduceAdd,Nat.reduceMul,Int.reduceToNat,Int.reduceLE,Int.reduceLT,bc];cases hf:f c.toNat with
 |false=>
  have:dB f s=c::r:=by rw[←g_];simp[dB,hf]
  simp only[↓aX,mX,reduceCtorEq,Nat.reduceEqDiff,Nat.reduceLT,Nat.reduceLeDiff,Nat.reduceAdd,Nat.reduceMul,Int.reduceToNat,Int.reduceLE,Int.reduceLT,fj,this];exact⟨_,rfl,rfl,eD f,bc f,by rw[bc]⟩
 |true=>
 have h2:dB f r=dB f s:=by rw[←g_];simp[dB,hf]
 have hb:ya (.int .i64 1) (r.length+1)=some 1:=rA .i64 1 _ (by omega);have E0:(c::r).take (r.length+1)=c::r:=eN (by simp);simp only[↓aX,mX,reduceCtorEq,Nat.reduceEqDiff,Nat.reduceLT,Nat.reduceLeDiff,Nat.reduceAdd,Nat.reduceMul,Int.reduceToNat,Int.reduceLE,Int.reduceLT,ib,bc,gL,Ck,Cl,hb,E0,eQ,bT,A7,tn];refine⟨⟨r,by rw[gL] at ht;omega,h2⟩,by simp only[gL];omega,eL ?_ (by repeat' constructor) ⟨rfl,trivial⟩⟩;intro l hl hu;by_cases e:l= .par 0
 ·subst e;simp
 exfalso;apply hu;cases l<;>simp_all[Lb.fresh,ae,Hp.none]

def qH:Bs:=[38,108,116,59]
def rC:Bs:=[38,103,116,59]
def kD:Bs:=[38,97,109,112,59]
def jc:Bs:=[38,113,117,111,116,59]
def jQ (v:Bool) (c:UInt8):Bs:=
 if c=60 then qH else if c=62 then rC else if c=38 then kD else if c=34∧v=true then jc else [c]
def fG (v:Bool) (s:Bs):Bs:=s.flatMap (jQ v)
def iK (a:Attr):Bs:=32::a.name++[61,34]++fG true a.val++[34]
def akW (az:List Attr):Bs:=az.flatMap iK
mutual
def Tree.sh:Tree→Bs
 | .mk t s az ks=>if t then fG false s else 60::s++akW az++(match ks with
  |[]=>[47,62]
  |k::r=>62::(k.sh++je r)++[60,47]++s++[62])
def je:List Tree→Bs
 |[]=>[]
 |x::r=>x.sh++je r
end
def Tree.yh (x:Tree) (h:x.text=true):x.sh=fG false x.s:=by
 cases x with
 |mk t s az ks=>simp only[Tree.text] at h;subst h;cases ks<;>simp[Tree.sh,Tree.s]
def nj (s:Bs):List Tree→Bs
 |[]=>[47,62]
 |k::r=>62::je (k::r)++[60,47]++s++[62]
def qp (s:Bs) {ks:List Tree} (h:ks≠[]):nj s ks=62::je ks++[60,47]++s++[62]:=by
 cases ks with
 |nil=>exact absurd rfl h
 |cons k r=>rfl
def Tree.QO (x:Tree) (h:x.text=false):x.sh=60::x.s++akW x.attrs++nj x.s x.kids:=by
 cases x with
 |mk t s az ks=>
 simp only[Tree.text] at h;subst h;cases ks<;>simp[Tree.sh,Tree.s,Tree.attrs,Tree.kids,je,nj]
def akP (c:UInt8):Bool:=decide (97≤c)&&decide (c≤122)
def isSp (c:UInt8):Bool:=c==32||c==10
def arM (c:UInt8):Bool:=c==10||(decide (32≤c)&&decide (c≤126))
def l6 (s:Bs):Option (Bs×Bs):=
 let n:=s.takeWhile akP
 if n=[]∨8<n.length then none else some (n,s.dropWhile akP)
def iA (p s:Bs):Option Bs:=if p.isPrefixOf s then some (s.drop p.length) else none
def og (s:Bs):Option (UInt8×Bs):=
 if qH.isPrefixOf s then some (60,s.drop 4) else if rC.isPrefixOf s then some (62,s.drop 4) else if kD.isPrefixOf s then some (38,s.drop 5) else if jc.isPrefixOf s then some (34,s.drop 6) else none
def nw {s r:Bs} {c:UInt8} (h:og s=some (c,r)):r.length<s.length:=by
 unfold og at h;have key:∀p:Bs,0<p.length→p.isPrefixOf s=true→(s.drop p.length).length<s.length:=fun p h0 hp=>by
  obtain⟨q,rfl⟩:=EJ.1 hp;simp;omega
 split at h
 ·rename_i hp;simp only[di,eS] at h;obtain⟨_,rfl⟩:=h;exact key qH Pr hp
 split at h
 ·rename_i hp;simp only[di,eS] at h;obtain⟨_,rfl⟩:=h;exact key rC Pr hp
 split at h
 ·rename_i hp;simp only[di,eS] at h;obtain⟨_,rfl⟩:=h;exact key kD Pr hp
 split at h
 ·rename_i hp;simp only[di,eS] at h;obtain⟨_,rfl⟩:=h;exact key jc Pr hp
 simp at h
def bm (v:Bool) (s:Bs):Option (Bs×Bs):=
 match s with
 |[]=>some ([],[])
 |c::r=>
  if c=60∨(c=34∧v=true) then some ([],c::r)
  else if c=38 then
   match h:og (c::r) with
   |some (e,q)=>(bm v q).map fun x=>(e::x.1,x.2)
   |none=>none
  else if c=62∨arM c=false then none
  else(bm v r).map fun x=>(c::x.1,x.2)
termination_by s.length
decreasing_by
 ·exact nw h
 simp
def mC {v:Bool}:∀(n:Nat) (s t r:Bs),s.length≤n→bm v s=some (t,r)→r.length+t.length≤s.length:=by
 intro n;induction n with
 |zero=>
  intro s t r hn h;have:s=[]:=ye.1 tM;subst this;rw[bm] at h;simp at h;obtain⟨rfl,rfl⟩:=h;simp
 |succ n ih=>
 intro s t r hn h;cases s with
 |nil=>rw[bm] at h;simp at h;obtain⟨rfl,rfl⟩:=h;simp
 |cons c q=>
 rw[bm] at h;split at h
 ·simp only[di,eS] at h;obtain⟨rfl,rfl⟩:=h;simp
 split at h
 ·split at h
  ·rename_i e q' he;have:=nw he;obtain⟨⟨t',r'⟩,h1,h2⟩:=bR.1 h;simp only[eS] at h2;obtain⟨rfl,rfl⟩:=h2;have:=ih q' t' r' (by simp at this hn;omega) h1;simp at *;omega
  simp at h
 split at h
 ·simp at h
 obtain⟨⟨t',r'⟩,h1,h2⟩:=bR.1 h;simp only[eS] at h2;obtain⟨rfl,rfl⟩:=h2;have:=ih q t' r' (by simp at hn;omega) h1;simp at *;omega
theorem mD (v:Bool):∀(s r:Bs),s.all dI=true→(∀c r',r=c::r'→c=60∨(c=34∧v=true))→bm v (fG v s++r)=some (s,r)
 |[],r,_,hr=>by
  cases r with
  |nil=>simp[fG,bm]
  |cons c r'=>simp only[fG,Ke,List.nil_append];rw[bm,eE (hr c r' rfl)]
 |c::s,r,hp,hr=>by
  simp only[List.all_cons,de] at hp;have ih:=mD v s r hp.2 hr;have e:fG v (c::s)++r=jQ v c++(fG v s++r):=by simp[fG]
  rw[e];have HD:∀(w:Bs) (d:UInt8),(∀q:Bs,og (w++q)=some (d,q))→(∃w',w=38::w')→bm v (w++(fG v s++r))=some (d::s,r):=by
   intro w d h1 ⟨w',h2⟩;have h3:=h1 (fG v s++r);subst h2;simp only[List.cons_append] at h3 ⊢;rw[bm,cY N7,eE rfl];split
   ·rename_i e q h4;rw[h3] at h4;simp only[di,eS] at h4;obtain⟨rfl,rfl⟩:=h4;rw[ih];rfl
   rename_i h4;rw[h3] at h4;cases h4
  unfold jQ;split
  ·rename_i h;subst h;exact HD qH 60 (fun q=>by simp[og,qH,List.isPrefixOf]) ⟨_,rfl⟩
  rename_i h1;split
  ·rename_i h;subst h;exact HD rC 62 (fun q=>by simp[og,qH,rC,List.isPrefixOf]) ⟨_,rfl⟩
  rename_i h2;split
  ·rename_i h;subst h;exact HD kD 38 (fun q=>by simp[og,qH,rC,kD,List.isPrefixOf]) ⟨_,rfl⟩
  rename_i h3;split
  ·rename_i h;obtain⟨rfl,rfl⟩:=h;exact HD jc 34 (fun q=>by simp[og,qH,rC,kD,jc,List.isPrefixOf]) ⟨_,rfl⟩
  rename_i h4;simp only[List.cons_append,List.nil_append];have hc:arM c=true:=by
   have h:=hp.1;simp only[dI,D0,OL,EI,bne_eq_false_iff_eq,D5] at h;simp only[arM,Be,yt,de,dj,Gj];rcases h with h|h
   ·left;exact Pf (by show c.toNat=10;omega)
   right;constructor
   ·show(32:UInt8).toNat≤_;simp;omega
   show _≤(126:UInt8).toNat;simp;omega
  rw[bm,cY (fun h=>h.elim h1 h4),cY h3,cY (fun h=>h.elim h2 (fun h=>by rw[hc] at h;cases h)),ih];rfl

def gF (l:List Attr) (a:Attr):List Attr:=
 match l with
 |[]=>[a]
 |b::r=>if Op.bytesLess a.name b.name then a::b::r else b::gF r a
def cu (l:List Attr):List Attr:=l.foldl gF []
def l7 (s:Bs):Option (Attr×Bs):=
 (l6 s).bind fun x=>(iA [61,34] x.2).bind fun r=>(bm true r).bind fun y=>(iA [34] y.2).map fun q=>(⟨x.1,y.1⟩,q)
def gQ {p s r:Bs} (h:iA p s=some r):r.length+p.length=s.length:=by
 unfold iA at h;split at h
 ·rename_i hp;obtain⟨q,rfl⟩:=EJ.1 hp;simp only[di] at h;subst h;simp;omega
 simp at h
def mE {s n r:Bs} (h:l6 s=some (n,r)):s=n++r∧n≠[]:=by
 unfold l6 at h;simp only at h;split at h
 ·simp at h
 rename_i hn;simp only[di,eS] at h;obtain⟨rfl,rfl⟩:=h;exact⟨NO.symm,fun e=>hn (.inl e)⟩
def rD {s r:Bs} {a:Attr} (h:l7 s=some (a,r)):r.length+a.name.length+a.val.length+3≤s.length:=by
 unfold l7 at h;obtain⟨⟨n,r1⟩,h1,h⟩:=dJ.1 h;obtain⟨r2,h2,h⟩:=dJ.1 h;obtain⟨⟨v,r3⟩,h3,h⟩:=dJ.1 h;obtain⟨r4,h4,h⟩:=bR.1 h;simp only[eS] at h;obtain⟨rfl,rfl⟩:=h;obtain⟨rfl,_⟩:=mE h1;have e2:=gQ h2;have e3:=mC _ _ _ _ (eM _) h3;have e4:=gQ h4;simp at *;omega
def jf (p:UInt8→Bool) (s:Bs):(s.dropWhile p).length≤s.length:=(List.dropWhile_suffix p).length_le
def iL (s s1:Bs):Bool:=decide (s1.length<s.length)&&match s1 with
 |[]=>false
 |c::_=> !(c==62)&& !(c==47)
def ea (s:Bs):Option (List Attr×Bs):=
 if iL s (s.dropWhile isSp) then match h:l7 (s.dropWhile isSp) with
  |some (a,r)=>(ea r).map fun x=>(a::x.1,x.2)
  |none=>none
 else some ([],s.dropWhile isSp)
termination_by s.length
decreasing_by
 have:=rD h;have:=jf isSp s;omega
def kO (s:Bs):Option (Bs×List Attr×Bs):=
 (iA [60] s).bind fun r=>(l6 r).bind fun x=>(ea x.2).map fun y=>(x.1,y.1,y.2)
def ka (nm s:Bs):Option Bs:=
 (iA [60,47] s).bind fun r=>(l6 r).bind fun x=>if x.1=nm then iA [62] (x.2.dropWhile isSp) else none
def dM (el:Bs→Option (Tree×Bs)) (s:Bs):Option (List Tree×Bs):=
 match s with
 |[]=>some ([],[])
 |c::q=>
  if [60,47].isPrefixOf (c::q) then some ([],c::q)
  else match(if c=60 then el (c::q) else(bm false (c::q)).map fun x=>(Tree.mk true x.1 [] [],x.2)) with
   |some (t,r)=>if h:r.length<(c::q).length then(dM el r).map fun x=>(t::x.1,x.2) else none
   |none=>none
termination_by s.length
def bG:Nat→Bs→Option (Tree×Bs)
 |0,_=>none
 |d+1,s=>(kO s).bind fun x=>
  if [47,62].isPrefixOf x.2.2 then some (.mk false x.1 (cu x.2.1) [],x.2.2.drop 2)
  else(iA [62] x.2.2).bind fun r=>(dM (bG d) r).bind fun y=>(ka x.1 y.2).map fun q=>(.mk false x.1 (cu x.2.1) y.1,q)
def tj:∀(n:Nat) (s:Bs) (l:List Attr) (r:Bs),s.length≤n→ea s=some (l,r)→r.length+dX l≤s.length:=by
 intro n;induction n with
 |zero=>
  intro s l r hn h;have:s=[]:=ye.1 tM;subst this;rw[ea] at h;simp[iL] at h;obtain⟨rfl,rfl⟩:=h;simp[dX]
 |succ n ih=>
 intro s l r hn h;rw[ea] at h;have h0:=jf isSp s;split at h
 ·split at h
  ·rename_i a q ha;have h1:=rD ha;obtain⟨⟨l',r'⟩,h2,h3⟩:=bR.1 h;simp only[eS] at h3;obtain⟨rfl,rfl⟩:=h3;have:=ih q l' r' tM h2;simp only[dX,Attr.wt];omega
  simp at h
 simp only[di,eS] at h;obtain⟨rfl,rfl⟩:=h;simp[dX];exact h0
theorem uM (a:Attr):∀l:List Attr,dX (gF l a)=dX l+a.wt
 |[]=>by simp[gF,dX]
 |b::r=>by unfold gF;split<;>simp[dX,uM a r]<;>omega
theorem rE:∀(l acc:List Attr),dX (l.foldl gF acc)=dX acc+dX l
 |[],acc=>by simp[dX]
 |a::r,acc=>by simp only[Bw,rE r,uM,dX];omega
def rF (l:List Attr):dX (cu l)=dX l:=by unfold cu;rw[rE];simp[dX]
def vO {s nm r:Bs} {az:List Attr} (h:kO s=some (nm,az,r)):r.length+nm.length+dX az+1≤s.length∧0<nm.length:=by
 unfold kO at h;obtain⟨r1,h1,h⟩:=dJ.1 h;obtain⟨⟨n,r2⟩,h2,h⟩:=dJ.1 h;obtain⟨⟨l,r3⟩,h3,h⟩:=bR.1 h;simp only[eS] at h;obtain⟨rfl,rfl,rfl⟩:=h;have e1:=gQ h1;obtain⟨rfl,e2⟩:=mE h2;have e3:=tj _ _ _ _ (eM _) h3;have:0<n.length:=M0.2 e2;simp at *;omega
def QP {nm s r:Bs} (h:ka nm s=some r):r.length<s.length:=by
 unfold ka at h;obtain⟨r1,h1,h⟩:=dJ.1 h;obtain⟨⟨n,r2⟩,h2,h5⟩:=dJ.1 h;split at h5
 ·have e1:=gQ h1;have e3:=gQ h5;obtain⟨rfl,e2⟩:=mE h2;have:=jf isSp r2;simp at *;omega
 simp at h5
def vP {el:Bs→Option (Tree×Bs)} (ll:∀s t r,el s=some (t,r)→t.wt+3*r.length≤3*s.length):∀(n:Nat) (s:Bs) (l:List Tree) (r:Bs),s.length≤n→dM el s=some (l,r)→dE l+3*r.length≤3*s.length:=by
 intro n;induction n with
 |zero=>
  intro s l r hn h;have:s=[]:=ye.1 tM;subst this;rw[dM] at h;simp at h;obtain⟨rfl,rfl⟩:=h;simp[dE]
 |succ n ih=>
 intro s l r hn h;cases s with
 |nil=>rw[dM] at h;simp at h;obtain⟨rfl,rfl⟩:=h;simp[dE]
 |cons c q=>
 rw[dM] at h;split at h
 ·simp only[di,eS] at h;obtain⟨rfl,rfl⟩:=h;simp[dE]
 split at h
 ·rename_i t r1 h1;split at h
  ·rename_i bI;obtain⟨⟨l',r'⟩,h2,h3⟩:=bR.1 h;simp only[eS] at h3;obtain⟨rfl,rfl⟩:=h3;have e1:=ih r1 l' r' tM h2;have e2:t.wt+3*r1.length≤3*(c::q).length:=by
    split at h1
    ·exact ll _ _ _ h1
    obtain⟨⟨tx,r2⟩,h4,h5⟩:=bR.1 h1;simp only[eS] at h5;obtain⟨rfl,rfl⟩:=h5;have:=mC _ _ _ _ (eM _) h4;simp[Tree.wt,dX,dE] at *;omega
   simp only[dE];omega
  simp at h
 simp at h
theorem l9:∀(d:Nat) (s:Bs) (t:Tree) (r:Bs),bG d s=some (t,r)→t.wt+3*r.length≤3*s.length
 |0,s,t,r,h=>by simp[bG] at h
 |d+1,s,t,r,h=>by
  unfold bG at h;obtain⟨⟨nm,az,r1⟩,h1,h⟩:=dJ.1 h;obtain⟨e1,e2⟩:=vO h1;split at h
  ·rename_i hp;obtain⟨q,hq⟩:=EJ.1 hp;simp only[di,eS] at h;obtain⟨rfl,rfl⟩:=h;simp only at hq;subst hq;simp[Tree.wt,rF,dE] at *;omega
  obtain⟨r2,h2,h⟩:=dJ.1 h;obtain⟨⟨ks,r3⟩,h3,h⟩:=dJ.1 h;obtain⟨r4,h4,h⟩:=bR.1 h;simp only[eS] at h;obtain⟨rfl,rfl⟩:=h;have k1:=gQ h2;have k2:=vP (l9 d) _ _ _ _ (eM _) h3;have k3:=QP h4;simp[Tree.wt,rF] at *;omega
def vQ (c:UInt8):Oq c=akP c:=by
 unfold Oq akP;rw[Bb];simp only[D0,EI,D5,de,dj,Gj];show _↔97≤c.toNat∧c.toNat≤122;omega
def mF (s:Bs):named s=true↔(∀c∈s,akP c=true)∧s≠[]∧s.length≤8:=by
 simp only[named,de,yq,dj,vQ];constructor
 ·rintro⟨h1,h2,h3⟩;exact⟨h1,by rintro rfl;simp at h2,tM⟩
 rintro⟨h1,h2,h3⟩;have:=M0.2 h2;exact⟨h1,tM,tM⟩
theorem kv {p:UInt8→Bool}:∀(s r:Bs),(∀c∈s,p c=true)→(∀c q,r=c::q→p c=false)→(s++r).takeWhile p=s∧(s++r).dropWhile p=r
 |[],r,_,h=>by
  cases r with
  |nil=>simp
  |cons c q=>simp[h c q rfl]
 |c::s,r,h1,h2=>by
  have h:=kv s r (fun x hx=>h1 x (by simp[hx])) h2;simp[h1 c N7,h.1,h.2]
def mG {n r:Bs} (hn:named n=true) (hr:∀c q,r=c::q→akP c=false):l6 (n++r)=some (n,r):=by
 obtain⟨h1,h2,h3⟩:=(mF n).1 hn;obtain⟨e1,e2⟩:=kv n r h1 hr;unfold l6;simp only[e1,e2];rw[cY (by rintro(h|h);exact h2 h;omega)]
def gR (p r:Bs):iA p (p++r)=some r:=by
 unfold iA;rw[eE (EJ.2 ⟨r,rfl⟩)];simp
def pq {s:Bs} (h:plain s=true):s.all dI=true:=by
 simp only[plain,de] at h;exact h.1
def ar1 {a:Attr} {r:Bs} (hn:named a.name=true) (hv:plain a.val=true):l7 (a.name++([61,34]++(fG true a.val++([34]++r))))=some (a,r):=by
 unfold l7;rw[mG hn (by intro c q h;simp only[List.cons_append,yn] at h;rw[←h.1];rfl)];simp only[eQ];rw[gR];simp only[eQ];rw[mD true a.val _ (pq hv) (by intro c q h;simp only[List.cons_append,yn] at h;exact .inr ⟨h.1.symm,rfl⟩)];simp only[eQ];rw[gR];rfl
theorem oh:∀(az:List Attr) (r:Bs),(∀a∈az,named a.name=true∧plain a.val=true)→(∀c q,r=c::q→c=62∨c=47)→ea (akW az++r)=some (az,r)
 |[],r,_,hr=>by
  have hd:r.dropWhile isSp=r:=by
   cases r with
   |nil=>rfl
   |cons c q=>rcases hr c q rfl with rfl|rfl<;>rfl
  rw[ea];simp only[akW,Ke,List.nil_append,hd];rw[cY (by simp[iL])]
 |a::az,r,ha,hr=>by
  have hn:=ha a N7;obtain⟨h1,h2,h3⟩:=(mF a.name).1 hn.1;have e:akW (a::az)++r=32::(a.name++([61,34]++(fG true a.val++([34]++(akW az++r))))):=by simp[akW,iK]
  obtain⟨c,q,hc⟩:∃c q,a.name=c::q:=by cases hx:a.name with
   |nil=>exact absurd hx h2
   |cons c q=>exact⟨c,q,rfl⟩
  have vR:akP c=true:=h1 c (by rw[hc];simp);have wu:isSp c=false:=by
   simp only[akP,de,dj,Gj] at vR;simp only[isSp,EI,A8];constructor<;>(rintro rfl;revert vR;decide)
  have Vi:(c==62)=false∧(c==47)=false:=by
   simp only[akP,de,dj,Gj] at vR;simp only[A8];constructor<;>(rintro rfl;revert vR;decide)
  have hd:(32::(a.name++([61,34]++(fG true a.val++([34]++(akW az++r)))))).dropWhile isSp=a.name++([61,34]++(fG true a.val++([34]++(akW az++r)))):=by
   rw[List.dropWhile_cons_of_pos (by rfl),hc];simp[wu]
  rw[e,ea,hd,eE (by
   unfold iL;rw[hc];simp only[List.cons_append,Vi.1,Vi.2];simp)]
  split
  ·rename_i a' q' h4;rw[ar1 hn.1 hn.2] at h4;simp only[di,eS] at h4;obtain⟨rfl,rfl⟩:=h4;rw[oh az r (fun x hx=>ha x (by simp[hx])) hr];rfl
  rename_i h4;rw[ar1 hn.1 hn.2] at h4;cases h4

def mH (a:UInt8):¬a<a:=by rw[NH];omega
def yi {a b c:UInt8} (h:a<b) (h2:b<c):a<c:=by rw[NH] at *;omega
def yj (a b:UInt8):a<b∨a=b∨b<a:=by
 simp only[NH];rcases Nat.lt_trichotomy a.toNat b.toNat with h|h|h
 ·exact .inl h
 ·exact .inr (.inl (Pf h))
 exact .inr (.inr h)
theorem qq:∀x:Bs,Op.bytesLess x x=false
 |[]=>rfl
 |a::x=>by simp[Op.bytesLess,mH,qq x]
theorem rG:∀{x y z:Bs},Op.bytesLess x y=true→Op.bytesLess y z=true→Op.bytesLess x z=true
 |[],[],_,h,_=>by simp[Op.bytesLess] at h
 |[],_::_,[],_,h=>by simp[Op.bytesLess] at h
 |[],_::_,_::_,_,_=>rfl
 |_::_,[],_,h,_=>by simp[Op.bytesLess] at h
 |_::_,_::_,[],_,h=>by simp[Op.bytesLess] at h
 |a::x,b::y,c::z,h1,h2=>by
  simp only[Op.bytesLess,Be,dj,de,yt] at h1 h2 ⊢;rcases h1 with h1|⟨rfl,h1⟩
  ·rcases h2 with h2|⟨rfl,h2⟩
   ·exact .inl (yi h1 h2)
   exact .inl h1
  rcases h2 with h2|⟨rfl,h2⟩
  ·exact .inl h2
  exact .inr ⟨rfl,rG h1 h2⟩
def ny {x y:Bs} (h:Op.bytesLess x y=true):Op.bytesLess y x=false:=by
 cases h2:Op.bytesLess y x with
 |false=>rfl
 |true=>have:=rG h h2;rw[qq] at this;cases this
theorem tl:∀x y:Bs,Op.bytesLess x y=true∨x=y∨Op.bytesLess y x=true
 |[],[]=> .inr (.inl rfl)
 |[],_::_=> .inl rfl
 |_::_,[]=> .inr (.inr rfl)
 |a::x,b::y=>by
  simp only[Op.bytesLess,Be,dj,de,yt,yn];rcases yj a b with h|rfl|h
  ·exact .inl (.inl h)
  ·rcases tl x y with h|rfl|h
   ·exact .inl (.inr ⟨rfl,h⟩)
   ·exact .inr (.inl ⟨rfl,rfl⟩)
   exact .inr (.inr (.inr ⟨rfl,h⟩))
  exact .inr (.inr (.inl h))
def l_:List Attr→Bool
 |[]=>true
 |[_]=>true
 |a::b::r=>Op.bytesLess a.name b.name&&l_ (b::r)
def kb (a:Attr) (l:List Attr) (i:Nat):dr (a::l) (i+1)=(dr l i&&(if i=0 then match l[0]? with|some b=>Op.bytesLess a.name b.name|none=>true else true)):=by
 unfold dr;cases i with
 |zero=>
  simp only[GA,bM,nc,yr,ku];cases l[0]?<;>simp[Bool.and_assoc]
 |succ i=>
 simp only[GA,nc];cases l[i+1]?<;>simp
def iM (az:List Attr):bP az=true↔(∀a∈az,named a.name=true∧plain a.val=true)∧l_ az=true∧az.length≤4:=by
 have key:∀az:List Attr,(∀i,i<az.length→dr az i=true)↔(∀a∈az,named a.name=true∧plain a.val=true)∧l_ az=true:=by
  intro az;induction az with
  |nil=>simp[l_]
  |cons a l ih=>
  constructor
  ·intro h;have h0:=h 0 N7;have Kl:=ih.1 fun i hi=>by
    have:=h (i+1) (by simpa using hi);rw[kb,de] at this;exact this.1
   simp only[dr,yr,de] at h0;refine⟨fun x hx=> ?_,?_⟩
   ·simp only[dU] at hx;rcases hx with rfl|hx
    ·exact⟨h0.1,h0.2.1⟩
    exact Kl.1 x hx
   cases l with
   |nil=>rfl
   |cons b r=>
   have:=h 1 N7;rw[kb,de] at this;simp only[l_,de];exact⟨by simpa using this.2,Kl.2⟩
  rintro⟨h1,h2⟩ i hi;have hl:∀i,i<l.length→dr l i=true:=ih.2 ⟨fun x hx=>h1 x (by simp[hx]),by
   cases l with
   |nil=>rfl
   |cons b r=>simp only[l_,de] at h2;exact h2.2⟩
  cases i with
  |zero=>simp[dr,(h1 a N7).1,(h1 a N7).2]
  |succ i=>
  rw[kb,hl i (by simpa using hi)];cases l with
  |nil=>simp at hi
  |cons b r=>
  simp only[l_,de] at h2;by_cases e:i=0
  ·simp[e,h2.1]
  simp[e]
 unfold bP;rw[de,yq,←and_assoc,←key];constructor
 ·rintro⟨h1,h2⟩;simp only[dj] at h2;exact⟨fun i hi=>h1 i (by simpa using hi),tM⟩
 rintro⟨h1,h2⟩;exact⟨fun i hi=>h1 i (by simpa using hi),by simp only[dj];omega⟩
theorem ZH:∀{a:Attr} {l:List Attr},l_ (a::l)=true→∀b∈l,Op.bytesLess a.name b.name=true
 |_,[],_,b,hb=>by simp at hb
 |a,c::r,h,b,hb=>by
  simp only[l_,de] at h;simp only[dU] at hb;rcases hb with rfl|hb
  ·exact h.1
  exact rG h.1 (ZH h.2 b hb)
def vS {a:Attr} {l:List Attr} (h:l_ (a::l)=true):l_ l=true:=by
 cases l with
 |nil=>rfl
 |cons b r=>simp only[l_,de] at h;exact h.2
theorem pt {a:Attr}:∀(l:List Attr),(∀b∈l,Op.bytesLess b.name a.name=true)→gF l a=l++[a]
 |[],_=>rfl
 |b::r,h=>by
  unfold gF;rw[cY (by rw[ny (h b N7)];simp),pt r (fun c hc=>h c (by simp[hc]))];rfl
theorem pw:∀(l acc:List Attr),l_ l=true→(∀a∈l,∀b∈acc,Op.bytesLess b.name a.name=true)→l.foldl gF acc=acc++l
 |[],acc,_,_=>by simp
 |a::r,acc,h,hb=>by
  simp only[Bw];rw[pt acc (hb a N7),pw r _ (vS h)]
  ·simp
  intro x hx b E5;simp only[eR,bY] at E5;rcases E5 with E5|rfl
  ·exact hb x (by simp[hx]) b E5
  exact ZH h x hx
def vT {l:List Attr} (h:l_ l=true):cu l=l:=by unfold cu;rw[pw l [] h N7];simp
def px {s r:Bs} {az:List Attr} (hn:named s=true) (ha:bP az=true) (hr:∀c q,r=c::q→c=62∨c=47) (I_:r≠[]):kO ([60]++(s++(akW az++r)))=some (s,az,r):=by
 unfold kO;rw[gR];simp only[eQ];rw[mG hn]
 ·simp only[eQ];rw[oh az r ((iM az).1 ha).1 hr];rfl
 intro c q h;cases az with
 |nil=>
  simp only[akW,Ke,List.nil_append] at h;rcases hr c q h with rfl|rfl<;>rfl
 |cons a az=>
 simp only[akW,Bc,iK,List.cons_append,yn] at h;rw[←h.1];rfl
def tm {s r:Bs} (hn:named s=true):ka s ([60,47]++(s++([62]++r)))=some r:=by
 unfold ka;rw[gR];simp only[eQ];rw[mG hn (by intro c q h;simp only[List.cons_append,yn] at h;rw[←h.1];rfl)];simp only[eQ,ku];have:([62]++r:Bs).dropWhile isSp=[62]++r:=rfl;rw[this,gR]
def yk {v:Bool} {s:Bs} {c:UInt8} {q:Bs} (h:fG v s=c::q):c≠60:=by
 cases s with
 |nil=>simp[fG] at h
 |cons d s=>
 simp only[fG,Bc] at h;unfold jQ at h;split at h
 ·simp only[qH,List.cons_append,yn] at h;rw[←h.1];decide
 rename_i h1;split at h
 ·simp only[rC,List.cons_append,yn] at h;rw[←h.1];decide
 split at h
 ·simp only[kD,List.cons_append,yn] at h;rw[←h.1];decide
 split at h
 ·simp only[jc,List.cons_append,yn] at h;rw[←h.1];decide
 simp only[List.cons_append,yn] at h;rw[←h.1];exact h1
def Sy (v:Bool) (c:UInt8):jQ v c≠[]:=by
 unfold jQ;split
 ·decide
 split
 ·decide
 split
 ·decide
 split
 ·decide
 simp
def D6 {v:Bool} {s:Bs} (h:s≠[]):fG v s≠[]:=by
 cases s with
 |nil=>exact absurd rfl h
 |cons c s=>
 simp only[fG,Bc];intro e;exact Sy v c (mb.1 e).1
mutual
theorem mY:∀(x:Tree) (d:Nat) (r:Bs),x.fu=true→x.text=false→x.dep≤d→bG d (x.sh++r)=some (x,r)
 | .mk t s az ks,0,r,_,_,hd=>by simp[Tree.dep] at hd
 | .mk t s az ks,d+1,r,hf,ht,hd=>by
  simp only[Tree.text] at ht;subst ht;have BQ:=hf;rw[Tree.Pa _ rfl] at BQ;simp only[Tree.s,Tree.attrs,Tree.kids,de] at BQ;obtain⟨h1,h2,h3⟩:=BQ;have hs:=vT ((iM az).1 h2).2.1;simp only[Tree.dep] at hd;rw[Tree.QO _ rfl];simp only[Tree.s,Tree.attrs,Tree.kids];unfold bG;by_cases hk:ks=[]
  ·subst hk;have e:60::s++akW az++nj s []++r=[60]++(s++(akW az++([47,62]++r))):=(by simp[nj]);rw[e,px h1 h2 (by intro c q h;simp only[List.cons_append,yn] at h;exact .inr h.1.symm) N7];simp only[eQ,hs];rw[eE Qu];rfl
  have e:60::s++akW az++nj s ks++r=[60]++(s++(akW az++([62]++(je ks++([60,47]++(s++([62]++r))))))):=by rw[qp s hk];simp
  rw[e,px h1 h2 (by intro c q h;simp only[List.cons_append,yn] at h;exact .inl h.1.symm) N7];simp only[eQ,hs];rw[cY Qu];rw[gR];simp only[eQ];rw[rH ks none d ([60,47]++(s++([62]++r))) h3 tM (by intro c q h;simp only[List.cons_append,yn] at h;exact h.1.symm) Qu];simp only[eQ];rw[tm h1];rfl
theorem rH:∀(ks:List Tree) (p:Option Bool) (d:Nat) (r:Bs),bQ p ks=true→fB ks≤d→(∀c q,r=c::q→c=60)→(r=[]∨[60,47].isPrefixOf r=true)→dM (bG d) (je ks++r)=some (ks,r)
 |[],p,d,r,_,_,_,hr=>by
  simp only[je,List.nil_append];cases r with
  |nil=>rw[dM]
  |cons c q=>
  rw[dM,eE (by rcases hr with hr|hr;simp at hr;exact hr)]
 |x::ks,p,d,r,hf,hd,hc,hr=>by
  simp only[bQ,de] at hf;obtain⟨h1,h2,h3⟩:=hf;simp only[fB] at hd;have ih:=rH ks (some x.text) d r h3 tM hc hr;have e:je (x::ks)++r=x.sh++(je ks++r):=by simp[je]
  rw[e];cases hx:x.text with
  |false=>
   have he:=mY x d (je ks++r) h1 hx tM;have hl:=l9 d _ _ _ he;have hw:=x.gx;have hn:named x.s=true:=by
    rw[x.Pa hx] at h1;simp only[de] at h1;exact h1.1
   obtain⟨n1,n2,n3⟩:=(mF x.s).1 hn;obtain⟨c,q,hq⟩:∃c q,x.s=c::q:=by cases hx:x.s with
    |nil=>exact absurd hx n2
    |cons c q=>exact⟨c,q,rfl⟩
   have vR:akP c=true:=n1 c (by rw[hq];simp);have HE:c≠47:=(by rintro rfl;revert vR;decide);obtain⟨q',oX⟩:∃q',x.sh++(je ks++r)=60::c::q':=(by rw[x.QO hx,hq];simp);rw[oX] at he hl ⊢;rw[dM,cY (by simp[List.isPrefixOf,yd HE]),eE rfl,he];simp only;rw[OM tM,ih];rfl
  |true=>
  rw[x.oa hx] at h1;simp only[de,sd,yt,ye] at h1;obtain⟨g1,g2,g3,g4⟩:=h1;have Lu:∀c q,je ks++r=c::q→c=60:=by
   intro c q h;cases ks with
   |nil=>exact hc c q h
   |cons y ks=>
   simp only[bQ,de] at h3;have hy:y.text=false:=by
    have:=h3.2.1;rw[hx] at this;simpa using this
   simp only[je,y.QO hy,List.cons_append,yn] at h;exact h.1.symm
  have ht:=mD false x.s (je ks++r) (pq g1) (fun c q h=> .inl (Lu c q h));rw[x.yh hx];obtain⟨c,q,hq⟩:∃c q,fG false x.s=c::q:=by cases hx:fG false x.s with
   |nil=>exact absurd hx (D6 g2)
   |cons c q=>exact⟨c,q,rfl⟩
  have GC:=yk hq;have Hv:x=Tree.mk true x.s [] []:=Tree.ext hx rfl g3 g4;rw[hq] at ht ⊢;simp only[List.cons_append] at ht ⊢;rw[dM,cY (by simp[List.isPrefixOf,yd GC]),cY GC,ht];simp only[bT];rw[OM PJ,ih];simp only[bT];rw[←Hv]
end

def ym (sz b d k:Nat) (xs ys:List IV) {n:Nat} {H:Hp} (hl:H (.loc k)= .live ⟨sz,aB xs⟩) (hn:xs.length=n) (he:jV sz ys) (hf:Flat ys) (hb:(n+ys.length)*b≤140737488355328) (h0:0<b)
  (Vi:k≠d) (hu:H (.loc d)= .unused) :
  jN sz b d (.sl (.loc k) sz 0 n) (.list ys) H=some (.sl (.loc d) sz 0 (n+ys.length),bD (bD H (.loc k) .dead) (.loc d) (.live ⟨sz,aB (xs++ys)⟩)):=by
 have h1:(aB xs).length=n:=by rw[lQ,hn]
 rw[s_ (l:= .loc k) (els:=aB xs) hl tM he hf hb h0 (by simpa[Lb.app,Lb.fresh] using Vi) (by simpa[Lb.app,Lb.fresh] using hu)];simp only[Lb.app,Lb.fresh,ku];rw[eN tM,lR]

mutual
def Py (X:Lb→Option (Nat×List IV)):AV→AV
 | .sl l sz i n=>match X l with
  |some (s,xs)=>if s=sz∧i+n≤xs.length then .list ((xs.drop i).take n) else .sl l sz i n
  |none=> .sl l sz i n
 | .agg cs=> .agg (Ol X cs)
 | .gf cs=> .gf (Ol X cs)
 |x=>x
def Ol (X:Lb→Option (Nat×List IV)):List AV→List AV
 |[]=>[]
 |x::r=>Py X x::Ol X r
end
def Pz (X:Lb→Option (Nat×List IV)) (H:Hp):Hp:=fun l=>match X l with
 |some _=> .dead
 |none=>match H l with
  | .live r=> .live ⟨r.sz,r.els.map (Ol X)⟩
  |s=>s
theorem Qn (X:Lb→Option (Nat×List IV)):∀xs,(Ol X xs).length=xs.length
 |[]=>rfl
 |x::r=>by simp[Ol,Qn X r]
theorem Qo (X:Lb→Option (Nat×List IV)):∀(xs:List AV) (i:Nat),(Ol X xs)[i]?=xs[i]?.map (Py X)
 |[],i=>by simp[Ol]
 |x::r,0=>by simp[Ol]
 |x::r,i+1=>by simp[Ol,Qo X r]
mutual
theorem Rq (X:Lb→Option (Nat×List IV)):∀(x:AV) (l:Lb),l∈(Py X x).an→l∈x.an
 | .sl q sz i n,l,h=>by
  simp only[Py] at h;split at h
  ·split at h
   ·simp[AV.an] at h
   exact h
  exact h
 | .agg cs,l,h=>by simp only[Py,AV.an] at h ⊢;exact O3 X cs l h
 | .gf cs,l,h=>by simp only[Py,AV.an] at h ⊢;exact O3 X cs l h
 | .slk ..,l,h| .ptr ..,l,h| .any,l,h| .un,l,h| .bool _,l,h| .int ..,l,h| .str _,l,h| .list _,l,h| .jK,l,h| .nil0,l,h| .iT,l,h| .lptr _,l,h| .fn ..,l,h| .ifc ..,l,h| .mis _,l,h=>h
theorem O3 (X:Lb→Option (Nat×List IV)):∀(xs:List AV) (l:Lb),l∈ah (Ol X xs)→l∈ah xs
 |[],l,h=>h
 |x::r,l,h=>by
  simp only[Ol,ah,eR] at h ⊢;exact h.imp (Rq X x l) (O3 X r l)
end
def O4 {X:Lb→Option (Nat×List IV)} {H:Hp} {l:Lb} {r:Row} (h:Pz X H l= .live r):X l=none∧∃r0,H l= .live r0∧r=⟨r0.sz,r0.els.map (Ol X)⟩:=by
 unfold Pz at h;split at h
 ·cases h
 rename_i e;split at h
 ·rename_i r0 h0;simp only[Slot.live.injEq] at h;exact⟨e,r0,h0,h.symm⟩
 rename_i hn;exact absurd h (hn r)
def PA {X:Lb→Option (Nat×List IV)} {H:Hp} {l:Lb} (h:H l≠ .unused):Pz X H l≠ .unused:=by
 unfold Pz;split
 ·simp
 split
 ·simp
 exact h
section
variable {K:Kx} {β:Lb→Option Nat} {env:Env} {H:Hp} {a:Act} {w:World} {X:Lb→Option (Nat×List IV)}
def OB (l:Lb) (h:live (Pz X H) l):live H l:=by
 obtain⟨r,h⟩:=h;obtain⟨_,r0,h0,_⟩:=O4 h;exact⟨r0,h0⟩
def O5 (ls:List Lb):ND w w β β H (Pz X H) (Im K β H) (Im K β (Pz X H)) ls:=
 ⟨⟨fun k hk hs=>⟨⟨hk.1,fun l hl=>hk.2 l (OB l hl)⟩,hs,rfl⟩⟩,fun l _ hl=>⟨OB l hl,rfl,fun _ _ _ h=>h⟩⟩
mutual
theorem aeh (hr:aH K β env H a w) (hX:∀l sz xs,X l=some (sz,xs)→H l= .live ⟨sz,aB xs⟩∧l.fresh=true∧Flat xs):∀(x:AV) (v:Value),RV w β H (Im K β H) x v→RV w β (Pz X H) (Im K β (Pz X H)) (Py X x) v
 | .sl l sz i n,v,h=>by
  simp only[Py];split
  ·rename_i s xs e;split
   ·rename_i hc;obtain⟨rfl,qB⟩:=hc;obtain⟨h1,h2,h3⟩:=hX l _ _ e;have h4:=xf hr h1 h2 qB h3 h;simp only[RV] at h4 ⊢;refine NN.mono ⟨fun k hk hs=>⟨⟨hk.1,fun q hq=>hk.2 q ?_⟩,hs,rfl⟩⟩ _ _ h4;obtain⟨r,hq⟩:=hq;obtain⟨q1,r0,q2,_⟩:=O4 hq;refine⟨r0,?_⟩;rw[aq _ _ (by rintro rfl;rw[e] at q1;cases q1)];exact q2
   exact RV.mono _ _ (O5 _) h
  exact RV.mono _ _ (O5 _) h
 | .agg cs,v,h=>by
  simp only[Py,RV] at h ⊢;obtain⟨vs,rfl,h1⟩:=h;exact⟨vs,rfl,QR hr hX cs vs h1⟩
 | .gf cs,v,h=>by
  simp only[Py,RV] at h ⊢;obtain⟨vs,rfl,h1⟩:=h;exact⟨vs,rfl,QR hr hX cs vs h1⟩
 | .slk ..,v,h| .ptr ..,v,h| .any,v,h| .un,v,h| .bool _,v,h| .int ..,v,h| .str _,v,h| .list _,v,h| .jK,v,h| .nil0,v,h| .iT,v,h| .lptr _,v,h| .fn ..,v,h| .ifc ..,v,h| .mis _,v,h=>RV.mono _ _ (O5 _) h
theorem QR (hr:aH K β env H a w) (hX:∀l sz xs,X l=some (sz,xs)→H l= .live ⟨sz,aB xs⟩∧l.fresh=true∧Flat xs):∀(xs:List AV) (vs:List Value),br w β H (Im K β H) xs vs→br w β (Pz X H) (Im K β (Pz X H)) (Ol X xs) vs
 |[],vs,h=>h
 |x::r,vs,h=>by
  simp only[Ol,br] at h ⊢;obtain⟨v,us,rfl,h1,h2⟩:=h;exact⟨v,us,rfl,aeh hr hX x v h1,QR hr hX r us h2⟩
end
def aH.fz (hr:aH K β env H a w) (hX:∀l sz xs,X l=some (sz,xs)→H l= .live ⟨sz,aB xs⟩∧l.fresh=true∧Flat xs) {env2:Env} (he:∀n,env2 n= .any∨env2 n=Py X (env n)):aH K β env2 (Pz X H) a w where
 defers:=hr.defers
 size:=hr.size
 N8 n:=by
  rcases he n with e|e
  ·rw[e];simp[RV]
  rw[e];exact aeh hr hX _ _ (hr.N8 n)
 rows l r hl:=by
  obtain⟨_,r0,h0,rfl⟩:=O4 hl;obtain⟨h1,h2,h3⟩:=hr.rows l r0 h0;refine⟨h1,?_,?_⟩
  ·intro cs bV;obtain⟨c0,BZ,rfl⟩:=pb.1 bV;rw[Qn];exact h2 c0 BZ
  cases hb:β l with
  |none=>rw[hb] at h3;simp only at h3;simp[h3]
  |some g=>
  rw[hb] at h3;simp only at h3 ⊢;obtain⟨cur,e,cap,e1,e2,e3,e4,e5⟩:=h3;refine⟨cur,e,cap,e1,e2,e3,by simpa using e4,?_⟩;intro i j cs x hi hj;rw[cn,bR] at hi;obtain⟨c0,hi,rfl⟩:=hi;rw[Qo,bR] at hj;obtain⟨x0,hj,rfl⟩:=hj;obtain⟨v,k1,k2⟩:=e5 i j c0 x0 hi hj;exact⟨v,k1,aeh hr hX _ _ k2⟩
 own l g hl:=hr.own l g (OB l hl)
 inj l l' g hl kR:=hr.inj l l' g (OB l hl) (OB l' kR)
 eI n l hl:=by
  rcases he n with e|e
  ·rw[e] at hl;simp[AV.an] at hl
  rw[e] at hl;exact PA (hr.eI n l (Rq X _ l hl))
 cH l r hl cs bV q hq:=by
  obtain⟨_,r0,h0,rfl⟩:=O4 hl;obtain⟨c0,BZ,rfl⟩:=pb.1 bV;exact PA (hr.cH l r0 h0 c0 BZ q (O3 X _ q hq))
 frame:=hr.frame
 W5 g cs hg:=by
  obtain⟨h1,h2,h3⟩:=hr.W5 g cs hg;have hk:=(O5 (K:=K) (β:=β) (H:=H) (X:=X) (w:=w) []).toW4;exact⟨(hk.im g h1 h2).1,h2,da.mono hk h1 h2 h3⟩
 gA l hl:=⟨PA (hr.gA l hl).1,fun h=>(hr.gA l hl).2 (OB l h)⟩
 fr l g hl:=hr.fr l g (OB l hl)
end
def Rz {S:St} {env:Env} {H:Hp} (X:Lb→Option (Nat×List IV)) (hX:∀l sz xs,X l=some (sz,xs)→H l= .live ⟨sz,aB xs⟩∧l.fresh=true∧Flat xs) {env2:Env}
  (he:∀n,env2 n= .any∨env2 n=Py X (env n)):nQ S env H env2 (Pz X H):=
 fun K β a w _ _ hr=>⟨β,hr.fz hX he⟩
def nQ.trans {S:St} {env env2 GD:Env} {H H2 H3:Hp} (h1:nQ S env H env2 H2) (h2:nQ S env2 H2 GD H3):nQ S env H GD H3:=fun K β a w e hf hr=>by
 obtain⟨β',lz⟩:=h1 K β a w e hf hr;exact h2 K β' a w e hf lz
def PB {X:Lb→Option (Nat×List IV)} {H:Hp} {l:Lb} {r:Row} (h:X l=none) (hl:H l= .live r):Pz X H l= .live ⟨r.sz,r.els.map (Ol X)⟩:=by simp[Pz,h,hl]

def aej (n:Int):(xX n).cells=[.int .i64 n]:=rfl

structure My (x:Tree) where
 d:List Node
 l:List (Tree×Int)
 hw:whole d l=lW x
 hp:∀y∈l,y.2<(d.length:Int)
 hc:d.length+dP (l.map Prod.fst)=x.jz
 hb:dE (l.map Prod.fst)≤B
 hk:∀y∈d,y.kids.length≤d.length

def amd (akY:Nat):AC:=
(aM [zzX 2 0,zzX 3 1,jM 4 false] (.seq (aM [ep 7 2 0,fm 8 7,ep 9 3 0,fm 10 9,aQ 11 (.eqb true (.t 8) (.t 10)),MR 12 11,oH 13 12 2 1,oG 14 12 13,oH 15 12 3 1,oG 16 12 15,iR 17 12 (.bin .neq (.t 14) (.t 16)),sj 18 12 17,MR 19 18,oH 20 19 2 2,oG 21 19 20,iR 22 19 (.len (.t 21)),oH 23 19 3 2,oG 24 19 23,iR 25 19 (.len (.t 24)),iR 26 19 (.bin .neq (.t 22) (.t 25)),sj 27 19 26,MR 28 27,oH 29 28 2 3,oG 30 28 29,iR 31 28 (.len (.t 30)),oH 32 28 3 3,oG 33 28 32,iR 34 28 (.len (.t 33)),iR 35 28 (.bin .neq (.t 31) (.t 34)),sj 36 28 35] (.cond (.t 36) (aM [jM 4 false] .ret) .skip)) (.seq (aM [ep 37 2 2,fm 38 37,oy 39 38,gH 40 0] (.block 0 (.loop (aM [et 41 .lss 40 39] (.seq (.cond (.t 41) .skip (.exit 0)) (.seq (.block 1 (aM [MR 42 40,MR 5 42] (.seq (.VL [ep 43 2 2,fm 44 43,MR 45 5,jL 46 44 45 2,gz 47 2 46,ep 48 3 2,fm 49 48,MR 50 5,jL 51 49 50 2,gz 52 2 51,aQ 53 (.pM true [.s,.s] (.t 47) (.t 52))] [[],[0],[],[1,2],[3],[],[5],[],[6,7],[8],[4,9]] [.no,.rw [.loc 2] [],.no,.no,.no,.no,.rw [.loc 3] [],.no,.no,.no,.no]) (.cond (.t 53) (aM [jM 4 false] .ret) .skip)))) (.cq [eY 54 .add 40 1,MR 40 54]))))))) (.seq (aM [ep 55 2 3,fm 56 55,oy 57 56,gH 58 0] (.block 2 (.loop (aM [et 59 .lss 58 57] (.seq (.cond (.t 59) .skip (.exit 2)) (.seq (.block 3 (aM [MR 60 58,MR 6 60] (.seq (.VL [ep 61 2 3,fm 62 61,MR 63 6,jL 64 62 63 4,gz 65 4 64,ep 66 3 3,fm 67 66,MR 68 6,jL 69 67 68 4,gz 70 4 69,aQ 71 (.call akY [(.t 65),(.t 70)]),sB 72 71] [[],[0],[],[1,2],[3],[],[5],[],[6,7],[8],[4,9],[10]] [.no,.rw [.loc 2] [],.no,.no,.no,.no,.rw [.loc 3] [],.no,.no,.no,.no,.no]) (.cond (.t 72) (aM [jM 4 false] .ret) .skip)))) (.cq [eY 73 .add 58 1,MR 58 73]))))))) (aM [jM 4 true] .ret)))))
def ano (x y:Tree):List (Nat×AV):=[(2,.ptr (.loc 2) 4 0 0),(3,.ptr (.loc 3) 4 0 0)]
def anp (x y:Tree):List (Lb×Row):=[(.loc 3,⟨4,[[.bool y.text,.str y.s,.list (cD y.attrs),.list (dq y.kids)]]⟩),(.loc 2,⟨4,[[.bool x.text,.str x.s,.list (cD x.attrs),.list (dq x.kids)]]⟩)]
def aoV {P:Program} {G:Nat→Option (List IV)} {akY:Nat} (hF:aw P G akY=some (74,[(none,4)],(amd akY).bare)) (x y:Tree) (hx:x.attrs.length≤B) (hk:x.kids.length≤B)
  (hS:∀a∈x.kids,∀b∈y.kids,au P G akY [a.av,b.av] (.bool (P2 a b))):au P G akY [x.av,y.av] (.bool (P2 x y)):=by
 refine aR hF N7 P6 Pv ?_;unfold amd;simp only[↓aX,mX,seval,Tree.av];by_cases h1:x.text=y.text
 case neg=>
  have e1:(x.text==y.text)=false:=by simpa using h1
  have:x≠y:=fun e=>h1 (by rw[e]);simp only[e1,↓aX,mX,seval,NJ this]
 have e1:(x.text==y.text)=true:=by rw[h1];simp
 simp only[e1,↓aX,mX,seval];by_cases h2:x.s=y.s
 case neg=>
  have e2:(x.s==y.s)=false:=by simpa using h2
  have:x≠y:=fun e=>h2 (by rw[e]);simp only[e2,↓aX,mX,seval,NJ this]
 have e2:(x.s==y.s)=true:=by rw[h2];simp
 simp only[e2,↓aX,mX,seval,bp];by_cases h3:x.attrs.length=y.attrs.length
 case neg=>
  rw[show((x.attrs.length:Int) !=(y.attrs.length:Int))=true by simp;omega];have:x≠y:=fun e=>h3 (by rw[e]);simp only[↓aX,mX,seval,NJ this]
 rw[show((x.attrs.length:Int) !=(y.attrs.length:Int))=false by simp[h3]];simp only[↓aX,mX,seval,bF];by_cases h4:x.kids.length=y.kids.length
 case neg=>
  rw[show((x.kids.length:Int) !=(y.kids.length:Int))=true by simp;omega];have:x≠y:=fun e=>h4 (by rw[e]);simp only[↓aX,mX,seval,NJ this]
 rw[show((x.kids.length:Int) !=(y.kids.length:Int))=false by simp[h4]];simp only[↓aX,mX,seval,bp];refine ca (σ:={i:Nat // i≤x.attrs.length∧∀j,j<i→x.attrs[j]?=y.attrs[j]?}) [.loc 3,.loc 2] (fun q=>ano x y++[(39,.int .i64 x.attrs.length),(40,.int .i64 q.1)])
  (fun _=>anp x y) (fun q=>x.attrs.length - q.1) ⟨0,N7⟩ (fun _=>rfl) Pr (by simp[ah,AV.an,ano]) (by simp[ah,AV.an,anp]) ?_ ?_
 ·exact eL Qf (by(try simp only[ano,List.cons_append,List.nil_append]);repeat' constructor) (by(try simp only[anp]);repeat' constructor)
 rintro⟨i,hi,hs⟩;simp only[↓aX,mX,seval,ano,anp,List.cons_append,List.nil_append,cF,bW];by_cases bI:i<x.attrs.length
 ·rw[show decide ((i:Int)<(x.attrs.length:Int))=true by simpa using bI];obtain⟨a,ha⟩:∃a,x.attrs[i]?=some a:=⟨_,bS bI⟩;obtain⟨b,hb⟩:∃b,y.attrs[i]?=some b:=⟨_,bS (h3▸bI)⟩;have hw:IntKind.i64.wrap ((i:Int)+1)=((i+1:Nat):Int):=wrap64 tM (by unfold B at hx;omega);simp only[↓aX,mX,seval,lS,ha,hb,rq,Attr.cJ,Attr.cs,eqs,JP];refine⟨rfl,?_⟩;by_cases MO:a=b
  ·subst MO;rw[show(a.name==a.name&&a.val==a.val)=true by simp];simp only[↓aX,mX,seval,ib,Bool.true_xor,hw];exact⟨⟨i+1,bI,fun j hj=>by
    by_cases e:j=i
    ·rw[e,ha,hb]
    exact hs j tM⟩,Pq,eL Qf (by(try simp only[ano,List.cons_append,List.nil_append]);repeat' constructor) (by(try simp only[anp]);repeat' constructor)⟩
  have Vi:x≠y:=fun e=>MO (by rw[e,hb] at ha;cases ha;rfl);have Ry:(a.name==b.name&&a.val==b.val)=false:=by
   simp only[OL,A8];by_cases e1:a.name=b.name
   ·exact .inr fun e2=>MO (Attr.ext e1 e2)
   exact .inl e1
  rw[Ry];simp only[↓aX,mX,seval,fj,Bool.true_xor,NJ Vi]
 rw[show decide ((i:Int)<(x.attrs.length:Int))=false by simpa using bI];have ha:x.attrs=y.attrs:=fe fun j=>by
  by_cases hj:j<i
  ·exact hs j hj
  rw[dV tM,dV tM]
 simp only[↓aX,mX,seval,bF];refine ca (σ:={i:Nat // i≤x.kids.length∧∀j,j<i→x.kids[j]?=y.kids[j]?}) [.loc 3,.loc 2] (fun q=>ano x y++[(57,.int .i64 x.kids.length),(58,.int .i64 q.1)])
  (fun _=>anp x y) (fun q=>x.kids.length - q.1) ⟨0,N7⟩ (fun _=>rfl) Pr (by simp[ah,AV.an,ano]) (by simp[ah,AV.an,anp]) ?_ ?_
 ·exact eL Qf (by(try simp only[ano,List.cons_append,List.nil_append]);repeat' constructor) (by(try simp only[anp]);repeat' constructor)
 rintro⟨i,hi,hs⟩;simp only[↓aX,mX,seval,ano,anp,List.cons_append,List.nil_append,cF,bW];by_cases bI:i<x.kids.length
 ·rw[show decide ((i:Int)<(x.kids.length:Int))=true by simpa using bI];obtain⟨a,hka⟩:∃a,x.kids[i]?=some a:=⟨_,bS bI⟩;obtain⟨b,hkb⟩:∃b,y.kids[i]?=some b:=⟨_,bS (h4▸bI)⟩;have hw:IntKind.i64.wrap ((i:Int)+1)=((i+1:Nat):Int):=wrap64 tM (by unfold B at hk;omega);have hc:=hS a (dc hka) b (dc hkb);simp only[Tree.av] at hc;simp only[↓aX,mX,seval,iy,hka,hkb,lT,Tree.cJ,Tree.cs];refine⟨rfl,jw hc ?_⟩;by_cases MO:a=b
  ·subst MO;simp only[↓aX,mX,seval,Oh,ib,hw];exact⟨⟨i+1,bI,fun j hj=>by
    by_cases e:j=i
    ·rw[e,hka,hkb]
    exact hs j tM⟩,Pq,eL Qf (by(try simp only[ano,List.cons_append,List.nil_append]);repeat' constructor) (by(try simp only[anp]);repeat' constructor)⟩
  have Vi:x≠y:=fun e=>MO (by rw[e,hkb] at hka;cases hka;rfl);simp only[↓aX,mX,seval,NJ MO,fj,NJ Vi]
 rw[show decide ((i:Int)<(x.kids.length:Int))=false by simpa using bI];have Kq:x.kids=y.kids:=fe fun j=>by
  by_cases hj:j<i
  ·exact hs j hj
  rw[dV tM,dV tM]
 have:x=y:=Tree.ext h1 h2 ha Kq;subst this;simp only[↓aX,mX,seval,Oh]
def aoW {P:Program} {G:Nat→Option (List IV)} {akY:Nat} (hF:aw P G akY=some (74,[(none,4)],(amd akY).bare)) (x y:Tree) (hx:x.wt≤B):au P G akY [x.av,y.av] (.bool (P2 x y)):=by
 have key:=A4 (M:=fun l=>∀x∈l,∀y:Tree,x.wt≤B→au P G akY [x.av,y.av] (.bool (P2 x y))) (fun xs h x hx y hB=>by
  have h2:=jA x;have h3:=lY x;have h4:=iz x.attrs;have h5:=eZ x.kids;exact aoV hF x y tM tM fun a ha b _=>h x hx a ha b (by have:=j_ ha;omega)) [x]
 exact key x N7 y hx
end Go.Am
