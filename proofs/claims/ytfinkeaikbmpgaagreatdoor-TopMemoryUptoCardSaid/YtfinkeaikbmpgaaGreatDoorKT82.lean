import Derived.Test.YtfinkeaikbmpgaaGreatDoorKAm40
import Derived.Test.YtfinkeaikbmpgaaGreatDoorKAm33
import Derived.Test.YtfinkeaikbmpgaaGreatDoorKT21
import Derived.Test.YtfinkeaikbmpgaaGreatDoorKT16
import Derived.Test.YtfinkeaikbmpgaaGreatDoorKP2
set_option linter.unusedSimpArgs false
set_option linter.unusedVariables false
set_option linter.unnecessarySimpa false
set_option linter.defProp false
/- The bench: copies of one's own; where a number stands. -/
namespace Go.Am
open Go Go.RowKit
section
variable {P:Program} {G:Nat→Option (List IV)}
def WI:AC:=
(aM [zi 2] (.seq (aM [MR 3 0,aQ 4 (.BJ false (.t 3))] (.cond (.t 4) (aM [zi 2] (.gh (.own 2 2) .ret)) .skip)) (aM [aQ 5 (.lits 0 2 [(.str []),(.str [])] []),MR 6 0,aQ 7 (.app (.t 5) (.t 6) 2 32),MR 2 7] .ret)))
def W3:AC:=
(aM [zi 2] (.seq (aM [MR 3 0,aQ 4 (.BJ false (.t 3))] (.cond (.t 4) (aM [zi 2] (.gh (.own 2 1) .ret)) .skip)) (aM [aQ 5 (.lits 0 1 [(.int .i64 0)] []),MR 6 0,aQ 7 (.app (.t 5) (.t 6) 1 8),MR 2 7] .ret)))
def afR {iJ:Nat} (hF:aw P G iJ=some (8,[(none,2)],U8.bare)) (xs:List Attr) (hx:xs.length≤B):aa4 P G iJ [.list (cD xs)] 2 (cD xs):=by
 refine aaI (ac:=WI) hF N7 PC ?_;unfold WI;simp only[↓aX,mX,seval,ab9];refine aaW (fun h=> ?_) ?_
 ·simp only[↓aX,mX,seval];refine⟨.loc 2,?_,?_⟩
  ·rw[h];rfl
  rw[h];rfl
 simp only[↓aX,mX,seval];rw[Xp 2 32 7 (cD xs) (rq _) (nW _) (by rw[bp];unfold B at hx;omega) Pr rfl];simp only[↓aX,mX,seval];exact⟨.loc 7,rfl,PE⟩
def afS {l4:Nat} (hF:aw P G l4=some (8,[(none,2)],Wd.bare)) (xs:List Int) (hx:xs.length≤B):aa4 P G l4 [.list (xs.map xX)] 1 (xs.map xX):=by
 refine aaI (ac:=W3) hF N7 PC ?_;unfold W3;simp only[↓aX,mX,seval,ab9];refine aaW (fun h=> ?_) ?_
 ·simp only[↓aX,mX,seval];refine⟨.loc 2,?_,?_⟩
  ·rw[List.map_eq_nil_iff.1 h];rfl
  rw[h];rfl
 simp only[↓aX,mX,seval];rw[Xp 1 8 7 (xs.map xX) (YN _) (XD _) (by rw[bA];unfold B at hx;omega) Pr rfl];simp only[↓aX,mX,seval];exact⟨.loc 7,rfl,PE⟩
def Xw (xs:List Int) (v:Int):Int:=match xs.findIdx? (·==v) with|some k=>(k:Int)|none=> -1
def acZ {xs:List Int} {v:Int} {k:Nat} (h:xs[k]?=some v) (hb:∀j,j<k→xs[j]?≠some v):Xw xs v=k:=by
 have:xs.findIdx? (·==v)=some k:=by
  rw[MY];obtain⟨hk,e⟩:=bd.1 h;refine⟨hk,by simp[e],fun j hj=> ?_⟩;have h2:=hb j hj;rw[bS tM] at h2;simpa using h2
 rw[Xw,this]
def aaJ {xs:List Int} {v:Int} (h:∀j,j<xs.length→xs[j]?≠some v):Xw xs v= -1:=by
 have:xs.findIdx? (·==v)=none:=by
  rw[Np];intro x hx;obtain⟨j,hj⟩:=yl hx;have h2:=h j (bd.1 hj).1;rw[hj] at h2;simpa using h2
 rw[Xw,this]
def afT (xs:List Int) (i:Nat):(xs.map xX)[i]?=(xs[i]?).map xX:=cn ..
def ady (n:Int):(xX n).cells=[.int .i64 n]:=rfl
def VP:AC:=
(aM [gH 4 0] (.seq (aM [MR 6 0,oy 7 6,gH 8 0] (.block 0 (.loop (aM [et 9 .lss 8 7] (.seq (.cond (.t 9) .skip (.exit 0)) (.seq (.block 1 (aM [MR 10 8,MR 5 10] (aM [MR 11 1,MR 12 0,MR 13 5,jL 14 12 13 1,fm 15 14,et 16 .eql 11 15] (.cond (.t 16) (aM [MR 17 5,MR 4 17] .ret) .skip)))) (.cq [eY 18 .add 8 1,MR 8 18]))))))) (aM [aQ 4 (.iC (.c (.int .i64 (-1))))] .ret)))
def adz {akM:Nat} (hF:aw P G akM=some (19,[(none,4)],VP.bare)) (xs:List Int) (v:Int) (hx:xs.length≤B) :
  au P G akM [.list (xs.map xX),.int .i64 v] (.int .i64 (Xw xs v)):=by
 refine aR hF N7 PC Pv ?_;unfold VP;simp only[↓aX,mX,seval,bA];refine VR (σ:={i:Nat // i≤xs.length∧∀j,j<i→xs[j]?≠some v}) (fun q=>[(0,.list (xs.map xX)),(1,.int .i64 v),(7,.int .i64 xs.length),(8,.int .i64 q.1)]) (fun q=>xs.length - q.1) ⟨0,N7⟩ (fun _=>rfl) ?_ ?_
 ·exact⟨by simp only[↓aX,mX,seval],PD⟩
 rintro⟨i,hi,hs⟩;simp only[↓aX,mX,seval,bA];by_cases bI:i<xs.length
 ·rw[show decide ((i:Int)<(xs.length:Int))=true by simpa using bI];obtain⟨x,D1⟩:∃x,xs[i]?=some x:=⟨_,bS bI⟩;have hw:IntKind.i64.wrap ((i:Int)+1)=((i+1:Nat):Int):=wrap64 tM (by unfold B at hx;omega);simp only[↓aX,mX,seval,afT,D1,bT,YN,ady,hw];by_cases KW:x=v
  ·subst KW;rw[acZ D1 hs];simp only[↓aX,mX,seval]
  rw[show(v==x)=false by simpa using fun e=>KW e.symm];simp only[↓aX,mX,seval,hw];refine⟨⟨i+1,bI,fun j hj=> ?_⟩,Pq,rfl⟩;by_cases e:j=i
  ·rw[e,D1];simpa using KW
  exact hs j tM
 rw[show decide ((i:Int)<(xs.length:Int))=false by simpa using bI];simp only[↓aX,mX,seval];rw[aaJ fun j hj=>hs j tM]
end

section
variable {H:Hp} {l:Lb} {sz b d n c i m:Nat} {els news:List (List AV)} {xs:List IV}
def acp (hl:H l= .live ⟨sz,els⟩) (hn:n≤els.length) (he:jV sz xs) (hf:Flat xs) (h0:0<b) (hd:l≠ .loc d) (hc:n+xs.length≤c) (MH:n+xs.length≤els.length) :
  jN sz b d (.slk l sz 0 n c) (.list xs) H=some (.slk l sz 0 (n+xs.length) c,bD H l (.live ⟨sz,els.take n++aB xs++els.drop (n+xs.length)⟩)):=by
 unfold jN;rw[o7 he];have h1:(aB xs).length=xs.length:=lQ xs;simp only[eQ,hf.one,not_true_eq_false,nX,hl,tk,hn,h0,yd,ne_eq,hd,Na,h1,hc,MH,ku];simpa using hf.one
def abu {x:AV} (hs:al_ sz x H=some news) (ho:∀cs∈news,AV.oJ cs) (hl:H l= .live ⟨sz,els⟩) (hn:n≤els.length) (h0:0<b) (hd:l≠ .loc d) (hc:n+news.length≤c) (MH:n+news.length≤els.length) :
  jN sz b d (.slk l sz 0 n c) x H=some (.slk l sz 0 (n+news.length) c,bD H l (.live ⟨sz,els.take n++news++els.drop (n+news.length)⟩)):=by
 unfold jN;simp only[hs,eQ,hl,tk,hn,h0,ne_eq,hd,Na,hc,MH,ku];simpa using ho
def agV {x:AV} {z:List AV} (hz:AV.oJ z) (hp:EU x=some (l,sz,i,n)) (hl:H l= .live ⟨sz,els⟩) (qB:i+n≤els.length) :
  sX sz z x H=some (bD H l (.live ⟨sz,els.take i++List.replicate n z++els.drop (i+n)⟩)):=by
 unfold sX;rw[cY (by simpa using hz)];simp only[hp,eQ,hl,tk,qB,ku,MS]
def abv (hl:H l= .live ⟨sz,els⟩) (hn:n≤els.length) (he:jV sz xs) (hf:Flat xs) (h0:0<b) (hd:l≠ .loc d) (hc:c<n+xs.length) (hb:(n+xs.length)*b≤140737488355328) (hu:H (.loc d)= .unused) :
  jN sz b d (.slk l sz 0 n c) (.list xs) H=some (.sl (.loc d) sz 0 (n+xs.length),bD H (.loc d) (.live ⟨sz,els.take n++aB xs⟩)):=by
 unfold jN;rw[o7 he];have h1:(aB xs).length=xs.length:=lQ xs;have KD:¬(n+xs.length≤c):=tM
 simp only[eQ,hl,tk,hn,h0,ne_eq,hd,Na,h1,KD,hb,hu,ku,nX,A5];simpa using hf.one
def aeJ {z:List AV} {k:IntKind} (hl:H l= .live ⟨sz,els⟩) (hn:n≤els.length) (hc:c<n+m) (hb:(n+m)*b≤140737488355328) (hu:H (.loc d)= .unused) :
  ud sz b d z (.slk l sz 0 n c) (.int k (m:Int)) H=some (.sl (.loc d) sz 0 (n+m),bD H (.loc d) (.live ⟨sz,els.take n++List.replicate m z⟩)):=by
 unfold ud;simp only[hl,tk,hn,eG,bX,hc,hb,hu,A5,ku]
def aa5 {x y:AV} (hs:al_ sz x H=some news) (hp:EU y=some (l,sz,i,n)) (hl:H l= .live ⟨sz,els⟩) (qB:i+n≤els.length) (hm:m=Nat.min news.length n) (ho:∀cs∈news.take m,AV.oJ cs) :
  sW sz y x H=some (.int .i64 (m:Int),bD H l (.live ⟨sz,els.take i++news.take m++els.drop (i+m)⟩)):=by
 unfold sW;subst hm;simp only[hs,eQ,hp,hl,tk,qB,ku];rw[cY (by simpa using ho)];have:(news.take (Nat.min news.length n)).length=Nat.min news.length n:=by rw[tp];exact ov (Pb _ _)
 rw[this]
end
def Z' {xs:List IV} {rest:List (List AV)} {i k:Nat} (h:i+k≤xs.length):((aB xs++rest).drop i).take k=aB ((xs.drop i).take k):=by
 have h1:=lQ xs;rw[Gk tM,pI PJ];simp[aB,Ny,JD]
def Yp {xs:List IV} {rest:List (List AV)} {k:Nat} (h:k≤xs.length):(aB xs++rest).take k=aB (xs.take k):=by
 have h1:=lQ xs;rw[pI tM];simp[aB,JD]
def Flat.part {xs:List IV} (h:Flat xs) (i k:Nat):Flat ((xs.drop i).take k):=fun y hy=>h y (EH (ec hy))

abbrev yu (v:Bool) (c:UInt8):Prop:=c=60∨(c=34∧v=true)
def vW (v:Bool):bm v []=some ([],[]):=by rw[bm]
def aou {v:Bool} {c:UInt8} (hc:yu v c) (r:Bs):bm v (c::r)=some ([],c::r):=by rw[bm,eE hc]

def a7 (s:Bs):List IV:=s.map fun c=>IV.int .u8 c.toNat
def a_ (s:Bs):(a7 s).length=s.length:=by simp[a7]
def P7 {p:Prop} (h:p:=by simp[a_];omega):p:=h
def QG {p:Prop} (h:p:=by simp[a_,ze]):p:=h
def rK (s t:Bs):a7 (s++t)=a7 s++a7 t:=by simp[a7]
def jh (s:Bs):Flat (a7 s):=by
 intro x hx z hz cs;obtain⟨c,_,rfl⟩:=pb.1 hx;simp only[IV.cells,bY] at hz;subst hz;simp
def Bh (s:Bs):aB (a7 s)=s.map fun c=>[AV.int .u8 c.toNat]:=by
 simp[aB,a7,IV.cells,IV.dQ]
def gj {H:Hp} {l:Lb} {d n:Nat} {xs:List IV} {t:Bs} (hl:H l= .live ⟨1,aB xs⟩) (hn:n=xs.length) (hb:n+t.length≤140737488355328) (hd:l≠l.app d) (hu:H (l.app d)= .unused) :
  jN 1 1 d (.sl l 1 0 n) (.str t) H=some (.sl (l.app d) 1 0 (n+t.length),bD (bD H l .dead) (l.app d) (.live ⟨1,aB (xs++a7 t)⟩)):=by
 unfold jN;have h1:(aB xs).length=n:=by rw[lQ,hn]
 have e:aB (xs++a7 t)=aB xs++t.map fun c=>[AV.int .u8 c.toNat]:=by rw[lR,Bh]
 have ho:∀cs∈t.map (fun c=>[AV.int .u8 (c.toNat:Int)]),AV.oJ cs:=by
  intro cs bV;obtain⟨c,_,rfl⟩:=pb.1 bV;intro x hx;simp only[bY] at hx;subst hx;rfl
 simp only[al_,ku,eQ];rw[cY (by simpa using ho)];simp only[hl,tk,bA,h1,eM,OH,hb,Nat.lt_irrefl,show 0<1 by decide,ne_eq,hd,Na,hu,ku,e];rw[eN (N_ h1)]
def fH {H:Hp} {l:Lb} {d n:Nat} {xs:List IV} {c:UInt8} (hl:H l= .live ⟨1,aB xs⟩) (hn:n=xs.length) (hb:n+1≤140737488355328) (hd:l≠l.app d) (hu:H (l.app d)= .unused) :
  jN 1 1 d (.sl l 1 0 n) (.list [.int .u8 (c.toNat:Int)]) H=some (.sl (l.app d) 1 0 (n+1),bD (bD H l .dead) (l.app d) (.live ⟨1,aB (xs++a7 [c])⟩)):=by
 rw[ux hl (by rw[lQ,hn]) rfl (by intro z hz cs;simp only[IV.cells,bY] at hz;subst hz;simp) tM Pr hd hu,lR];rfl
def gT {H:Hp} {l:Lb} {d n:Nat} {xs:List IV} (c:UInt8) {z:Int} (hz:(c.toNat:Int)=z) (hl:H l= .live ⟨1,aB xs⟩) (hn:n=xs.length) (hb:n+1≤140737488355328) (hd:l≠l.app d) (hu:H (l.app d)= .unused) :
  jN 1 1 d (.sl l 1 0 n) (.list [.int .u8 z]) H=some (.sl (l.app d) 1 0 (n+1),bD (bD H l .dead) (l.app d) (.live ⟨1,aB (xs++a7 [c])⟩)):=by
 subst hz;exact fH hl hn hb hd hu
def an' {s:Bs} {i:Nat} (h:i<s.length):∃c,s[i]?=some c:=⟨_,bS h⟩
def rM {v:Bool} {s:Bs} {i:Nat} {c:UInt8} (h:s[i]?=some c):fG v (s.take (i+1))=fG v (s.take i)++jQ v c:=by
 unfold fG;rw[yf,h,tG];simp
def yv (v:Bool) (c:UInt8):(jQ v c).length≤6:=by
 unfold jQ;split<;>(try split)<;>(try split)<;>(try split)<;>simp[qH,rC,kD,jc]
theorem iB (v:Bool):∀s:Bs,(fG v s).length≤6*s.length
 |[]=>by simp[fG]
 |c::s=>by
  have:=iB v s;have:=yv v c;simp only[fG,Bc,ko,gL] at *;omega
section
variable {P:Program} {G:Nat→Option (List IV)}
def iN:AC:=
(aM [zi 6] (.seq (aM [MR 9 1,oF 10 9,gH 11 0] (.block 0 (.loop (aM [et 12 .lss 11 10] (.seq (.cond (.t 12) .skip (.exit 0)) (.seq (.block 1 (aM [MR 13 11,MR 7 13] (aM [MR 14 1,MR 15 7,aQ 16 (.lj (.t 14) (.t 15)),MR 8 16] (.block 2 (aM [MR 22 8,aQ 23 (.bin .eql (.t 22) (.c (.int .u8 60))),MR 21 23] (.cond (.t 21) (.cq [MR 24 0,aQ 25 (.app (.t 24) (.c (.str [38,108,116,59])) 1 1),MR 0 25]) (aM [MR 27 8,aQ 28 (.bin .eql (.t 27) (.c (.int .u8 62))),MR 26 28] (.cond (.t 26) (.cq [MR 29 0,aQ 30 (.app (.t 29) (.c (.str [38,103,116,59])) 1 1),MR 0 30]) (aM [MR 32 8,aQ 33 (.bin .eql (.t 32) (.c (.int .u8 38))),MR 31 33] (.cond (.t 31) (.cq [MR 34 0,aQ 35 (.app (.t 34) (.c (.str [38,97,109,112,59])) 1 1),MR 0 35]) (aM [MR 37 8,aQ 38 (.bin .eql (.t 37) (.c (.int .u8 34))),MR 39 38,cU 40 39 2,jT 41 39 40,MR 36 41] (.cond (.t 36) (.cq [MR 42 0,aQ 43 (.app (.t 42) (.c (.str [38,113,117,111,116,59])) 1 1),MR 0 43]) (.cq [MR 17 0,MR 18 8,aQ 19 (.lits 1 1 [(.int .u8 0)] [(0,(.t 18))]),aQ 20 (.app (.t 17) (.t 19) 1 1),MR 0 20]))))))))))))) (.cq [eY 44 .add 11 1,MR 11 44]))))))) (aM [MR 45 0,MR 6 45] .ret)))
def Bi {c_:Nat} (hF:aw P G c_=some (46,[(none,6)],iN.bare)) (xs:List IV) (s:Bs) (v:Bool) (hb:xs.length+6*s.length≤2^40) :
  tq P G 1 c_ [.sl (.par 0) 1 0 xs.length,.str s,.bool v] xs (xs++a7 (fG v s)):=by
 refine pA hF N7 PC ?_;have Ko:(2:Nat)^40=1099511627776:=Pr
 unfold iN;simp only[↓aX,mX,seval,df];refine gb (σ:={i:Nat // i≤s.length}) (fun _=>[.gen 0]) (fun _ l=>l== .par 0)
  (fun q=>[(0,.sl (.gen 0) 1 0 (xs.length+(fG v (s.take q.1)).length)),(1,.str s),(2,.bool v),(10,.int .i64 s.length),(11,.int .i64 q.1)])
  (fun q=>[(.gen 0,⟨1,aB (xs++a7 (fG v (s.take q.1)))⟩)]) (fun q=>s.length - q.1) ⟨0,zd _⟩ (fun _=>rfl) (fun q=>by simp[ah,AV.an]) ?_ ⟨[(.gen 0,.par 0)],?_⟩ ?_
 ·intro q w hw cs bV z hz;simp only[bY] at hw;subst hw;rw[bU bV] at hz;simp at hz
 ·refine⟨?_,?_,?_,PN,?_⟩
  ·intro l hf hu;right;by_cases e:l= .par 0
   ·subst e;rfl
   exfalso;apply hu;simp[ae,e,Hp.none]
  ·simp[k_,dn,bJ,put,fG,jP]
  ·simp[tc,dn,ae,dy,fG,a7]
  simp[Lb.fresh,Lb.entry]
 rintro⟨i,hi⟩;have su:=iB v (s.take i);rw[tp,ov hi] at su;simp only[↓aX,mX,seval,bA];by_cases bI:i<s.length
 ·rw[show decide (((i:Nat):Int)<((s.length:Nat):Int))=true by simpa using bI];obtain⟨c,hc⟩:=an' bI;have hw:IntKind.i64.wrap ((i:Int)+1)=((i+1:Nat):Int):=wrap64 tM tM;have hU:∀d,ie (fun l=>l==Lb.par 0) [(Lb.gen 0,⟨1,aB (xs++a7 (fG v (s.take i)))⟩)] (.gen (d+1))= .unused:=fun d=>by
   rw[fE N7];rfl
  have hL:ie (fun l=>l==Lb.par 0) [(Lb.gen 0,⟨1,aB (xs++a7 (fG v (s.take i)))⟩)] (.gen 0)= .live ⟨1,aB (xs++a7 (fG v (s.take i)))⟩:=cL.2 P8;have hlen:xs.length+(fG v (s.take i)).length=(xs++a7 (fG v (s.take i))).length:=by rw[ko,a_]
  simp only[↓aX,mX,seval,hc,eG,bX];have fin:∀(w:Bs) (d:Nat) (env:Env),jQ v c=w→env 0= .sl (.gen d) 1 0 (xs.length+(fG v (s.take i)).length+w.length)→env 1= .str s→env 2= .bool v→env 10= .int .i64 s.length→env 11= .int .i64 ((i+1:Nat):Int) →
    ∃q:{i:Nat // i≤s.length},s.length - q.1<s.length - i∧∃m,WE [.gen 0] (fun l=>l== .par 0) [(0,.sl (.gen 0) 1 0 (xs.length+(fG v (s.take q.1)).length)),(1,.str s),(2,.bool v),(10,.int .i64 s.length),(11,.int .i64 q.1)]
     [(.gen 0,⟨1,aB (xs++a7 (fG v (s.take q.1)))⟩)] env (bD (bD (ie (fun l=>l==Lb.par 0) [(Lb.gen 0,⟨1,aB (xs++a7 (fG v (s.take i)))⟩)]) (.gen 0) .dead) (.gen d) (.live ⟨1,aB (xs++a7 (fG v (s.take i))++a7 w)⟩)) m:=by
   rintro w d env rfl h0 h1 h2 h3 h4;refine⟨⟨i+1,bI⟩,Pq,[(.gen 0,.gen d)],?_,?_,?_,PN,?_⟩
   ·intro l hf hu;right;by_cases e:l= .par 0
    ·subst e;rfl
    exfalso;apply hu;cases l<;>simp[Lb.entry] at hf;rename_i n;rw[aq _ _ N7,aq _ _ N7,fE N7];simp only[yt,e,nX]
   ·simp only[k_,h0,h1,h2,h3,h4,bJ,dn,rM hc,ko,ku];simp only[ze,A5]
   ·simp[tc,dn,ae,dy,rM hc,rK]
   simp[Lb.fresh,Lb.entry]
  have Ly:xs.length+(fG v (s.take i)).length+6≤140737488355328:=tM
  have GL:((c.toNat:Int)==60)=(c==60):=by
   rw[Bb];simp only[yt];rw[←M7];show _↔_=60;omega
  have E6:((c.toNat:Int)==62)=(c==62):=by
   rw[Bb];simp only[yt];rw[←M7];show _↔_=62;omega
  have HF:((c.toNat:Int)==38)=(c==38):=by
   rw[Bb];simp only[yt];rw[←M7];show _↔_=38;omega
  have Jh:((c.toNat:Int)==34)=(c==34):=by
   rw[Bb];simp only[yt];rw[←M7];show _↔_=34;omega
  rw[GL];by_cases h1:c=60
  ·rw[show(c==60)=true by simp[h1]];simp only[↓aX,mX,seval];rw[gj (xs:=xs++a7 (fG v (s.take i))) hL hlen PJ PO (hU 24)];simp only[↓aX,mX,seval,hw];exact fin qH 25 _ (by unfold jQ;rw[eE h1]) rfl rfl rfl rfl rfl
  rw[show(c==60)=false by simp[h1]];simp only[↓aX,mX,seval,E6];by_cases h2:c=62
  ·rw[show(c==62)=true by simp[h2]];simp only[↓aX,mX,seval];rw[gj (xs:=xs++a7 (fG v (s.take i))) hL hlen PJ PO (hU 29)];simp only[↓aX,mX,seval,hw];exact fin rC 30 _ (by unfold jQ;rw[cY h1,eE h2]) rfl rfl rfl rfl rfl
  rw[show(c==62)=false by simp[h2]];simp only[↓aX,mX,seval,HF];by_cases h3:c=38
  ·rw[show(c==38)=true by simp[h3]];simp only[↓aX,mX,seval];rw[gj (xs:=xs++a7 (fG v (s.take i))) hL hlen PJ PO (hU 34)];simp only[↓aX,mX,seval,hw];exact fin kD 35 _ (by unfold jQ;rw[cY h1,cY h2,eE h3]) rfl rfl rfl rfl rfl
  rw[show(c==38)=false by simp[h3]];simp only[↓aX,mX,seval,Jh];have last:∀(env:Env),¬(c=34∧v=true)→jQ v c=[c]:=fun _ h4=>by unfold jQ;rw[cY h1,cY h2,cY h3,cY h4]
  by_cases h4:c=34
  ·rw[show(c==34)=true by simp[h4]];simp only[↓aX,mX,seval];refine AU (fun hv=> ?_) (fun hv=> ?_)
   ·simp only[↓aX,mX,seval];rw[gj (xs:=xs++a7 (fG v (s.take i))) hL hlen PJ PO (hU 42)];simp only[↓aX,mX,seval,hw];exact fin jc 43 _ (by unfold jQ;rw[cY h1,cY h2,cY h3,eE ⟨h4,hv⟩]) rfl rfl rfl rfl rfl
   simp only[↓aX,mX,seval];rw[fH (xs:=xs++a7 (fG v (s.take i))) hL hlen tM PO (hU 19)];simp only[↓aX,mX,seval,hw];exact fin [c] 20 _ (last Env.any (by simp[hv])) rfl rfl rfl rfl rfl
  rw[show(c==34)=false by simp[h4]];simp only[↓aX,mX,seval];rw[fH (xs:=xs++a7 (fG v (s.take i))) hL hlen tM PO (hU 19)];simp only[↓aX,mX,seval,hw];exact fin [c] 20 _ (last Env.any (by simp[h4])) rfl rfl rfl rfl rfl
 have XV:s.take i=s:=eN tM;rw[show decide (((i:Nat):Int)<((s.length:Nat):Int))=false by simpa using bI,XV];simp only[↓aX,mX,seval,YT];refine⟨.gen 0,by rw[ko,a_],?_⟩;exact cL.2 P8
mutual
theorem yw:∀x:Tree,x.sh.length≤7*x.wt
 | .mk t s az ks=>by
  have h1:=iB false s;have h2:=gy az;have h3:=kx ks;cases t with
  |true=>
   rw[Tree.yh _ rfl];simp only[Tree.s,Tree.wt];omega
  |false=>
  rw[Tree.QO _ rfl];simp only[Tree.s,Tree.attrs,Tree.kids,Tree.wt,ko,gL];cases ks with
  |nil=>simp only[nj,gL,yg];omega
  |cons k r=>simp only[nj,ko,gL,yg];omega
theorem kx:∀xs:List Tree,(je xs).length≤7*dE xs
 |[]=>by simp[je,dE]
 |x::r=>by
  have:=yw x;have:=kx r;simp only[je,dE,ko];omega
theorem gy:∀az:List Attr,(akW az).length≤7*dX az
 |[]=>by simp[akW,dX]
 |a::r=>by
  have h1:=gy r;have h2:=iB true a.val;simp only[akW,Bc,ko,iK,dX,Attr.wt,gL,yg] at *;omega
end
def qt {az:List Attr} {i:Nat} {a:Attr} (h:az[i]?=some a):akW (az.take (i+1))=akW (az.take i)++iK a:=by
 unfold akW;rw[yf,h,tG];simp
theorem uU:∀xs ys:List Tree,je (xs++ys)=je xs++je ys
 |[],ys=>by simp[je]
 |x::r,ys=>by simp[je,uU r ys]
def yx {ks:List Tree} {i:Nat} {k:Tree} (h:ks[i]?=some k):je (ks.take (i+1))=je (ks.take i)++k.sh:=by
 rw[yf,h,uU];simp[je]
def vX (az:List Attr) (i:Nat):dX (az.take i)≤dX az:=by
 induction az generalizing i with
 |nil=>simp[dX]
 |cons a r ih=>
 cases i with
 |zero=>simp[dX]
 |succ i=>have:=ih i;simp[dX];omega
def vY (ks:List Tree) (i:Nat):dE (ks.take i)≤dE ks:=by
 induction ks generalizing i with
 |nil=>simp[dE]
 |cons a r ih=>
 cases i with
 |zero=>simp[dE]
 |succ i=>have:=ih i;simp[dE];omega
def yy {az:List Attr} {i:Nat} {a:Attr} (h:az[i]?=some a):dX (az.take i)+a.wt≤dX az:=by
 induction az generalizing i with
 |nil=>simp at h
 |cons b r ih=>
 cases i with
 |zero=>simp at h;subst h;simp[dX]
 |succ i=>have:=ih (i:=i) (by simpa using h);simp[dX];omega
def yz {ks:List Tree} {i:Nat} {k:Tree} (h:ks[i]?=some k):dE (ks.take i)+k.wt≤dE ks:=by
 induction ks generalizing i with
 |nil=>simp at h
 |cons b r ih=>
 cases i with
 |zero=>simp at h;subst h;simp[dE]
 |succ i=>have:=ih (i:=i) (by simpa using h);simp[dE];omega
def pB {x:Tree} {env:Env} {H:Hp} {d:Nat} {ys:List IV} {ps:List (Nat×AV)} (h1:H (.gen d)= .live ⟨1,aB ys⟩) (h2:H (.loc 3)= .live ⟨4,[x.cs.map IV.dQ]⟩) (B2:∀n,n≠0→H (.par n)= .unused) (he:k_ (dn [(.gen 0,.gen d)]) env ps) :
  WE [.gen 0,.loc 3] (fun l=>l== .par 0) ps [(.gen 0,⟨1,aB ys⟩),(.loc 3,⟨4,[x.cs.map IV.dQ]⟩)] env H [(.gen 0,.gen d)]:=by
 refine⟨?_,he,?_,PN,?_⟩
 ·intro l hf hu;right;cases l<;>simp[Lb.entry] at hf;rename_i n;by_cases e:n=0
  ·subst e;rfl
  exact absurd (B2 n e) hu
 ·refine⟨by simp[dn,dy,h1],?_,trivial⟩;have:dO (dn [(Lb.gen 0,Lb.gen d)]) ⟨4,[x.cs.map IV.dQ]⟩=⟨4,[x.cs.map IV.dQ]⟩:=by
   simp only[dO,o2,D7];rw[nT]
  rw[this];simpa[dn] using h2
 intro l hl;simp only[dU,e7,kt] at hl;rcases hl with rfl|rfl
 ·simp[Lb.fresh,Lb.entry]
 simp[dn]
def ld (c_ dK:Nat):AC:=
(aM [zzX 3 1,zi 4] (.seq (aM [ep 9 3 0,fm 10 9] (.cond (.t 10) (aM [MR 11 0,ep 12 3 1,fm 13 12,aQ 14 (.call c_ [(.t 11),(.t 13),(me false)]),MR 4 14] .ret) .skip)) (.seq (.VL [MR 15 0,aQ 16 (.lits 1 1 [(.int .u8 0)] [(0,(.c (.int .u8 60)))]),aQ 17 (.app (.t 15) (.t 16) 1 1),ep 18 3 1,fm 19 18,aQ 20 (.app (.t 17) (.t 19) 1 1),MR 0 20] [[],[],[0,1],[],[3],[2,4,2],[5,5,0,1,2,3,4,5]] [.no,.no,(.rw [] [(.par 0),(.gen 17)]),.no,.rw [.loc 3] [],(.rw [] [(.gen 17),(.gen 20)]),.no]) (.seq (aM [ep 21 3 2,fm 22 21,oy 23 22,gH 24 0] (.block 0 (.loop (aM [et 25 .lss 24 23] (.seq (.cond (.t 25) .skip (.exit 0)) (.seq (.block 1 (aM [jL 26 22 24 2,gz 27 2 26,aQ 6 (.new [(.str []),(.str [])]),gg (.store 2 (.t 6) (.t 27))] (.seq (.VL [MR 28 0,aQ 29 (.lits 1 1 [(.int .u8 0)] [(0,(.c (.int .u8 32)))]),aQ 30 (.app (.t 28) (.t 29) 1 1),ep 31 6 0,fm 32 31,aQ 33 (.app (.t 30) (.t 32) 1 1),MR 0 33] [[],[],[0,1],[],[3],[2,4,2],[5,5,0,1,2,3,4,5]] [.no,.no,(.rw [] [(.gen 0),(.gen 30)]),.no,.rw [.loc 6] [],(.rw [] [(.gen 30),(.gen 33)]),.no]) (.VL [MR 34 0,aQ 35 (.app (.t 34) (.c (.str [61,34])) 1 1),ep 36 6 1,fm 37 36,aQ 38 (.call c_ [(.t 35),(.t 37),(me true)]),aQ 39 (.lits 1 1 [(.int .u8 0)] [(0,(.c (.int .u8 34)))]),aQ 40 (.app (.t 38) (.t 39) 1 1),MR 0 40] [[],[0],[],[2],[1,3,1],[],[4,5,4],[6,6,0,1,2,3,4,5,6]] [.no,(.rw [] [(.gen 33),(.gen 35)]),.no,.rw [.loc 6] [],(.p_ []),.no,(.rw [] [(.gen 35),(.gen 38),(.gen 40)]),.no])))) (.cq [eY 41 .add 24 1,MR 24 41]))))))) (.seq (aM [ep 42 3 3,fm 43 42,oy 44 43,eY 45 .eql 44 0] (.cond (.t 45) (aM [MR 46 0,aQ 47 (.app (.t 46) (.c (.str [47,62])) 1 1),MR 4 47] .ret) .skip)) (aM [MR 48 0,aQ 49 (.lits 1 1 [(.int .u8 0)] [(0,(.c (.int .u8 62)))]),aQ 50 (.app (.t 48) (.t 49) 1 1),MR 0 50] (.seq (aM [ep 51 3 3,fm 52 51,oy 53 52,gH 54 0] (.block 2 (.loop (aM [et 55 .lss 54 53] (.seq (.cond (.t 55) .skip (.exit 2)) (.seq (.block 3 (aM [jL 56 52 54 4,gz 57 4 56,aQ 8 (.new [(.bool false),(.str []),.nil0,.nil0]),gg (.store 4 (.t 8) (.t 57))] (.cq [MR 58 0,gz 59 4 8,aQ 60 (.call dK [(.t 58),(.t 59)]),MR 0 60]))) (.cq [eY 61 .add 54 1,MR 54 61]))))))) (.seq (.VL [MR 62 0,aQ 63 (.app (.t 62) (.c (.str [60,47])) 1 1),ep 64 3 1,fm 65 64,aQ 66 (.app (.t 63) (.t 65) 1 1),aQ 67 (.lits 1 1 [(.int .u8 0)] [(0,(.c (.int .u8 62)))]),aQ 68 (.app (.t 66) (.t 67) 1 1),MR 4 68] [[],[0],[],[2],[1,3,1],[],[4,5,4],[6,6,0,1,2,3,4,5,6]] [.no,(.rw [] [(.gen 0),(.gen 63)]),.no,.rw [.loc 3] [],(.rw [] [(.gen 63),(.gen 66)]),.no,(.rw [] [(.gen 66),(.gen 68)]),.no]) .ret))))))))
def Ee {dK c_:Nat} (hF:aw P G dK=some (69,[(none,4)],(ld c_ dK).bare)) (hE:∀(xs:List IV) (s:Bs) (v:Bool),xs.length+6*s.length≤2^40→tq P G 1 c_ [.sl (.par 0) 1 0 xs.length,.str s,.bool v] xs (xs++a7 (fG v s))) :
  ∀(n:Nat) (x:Tree) (xs:List IV),x.wt≤n→xs.length+7*x.wt≤2^40→tq P G 1 dK [.sl (.par 0) 1 0 xs.length,x.av] xs (xs++a7 x.sh):=by
 intro n;induction n with
 |zero=>intro x xs hn;have:=x.gx;omega
 |succ n ih=>
 intro x xs hn hb;refine pA hF N7 P6 ?_;have Ko:(2:Nat)^40=1099511627776:=Pr
 have MA:=x.gx;have MB:=iz x.attrs;have Hm:=eZ x.kids;unfold ld;simp only[↓aX,mX,seval,df,Tree.av,o2,D7];refine AU (fun ht=> ?_) (fun ht=> ?_)
 ·simp only[↓aX,mX,seval];have h1:=iB false x.s;have hw:=x.gx;refine mI (l:= .par 0) (N:= .gen 14) (hE xs x.s false tM) PL PE PU Qc ?_ ?_
  ·simp only[↓aX,mX,seval,YT,x.yh ht];exact⟨.gen 14,rfl,PE⟩
  simp only[↓aX,mX,seval,YT,x.yh ht];exact⟨.par 0,rfl,PE⟩
 simp only[↓aX,mX,seval];have HG:x.sh=60::x.s++akW x.attrs++nj x.s x.kids:=x.QO ht;refine⟨P3,?_⟩;rw[gT (z:=60) 60 rfl (xs:=xs) PE rfl tM PO Qy];simp only[↓aX,mX,seval,Lb.app,Lb.fresh];rw[gj (xs:=xs++a7 [60]) PE (by simp[a_]) tM PO Qy];simp only[↓aX,mX,seval,Lb.app,Lb.fresh];have Lz:∀(a b:Lb) (F:List Lb),a.iQ∈F→b.iQ∈F→∀l:Lb,l=a∨l=b→l.iQ∈F:=by rintro a b F h1 h2 l (rfl|rfl);exact h1;exact h2
 obtain⟨y1,zl⟩:∃y1:Nat→Bs,y1=fun j=>60::x.s++akW (x.attrs.take j):=⟨_,rfl⟩;have H9:∀j,(y1 j).length≤1+x.s.length+7*dX x.attrs:=fun j=>by
  have:=gy (x.attrs.take j);have:=vX x.attrs j;rw[zl];simp only[ko,gL];omega
 have bV:x.cs.map IV.dQ=[.bool x.text,.str x.s,.list (cD x.attrs),.list (dq x.kids)]:=rfl;refine⟨by rintro l (rfl|rfl);exact .inl rfl;exact .inr rfl,by rintro l (rfl|rfl);exact .inl rfl;exact .inr rfl,?_⟩;refine gb (σ:={j:Nat // j≤x.attrs.length}) (fun _=>[.gen 0,.loc 3]) (fun _ l=>l== .par 0)
  (fun q=>[(0,.sl (.gen 0) 1 0 (xs++a7 (y1 q.1)).length),(3,.ptr (.loc 3) 4 0 0),(22,.list (cD x.attrs)),(23,.int .i64 x.attrs.length),(24,.int .i64 q.1)])
  (fun q=>[(.gen 0,⟨1,aB (xs++a7 (y1 q.1))⟩),(.loc 3,⟨4,[x.cs.map IV.dQ]⟩)]) (fun q=>x.attrs.length - q.1) ⟨0,zd _⟩ (fun _=>rfl) (fun q=>by simp[ah,AV.an]) ?_ ⟨[(.gen 0,.gen 20)],?_⟩ ?_
 ·intro q w hw cs jB z hz;simp only[dU,e7,kt] at hw;rcases hw with rfl|rfl
  ·rw[bU jB] at hz;simp at hz
  simp only[bY] at jB;subst jB;rw[lN] at hz;simp at hz
 ·refine pB (x:=x) ?_ ?_ ?_ ?_
  ·simp[ae,zl,akW,a7]
  ·simp[ae,bV]
  ·intro n hn;simp[ae,Hp.none,hn]
  simp[k_,dn,bJ,put,zl,akW,a_,bp,ze,Oa]
 rintro⟨j,hj⟩;have MC:=H9 j;have Kp:ie (fun l=>l==Lb.par 0) [(Lb.gen 0,⟨1,aB (xs++a7 (y1 j))⟩),(Lb.loc 3,⟨4,[x.cs.map IV.dQ]⟩)] (.loc 6)= .unused:=by rw[fE N7];rfl
 have uV:∀d,ie (fun l=>l==Lb.par 0) [(Lb.gen 0,⟨1,aB (xs++a7 (y1 j))⟩),(Lb.loc 3,⟨4,[x.cs.map IV.dQ]⟩)] (.gen (d+1))= .unused:=fun d=>by rw[fE N7];rfl
 have hUp:∀d,d≠0→ie (fun l=>l==Lb.par 0) [(Lb.gen 0,⟨1,aB (xs++a7 (y1 j))⟩),(Lb.loc 3,⟨4,[x.cs.map IV.dQ]⟩)] (.par d)= .unused:=fun d hd=>by rw[fE N7];simp[hd]
 have ij:ie (fun l=>l==Lb.par 0) [(Lb.gen 0,⟨1,aB (xs++a7 (y1 j))⟩),(Lb.loc 3,⟨4,[x.cs.map IV.dQ]⟩)] (.gen 0)= .live ⟨1,aB (xs++a7 (y1 j))⟩:=cL.2 P8;have qI:ie (fun l=>l==Lb.par 0) [(Lb.gen 0,⟨1,aB (xs++a7 (y1 j))⟩),(Lb.loc 3,⟨4,[x.cs.map IV.dQ]⟩)] (.loc 3)= .live ⟨4,[x.cs.map IV.dQ]⟩:=cL.2 P8;simp only;generalize ie (fun l=>l==Lb.par 0) [(Lb.gen 0,⟨1,aB (xs++a7 (y1 j))⟩),(Lb.loc 3,⟨4,[x.cs.map IV.dQ]⟩)]=H0 at *;simp only[↓aX,mX,seval,bA];by_cases bI:j<x.attrs.length
 ·rw[show decide (((j:Nat):Int)<((x.attrs.length:Nat):Int))=true by simpa using bI];obtain⟨a,ha⟩:∃a,x.attrs[j]?=some a:=⟨_,bS bI⟩;have hw:IntKind.i64.wrap ((j:Int)+1)=((j+1:Nat):Int):=wrap64 tM tM;have Ef:=yy ha;have BY:=gy (x.attrs.take j);have LA:(y1 j).length=1+x.s.length+(akW (x.attrs.take j)).length:=by rw[zl];simp;omega
  simp only[Attr.wt] at Ef;simp only[↓aX,mX,seval,lS,ha,rq,Attr.cJ,Attr.cs,bT];refine⟨Kp,P3,?_⟩;rw[gT (z:=32) 32 rfl (xs:=xs++a7 (y1 j)) (by simp[ae,ij]) rfl P7 PO (by simp[Lb.app,Lb.fresh,ae,uV])];simp only[↓aX,mX,seval,Lb.app,Lb.fresh];rw[gj (xs:=xs++a7 (y1 j)++a7 [32]) PE QG P7 PO (by simp[Lb.app,Lb.fresh,ae,uV])];simp only[↓aX,mX,seval,Lb.app,Lb.fresh];refine⟨by rintro l (rfl|rfl);exact .inl rfl;exact .inr rfl,by rintro l (rfl|rfl);exact .inl rfl;exact .inr rfl,rfl,?_⟩;rw[gj (xs:=xs++a7 (y1 j)++a7 [32]++a7 a.name) (t:=[61,34]) PE QG P7 PO (by simp[Lb.app,Lb.fresh,ae,uV])];simp only[↓aX,mX,seval,Lb.app,Lb.fresh];refine⟨by rintro l (rfl|rfl);exact .inl rfl;exact .inr rfl,?_⟩;have gr:y1 (j+1)=y1 j++([32]++a.name++[61,34]++fG true a.val++[34]):=by rw[zl];simp only[qt ha,iK];simp
  have MD:=iB true a.val;refine Bg (l:= .gen 35) (N:= .gen 38) (hE (xs++a7 (y1 j)++a7 [32]++a7 a.name++a7 [61,34]) a.val true P7) (by simp[bu,bJ,ft,a_,ze]) PE (by simp[ae,uV]) Qc N7 N7 ?_ ?_
  ·simp only[↓aX,mX,seval,Lb.app,Lb.fresh];rw[gT (z:=34) 34 rfl (xs:=xs++a7 (y1 j)++a7 [32]++a7 a.name++a7 [61,34]++a7 (fG true a.val)) PE rfl P7 PO (by simp[Lb.app,Lb.fresh,ae,uV])];simp only[↓aX,mX,seval,Lb.app,Lb.fresh,hw];refine⟨by rintro l (rfl|rfl);exact .inr (.inl rfl);exact .inr (.inr rfl),⟨j+1,bI⟩,Pq,[(.gen 0,.gen 40)],?_⟩;refine pB (x:=x) ?_ ?_ ?_ ?_
   ·simp[ae,gr,a7]
   ·simp[ae,qI]
   ·intro n hn;simp[ae,hUp n hn]
   simp[k_,dn,bJ,put,gr,a_];omega
  simp only[↓aX,mX,seval,Lb.app,Lb.fresh];rw[gT (z:=34) 34 rfl (xs:=xs++a7 (y1 j)++a7 [32]++a7 a.name++a7 [61,34]++a7 (fG true a.val)) PE rfl P7 PO (by simp[Lb.app,Lb.fresh,ae,uV])];simp only[↓aX,mX,seval,Lb.app,Lb.fresh,hw];refine⟨by rintro l (rfl|rfl);exact .inl rfl;exact .inr (.inr rfl),⟨j+1,bI⟩,Pq,[(.gen 0,.gen 40)],?_⟩;refine pB (x:=x) ?_ ?_ ?_ ?_
  ·simp[ae,gr,a7]
  ·simp[ae,qI]
  ·intro n hn;simp[ae,hUp n hn]
  simp[k_,dn,bJ,put,gr,a_];omega
 have XV:x.attrs.take j=x.attrs:=eN tM;rw[show decide (((j:Nat):Int)<((x.attrs.length:Nat):Int))=false by simpa using bI];have HI:y1 j=60::x.s++akW x.attrs:=by rw[zl];simp only[XV]
 simp only[↓aX,mX,seval,qI,bV,bF];have ME:(je x.kids).length≤7*dE x.kids:=kx _;have Ji:(y1 j).length=1+x.s.length+(akW x.attrs).length:=by rw[HI];simp;omega
 have LB:=gy x.attrs;by_cases sr:x.kids=[]
 ·rw[show(((x.kids.length:Nat):Int)==0)=true by simp[sr]];simp only[↓aX,mX,seval];rw[gj (xs:=xs++a7 (y1 j)) (t:=[47,62]) ij rfl P7 PO (by simp[Lb.app,Lb.fresh,uV])];simp only[↓aX,mX,seval,Lb.app,Lb.fresh,YT];refine⟨.gen 47,?_,?_⟩
  ·simp[HG,sr,nj,HI,a_];omega
  simp[ae,HG,sr,nj,HI,a7]
 have LC:x.kids.length≠0:=fun e=>sr (ye.1 e);rw[show(((x.kids.length:Nat):Int)==0)=false by simp;exact sr];simp only[↓aX,mX,seval];rw[gT (z:=62) 62 rfl (xs:=xs++a7 (y1 j)) ij rfl P7 PO (by simp[Lb.app,Lb.fresh,uV])];simp only[↓aX,mX,seval,Lb.app,Lb.fresh,qI,bV,bF];obtain⟨y2,o8⟩:∃y2:Nat→Bs,y2=fun k=>y1 j++[62]++je (x.kids.take k):=⟨_,rfl⟩;have Jj:∀k,(y2 k).length=2+x.s.length+(akW x.attrs).length+(je (x.kids.take k)).length:=fun k=>by
  rw[o8];simp only[ko,gL,yg,Ji];omega
 refine gb (σ:={k:Nat // k≤x.kids.length}) (fun _=>[.gen 0,.loc 3]) (fun _ l=>l== .par 0)
  (fun q=>[(0,.sl (.gen 0) 1 0 (xs++a7 (y2 q.1)).length),(3,.ptr (.loc 3) 4 0 0),(52,.list (dq x.kids)),(53,.int .i64 x.kids.length),(54,.int .i64 q.1)])
  (fun q=>[(.gen 0,⟨1,aB (xs++a7 (y2 q.1))⟩),(.loc 3,⟨4,[x.cs.map IV.dQ]⟩)]) (fun q=>x.kids.length - q.1) ⟨0,zd _⟩ (fun _=>rfl) (fun q=>by simp[ah,AV.an]) ?_ ⟨[(.gen 0,.gen 50)],?_⟩ ?_
 ·intro q w hw cs jB z hz;simp only[dU,e7,kt] at hw;rcases hw with rfl|rfl
  ·rw[bU jB] at hz;simp at hz
  simp only[bY] at jB;subst jB;rw[lN] at hz;simp at hz
 ·refine pB (x:=x) ?_ ?_ ?_ ?_
  ·simp[ae,o8,je,a7]
  ·simp[ae,qI]
  ·intro n hn;simp[ae,hUp n hn]
  simp[k_,dn,bJ,put,o8,je,a_,bF];omega
 clear Kp uV hUp ij qI;rintro⟨k,hk⟩;have FP:=Jj k;have MF:=kx (x.kids.take k);have LD:=vY x.kids k;have LF:ie (fun l=>l==Lb.par 0) [(Lb.gen 0,⟨1,aB (xs++a7 (y2 k))⟩),(Lb.loc 3,⟨4,[x.cs.map IV.dQ]⟩)] (.loc 8)= .unused:=by rw[fE N7];rfl
 have uV:∀d,ie (fun l=>l==Lb.par 0) [(Lb.gen 0,⟨1,aB (xs++a7 (y2 k))⟩),(Lb.loc 3,⟨4,[x.cs.map IV.dQ]⟩)] (.gen (d+1))= .unused:=fun d=>by rw[fE N7];rfl
 have hUp:∀d,d≠0→ie (fun l=>l==Lb.par 0) [(Lb.gen 0,⟨1,aB (xs++a7 (y2 k))⟩),(Lb.loc 3,⟨4,[x.cs.map IV.dQ]⟩)] (.par d)= .unused:=fun d hd=>by rw[fE N7];simp[hd]
 have ij:ie (fun l=>l==Lb.par 0) [(Lb.gen 0,⟨1,aB (xs++a7 (y2 k))⟩),(Lb.loc 3,⟨4,[x.cs.map IV.dQ]⟩)] (.gen 0)= .live ⟨1,aB (xs++a7 (y2 k))⟩:=cL.2 P8;have qI:ie (fun l=>l==Lb.par 0) [(Lb.gen 0,⟨1,aB (xs++a7 (y2 k))⟩),(Lb.loc 3,⟨4,[x.cs.map IV.dQ]⟩)] (.loc 3)= .live ⟨4,[x.cs.map IV.dQ]⟩:=cL.2 P8;simp only;generalize ie (fun l=>l==Lb.par 0) [(Lb.gen 0,⟨1,aB (xs++a7 (y2 k))⟩),(Lb.loc 3,⟨4,[x.cs.map IV.dQ]⟩)]=H1 at *;simp only[↓aX,mX,seval,bA];by_cases iG:k<x.kids.length
 ·rw[show decide (((k:Nat):Int)<((x.kids.length:Nat):Int))=true by simpa using iG];obtain⟨t,GM⟩:∃t,x.kids[k]?=some t:=⟨_,bS iG⟩;have hw:IntKind.i64.wrap ((k:Int)+1)=((k+1:Nat):Int):=wrap64 tM tM;have LG:=yz GM;have gr:y2 (k+1)=y2 k++t.sh:=by rw[o8];simp only[yx GM];simp
  simp only[↓aX,mX,seval,iy,GM,lT,Tree.cJ,Tree.cs,bT];refine⟨LF,?_⟩;refine mI (l:= .gen 0) (N:= .gen 60) (ih t (xs++a7 (y2 k)) tM P7) (by simp[bu,bJ,ft,Tree.av]) (by simp[ae,ij]) (by simp[ae,uV]) Qc ?_ ?_
  ·simp only[↓aX,mX,seval,hw];refine⟨⟨k+1,iG⟩,Pq,[(.gen 0,.gen 60)],?_⟩;refine pB (x:=x) ?_ ?_ ?_ ?_
   ·simp[ae,gr,a7]
   ·simp[ae,qI]
   ·intro n hn;simp[ae,hUp n hn]
   simp[k_,dn,bJ,put,gr,a_]
  simp only[↓aX,mX,seval,hw];refine⟨⟨k+1,iG⟩,Pq,[(.gen 0,.gen 0)],?_⟩;refine pB (x:=x) ?_ ?_ ?_ ?_
  ·simp[ae,gr,a7]
  ·simp[ae,qI]
  ·intro n hn;simp[ae,hUp n hn]
  simp[k_,dn,bJ,put,gr,a_]
 have Kq:x.kids.take k=x.kids:=eN tM;rw[show decide (((k:Nat):Int)<((x.kids.length:Nat):Int))=false by simpa using iG];rw[Kq] at FP;simp only[↓aX,mX,seval,qI,bV];refine⟨P3,?_⟩;rw[gj (xs:=xs++a7 (y2 k)) (t:=[60,47]) ij rfl P7 PO (by simp[Lb.app,Lb.fresh,uV])];simp only[↓aX,mX,seval,Lb.app,Lb.fresh,qI,bV];rw[gj (xs:=xs++a7 (y2 k)++a7 [60,47]) PE QG P7 PO (by simp[Lb.app,Lb.fresh,ae,uV])];simp only[↓aX,mX,seval,Lb.app,Lb.fresh];rw[gT (z:=62) 62 rfl (xs:=xs++a7 (y2 k)++a7 [60,47]++a7 x.s) PE QG P7 PO (by simp[Lb.app,Lb.fresh,ae,uV])];simp only[↓aX,mX,seval,Lb.app,Lb.fresh,YT];have GN:x.sh=y2 k++[60,47]++x.s++[62]:=by rw[HG,qp _ sr,o8];simp only[Kq,HI];simp
 refine⟨by rintro l (rfl|rfl);exact .inl rfl;exact .inr rfl,by rintro l (rfl|rfl);exact .inl rfl;exact .inr rfl,by rintro l (rfl|rfl);exact .inl rfl;exact .inr rfl,.gen 68,?_,?_⟩
 ·simp[GN,a_];omega
 simp[ae,GN,a7]

def e8 (bL aS aO bC:Nat):AC:=
(aM [aQ 4 (.iC (.c (.str [])))] (.seq (aM [MR 7 0,aQ 8 (.bin .eql (.t 7) (.c (.str []))),MR 9 8,gV 10 9 1,iR 11 9 (.bin .eql (.t 10) (.c (.str []))),sj 12 9 11] (.cond (.t 12) (aM [MR 13 0,MR 4 13] .ret) .skip)) (.seq (aM [MR 14 1,oF 15 14,eY 16 .eql 15 1,MR 17 16,cU 18 17 1,dW 19 17 (.lj (.t 18) (jS 0)),dW 20 17 (.bin .lss (.t 19) (.c (.int .u8 128))),jT 21 17 20] (.cond (.t 21) (aM [MR 22 0,MR 23 1,aQ 24 (.lj (.t 23) (jS 0)),aQ 25 (.call bL [(.t 22),(.t 24)]),MR 4 25] .ret) .skip)) (.seq (aM [MR 27 1,aQ 28 (.call aS [(.t 27)]),MR 26 28,ox 29 26 0,ox 30 26 1,aQ 5 (.new (List.replicate 256 (.bool false))),gg (.store 256 (.t 5) (.t 29)),MR 6 30] (aM [MR 31 6] (.cond (.t 31) (aM [MR 32 0,aQ 33 (.call aO [(.t 32),(.t 5)]),MR 4 33] .ret) .skip))) (aM [MR 34 0,MR 35 1,aQ 36 (.call bC [(.t 34),(.t 35)]),MR 4 36] .ret)))))
def Eh {cf aS aO bL bC:Nat} (hF:aw P G cf=some (37,[(none,4)],(e8 bL aS aO bC).bare)) (s t:Bs) (hs:s.length≤B) (ht:2≤t.length)
  (hM:au P G aS [.str t] (.gf [.agg (eh (er t)),.bool true]))
  (hL:cR P G aO [.str s,.ptr (.par 0) 256 0 0] (eh (er t)) fun x cs=>x= .str (dB (er t) s)∧cs=eh (er t)) :
  au P G cf [.str s,.str t] (.str (dB (er t) s)):=by
 refine aR hF (by simp) (by simp[ah,AV.an]) (by simp[AV.an]) ?_;unfold e8;simp only[↓aX,mX,reduceCtorEq,Nat.reduceEqDiff,Nat.reduceLT,Nat.reduceLeDiff,Nat.reduceAdd,Nat.reduceMul,Int.reduceToNat,Int.reduceLE,Int.reduceLT];have e1:(t==[])=false:=by cases t<;>simp_all
 have e2:(((t.length:Nat):Int)==1)=false:=by rw[A8];omega
 cases wo:(s==[]) with
 |true=>
  have:s=[]:=by simpa using wo
  subst this;simp only[↓aX,mX,reduceCtorEq,Nat.reduceEqDiff,Nat.reduceLT,Nat.reduceLeDiff,Nat.reduceAdd,Nat.reduceMul,Int.reduceToNat,Int.reduceLE,Int.reduceLT];rfl
 |false=>
 simp only[↓aX,mX,reduceCtorEq,Nat.reduceEqDiff,Nat.reduceLT,Nat.reduceLeDiff,Nat.reduceAdd,Nat.reduceMul,Int.reduceToNat,Int.reduceLE,Int.reduceLT,e1,e2];refine ay hM ?_;simp only[↓aX,mX,reduceCtorEq,Nat.reduceEqDiff,Nat.reduceLT,Nat.reduceLeDiff,Nat.reduceAdd,Nat.reduceMul,Int.reduceToNat,Int.reduceLE,Int.reduceLT,MS,qo,bc,mz,mA,od,rI];refine bj (l:= .loc 5) hL rfl (by simp only[↓aX,mX,reduceCtorEq,Nat.reduceEqDiff,Nat.reduceLT,Nat.reduceLeDiff,Nat.reduceAdd,Nat.reduceMul,Int.reduceToNat,Int.reduceLE,Int.reduceLT,bc]) ?_;rintro x1 dF ⟨rfl,rfl⟩ _ _ _;simp only[↓aX,mX,reduceCtorEq,Nat.reduceEqDiff,Nat.reduceLT,Nat.reduceLeDiff,Nat.reduceAdd,Nat.reduceMul,Int.reduceToNat,Int.reduceLE,Int.reduceLT,bc,MS]
def Bl (c:UInt8):er [32,10] c.toNat=isSp c:=by
 have:∀n:Fin 256,er [32,10] (UInt8.ofNat n.val).toNat=isSp (UInt8.ofNat n.val):=P3
 have h:=this ⟨c.toNat,c.toNat_lt⟩;simpa using h
def Bm (s:Bs):dB (er [32,10]) s=s.dropWhile isSp:=by
 unfold dB;congr 1;funext c;exact Bl c
abbrev cG (s:Bs) (b:Bool):List AV:=[.str s,.bool b]
def cZ (p s:Bs):Bs:=if p.isPrefixOf s then s.drop p.length else s
def ic (p s:Bs):(cZ p s).length≤s.length:=by unfold cZ;split<;>simp
def gd (bZ:Nat):AC:=
(aM [jM 4 false] (aM [MR 8 0,aQ 9 (.dp (.t 8)),ep 10 9 0,fm 11 10,MR 12 1,aQ 13 (.call bZ [(.t 11),(.t 12)]),MR 7 13,ox 14 7 0,ox 15 7 1,MR 5 14,MR 6 15] (.seq (aM [MR 16 6] (.cond (.t 16) (.cq [MR 17 0,MR 18 5,aQ 19 (.dp (.t 17)),ep 20 19 0,gg (.store 1 (.t 20) (.t 18))]) .skip)) (aM [MR 21 6,MR 4 21] .ret))))
def Jl {aI bZ:Nat} (hF:aw P G aI=some (22,[(none,4)],(gd bZ).bare)) (hC:∀s t:Bs,au P G bZ [.str s,.str t] (.gf [.str (if t.isPrefixOf s then s.drop t.length else s),.bool (t.isPrefixOf s)])) (s p:Bs) (b:Bool) :
  cR P G aI [.ptr (.par 0) 2 0 0,.str p] (cG s b) fun x cs=>x= .bool (p.isPrefixOf s)∧cs=cG (cZ p s) b:=by
 refine dw hF N7 PC PC ?_;unfold gd;simp only[↓aX,mX,seval,Oj];refine ay (hC s p) ?_;cases h:p.isPrefixOf s with
 |true=>
  simp only[↓aX,mX,seval,YT];exact⟨cG (cZ p s) b,by simp[ae,cZ,h,ah,AV.an]⟩
 |false=>
 simp only[↓aX,mX,seval,YT];exact⟨cG (cZ p s) b,by simp[ae,cZ,h,ah,AV.an]⟩
def e_ (aI:Nat):AC:=
(aM [MR 4 0,MR 5 1,aQ 6 (.call aI [(.t 4),(.t 5)]),sB 7 6] (.cond (.t 7) (.cq [MR 8 0,aQ 9 (.dp (.t 8)),ep 10 9 1,gg (.store 1 (.t 10) (me true))]) .skip))
def Ei {aP aI:Nat} (hF:aw P G aP=some (11,[],(e_ aI).bare)) (s p:Bs) (b:Bool)
  (hA:cR P G aI [.ptr (.par 0) 2 0 0,.str p] (cG s b) fun x cs=>x= .bool (p.isPrefixOf s)∧cs=cG (cZ p s) b) :
  cR P G aP [.ptr (.par 0) 2 0 0,.str p] (cG s b) fun x cs=>cs=cG (cZ p s) (b|| !p.isPrefixOf s):=by
 refine dw hF N7 PC PC ?_;unfold e_;simp only[↓aX,mX,seval,Oj];refine bj (l:= .par 0) hA PL PE ?_;rintro x1 dF ⟨rfl,rfl⟩ _ _ _;cases h:p.isPrefixOf s with
 |true=>
  simp only[↓aX,mX,seval,ib,lM,ef,gD];exact⟨_,rfl,cG (cZ p s) (b|| !p.isPrefixOf s),by simp[ae,h,ah,AV.an]⟩
 |false=>
 simp only[↓aX,mX,seval,fj,lM,ef,gD];exact⟨_,rfl,cG (cZ p s) (b|| !p.isPrefixOf s),by simp[ae,h,ah,AV.an]⟩
def eU (cf:Nat):AC:=
(aM [jM 2 false] (aM [MR 4 0,aQ 5 (.dp (.t 4)),ep 6 5 0,fm 7 6,oF 8 7,MR 3 8] (aM [MR 9 0,MR 10 0,aQ 11 (.dp (.t 10)),ep 12 11 0,fm 13 12,aQ 14 (.call cf [(.t 13),(.c (.str [32,10]))]),aQ 15 (.dp (.t 9)),ep 16 15 0,gg (.store 1 (.t 16) (.t 14))] (aM [MR 17 0,aQ 18 (.dp (.t 17)),ep 19 18 0,fm 20 19,oF 21 20,MR 22 3,et 23 .lss 21 22,MR 2 23] .ret))))
def SB {bf cf:Nat} (hF:aw P G bf=some (24,[(none,2)],(eU cf).bare)) (s:Bs) (b:Bool) (hT:au P G cf [.str s,.str [32,10]] (.str (s.dropWhile isSp))) :
  cR P G bf [.ptr (.par 0) 2 0 0] (cG s b) fun x cs=>x= .bool (decide ((s.dropWhile isSp).length<s.length))∧cs=cG (s.dropWhile isSp) b:=by
 refine dw hF N7 PC PC ?_;unfold eU;simp only[↓aX,mX,seval,Oj];refine ay hT ?_;simp only[↓aX,mX,seval,YT];exact⟨cG (s.dropWhile isSp) b,by simp[ae,ah,AV.an]⟩
def yC {p:UInt8→Bool}:∀{s:Bs} {i:Nat} {c:UInt8},s[i]?=some c→(∀x∈s.take i,p x=true)→(p c=true→∀x∈s.take (i+1),p x=true)∧(p c=false→s.takeWhile p=s.take i∧s.dropWhile p=s.drop i):=by
 intro s i c h hi;refine⟨fun hc x hx=> ?_,fun hc=> ?_⟩
 ·rw[yf,h] at hx;simp only[Mv,eR,bY] at hx;rcases hx with hx|rfl
  ·exact hi x hx
  exact hc
 have hl:=(bd.1 h).1;have e:s=s.take i++s.drop i:=(tO i s).symm;have hd:s.drop i=c::s.drop (i+1):=by
  rw[EK hl];congr 1;exact(bd.1 h).2
 have h2:(s.take i++s.drop i).takeWhile p=s.take i∧(s.take i++s.drop i).dropWhile p=s.drop i:=
  kv (s.take i) (s.drop i) hi (fun c' q hq=>by rw[hd] at hq;cases hq;exact hc)
 rw[tO] at h2;exact h2
def vZ {p:UInt8→Bool} {s:Bs} (h:∀x∈s,p x=true):s.takeWhile p=s∧s.dropWhile p=[]:=by
 have:=kv (p:=p) s [] h N7;simpa using this
def yD (c:UInt8):akP c=(decide ((c.toNat:Int)≥97)&&decide ((c.toNat:Int)≤122)):=by
 unfold akP;congr 1
 ·rw[Ou,Gj];show 97≤_↔_;omega
 rw[Ou,Gj];show _≤122↔_;omega
def fa:AC:=
(aM [aQ 2 (.iC (.c (.str [])))] (aM [gH 3 0] (.seq (.block 0 (.loop (.seq (aM [MR 5 3,MR 6 0,aQ 7 (.dp (.t 6)),ep 8 7 0,fm 9 8,oF 10 9,et 11 .lss 5 10,MR 12 11,cU 13 12 0,dW 14 12 (.dp (.t 13)),Wb 15 12 14 0,jm 16 12 15,cU 17 12 3,dW 18 12 (.lj (.t 16) (.t 17)),dW 19 12 (.bin .geq (.t 18) (.c (.int .u8 97))),jT 20 12 19,MR 21 20,cU 22 21 0,dW 23 21 (.dp (.t 22)),Wb 24 21 23 0,jm 25 21 24,cU 26 21 3,dW 27 21 (.lj (.t 25) (.t 26)),dW 28 21 (.bin .leq (.t 27) (.c (.int .u8 122))),jT 29 21 28] (.cond (.t 29) .skip (.exit 0))) (.block 1 (.cq [MR 30 3,eY 31 .add 30 1,MR 3 31]))))) (aM [MR 32 0,aQ 33 (.dp (.t 32)),ep 34 33 0,fm 35 34,MR 36 3,aQ 37 (.ZL (.t 35) none (some (.t 36))),MR 4 37] (aM [MR 38 0,MR 39 0,aQ 40 (.dp (.t 39)),ep 41 40 0,fm 42 41,MR 43 3,aQ 44 (.ZL (.t 42) (some (.t 43)) none),aQ 45 (.dp (.t 38)),ep 46 45 0,gg (.store 1 (.t 46) (.t 44))] (aM [MR 47 0,MR 48 0,aQ 49 (.dp (.t 48)),ep 50 49 1,fm 51 50,MR 52 51,gV 53 52 3,iR 54 52 (.bin .eql (.t 53) (jS 0)),sj 55 52 54,MR 56 55,gV 57 56 3,iR 58 56 (.bin .gtr (.t 57) (jS 8)),sj 59 56 58,aQ 60 (.dp (.t 47)),ep 61 60 1,gg (.store 1 (.t 61) (.t 59))] (aM [MR 62 4,MR 2 62] .ret)))))))
def Ej {bb:Nat} (hF:aw P G bb=some (63,[(none,2)],fa.bare)) (s:Bs) (hs:s.length≤B) (b:Bool) :
  cR P G bb [.ptr (.par 0) 2 0 0] (cG s b) fun x cs=>x= .str (s.takeWhile akP)∧cs=cG (s.dropWhile akP) (b||(decide (s.takeWhile akP=[])||decide (8<(s.takeWhile akP).length))):=by
 refine dw hF N7 PC PC ?_;have zo:B=1073741824:=rfl;unfold fa;simp only[↓aX,mX,seval,Oj];refine ca (σ:={i:Nat // i≤s.length∧∀c∈s.take i,akP c=true}) [.par 0] (fun q=>[(0,.ptr (.par 0) 2 0 0),(3,.int .i64 q.1)]) (fun _=>[(.par 0,⟨2,[cG s b]⟩)]) (fun q=>s.length - q.1) ⟨0,N7⟩ (fun _=>rfl) Pr PC PC ?_ ?_
 ·refine eL ?_ PD PD;intro l hl hu;by_cases e:l= .par 0
  ·subst e;simp
  exfalso;apply hu;simp[ae,e,Hp.none]
 rintro⟨i,hi,dN⟩;simp only[↓aX,mX,seval,cF,bW];have fin:s.takeWhile akP=s.take i→(((i:Nat):Int)==0)=decide (s.takeWhile akP=[])∧decide (((i:Nat):Int)>8)=decide (8<(s.takeWhile akP).length):=by
  intro h1;rw[h1];constructor
  ·rw[Bb,yt,dj,←ye,tp];omega
  rw[Ou,tp];omega
 by_cases bI:i<s.length
 ·rw[show decide (((i:Nat):Int)<((s.length:Nat):Int))=true by simpa using bI];obtain⟨c,hc⟩:=an' bI;have hw:IntKind.i64.wrap ((i:Int)+1)=((i+1:Nat):Int):=wrap64 tM tM;have g_:=yC hc dN;rw[yD] at g_;simp only[↓aX,mX,seval,hc,eG,bX];have next:(decide ((c.toNat:Int)≥97)&&decide ((c.toNat:Int)≤122))=true→∃q:{i:Nat // i≤s.length∧∀c∈s.take i,akP c=true},q.1=i+1:=fun h=>⟨⟨i+1,bI,g_.1 h⟩,rfl⟩
  have stop:(decide ((c.toNat:Int)≥97)&&decide ((c.toNat:Int)≤122))=false→s.takeWhile akP=s.take i∧s.dropWhile akP=s.drop i:=g_.2;cases h1:decide ((c.toNat:Int)≥97) with
  |false=>
   obtain⟨e1,e2⟩:=stop (by rw[h1];rfl);simp only[↓aX,mX,seval,bnd,eG,bX,tk,hi,ku,eQ,bT,NS,tn,zd,va,eM];obtain⟨f1,f2⟩:=fin e1;cases b with
   |true=>
    simp only[↓aX,mX,seval,YT];exact⟨cG (s.dropWhile akP) true,by simp[ae,ah,AV.an,e1,e2]⟩
   |false=>
   simp only[↓aX,mX,seval,f1];cases h3:decide (s.takeWhile akP=[]) with
   |true=>
    simp only[↓aX,mX,seval,YT];refine⟨cG (s.dropWhile akP) true,?_⟩;rw[←e1,←e2];simp[ae,ah,AV.an,h3]
   |false=>
   simp only[↓aX,mX,seval,f2,YT];refine⟨cG (s.dropWhile akP) (decide (8<(s.takeWhile akP).length)),?_⟩;rw[←e1,←e2];simp[ae,ah,AV.an,h3]
  |true=>
  simp only[↓aX,mX,seval,hc,eG,bX];cases h2:decide ((c.toNat:Int)≤122) with
  |false=>
   obtain⟨e1,e2⟩:=stop (by rw[h1,h2];rfl);simp only[↓aX,mX,seval,bnd,eG,bX,tk,hi,ku,eQ,bT,NS,tn,zd,va,eM];obtain⟨f1,f2⟩:=fin e1;cases b with
   |true=>
    simp only[↓aX,mX,seval,YT];exact⟨cG (s.dropWhile akP) true,by simp[ae,ah,AV.an,e1,e2]⟩
   |false=>
   simp only[↓aX,mX,seval,f1];cases h3:decide (s.takeWhile akP=[]) with
   |true=>
    simp only[↓aX,mX,seval,YT];refine⟨cG (s.dropWhile akP) true,?_⟩;rw[←e1,←e2];simp[ae,ah,AV.an,h3]
   |false=>
   simp only[↓aX,mX,seval,f2,YT];refine⟨cG (s.dropWhile akP) (decide (8<(s.takeWhile akP).length)),?_⟩;rw[←e1,←e2];simp[ae,ah,AV.an,h3]
  |true=>
  simp only[↓aX,mX,seval,hw];refine⟨⟨i+1,bI,g_.1 (by rw[h1,h2];rfl)⟩,Pq,eL ?_ PD PD⟩;intro l hl hu;by_cases e:l= .par 0
  ·subst e;simp
  exfalso;apply hu;simp[ae,e,Hp.none]
 have XV:s.take i=s:=eN tM;have zR:s.drop i=[]:=Ls tM;rw[show decide (((i:Nat):Int)<((s.length:Nat):Int))=false by simpa using bI];rw[XV] at dN;obtain⟨e1,e2⟩:s.takeWhile akP=s.take i∧s.dropWhile akP=s.drop i:=by rw[XV,zR];exact vZ dN
 simp only[↓aX,mX,seval,bnd,eG,bX,tk,hi,ku,eQ,bT,NS,tn,zd,va,eM];obtain⟨f1,f2⟩:=fin e1;cases b with
 |true=>
  simp only[↓aX,mX,seval,YT];exact⟨cG (s.dropWhile akP) true,by simp[ae,ah,AV.an,e1,e2]⟩
 |false=>
 simp only[↓aX,mX,seval,f1];cases h3:decide (s.takeWhile akP=[]) with
 |true=>
  simp only[↓aX,mX,seval,YT];refine⟨cG (s.dropWhile akP) true,?_⟩;rw[←e1,←e2];simp[ae,ah,AV.an,h3]
 |false=>
 simp only[↓aX,mX,seval,f2,YT];refine⟨cG (s.dropWhile akP) (decide (8<(s.takeWhile akP).length)),?_⟩;rw[←e1,←e2];simp[ae,ah,AV.an,h3]
end
end Go.Am
