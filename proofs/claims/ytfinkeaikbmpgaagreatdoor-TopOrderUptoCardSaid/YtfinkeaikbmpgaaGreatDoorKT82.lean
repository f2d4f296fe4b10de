import Derived.Test.YtfinkeaikbmpgaaGreatDoorKAm40
import Derived.Test.YtfinkeaikbmpgaaGreatDoorKT4
import Derived.Test.YtfinkeaikbmpgaaGreatDoorKT21
import Derived.Test.YtfinkeaikbmpgaaGreatDoorKT15
import Derived.Test.YtfinkeaikbmpgaaGreatDoorKP2
set_option linter.unusedSimpArgs false
set_option linter.unusedVariables false
set_option linter.unnecessarySimpa false
set_option linter.defProp false
/- The bench: copies of one's own; where a number stands. -/
namespace Go.Am
open Go Go.RowKit
section
variable {P:Program} {G:Nat→Option (List IV)}
def lR:AC:=
(ay [oQ 2] (.seq (ay [af 3 0,aE 4 (.Kk false (.t 3))] (.cond (.t 4) (ay [oQ 2] (.gh (.own 2 2) .ret)) .skip)) (ay [aE 5 (.lits 0 2 [(.str []),(.str [])] []),af 6 0,aE 7 (.app (.t 5) (.t 6) 2 32),af 2 7] .ret)))
def mN:AC:=
(ay [oQ 2] (.seq (ay [af 3 0,aE 4 (.Kk false (.t 3))] (.cond (.t 4) (ay [oQ 2] (.gh (.own 2 1) .ret)) .skip)) (ay [aE 5 (.lits 0 1 [(.int .i64 0)] []),af 6 0,aE 7 (.app (.t 5) (.t 6) 1 8),af 2 7] .ret)))
def Sm {ai:Nat} (hF:an P G ai=some (8,[(none,2)],eC.bare)) (xs:List Attr) (hx:xs.length≤B):DU P G ai [.list (dA xs)] 2 (dA xs):=by
 refine CS (ac:=lR) hF (by simp) (by simp[ah,AV.aB]) ?_;unfold lR;simp only[↓aX,mX,seval,DE];refine zx (fun h=> ?_) ?_
 ·simp only[↓aX,mX,seval];refine⟨.loc 2,?_,?_⟩
  ·rw[h];rfl
  rw[h];rfl
 simp only[↓aX,mX,seval];rw[rh 2 32 7 (dA xs) (tk _) (ri _) (by rw[bQ];unfold B at hx;omega) (by decide) rfl];simp only[↓aX,mX,seval];exact⟨.loc 7,rfl,by simp[ae]⟩
def Sn {aJ:Nat} (hF:an P G aJ=some (8,[(none,2)],gk.bare)) (xs:List Int) (hx:xs.length≤B):DU P G aJ [.list (xs.map aW)] 1 (xs.map aW):=by
 refine CS (ac:=mN) hF (by simp) (by simp[ah,AV.aB]) ?_;unfold mN;simp only[↓aX,mX,seval,DE];refine zx (fun h=> ?_) ?_
 ·simp only[↓aX,mX,seval];refine⟨.loc 2,?_,?_⟩
  ·rw[List.map_eq_nil_iff.1 h];rfl
  rw[h];rfl
 simp only[↓aX,mX,seval];rw[rh 1 8 7 (xs.map aW) (rj _) (oy _) (by rw[ag5];unfold B at hx;omega) (by decide) rfl];simp only[↓aX,mX,seval];exact⟨.loc 7,rfl,by simp[ae]⟩
def o2 (xs:List Int) (v:Int):Int:=match xs.findIdx? (·==v) with|some k=>(k:Int)|none=> -1
def JE {xs:List Int} {v:Int} {k:Nat} (h:xs[k]?=some v) (hb:∀j,j<k→xs[j]?≠some v):o2 xs v=k:=by
 have:xs.findIdx? (·==v)=some k:=by
  rw[afF];obtain⟨hk,e⟩:=ag6.1 h;refine⟨hk,by simp[e],fun j hj=> ?_⟩;have h2:=hb j hj;rw[ag7 (by omega)] at h2;simpa using h2
 rw[o2,this]
def CT {xs:List Int} {v:Int} (h:∀j,j<xs.length→xs[j]?≠some v):o2 xs v= -1:=by
 have:xs.findIdx? (·==v)=none:=by
  rw[afY];intro x hx;obtain⟨j,hj⟩:=aeh hx;have h2:=h j (ag6.1 hj).1;rw[hj] at h2;simpa using h2
 rw[o2,this]
def So (xs:List Int) (i:Nat):(xs.map aW)[i]?=(xs[i]?).map aW:=adX ..
def Lu (n:Int):(aW n).cells=[.int .i64 n]:=rfl
def iy:AC:=
(ay [eX 4 0] (.seq (ay [af 6 0,ky 7 6,eX 8 0] (.block 0 (.loop (ay [eS 9 .lss 8 7] (.seq (.cond (.t 9) .skip (.exit 0)) (.seq (.block 1 (ay [af 10 8,af 5 10] (ay [af 11 1,af 12 0,af 13 5,ig 14 12 13 1,cS 15 14,eS 16 .eql 11 15] (.cond (.t 16) (ay [af 17 5,af 4 17] .ret) .skip)))) (.ec [db 18 .add 8 1,af 8 18]))))))) (ay [aE 4 (.nE (.c (.int .i64 (-1))))] .ret)))
def Lv {cq:Nat} (hF:an P G cq=some (19,[(none,4)],iy.bare)) (xs:List Int) (v:Int) (hx:xs.length≤B) :
  aw P G cq [.list (xs.map aW),.int .i64 v] (.int .i64 (o2 xs v)):=by
 refine aM hF (by simp) (by simp[ah,AV.aB]) (by simp[AV.aB]) ?_;unfold iy;simp only[↓aX,mX,seval,ag5];refine mK (σ:={i:Nat // i≤xs.length∧∀j,j<i→xs[j]?≠some v}) (fun q=>[(0,.list (xs.map aW)),(1,.int .i64 v),(7,.int .i64 xs.length),(8,.int .i64 q.1)]) (fun q=>xs.length - q.1) ⟨0,by simp⟩ (fun _=>rfl) ?_ ?_
 ·exact⟨by simp only[↓aX,mX,seval],by repeat' constructor⟩
 rintro⟨i,hi,hs⟩;simp only[↓aX,mX,seval,ag5];by_cases bO:i<xs.length
 ·rw[show decide ((i:Int)<(xs.length:Int))=true by simpa using bO];obtain⟨x,BG⟩:∃x,xs[i]?=some x:=⟨_,ag7 bO⟩;have hw:IntKind.i64.wrap ((i:Int)+1)=((i+1:Nat):Int):=wrap64 (by omega) (by unfold B at hx;omega);simp only[↓aX,mX,seval,So,BG,adB,rj,Lu,hw];by_cases QS:x=v
  ·subst QS;rw[JE BG hs];simp only[↓aX,mX,seval]
  rw[show(v==x)=false by simpa using fun e=>QS e.symm];simp only[↓aX,mX,seval,hw];refine⟨⟨i+1,bO,fun j hj=> ?_⟩,by simp only;omega,rfl⟩;by_cases e:j=i
  ·rw[e,BG];simpa using QS
  exact hs j (by omega)
 rw[show decide ((i:Int)<(xs.length:Int))=false by simpa using bO];simp only[↓aX,mX,seval];rw[CT fun j hj=>hs j (by omega)]
end

section
variable {H:Hp} {l:Lb} {sz b d n c i m:Nat} {els news:List (List AV)} {xs:List IV}
def A9 (hl:H l= .live ⟨sz,els⟩) (hn:n≤els.length) (he:ko sz xs) (hf:Flat xs) (h0:0<b) (hd:l≠ .loc d) (hc:n+xs.length≤c) (HT:n+xs.length≤els.length) :
  nH sz b d (.slk l sz 0 n c) (.list xs) H=some (.slk l sz 0 (n+xs.length) c,bF H l (.live ⟨sz,els.take n++ar xs++els.drop (n+xs.length)⟩)):=by
 unfold nH;rw[mJ he];have h1:(ar xs).length=xs.length:=dw xs;simp only[adA,hf.one,not_true_eq_false,adS,hl,adF,hn,h0,aef,ne_eq,hd,afN,h1,hc,HT,adH];simpa using hf.one
def yR {x:AV} (hs:oT sz x H=some news) (ho:∀cs∈news,AV.qE cs) (hl:H l= .live ⟨sz,els⟩) (hn:n≤els.length) (h0:0<b) (hd:l≠ .loc d) (hc:n+news.length≤c) (HT:n+news.length≤els.length) :
  nH sz b d (.slk l sz 0 n c) x H=some (.slk l sz 0 (n+news.length) c,bF H l (.live ⟨sz,els.take n++news++els.drop (n+news.length)⟩)):=by
 unfold nH;simp only[hs,adA,hl,adF,hn,h0,ne_eq,hd,afN,hc,HT,adH];simpa using ho
def OA {x:AV} {z:List AV} (hz:AV.qE z) (hp:TJ x=some (l,sz,i,n)) (hl:H l= .live ⟨sz,els⟩) (qW:i+n≤els.length) :
  Ds sz z x H=some (bF H l (.live ⟨sz,els.take i++List.replicate n z++els.drop (i+n)⟩)):=by
 unfold Ds;rw[ag8 (by simpa using hz)];simp only[hp,adA,hl,adF,qW,adH,aeS]
def yS (hl:H l= .live ⟨sz,els⟩) (hn:n≤els.length) (he:ko sz xs) (hf:Flat xs) (h0:0<b) (hd:l≠ .loc d) (hc:c<n+xs.length) (hb:(n+xs.length)*b≤140737488355328) (hu:H (.loc d)= .unused) :
  nH sz b d (.slk l sz 0 n c) (.list xs) H=some (.sl (.loc d) sz 0 (n+xs.length),bF H (.loc d) (.live ⟨sz,els.take n++ar xs⟩)):=by
 unfold nH;rw[mJ he];have h1:(ar xs).length=xs.length:=dw xs;have hc':¬(n+xs.length≤c):=by omega
 simp only[adA,hl,adF,hn,h0,ne_eq,hd,afN,h1,hc',hb,hu,adH,adS,ad8];simpa using hf.one
def FD {z:List AV} {k:IntKind} (hl:H l= .live ⟨sz,els⟩) (hn:n≤els.length) (hc:c<n+m) (hb:(n+m)*b≤140737488355328) (hu:H (.loc d)= .unused) :
  B9 sz b d z (.slk l sz 0 n c) (.int k (m:Int)) H=some (.sl (.loc d) sz 0 (n+m),bF H (.loc d) (.live ⟨sz,els.take n++List.replicate m z⟩)):=by
 unfold B9;simp only[hl,adF,hn,adt,ag9,hc,hb,hu,ad8,adH]
def tO {x y:AV} (hs:oT sz x H=some news) (hp:TJ y=some (l,sz,i,n)) (hl:H l= .live ⟨sz,els⟩) (qW:i+n≤els.length) (hm:m=Nat.min news.length n) (ho:∀cs∈news.take m,AV.qE cs) :
  Dr sz y x H=some (.int .i64 (m:Int),bF H l (.live ⟨sz,els.take i++news.take m++els.drop (i+m)⟩)):=by
 unfold Dr;subst hm;simp only[hs,adA,hp,hl,adF,qW,adH];rw[ag8 (by simpa using ho)];have:(news.take (Nat.min news.length n)).length=Nat.min news.length n:=by rw[adP];exact ael (jY _ _)
 rw[this]
end
def rz {xs:List IV} {rest:List (List AV)} {i k:Nat} (h:i+k≤xs.length):((ar xs++rest).drop i).take k=ar ((xs.drop i).take k):=by
 have h1:=dw xs;rw[ae9 (by omega),afq (by simp;omega)];simp[ar,af6,afp]
def mh {xs:List IV} {rest:List (List AV)} {k:Nat} (h:k≤xs.length):(ar xs++rest).take k=ar (xs.take k):=by
 have h1:=dw xs;rw[afq (by omega)];simp[ar,afp]
def Flat.part {xs:List IV} (h:Flat xs) (i k:Nat):Flat ((xs.drop i).take k):=fun y hy=>h y (aev (ad4 hy))

abbrev OB (v:Bool) (c:UInt8):Prop:=c=60∨(c=34∧v=true)
def Lw (v:Bool):cC v []=some ([],[]):=by rw[cC]
def HU {v:Bool} {c:UInt8} (hc:OB v c) (r:Bs):cC v (c::r)=some ([],c::r):=by rw[cC,adv hc]

def cw (s:Bs):List IV:=s.map fun c=>IV.int .u8 c.toNat
def cx (s:Bs):(cw s).length=s.length:=by simp[cw]
def FE (s t:Bs):cw (s++t)=cw s++cw t:=by simp[cw]
def rA (s:Bs):Flat (cw s):=by
 intro x hx z hz cs;obtain⟨c,_,rfl⟩:=adY.1 hx;simp only[IV.cells,adr] at hz;subst hz;simp
def Sp (s:Bs):ar (cw s)=s.map fun c=>[AV.int .u8 c.toNat]:=by
 simp[ar,cw,IV.cells,IV.gK]
def og {H:Hp} {l:Lb} {d n:Nat} {xs:List IV} {t:Bs} (hl:H l= .live ⟨1,ar xs⟩) (hn:n=xs.length) (hb:n+t.length≤140737488355328) (hd:l≠l.app d) (hu:H (l.app d)= .unused) :
  nH 1 1 d (.sl l 1 0 n) (.str t) H=some (.sl (l.app d) 1 0 (n+t.length),bF (bF H l .dead) (l.app d) (.live ⟨1,ar (xs++cw t)⟩)):=by
 unfold nH;have h1:(ar xs).length=n:=by rw[dw,hn]
 have e:ar (xs++cw t)=ar xs++t.map fun c=>[AV.int .u8 c.toNat]:=by rw[iN,Sp]
 have ho:∀cs∈t.map (fun c=>[AV.int .u8 (c.toNat:Int)]),AV.qE cs:=by
  intro cs bS;obtain⟨c,_,rfl⟩:=adY.1 bS;intro x hx;simp only[adr] at hx;subst hx;rfl
 simp only[oT,adH,adA];rw[ag8 (by simpa using ho)];simp only[hl,adF,ag5,h1,adw,agF,hb,Nat.lt_irrefl,show 0<1 by decide,ne_eq,hd,afN,hu,adH,e];rw[ads (afm h1)]
def nr {H:Hp} {l:Lb} {d n:Nat} {xs:List IV} {c:UInt8} (hl:H l= .live ⟨1,ar xs⟩) (hn:n=xs.length) (hb:n+1≤140737488355328) (hd:l≠l.app d) (hu:H (l.app d)= .unused) :
  nH 1 1 d (.sl l 1 0 n) (.list [.int .u8 (c.toNat:Int)]) H=some (.sl (l.app d) 1 0 (n+1),bF (bF H l .dead) (l.app d) (.live ⟨1,ar (xs++cw [c])⟩)):=by
 rw[DD hl (by rw[dw,hn]) rfl (by intro z hz cs;simp only[IV.cells,adr] at hz;subst hz;simp) (by omega) (by decide) hd hu,iN];rfl
def px {H:Hp} {l:Lb} {d n:Nat} {xs:List IV} (c:UInt8) {z:Int} (hz:(c.toNat:Int)=z) (hl:H l= .live ⟨1,ar xs⟩) (hn:n=xs.length) (hb:n+1≤140737488355328) (hd:l≠l.app d) (hu:H (l.app d)= .unused) :
  nH 1 1 d (.sl l 1 0 n) (.list [.int .u8 z]) H=some (.sl (l.app d) 1 0 (n+1),bF (bF H l .dead) (l.app d) (.live ⟨1,ar (xs++cw [c])⟩)):=by
 subst hz;exact nr hl hn hb hd hu
def FF {s:Bs} {i:Nat} (h:i<s.length):∃c,s[i]?=some c:=⟨_,ag7 h⟩
def FG {v:Bool} {s:Bs} {i:Nat} {c:UInt8} (h:s[i]?=some c):nW v (s.take (i+1))=nW v (s.take i)++u9 v c:=by
 unfold nW;rw[aei,h,afe];simp
def OC (v:Bool) (c:UInt8):(u9 v c).length≤6:=by
 unfold u9;split<;>(try split)<;>(try split)<;>(try split)<;>simp[Js,K7,zj,tv]
theorem uR (v:Bool):∀s:Bs,(nW v s).length≤6*s.length
 |[]=>by simp[nW]
 |c::s=>by
  have:=uR v s;have:=OC v c;simp only[nW,aeK,adE,adK] at *;omega
section
variable {P:Program} {G:Nat→Option (List IV)}
def qO:AC:=
(ay [oQ 6] (.seq (ay [af 9 1,wg 10 9,eX 11 0] (.block 0 (.loop (ay [eS 12 .lss 11 10] (.seq (.cond (.t 12) .skip (.exit 0)) (.seq (.block 1 (ay [af 13 11,af 7 13] (ay [af 14 1,af 15 7,aE 16 (.vd (.t 14) (.t 15)),af 8 16] (.block 2 (ay [af 22 8,aE 23 (.bin .eql (.t 22) (.c (.int .u8 60))),af 21 23] (.cond (.t 21) (.ec [af 24 0,aE 25 (.app (.t 24) (.c (.str [38,108,116,59])) 1 1),af 0 25]) (ay [af 27 8,aE 28 (.bin .eql (.t 27) (.c (.int .u8 62))),af 26 28] (.cond (.t 26) (.ec [af 29 0,aE 30 (.app (.t 29) (.c (.str [38,103,116,59])) 1 1),af 0 30]) (ay [af 32 8,aE 33 (.bin .eql (.t 32) (.c (.int .u8 38))),af 31 33] (.cond (.t 31) (.ec [af 34 0,aE 35 (.app (.t 34) (.c (.str [38,97,109,112,59])) 1 1),af 0 35]) (ay [af 37 8,aE 38 (.bin .eql (.t 37) (.c (.int .u8 34))),af 39 38,eJ 40 39 2,l7 41 39 40,af 36 41] (.cond (.t 36) (.ec [af 42 0,aE 43 (.app (.t 42) (.c (.str [38,113,117,111,116,59])) 1 1),af 0 43]) (.ec [af 17 0,af 18 8,aE 19 (.lits 1 1 [(.int .u8 0)] [(0,(.t 18))]),aE 20 (.app (.t 17) (.t 19) 1 1),af 0 20]))))))))))))) (.ec [db 44 .add 11 1,af 11 44]))))))) (ay [af 45 0,af 6 45] .ret)))
def Sq {iG:Nat} (hF:an P G iG=some (46,[(none,6)],qO.bare)) (xs:List IV) (s:Bs) (v:Bool) (hb:xs.length+6*s.length≤2^40) :
  va P G 1 iG [.sl (.par 0) 1 0 xs.length,.str s,.bool v] xs (xs++cw (nW v s)):=by
 refine CR hF (by simp) (by simp[ah,AV.aB]) ?_;have hbv:(2:Nat)^40=1099511627776:=by decide
 unfold qO;simp only[↓aX,mX,seval,gg];refine ki (σ:={i:Nat // i≤s.length}) (fun _=>[.gen 0]) (fun _ l=>l== .par 0)
  (fun q=>[(0,.sl (.gen 0) 1 0 (xs.length+(nW v (s.take q.1)).length)),(1,.str s),(2,.bool v),(10,.int .i64 s.length),(11,.int .i64 q.1)])
  (fun q=>[(.gen 0,⟨1,ar (xs++cw (nW v (s.take q.1)))⟩)]) (fun q=>s.length - q.1) ⟨0,ad3 _⟩ (fun _=>rfl) (fun q=>by simp[ah,AV.aB]) ?_ ⟨[(.gen 0,.par 0)],?_⟩ ?_
 ·intro q w hw cs bS z hz;simp only[adr] at hw;subst hw;rw[bT bS] at hz;simp at hz
 ·refine⟨?_,?_,?_,by simp[bZ],?_⟩
  ·intro l hf hu;right;by_cases e:l= .par 0
   ·subst e;rfl
   exfalso;apply hu;simp[ae,e,Hp.none]
  ·simp[kv,bZ,e7,put,nW,lE]
  ·simp[qe,bZ,ae,b5,nW,cw]
  simp[Lb.fresh,Lb.entry]
 rintro⟨i,hi⟩;have yw:=uR v (s.take i);rw[adP,ael hi] at yw;simp only[↓aX,mX,seval,ag5];by_cases bO:i<s.length
 ·rw[show decide (((i:Nat):Int)<((s.length:Nat):Int))=true by simpa using bO];obtain⟨c,hc⟩:=FF bO;have hw:IntKind.i64.wrap ((i:Int)+1)=((i+1:Nat):Int):=wrap64 (by omega) (by omega);have hU:∀d,fy (fun l=>l==Lb.par 0) [(Lb.gen 0,⟨1,ar (xs++cw (nW v (s.take i)))⟩)] (.gen (d+1))= .unused:=fun d=>by
   rw[jT (by simp)];rfl
  have hL:fy (fun l=>l==Lb.par 0) [(Lb.gen 0,⟨1,ar (xs++cw (nW v (s.take i)))⟩)] (.gen 0)= .live ⟨1,ar (xs++cw (nW v (s.take i)))⟩:=dm.2 (by simp[kx,ae]);have hlen:xs.length+(nW v (s.take i)).length=(xs++cw (nW v (s.take i))).length:=by rw[adE,cx]
  simp only[↓aX,mX,seval,hc,adt,ag9];have fin:∀(w:Bs) (d:Nat) (env:Env),u9 v c=w→env 0= .sl (.gen d) 1 0 (xs.length+(nW v (s.take i)).length+w.length)→env 1= .str s→env 2= .bool v→env 10= .int .i64 s.length→env 11= .int .i64 ((i+1:Nat):Int) →
    ∃q:{i:Nat // i≤s.length},s.length - q.1<s.length - i∧∃m,WE [.gen 0] (fun l=>l== .par 0) [(0,.sl (.gen 0) 1 0 (xs.length+(nW v (s.take q.1)).length)),(1,.str s),(2,.bool v),(10,.int .i64 s.length),(11,.int .i64 q.1)]
     [(.gen 0,⟨1,ar (xs++cw (nW v (s.take q.1)))⟩)] env (bF (bF (fy (fun l=>l==Lb.par 0) [(Lb.gen 0,⟨1,ar (xs++cw (nW v (s.take i)))⟩)]) (.gen 0) .dead) (.gen d) (.live ⟨1,ar (xs++cw (nW v (s.take i))++cw w)⟩)) m:=by
   rintro w d env rfl h0 h1 h2 h3 h4;refine⟨⟨i+1,bO⟩,by simp only;omega,[(.gen 0,.gen d)],?_,?_,?_,by simp[bZ],?_⟩
   ·intro l hf hu;right;by_cases e:l= .par 0
    ·subst e;rfl
    exfalso;apply hu;cases l<;>simp[Lb.entry] at hf;rename_i n;rw[ax _ _ (by simp),ax _ _ (by simp),jT (by simp)];simp only[aep,e,adS]
   ·simp only[kv,h0,h1,h2,h3,h4,e7,bZ,FG hc,adE,adH];simp only[aer,ad8]
   ·simp[qe,bZ,ae,b5,FG hc,FE]
   simp[Lb.fresh,Lb.entry]
  have hbd:xs.length+(nW v (s.take i)).length+6≤140737488355328:=by omega
  have c60:((c.toNat:Int)==60)=(c==60):=by
   rw[aeG];simp only[aep];rw[←afZ];show _↔_=60;omega
  have Yu:((c.toNat:Int)==62)=(c==62):=by
   rw[aeG];simp only[aep];rw[←afZ];show _↔_=62;omega
  have c38:((c.toNat:Int)==38)=(c==38):=by
   rw[aeG];simp only[aep];rw[←afZ];show _↔_=38;omega
  have c34:((c.toNat:Int)==34)=(c==34):=by
   rw[aeG];simp only[aep];rw[←afZ];show _↔_=34;omega
  rw[c60];by_cases h1:c=60
  ·rw[show(c==60)=true by simp[h1]];simp only[↓aX,mX,seval];rw[og (xs:=xs++cw (nW v (s.take i))) hL hlen (by simp;omega) (by simp[Lb.app,Lb.fresh]) (hU 24)];simp only[↓aX,mX,seval,hw];exact fin Js 25 _ (by unfold u9;rw[adv h1]) rfl rfl rfl rfl rfl
  rw[show(c==60)=false by simp[h1]];simp only[↓aX,mX,seval,Yu];by_cases h2:c=62
  ·rw[show(c==62)=true by simp[h2]];simp only[↓aX,mX,seval];rw[og (xs:=xs++cw (nW v (s.take i))) hL hlen (by simp;omega) (by simp[Lb.app,Lb.fresh]) (hU 29)];simp only[↓aX,mX,seval,hw];exact fin K7 30 _ (by unfold u9;rw[ag8 h1,adv h2]) rfl rfl rfl rfl rfl
  rw[show(c==62)=false by simp[h2]];simp only[↓aX,mX,seval,c38];by_cases h3:c=38
  ·rw[show(c==38)=true by simp[h3]];simp only[↓aX,mX,seval];rw[og (xs:=xs++cw (nW v (s.take i))) hL hlen (by simp;omega) (by simp[Lb.app,Lb.fresh]) (hU 34)];simp only[↓aX,mX,seval,hw];exact fin zj 35 _ (by unfold u9;rw[ag8 h1,ag8 h2,adv h3]) rfl rfl rfl rfl rfl
  rw[show(c==38)=false by simp[h3]];simp only[↓aX,mX,seval,c34];have last:∀(env:Env),¬(c=34∧v=true)→u9 v c=[c]:=fun _ h4=>by unfold u9;rw[ag8 h1,ag8 h2,ag8 h3,ag8 h4]
  by_cases h4:c=34
  ·rw[show(c==34)=true by simp[h4]];simp only[↓aX,mX,seval];refine qG (fun hv=> ?_) (fun hv=> ?_)
   ·simp only[↓aX,mX,seval];rw[og (xs:=xs++cw (nW v (s.take i))) hL hlen (by simp;omega) (by simp[Lb.app,Lb.fresh]) (hU 42)];simp only[↓aX,mX,seval,hw];exact fin tv 43 _ (by unfold u9;rw[ag8 h1,ag8 h2,ag8 h3,adv ⟨h4,hv⟩]) rfl rfl rfl rfl rfl
   simp only[↓aX,mX,seval];rw[nr (xs:=xs++cw (nW v (s.take i))) hL hlen (by omega) (by simp[Lb.app,Lb.fresh]) (hU 19)];simp only[↓aX,mX,seval,hw];exact fin [c] 20 _ (last Env.any (by simp[hv])) rfl rfl rfl rfl rfl
  rw[show(c==34)=false by simp[h4]];simp only[↓aX,mX,seval];rw[nr (xs:=xs++cw (nW v (s.take i))) hL hlen (by omega) (by simp[Lb.app,Lb.fresh]) (hU 19)];simp only[↓aX,mX,seval,hw];exact fin [c] 20 _ (last Env.any (by simp[h4])) rfl rfl rfl rfl rfl
 have qV:s.take i=s:=ads (by omega);rw[show decide (((i:Nat):Int)<((s.length:Nat):Int))=false by simpa using bO,qV];simp only[↓aX,mX,seval,dB];refine⟨.gen 0,by rw[adE,cx],?_⟩;exact dm.2 (by simp[kx,ae])
mutual
theorem W2:∀x:Tree,x.sh.length≤7*x.wt
 | .mk t s as ks=>by
  have h1:=uR false s;have h2:=oF as;have h3:=zH ks;cases t with
  |true=>
   rw[Tree.R9 _ rfl];simp only[Tree.s,Tree.wt];omega
  |false=>
  rw[Tree.N' _ rfl];simp only[Tree.s,Tree.attrs,Tree.kids,Tree.wt,adE,adK];cases ks with
  |nil=>simp only[AK,adK,aek];omega
  |cons k r=>simp only[AK,adE,adK,aek];omega
theorem zH:∀xs:List Tree,(uG xs).length≤7*er xs
 |[]=>by simp[uG,er]
 |x::r=>by
  have:=W2 x;have:=zH r;simp only[uG,er,adE];omega
theorem oF:∀as:List Attr,(ey as).length≤7*j0 as
 |[]=>by simp[ey,j0]
 |a::r=>by
  have h1:=oF r;have h2:=uR true a.val;simp only[ey,aeK,adE,xW,j0,Attr.wt,adK,aek] at *;omega
end
def DW {as:List Attr} {i:Nat} {a:Attr} (h:as[i]?=some a):ey (as.take (i+1))=ey (as.take i)++xW a:=by
 unfold ey;rw[aei,h,afe];simp
theorem JF:∀xs ys:List Tree,uG (xs++ys)=uG xs++uG ys
 |[],ys=>by simp[uG]
 |x::r,ys=>by simp[uG,JF r ys]
def OD {ks:List Tree} {i:Nat} {k:Tree} (h:ks[i]?=some k):uG (ks.take (i+1))=uG (ks.take i)++k.sh:=by
 rw[aei,h,JF];simp[uG]
def Lx (as:List Attr) (i:Nat):j0 (as.take i)≤j0 as:=by
 induction as generalizing i with
 |nil=>simp[j0]
 |cons a r ih=>
 cases i with
 |zero=>simp[j0]
 |succ i=>have:=ih i;simp[j0];omega
def Ly (ks:List Tree) (i:Nat):er (ks.take i)≤er ks:=by
 induction ks generalizing i with
 |nil=>simp[er]
 |cons a r ih=>
 cases i with
 |zero=>simp[er]
 |succ i=>have:=ih i;simp[er];omega
def OE {as:List Attr} {i:Nat} {a:Attr} (h:as[i]?=some a):j0 (as.take i)+a.wt≤j0 as:=by
 induction as generalizing i with
 |nil=>simp at h
 |cons b r ih=>
 cases i with
 |zero=>simp at h;subst h;simp[j0]
 |succ i=>have:=ih (i:=i) (by simpa using h);simp[j0];omega
def OF {ks:List Tree} {i:Nat} {k:Tree} (h:ks[i]?=some k):er (ks.take i)+k.wt≤er ks:=by
 induction ks generalizing i with
 |nil=>simp at h
 |cons b r ih=>
 cases i with
 |zero=>simp at h;subst h;simp[er]
 |succ i=>have:=ih (i:=i) (by simpa using h);simp[er];omega
def CU {x:Tree} {env:Env} {H:Hp} {d:Nat} {ys:List IV} {ps:List (Nat×AV)} (h1:H (.gen d)= .live ⟨1,ar ys⟩) (h2:H (.loc 3)= .live ⟨4,[x.cs.map IV.gK]⟩) (TM:∀n,n≠0→H (.par n)= .unused) (he:kv (bZ [(.gen 0,.gen d)]) env ps) :
  WE [.gen 0,.loc 3] (fun l=>l== .par 0) ps [(.gen 0,⟨1,ar ys⟩),(.loc 3,⟨4,[x.cs.map IV.gK]⟩)] env H [(.gen 0,.gen d)]:=by
 refine⟨?_,he,?_,by simp[bZ],?_⟩
 ·intro l hf hu;right;cases l<;>simp[Lb.entry] at hf;rename_i n;by_cases e:n=0
  ·subst e;rfl
  exact absurd (TM n e) hu
 ·refine⟨by simp[bZ,b5,h1],?_,trivial⟩;have:cV (bZ [(Lb.gen 0,Lb.gen d)]) ⟨4,[x.cs.map IV.gK]⟩=⟨4,[x.cs.map IV.gK]⟩:=by
   simp only[cV,ad5,aeW];rw[pJ]
  rw[this];simpa[bZ] using h2
 intro l hl;simp only[adz,adG,adO] at hl;rcases hl with rfl|rfl
 ·simp[Lb.fresh,Lb.entry]
 simp[bZ]
def vZ (iG jF:Nat):AC:=
(ay [oN 3 1,oQ 4] (.seq (ay [b7 9 3 0,cS 10 9] (.cond (.t 10) (ay [af 11 0,b7 12 3 1,cS 13 12,aE 14 (.call iG [(.t 11),(.t 13),(vC false)]),af 4 14] .ret) .skip)) (.seq (.fg [af 15 0,aE 16 (.lits 1 1 [(.int .u8 0)] [(0,(.c (.int .u8 60)))]),aE 17 (.app (.t 15) (.t 16) 1 1),b7 18 3 1,cS 19 18,aE 20 (.app (.t 17) (.t 19) 1 1),af 0 20] [[],[],[0,1],[],[3],[2,4,2],[5,5,0,1,2,3,4,5]] [.no,.no,(.rw [] [(.par 0),(.gen 17)]),.no,.rw [.loc 3] [],(.rw [] [(.gen 17),(.gen 20)]),.no]) (.seq (ay [b7 21 3 2,cS 22 21,ky 23 22,eX 24 0] (.block 0 (.loop (ay [eS 25 .lss 24 23] (.seq (.cond (.t 25) .skip (.exit 0)) (.seq (.block 1 (ay [ig 26 22 24 2,gd 27 2 26,aE 6 (.new [(.str []),(.str [])]),dT (.store 2 (.t 6) (.t 27))] (.seq (.fg [af 28 0,aE 29 (.lits 1 1 [(.int .u8 0)] [(0,(.c (.int .u8 32)))]),aE 30 (.app (.t 28) (.t 29) 1 1),b7 31 6 0,cS 32 31,aE 33 (.app (.t 30) (.t 32) 1 1),af 0 33] [[],[],[0,1],[],[3],[2,4,2],[5,5,0,1,2,3,4,5]] [.no,.no,(.rw [] [(.gen 0),(.gen 30)]),.no,.rw [.loc 6] [],(.rw [] [(.gen 30),(.gen 33)]),.no]) (.fg [af 34 0,aE 35 (.app (.t 34) (.c (.str [61,34])) 1 1),b7 36 6 1,cS 37 36,aE 38 (.call iG [(.t 35),(.t 37),(vC true)]),aE 39 (.lits 1 1 [(.int .u8 0)] [(0,(.c (.int .u8 34)))]),aE 40 (.app (.t 38) (.t 39) 1 1),af 0 40] [[],[0],[],[2],[1,3,1],[],[4,5,4],[6,6,0,1,2,3,4,5,6]] [.no,(.rw [] [(.gen 33),(.gen 35)]),.no,.rw [.loc 6] [],(.vj []),.no,(.rw [] [(.gen 35),(.gen 38),(.gen 40)]),.no])))) (.ec [db 41 .add 24 1,af 24 41]))))))) (.seq (ay [b7 42 3 3,cS 43 42,ky 44 43,db 45 .eql 44 0] (.cond (.t 45) (ay [af 46 0,aE 47 (.app (.t 46) (.c (.str [47,62])) 1 1),af 4 47] .ret) .skip)) (ay [af 48 0,aE 49 (.lits 1 1 [(.int .u8 0)] [(0,(.c (.int .u8 62)))]),aE 50 (.app (.t 48) (.t 49) 1 1),af 0 50] (.seq (ay [b7 51 3 3,cS 52 51,ky 53 52,eX 54 0] (.block 2 (.loop (ay [eS 55 .lss 54 53] (.seq (.cond (.t 55) .skip (.exit 2)) (.seq (.block 3 (ay [ig 56 52 54 4,gd 57 4 56,aE 8 (.new [(.bool false),(.str []),.nil0,.nil0]),dT (.store 4 (.t 8) (.t 57))] (.ec [af 58 0,gd 59 4 8,aE 60 (.call jF [(.t 58),(.t 59)]),af 0 60]))) (.ec [db 61 .add 54 1,af 54 61]))))))) (.seq (.fg [af 62 0,aE 63 (.app (.t 62) (.c (.str [60,47])) 1 1),b7 64 3 1,cS 65 64,aE 66 (.app (.t 63) (.t 65) 1 1),aE 67 (.lits 1 1 [(.int .u8 0)] [(0,(.c (.int .u8 62)))]),aE 68 (.app (.t 66) (.t 67) 1 1),af 4 68] [[],[0],[],[2],[1,3,1],[],[4,5,4],[6,6,0,1,2,3,4,5,6]] [.no,(.rw [] [(.gen 0),(.gen 63)]),.no,.rw [.loc 3] [],(.rw [] [(.gen 63),(.gen 66)]),.no,(.rw [] [(.gen 66),(.gen 68)]),.no]) .ret))))))))
def W3 {jF iG:Nat} (hF:an P G jF=some (69,[(none,4)],(vZ iG jF).bare)) (hE:∀(xs:List IV) (s:Bs) (v:Bool),xs.length+6*s.length≤2^40→va P G 1 iG [.sl (.par 0) 1 0 xs.length,.str s,.bool v] xs (xs++cw (nW v s))) :
  ∀(n:Nat) (x:Tree) (xs:List IV),x.wt≤n→xs.length+7*x.wt≤2^40→va P G 1 jF [.sl (.par 0) 1 0 xs.length,x.av] xs (xs++cw x.sh):=by
 intro n;induction n with
 |zero=>intro x xs hn;have:=x.kZ;omega
 |succ n ih=>
 intro x xs hn hb;refine CR hF (by simp) (by simp[ah,AV.aB,Tree.av]) ?_;have hbv:(2:Nat)^40=1099511627776:=by decide
 have hwt:=x.kZ;have W4:=oc x.attrs;have G4:=jr x.kids;unfold vZ;simp only[↓aX,mX,seval,gg,Tree.av,ad5,aeW];refine qG (fun ht=> ?_) (fun ht=> ?_)
 ·simp only[↓aX,mX,seval];have h1:=uR false x.s;have hw:=x.kZ;refine uM (l:= .par 0) (N:= .gen 14) (hE xs x.s false (by omega)) (by simp[aY,e7,iH]) (by simp[ae]) (by simp[ae,Hp.none]) (by simp[Lb.fresh]) ?_ ?_
  ·simp only[↓aX,mX,seval,dB,x.R9 ht];exact⟨.gen 14,rfl,by simp[ae]⟩
  simp only[↓aX,mX,seval,dB,x.R9 ht];exact⟨.par 0,rfl,by simp[ae]⟩
 simp only[↓aX,mX,seval];have Ol:x.sh=60::x.s++ey x.attrs++AK x.s x.kids:=x.N' ht;refine⟨by decide +kernel,?_⟩;rw[px (z:=60) 60 rfl (xs:=xs) (by simp[ae]) rfl (by omega) (by simp[Lb.app,Lb.fresh]) (by simp[Lb.app,Lb.fresh,ae,Hp.none])];simp only[↓aX,mX,seval,Lb.app,Lb.fresh];rw[og (xs:=xs++cw [60]) (by simp[ae]) (by simp[cx]) (by omega) (by simp[Lb.app,Lb.fresh]) (by simp[Lb.app,Lb.fresh,ae,Hp.none])];simp only[↓aX,mX,seval,Lb.app,Lb.fresh];have ada:∀(a b:Lb) (F:List Lb),a.kQ∈F→b.kQ∈F→∀l:Lb,l=a∨l=b→l.kQ∈F:=by rintro a b F h1 h2 l (rfl|rfl);exact h1;exact h2
 obtain⟨y1,Qt⟩:∃y1:Nat→Bs,y1=fun j=>60::x.s++ey (x.attrs.take j):=⟨_,rfl⟩;have hyl:∀j,(y1 j).length≤1+x.s.length+7*j0 x.attrs:=fun j=>by
  have:=oF (x.attrs.take j);have:=Lx x.attrs j;rw[Qt];simp only[adE,adK];omega
 have bS:x.cs.map IV.gK=[.bool x.text,.str x.s,.list (dA x.attrs),.list (eR x.kids)]:=rfl;refine⟨by rintro l (rfl|rfl);exact .inl rfl;exact .inr rfl,by rintro l (rfl|rfl);exact .inl rfl;exact .inr rfl,?_⟩;refine ki (σ:={j:Nat // j≤x.attrs.length}) (fun _=>[.gen 0,.loc 3]) (fun _ l=>l== .par 0)
  (fun q=>[(0,.sl (.gen 0) 1 0 (xs++cw (y1 q.1)).length),(3,.ptr (.loc 3) 4 0 0),(22,.list (dA x.attrs)),(23,.int .i64 x.attrs.length),(24,.int .i64 q.1)])
  (fun q=>[(.gen 0,⟨1,ar (xs++cw (y1 q.1))⟩),(.loc 3,⟨4,[x.cs.map IV.gK]⟩)]) (fun q=>x.attrs.length - q.1) ⟨0,ad3 _⟩ (fun _=>rfl) (fun q=>by simp[ah,AV.aB]) ?_ ⟨[(.gen 0,.gen 20)],?_⟩ ?_
 ·intro q w hw cs sf z hz;simp only[adz,adG,adO] at hw;rcases hw with rfl|rfl
  ·rw[bT sf] at hz;simp at hz
  simp only[adr] at sf;subst sf;rw[wE] at hz;simp at hz
 ·refine CU (x:=x) ?_ ?_ ?_ ?_
  ·simp[ae,Qt,ey,cw]
  ·simp[ae,bS]
  ·intro n hn;simp[ae,Hp.none,hn]
  simp[kv,bZ,e7,put,Qt,ey,cx,bQ,aer,agt]
 rintro⟨j,hj⟩;have hyj:=hyl j;have hU6:fy (fun l=>l==Lb.par 0) [(Lb.gen 0,⟨1,ar (xs++cw (y1 j))⟩),(Lb.loc 3,⟨4,[x.cs.map IV.gK]⟩)] (.loc 6)= .unused:=by rw[jT (by simp)];rfl
 have JG:∀d,fy (fun l=>l==Lb.par 0) [(Lb.gen 0,⟨1,ar (xs++cw (y1 j))⟩),(Lb.loc 3,⟨4,[x.cs.map IV.gK]⟩)] (.gen (d+1))= .unused:=fun d=>by rw[jT (by simp)];rfl
 have xc:∀d,d≠0→fy (fun l=>l==Lb.par 0) [(Lb.gen 0,⟨1,ar (xs++cw (y1 j))⟩),(Lb.loc 3,⟨4,[x.cs.map IV.gK]⟩)] (.par d)= .unused:=fun d hd=>by rw[jT (by simp)];simp[hd]
 have nh:fy (fun l=>l==Lb.par 0) [(Lb.gen 0,⟨1,ar (xs++cw (y1 j))⟩),(Lb.loc 3,⟨4,[x.cs.map IV.gK]⟩)] (.gen 0)= .live ⟨1,ar (xs++cw (y1 j))⟩:=dm.2 (by simp[kx,ae]);have zm:fy (fun l=>l==Lb.par 0) [(Lb.gen 0,⟨1,ar (xs++cw (y1 j))⟩),(Lb.loc 3,⟨4,[x.cs.map IV.gK]⟩)] (.loc 3)= .live ⟨4,[x.cs.map IV.gK]⟩:=dm.2 (by simp[kx,ae]);simp only;generalize fy (fun l=>l==Lb.par 0) [(Lb.gen 0,⟨1,ar (xs++cw (y1 j))⟩),(Lb.loc 3,⟨4,[x.cs.map IV.gK]⟩)]=H0 at *;simp only[↓aX,mX,seval,ag5];by_cases bO:j<x.attrs.length
 ·rw[show decide (((j:Nat):Int)<((x.attrs.length:Nat):Int))=true by simpa using bO];obtain⟨a,ha⟩:∃a,x.attrs[j]?=some a:=⟨_,ag7 bO⟩;have hw:IntKind.i64.wrap ((j:Int)+1)=((j+1:Nat):Int):=wrap64 (by omega) (by omega);have Uf:=OE ha;have G5:=oF (x.attrs.take j);have adb:(y1 j).length=1+x.s.length+(ey (x.attrs.take j)).length:=by rw[Qt];simp;omega
  simp only[Attr.wt] at Uf;simp only[↓aX,mX,seval,rU,ha,tk,Attr.bw,Attr.cs,adB];refine⟨hU6,by decide +kernel,?_⟩;rw[px (z:=32) 32 rfl (xs:=xs++cw (y1 j)) (by simp[ae,nh]) rfl (by simp[cx];omega) (by simp[Lb.app,Lb.fresh]) (by simp[Lb.app,Lb.fresh,ae,JG])];simp only[↓aX,mX,seval,Lb.app,Lb.fresh];rw[og (xs:=xs++cw (y1 j)++cw [32]) (by simp[ae]) (by simp[cx,aer]) (by simp[cx];omega) (by simp[Lb.app,Lb.fresh]) (by simp[Lb.app,Lb.fresh,ae,JG])];simp only[↓aX,mX,seval,Lb.app,Lb.fresh];refine⟨by rintro l (rfl|rfl);exact .inl rfl;exact .inr rfl,by rintro l (rfl|rfl);exact .inl rfl;exact .inr rfl,rfl,?_⟩;rw[og (xs:=xs++cw (y1 j)++cw [32]++cw a.name) (t:=[61,34]) (by simp[ae]) (by simp[cx,aer]) (by simp[cx];omega) (by simp[Lb.app,Lb.fresh]) (by simp[Lb.app,Lb.fresh,ae,JG])];simp only[↓aX,mX,seval,Lb.app,Lb.fresh];refine⟨by rintro l (rfl|rfl);exact .inl rfl;exact .inr rfl,?_⟩;have o4:y1 (j+1)=y1 j++([32]++a.name++[61,34]++nW true a.val++[34]):=by rw[Qt];simp only[DW ha,xW];simp
  have hev:=uR true a.val;refine w9 (l:= .gen 35) (N:= .gen 38) (hE (xs++cw (y1 j)++cw [32]++cw a.name++cw [61,34]) a.val true (by simp[cx];omega)) (by simp[aY,e7,iH,cx,aer]) (by simp[ae]) (by simp[ae,JG]) (by simp[Lb.fresh]) (by simp) (by simp) ?_ ?_
  ·simp only[↓aX,mX,seval,Lb.app,Lb.fresh];rw[px (z:=34) 34 rfl (xs:=xs++cw (y1 j)++cw [32]++cw a.name++cw [61,34]++cw (nW true a.val)) (by simp[ae]) rfl (by simp[cx];omega) (by simp[Lb.app,Lb.fresh]) (by simp[Lb.app,Lb.fresh,ae,JG])];simp only[↓aX,mX,seval,Lb.app,Lb.fresh,hw];refine⟨by rintro l (rfl|rfl);exact .inr (.inl rfl);exact .inr (.inr rfl),⟨j+1,bO⟩,by simp only;omega,[(.gen 0,.gen 40)],?_⟩;refine CU (x:=x) ?_ ?_ ?_ ?_
   ·simp[ae,o4,cw]
   ·simp[ae,zm]
   ·intro n hn;simp[ae,xc n hn]
   simp[kv,bZ,e7,put,o4,cx];omega
  simp only[↓aX,mX,seval,Lb.app,Lb.fresh];rw[px (z:=34) 34 rfl (xs:=xs++cw (y1 j)++cw [32]++cw a.name++cw [61,34]++cw (nW true a.val)) (by simp[ae]) rfl (by simp[cx];omega) (by simp[Lb.app,Lb.fresh]) (by simp[Lb.app,Lb.fresh,ae,JG])];simp only[↓aX,mX,seval,Lb.app,Lb.fresh,hw];refine⟨by rintro l (rfl|rfl);exact .inl rfl;exact .inr (.inr rfl),⟨j+1,bO⟩,by simp only;omega,[(.gen 0,.gen 40)],?_⟩;refine CU (x:=x) ?_ ?_ ?_ ?_
  ·simp[ae,o4,cw]
  ·simp[ae,zm]
  ·intro n hn;simp[ae,xc n hn]
  simp[kv,bZ,e7,put,o4,cx];omega
 have qV:x.attrs.take j=x.attrs:=ads (by omega);rw[show decide (((j:Nat):Int)<((x.attrs.length:Nat):Int))=false by simpa using bO];have Yv:y1 j=60::x.s++ey x.attrs:=by rw[Qt];simp only[qV]
 simp only[↓aX,mX,seval,zm,bS,bx];have Mw:(uG x.kids).length≤7*er x.kids:=zH _;have ach:(y1 j).length=1+x.s.length+(ey x.attrs).length:=by rw[Yv];simp;omega
 have ade:=oF x.attrs;by_cases Dn:x.kids=[]
 ·rw[show(((x.kids.length:Nat):Int)==0)=true by simp[Dn]];simp only[↓aX,mX,seval];rw[og (xs:=xs++cw (y1 j)) (t:=[47,62]) nh rfl (by simp[cx];omega) (by simp[Lb.app,Lb.fresh]) (by simp[Lb.app,Lb.fresh,JG])];simp only[↓aX,mX,seval,Lb.app,Lb.fresh,dB];refine⟨.gen 47,?_,?_⟩
  ·simp[Ol,Dn,AK,Yv,cx];omega
  simp[ae,Ol,Dn,AK,Yv,cw]
 have adf:x.kids.length≠0:=fun e=>Dn (aea.1 e);rw[show(((x.kids.length:Nat):Int)==0)=false by simp;exact Dn];simp only[↓aX,mX,seval];rw[px (z:=62) 62 rfl (xs:=xs++cw (y1 j)) nh rfl (by simp[cx];omega) (by simp[Lb.app,Lb.fresh]) (by simp[Lb.app,Lb.fresh,JG])];simp only[↓aX,mX,seval,Lb.app,Lb.fresh,zm,bS,bx];obtain⟨y2,Ck⟩:∃y2:Nat→Bs,y2=fun k=>y1 j++[62]++uG (x.kids.take k):=⟨_,rfl⟩;have aci:∀k,(y2 k).length=2+x.s.length+(ey x.attrs).length+(uG (x.kids.take k)).length:=fun k=>by
  rw[Ck];simp only[adE,adK,aek,ach];omega
 refine ki (σ:={k:Nat // k≤x.kids.length}) (fun _=>[.gen 0,.loc 3]) (fun _ l=>l== .par 0)
  (fun q=>[(0,.sl (.gen 0) 1 0 (xs++cw (y2 q.1)).length),(3,.ptr (.loc 3) 4 0 0),(52,.list (eR x.kids)),(53,.int .i64 x.kids.length),(54,.int .i64 q.1)])
  (fun q=>[(.gen 0,⟨1,ar (xs++cw (y2 q.1))⟩),(.loc 3,⟨4,[x.cs.map IV.gK]⟩)]) (fun q=>x.kids.length - q.1) ⟨0,ad3 _⟩ (fun _=>rfl) (fun q=>by simp[ah,AV.aB]) ?_ ⟨[(.gen 0,.gen 50)],?_⟩ ?_
 ·intro q w hw cs sf z hz;simp only[adz,adG,adO] at hw;rcases hw with rfl|rfl
  ·rw[bT sf] at hz;simp at hz
  simp only[adr] at sf;subst sf;rw[wE] at hz;simp at hz
 ·refine CU (x:=x) ?_ ?_ ?_ ?_
  ·simp[ae,Ck,uG,cw]
  ·simp[ae,zm]
  ·intro n hn;simp[ae,xc n hn]
  simp[kv,bZ,e7,put,Ck,uG,cx,bx];omega
 clear hU6 JG xc nh zm;rintro⟨k,hk⟩;have I3:=aci k;have Sc:=zH (x.kids.take k);have adg:=Ly x.kids k;have hU8:fy (fun l=>l==Lb.par 0) [(Lb.gen 0,⟨1,ar (xs++cw (y2 k))⟩),(Lb.loc 3,⟨4,[x.cs.map IV.gK]⟩)] (.loc 8)= .unused:=by rw[jT (by simp)];rfl
 have JG:∀d,fy (fun l=>l==Lb.par 0) [(Lb.gen 0,⟨1,ar (xs++cw (y2 k))⟩),(Lb.loc 3,⟨4,[x.cs.map IV.gK]⟩)] (.gen (d+1))= .unused:=fun d=>by rw[jT (by simp)];rfl
 have xc:∀d,d≠0→fy (fun l=>l==Lb.par 0) [(Lb.gen 0,⟨1,ar (xs++cw (y2 k))⟩),(Lb.loc 3,⟨4,[x.cs.map IV.gK]⟩)] (.par d)= .unused:=fun d hd=>by rw[jT (by simp)];simp[hd]
 have nh:fy (fun l=>l==Lb.par 0) [(Lb.gen 0,⟨1,ar (xs++cw (y2 k))⟩),(Lb.loc 3,⟨4,[x.cs.map IV.gK]⟩)] (.gen 0)= .live ⟨1,ar (xs++cw (y2 k))⟩:=dm.2 (by simp[kx,ae]);have zm:fy (fun l=>l==Lb.par 0) [(Lb.gen 0,⟨1,ar (xs++cw (y2 k))⟩),(Lb.loc 3,⟨4,[x.cs.map IV.gK]⟩)] (.loc 3)= .live ⟨4,[x.cs.map IV.gK]⟩:=dm.2 (by simp[kx,ae]);simp only;generalize fy (fun l=>l==Lb.par 0) [(Lb.gen 0,⟨1,ar (xs++cw (y2 k))⟩),(Lb.loc 3,⟨4,[x.cs.map IV.gK]⟩)]=H1 at *;simp only[↓aX,mX,seval,ag5];by_cases lA:k<x.kids.length
 ·rw[show decide (((k:Nat):Int)<((x.kids.length:Nat):Int))=true by simpa using lA];obtain⟨t,Sr⟩:∃t,x.kids[k]?=some t:=⟨_,ag7 lA⟩;have hw:IntKind.i64.wrap ((k:Int)+1)=((k+1:Nat):Int):=wrap64 (by omega) (by omega);have aav:=OF Sr;have o4:y2 (k+1)=y2 k++t.sh:=by rw[Ck];simp only[OD Sr];simp
  simp only[↓aX,mX,seval,ml,Sr,tj,Tree.bw,Tree.cs,adB];refine⟨hU8,?_⟩;refine uM (l:= .gen 0) (N:= .gen 60) (ih t (xs++cw (y2 k)) (by omega) (by simp[cx];omega)) (by simp[aY,e7,iH,Tree.av]) (by simp[ae,nh]) (by simp[ae,JG]) (by simp[Lb.fresh]) ?_ ?_
  ·simp only[↓aX,mX,seval,hw];refine⟨⟨k+1,lA⟩,by simp only;omega,[(.gen 0,.gen 60)],?_⟩;refine CU (x:=x) ?_ ?_ ?_ ?_
   ·simp[ae,o4,cw]
   ·simp[ae,zm]
   ·intro n hn;simp[ae,xc n hn]
   simp[kv,bZ,e7,put,o4,cx]
  simp only[↓aX,mX,seval,hw];refine⟨⟨k+1,lA⟩,by simp only;omega,[(.gen 0,.gen 0)],?_⟩;refine CU (x:=x) ?_ ?_ ?_ ?_
  ·simp[ae,o4,cw]
  ·simp[ae,zm]
  ·intro n hn;simp[ae,xc n hn]
  simp[kv,bZ,e7,put,o4,cx]
 have Qx:x.kids.take k=x.kids:=ads (by omega);rw[show decide (((k:Nat):Int)<((x.kids.length:Nat):Int))=false by simpa using lA];rw[Qx] at I3;simp only[↓aX,mX,seval,zm,bS];refine⟨by decide +kernel,?_⟩;rw[og (xs:=xs++cw (y2 k)) (t:=[60,47]) nh rfl (by simp[cx];omega) (by simp[Lb.app,Lb.fresh]) (by simp[Lb.app,Lb.fresh,JG])];simp only[↓aX,mX,seval,Lb.app,Lb.fresh,zm,bS];rw[og (xs:=xs++cw (y2 k)++cw [60,47]) (by simp[ae]) (by simp[cx,aer]) (by simp[cx];omega) (by simp[Lb.app,Lb.fresh]) (by simp[Lb.app,Lb.fresh,ae,JG])];simp only[↓aX,mX,seval,Lb.app,Lb.fresh];rw[px (z:=62) 62 rfl (xs:=xs++cw (y2 k)++cw [60,47]++cw x.s) (by simp[ae]) (by simp[cx,aer]) (by simp[cx];omega) (by simp[Lb.app,Lb.fresh]) (by simp[Lb.app,Lb.fresh,ae,JG])];simp only[↓aX,mX,seval,Lb.app,Lb.fresh,dB];have zi:x.sh=y2 k++[60,47]++x.s++[62]:=by rw[Ol,Jt _ Dn,Ck];simp only[Qx,Yv];simp
 refine⟨by rintro l (rfl|rfl);exact .inl rfl;exact .inr rfl,by rintro l (rfl|rfl);exact .inl rfl;exact .inr rfl,by rintro l (rfl|rfl);exact .inl rfl;exact .inr rfl,.gen 68,?_,?_⟩
 ·simp[zi,cx];omega
 simp[ae,zi,cw]

def my (km eh dW jh:Nat):AC:=
(ay [aE 4 (.nE (.c (.str [])))] (.seq (ay [af 7 0,aE 8 (.bin .eql (.t 7) (.c (.str []))),af 9 8,gj 10 9 1,hQ 11 9 (.bin .eql (.t 10) (.c (.str []))),nC 12 9 11] (.cond (.t 12) (ay [af 13 0,af 4 13] .ret) .skip)) (.seq (ay [af 14 1,wg 15 14,db 16 .eql 15 1,af 17 16,eJ 18 17 1,eP 19 17 (.vd (.t 18) (ij 0)),eP 20 17 (.bin .lss (.t 19) (.c (.int .u8 128))),l7 21 17 20] (.cond (.t 21) (ay [af 22 0,af 23 1,aE 24 (.vd (.t 23) (ij 0)),aE 25 (.call km [(.t 22),(.t 24)]),af 4 25] .ret) .skip)) (.seq (ay [af 27 1,aE 28 (.call eh [(.t 27)]),af 26 28,gQ 29 26 0,gQ 30 26 1,aE 5 (.new (List.replicate 256 (.bool false))),dT (.store 256 (.t 5) (.t 29)),af 6 30] (ay [af 31 6] (.cond (.t 31) (ay [af 32 0,aE 33 (.call dW [(.t 32),(.t 5)]),af 4 33] .ret) .skip))) (ay [af 34 0,af 35 1,aE 36 (.call jh [(.t 34),(.t 35)]),af 4 36] .ret)))))
def W5 {fL eh dW km jh:Nat} (hF:an P G fL=some (37,[(none,4)],(my km eh dW jh).bare)) (s t:Bs) (hs:s.length≤B) (ht:2≤t.length)
  (hM:aw P G eh [.str t] (.dM [.agg (mU (xV t)),.bool true]))
  (hL:ez P G dW [.str s,.ptr (.par 0) 256 0 0] (mU (xV t)) fun x cs=>x= .str (sQ (xV t) s)∧cs=mU (xV t)) :
  aw P G fL [.str s,.str t] (.str (sQ (xV t) s)):=by
 refine aM hF (by simp) (by simp[ah,AV.aB]) (by simp[AV.aB]) ?_;unfold my;simp only[↓aX,mX,reduceCtorEq,Nat.reduceEqDiff,Nat.reduceLT,Nat.reduceLeDiff,Nat.reduceAdd,Nat.reduceMul,Int.reduceToNat,Int.reduceLE,Int.reduceLT];have e1:(t==[])=false:=by cases t<;>simp_all
 have e2:(((t.length:Nat):Int)==1)=false:=by rw[aew];omega
 cases Qq:(s==[]) with
 |true=>
  have:s=[]:=by simpa using Qq
  subst this;simp only[↓aX,mX,reduceCtorEq,Nat.reduceEqDiff,Nat.reduceLT,Nat.reduceLeDiff,Nat.reduceAdd,Nat.reduceMul,Int.reduceToNat,Int.reduceLE,Int.reduceLT];rfl
 |false=>
 simp only[↓aX,mX,reduceCtorEq,Nat.reduceEqDiff,Nat.reduceLT,Nat.reduceLeDiff,Nat.reduceAdd,Nat.reduceMul,Int.reduceToNat,Int.reduceLE,Int.reduceLT,e1,e2];refine aq hM ?_;simp only[↓aX,mX,reduceCtorEq,Nat.reduceEqDiff,Nat.reduceLT,Nat.reduceLeDiff,Nat.reduceAdd,Nat.reduceMul,Int.reduceToNat,Int.reduceLE,Int.reduceLT,aeS,Jr,eL,CB,CC,Fg,adN];refine a7 (l:= .loc 5) hL rfl (by simp only[↓aX,mX,reduceCtorEq,Nat.reduceEqDiff,Nat.reduceLT,Nat.reduceLeDiff,Nat.reduceAdd,Nat.reduceMul,Int.reduceToNat,Int.reduceLE,Int.reduceLT,eL]) ?_;rintro x1 jm ⟨rfl,rfl⟩ _ _ _;simp only[↓aX,mX,reduceCtorEq,Nat.reduceEqDiff,Nat.reduceLT,Nat.reduceLeDiff,Nat.reduceAdd,Nat.reduceMul,Int.reduceToNat,Int.reduceLE,Int.reduceLT,eL,aeS]
def Ss (c:UInt8):xV [32,10] c.toNat=isSp c:=by
 have:∀n:Fin 256,xV [32,10] (UInt8.ofNat n.val).toNat=isSp (UInt8.ofNat n.val):=by decide +kernel
 have h:=this ⟨c.toNat,c.toNat_lt⟩;simpa using h
def Su (s:Bs):sQ (xV [32,10]) s=s.dropWhile isSp:=by
 unfold sQ;congr 1;funext c;exact Ss c
abbrev gE (s:Bs) (b:Bool):List AV:=[.str s,.bool b]
def il (p s:Bs):Bs:=if p.isPrefixOf s then s.drop p.length else s
def pR (p s:Bs):(il p s).length≤s.length:=by unfold il;split<;>simp
def n5 (cG:Nat):AC:=
(ay [jK 4 false] (ay [af 8 0,aE 9 (.dc (.t 8)),b7 10 9 0,cS 11 10,af 12 1,aE 13 (.call cG [(.t 11),(.t 12)]),af 7 13,gQ 14 7 0,gQ 15 7 1,af 5 14,af 6 15] (.seq (ay [af 16 6] (.cond (.t 16) (.ec [af 17 0,af 18 5,aE 19 (.dc (.t 17)),b7 20 19 0,dT (.store 1 (.t 20) (.t 18))]) .skip)) (ay [af 21 6,af 4 21] .ret))))
def acj {bA cG:Nat} (hF:an P G bA=some (22,[(none,4)],(n5 cG).bare)) (hC:∀s t:Bs,aw P G cG [.str s,.str t] (.dM [.str (if t.isPrefixOf s then s.drop t.length else s),.bool (t.isPrefixOf s)])) (s p:Bs) (b:Bool) :
  ez P G bA [.ptr (.par 0) 2 0 0,.str p] (gE s b) fun x cs=>x= .bool (p.isPrefixOf s)∧cs=gE (il p s) b:=by
 refine ft hF (by simp) (by simp[ah,AV.aB]) (by simp[ah,AV.aB]) ?_;unfold n5;simp only[↓aX,mX,seval,kY];refine aq (hC s p) ?_;cases h:p.isPrefixOf s with
 |true=>
  simp only[↓aX,mX,seval,dB];exact⟨gE (il p s) b,by simp[ae,il,h,ah,AV.aB]⟩
 |false=>
 simp only[↓aX,mX,seval,dB];exact⟨gE (il p s) b,by simp[ae,il,h,ah,AV.aB]⟩
def mz (bA:Nat):AC:=
(ay [af 4 0,af 5 1,aE 6 (.call bA [(.t 4),(.t 5)]),uk 7 6] (.cond (.t 7) (.ec [af 8 0,aE 9 (.dc (.t 8)),b7 10 9 1,dT (.store 1 (.t 10) (vC true))]) .skip))
def W6 {bU bA:Nat} (hF:an P G bU=some (11,[],(mz bA).bare)) (s p:Bs) (b:Bool)
  (hA:ez P G bA [.ptr (.par 0) 2 0 0,.str p] (gE s b) fun x cs=>x= .bool (p.isPrefixOf s)∧cs=gE (il p s) b) :
  ez P G bU [.ptr (.par 0) 2 0 0,.str p] (gE s b) fun x cs=>cs=gE (il p s) (b|| !p.isPrefixOf s):=by
 refine ft hF (by simp) (by simp[ah,AV.aB]) (by simp[ah,AV.aB]) ?_;unfold mz;simp only[↓aX,mX,seval,kY];refine a7 (l:= .par 0) hA (by simp[aY,e7,iH]) (by simp[ae]) ?_;rintro x1 jm ⟨rfl,rfl⟩ _ _ _;cases h:p.isPrefixOf s with
 |true=>
  simp only[↓aX,mX,seval,adL,iM,jc,jf];exact⟨_,rfl,gE (il p s) (b|| !p.isPrefixOf s),by simp[ae,h,ah,AV.aB]⟩
 |false=>
 simp only[↓aX,mX,seval,adI,iM,jc,jf];exact⟨_,rfl,gE (il p s) (b|| !p.isPrefixOf s),by simp[ae,h,ah,AV.aB]⟩
def lV (fL:Nat):AC:=
(ay [jK 2 false] (ay [af 4 0,aE 5 (.dc (.t 4)),b7 6 5 0,cS 7 6,wg 8 7,af 3 8] (ay [af 9 0,af 10 0,aE 11 (.dc (.t 10)),b7 12 11 0,cS 13 12,aE 14 (.call fL [(.t 13),(.c (.str [32,10]))]),aE 15 (.dc (.t 9)),b7 16 15 0,dT (.store 1 (.t 16) (.t 14))] (ay [af 17 0,aE 18 (.dc (.t 17)),b7 19 18 0,cS 20 19,wg 21 20,af 22 3,eS 23 .lss 21 22,af 2 23] .ret))))
def Sv {cH fL:Nat} (hF:an P G cH=some (24,[(none,2)],(lV fL).bare)) (s:Bs) (b:Bool) (hT:aw P G fL [.str s,.str [32,10]] (.str (s.dropWhile isSp))) :
  ez P G cH [.ptr (.par 0) 2 0 0] (gE s b) fun x cs=>x= .bool (decide ((s.dropWhile isSp).length<s.length))∧cs=gE (s.dropWhile isSp) b:=by
 refine ft hF (by simp) (by simp[ah,AV.aB]) (by simp[ah,AV.aB]) ?_;unfold lV;simp only[↓aX,mX,seval,kY];refine aq hT ?_;simp only[↓aX,mX,seval,dB];exact⟨gE (s.dropWhile isSp) b,by simp[ae,ah,AV.aB]⟩
def OG {p:UInt8→Bool}:∀{s:Bs} {i:Nat} {c:UInt8},s[i]?=some c→(∀x∈s.take i,p x=true)→(p c=true→∀x∈s.take (i+1),p x=true)∧(p c=false→s.takeWhile p=s.take i∧s.dropWhile p=s.drop i):=by
 intro s i c h hi;refine⟨fun hc x hx=> ?_,fun hc=> ?_⟩
 ·rw[aei,h] at hx;simp only[afA,adD,adr] at hx;rcases hx with hx|rfl
  ·exact hi x hx
  exact hc
 have hl:=(ag6.1 h).1;have e:s=s.take i++s.drop i:=(ad0 i s).symm;have hd:s.drop i=c::s.drop (i+1):=by
  rw[aeN hl];congr 1;exact(ag6.1 h).2
 have h2:(s.take i++s.drop i).takeWhile p=s.take i∧(s.take i++s.drop i).dropWhile p=s.drop i:=
  uJ (s.take i) (s.drop i) hi (fun c' q hq=>by rw[hd] at hq;cases hq;exact hc)
 rw[ad0] at h2;exact h2
def Lz {p:UInt8→Bool} {s:Bs} (h:∀x∈s,p x=true):s.takeWhile p=s∧s.dropWhile p=[]:=by
 have:=uJ (p:=p) s [] h (by simp);simpa using this
def OH (c:UInt8):dn c=(decide ((c.toNat:Int)≥97)&&decide ((c.toNat:Int)≤122)):=by
 unfold dn;congr 1
 ·rw[agz,ae8];show 97≤_↔_;omega
 rw[agz,ae8];show _≤122↔_;omega
def mA:AC:=
(ay [aE 2 (.nE (.c (.str [])))] (ay [eX 3 0] (.seq (.block 0 (.loop (.seq (ay [af 5 3,af 6 0,aE 7 (.dc (.t 6)),b7 8 7 0,cS 9 8,wg 10 9,eS 11 .lss 5 10,af 12 11,eJ 13 12 0,eP 14 12 (.dc (.t 13)),iu 15 12 14 0,ir 16 12 15,eJ 17 12 3,eP 18 12 (.vd (.t 16) (.t 17)),eP 19 12 (.bin .geq (.t 18) (.c (.int .u8 97))),l7 20 12 19,af 21 20,eJ 22 21 0,eP 23 21 (.dc (.t 22)),iu 24 21 23 0,ir 25 21 24,eJ 26 21 3,eP 27 21 (.vd (.t 25) (.t 26)),eP 28 21 (.bin .leq (.t 27) (.c (.int .u8 122))),l7 29 21 28] (.cond (.t 29) .skip (.exit 0))) (.block 1 (.ec [af 30 3,db 31 .add 30 1,af 3 31]))))) (ay [af 32 0,aE 33 (.dc (.t 32)),b7 34 33 0,cS 35 34,af 36 3,aE 37 (.ot (.t 35) none (some (.t 36))),af 4 37] (ay [af 38 0,af 39 0,aE 40 (.dc (.t 39)),b7 41 40 0,cS 42 41,af 43 3,aE 44 (.ot (.t 42) (some (.t 43)) none),aE 45 (.dc (.t 38)),b7 46 45 0,dT (.store 1 (.t 46) (.t 44))] (ay [af 47 0,af 48 0,aE 49 (.dc (.t 48)),b7 50 49 1,cS 51 50,af 52 51,gj 53 52 3,hQ 54 52 (.bin .eql (.t 53) (ij 0)),nC 55 52 54,af 56 55,gj 57 56 3,hQ 58 56 (.bin .gtr (.t 57) (ij 8)),nC 59 56 58,aE 60 (.dc (.t 47)),b7 61 60 1,dT (.store 1 (.t 61) (.t 59))] (ay [af 62 4,af 2 62] .ret)))))))
def W7 {cF:Nat} (hF:an P G cF=some (63,[(none,2)],mA.bare)) (s:Bs) (hs:s.length≤B) (b:Bool) :
  ez P G cF [.ptr (.par 0) 2 0 0] (gE s b) fun x cs=>x= .str (s.takeWhile dn)∧cs=gE (s.dropWhile dn) (b||(decide (s.takeWhile dn=[])||decide (8<(s.takeWhile dn).length))):=by
 refine ft hF (by simp) (by simp[ah,AV.aB]) (by simp[ah,AV.aB]) ?_;have nM:B=1073741824:=rfl;unfold mA;simp only[↓aX,mX,seval,kY];refine eB (σ:={i:Nat // i≤s.length∧∀c∈s.take i,dn c=true}) [.par 0] (fun q=>[(0,.ptr (.par 0) 2 0 0),(3,.int .i64 q.1)]) (fun _=>[(.par 0,⟨2,[gE s b]⟩)]) (fun q=>s.length - q.1) ⟨0,by simp⟩ (fun _=>rfl) (by decide) (by simp[ah,AV.aB]) (by simp[ah,AV.aB]) ?_ ?_
 ·refine jI ?_ (by repeat' constructor) (by repeat' constructor);intro l hl hu;by_cases e:l= .par 0
  ·subst e;simp
  exfalso;apply hu;simp[ae,e,Hp.none]
 rintro⟨i,hi,fX⟩;simp only[↓aX,mX,seval,ed,dk];have fin:s.takeWhile dn=s.take i→(((i:Nat):Int)==0)=decide (s.takeWhile dn=[])∧decide (((i:Nat):Int)>8)=decide (8<(s.takeWhile dn).length):=by
  intro h1;rw[h1];constructor
  ·rw[aeG,aep,adM,←aea,adP];omega
  rw[agz,adP];omega
 by_cases bO:i<s.length
 ·rw[show decide (((i:Nat):Int)<((s.length:Nat):Int))=true by simpa using bO];obtain⟨c,hc⟩:=FF bO;have hw:IntKind.i64.wrap ((i:Int)+1)=((i+1:Nat):Int):=wrap64 (by omega) (by omega);have mZ:=OG hc fX;rw[OH] at mZ;simp only[↓aX,mX,seval,hc,adt,ag9];have next:(decide ((c.toNat:Int)≥97)&&decide ((c.toNat:Int)≤122))=true→∃q:{i:Nat // i≤s.length∧∀c∈s.take i,dn c=true},q.1=i+1:=fun h=>⟨⟨i+1,bO,mZ.1 h⟩,rfl⟩
  have stop:(decide ((c.toNat:Int)≥97)&&decide ((c.toNat:Int)≤122))=false→s.takeWhile dn=s.take i∧s.dropWhile dn=s.drop i:=mZ.2;cases h1:decide ((c.toNat:Int)≥97) with
  |false=>
   obtain⟨e1,e2⟩:=stop (by rw[h1];rfl);simp only[↓aX,mX,seval,mW,adt,ag9,adF,hi,adH,adA,adB,aeq,ad1,ad3,aee,adw];obtain⟨f1,f2⟩:=fin e1;cases b with
   |true=>
    simp only[↓aX,mX,seval,dB];exact⟨gE (s.dropWhile dn) true,by simp[ae,ah,AV.aB,e1,e2]⟩
   |false=>
   simp only[↓aX,mX,seval,f1];cases h3:decide (s.takeWhile dn=[]) with
   |true=>
    simp only[↓aX,mX,seval,dB];refine⟨gE (s.dropWhile dn) true,?_⟩;rw[←e1,←e2];simp[ae,ah,AV.aB,h3]
   |false=>
   simp only[↓aX,mX,seval,f2,dB];refine⟨gE (s.dropWhile dn) (decide (8<(s.takeWhile dn).length)),?_⟩;rw[←e1,←e2];simp[ae,ah,AV.aB,h3]
  |true=>
  simp only[↓aX,mX,seval,hc,adt,ag9];cases h2:decide ((c.toNat:Int)≤122) with
  |false=>
   obtain⟨e1,e2⟩:=stop (by rw[h1,h2];rfl);simp only[↓aX,mX,seval,mW,adt,ag9,adF,hi,adH,adA,adB,aeq,ad1,ad3,aee,adw];obtain⟨f1,f2⟩:=fin e1;cases b with
   |true=>
    simp only[↓aX,mX,seval,dB];exact⟨gE (s.dropWhile dn) true,by simp[ae,ah,AV.aB,e1,e2]⟩
   |false=>
   simp only[↓aX,mX,seval,f1];cases h3:decide (s.takeWhile dn=[]) with
   |true=>
    simp only[↓aX,mX,seval,dB];refine⟨gE (s.dropWhile dn) true,?_⟩;rw[←e1,←e2];simp[ae,ah,AV.aB,h3]
   |false=>
   simp only[↓aX,mX,seval,f2,dB];refine⟨gE (s.dropWhile dn) (decide (8<(s.takeWhile dn).length)),?_⟩;rw[←e1,←e2];simp[ae,ah,AV.aB,h3]
  |true=>
  simp only[↓aX,mX,seval,hw];refine⟨⟨i+1,bO,mZ.1 (by rw[h1,h2];rfl)⟩,by simp only;omega,jI ?_ (by repeat' constructor) (by repeat' constructor)⟩;intro l hl hu;by_cases e:l= .par 0
  ·subst e;simp
  exfalso;apply hu;simp[ae,e,Hp.none]
 have qV:s.take i=s:=ads (by omega);have Mx:s.drop i=[]:=aeC (by omega);rw[show decide (((i:Nat):Int)<((s.length:Nat):Int))=false by simpa using bO];rw[qV] at fX;obtain⟨e1,e2⟩:s.takeWhile dn=s.take i∧s.dropWhile dn=s.drop i:=by rw[qV,Mx];exact Lz fX
 simp only[↓aX,mX,seval,mW,adt,ag9,adF,hi,adH,adA,adB,aeq,ad1,ad3,aee,adw];obtain⟨f1,f2⟩:=fin e1;cases b with
 |true=>
  simp only[↓aX,mX,seval,dB];exact⟨gE (s.dropWhile dn) true,by simp[ae,ah,AV.aB,e1,e2]⟩
 |false=>
 simp only[↓aX,mX,seval,f1];cases h3:decide (s.takeWhile dn=[]) with
 |true=>
  simp only[↓aX,mX,seval,dB];refine⟨gE (s.dropWhile dn) true,?_⟩;rw[←e1,←e2];simp[ae,ah,AV.aB,h3]
 |false=>
 simp only[↓aX,mX,seval,f2,dB];refine⟨gE (s.dropWhile dn) (decide (8<(s.takeWhile dn).length)),?_⟩;rw[←e1,←e2];simp[ae,ah,AV.aB,h3]
end
end Go.Am
