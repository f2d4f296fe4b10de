import Derived.Test.YtfinkeaikbmpgaaGreatDoorKT82
import Derived.Test.YtfinkeaikbmpgaaGreatDoorKAm47
set_option linter.unusedSimpArgs false
set_option linter.unusedVariables false
set_option linter.unnecessarySimpa false
set_option linter.defProp false
/- Reading: texts. -/
namespace Go.Am
open Go Go.RowKit
section
variable {P:Program} {G:Nat→Option (List IV)}
def iO:List Bs:=[qH,rC,kD,jc]
def QB {p:Prop} (h:p:=by simp[bu,bJ,ft,iO,qH,rC,kD,jc]):p:=h
def ma (s:Bs):List Bs→Nat→Option (Nat×Bs)
 |[],_=>none
 |p::r,i=>if p.isPrefixOf s then some (i,s.drop p.length) else ma s r (i+1)
theorem mJ {s:Bs}:∀{l:List Bs} {n i:Nat},(∀p∈l.take n,p.isPrefixOf s=false)→n≤l.length→ma s l i=ma s (l.drop n) (i+n)
 |l,0,i,_,_=>by simp
 |[],n+1,i,_,h=>by simp at h
 |p::r,n+1,i,hp,h=>by
  have h1:p.isPrefixOf s=false:=hp p N7;have:=mJ (s:=s) (l:=r) (n:=n) (i:=i+1) (fun q hq=>hp q (by simp[hq])) (by simpa using h);simp only[ma,h1,jy,nX,A7,this,ze,Oa 1 n]
def cA:AC:=
(aM [gH 4 0] (.seq (aM [MR 6 0,oy 7 6,gH 8 0] (.block 0 (.loop (aM [et 9 .lss 8 7] (.seq (.cond (.t 9) .skip (.exit 0)) (.seq (.block 1 (aM [MR 10 8,MR 5 10] (aM [MR 11 1,MR 12 0,MR 13 5,jL 14 12 13 1,fm 15 14,aQ 16 (.fM (.t 11) [(.t 15)])] (.cond (.t 16) (aM [MR 17 5,MR 4 17] .ret) .skip)))) (.cq [eY 18 .add 8 1,MR 8 18]))))))) (aM [aQ 4 (.iC (.c (.int .i64 (-1))))] .ret)))
theorem Bo {aZ aI:Nat} (hF:aw P G aZ=some (19,[(none,4)],cA.bare)) (hB:fU P aI=true)
  (hA:∀(s p:Bs) (b:Bool),cR P G aI [.ptr (.par 0) 2 0 0,.str p] (cG s b) fun x cs=>x= .bool (p.isPrefixOf s)∧cs=cG (cZ p s) b) (s:Bs) (b:Bool) :
  cR P G aZ [.list (iO.map IV.str),.fn aI [.ptr (.par 0) 2 0 0] []] (cG s b) fun x cs=>
   match ma s iO 0 with
   |some (i,r)=>x= .int .i64 (i:Nat)∧cs=cG r b
   |none=>x= .int .i64 (-1)∧cs=cG s b:=by
 refine dw hF N7 PC PC ?_;unfold cA;simp only[↓aX,mX,seval,Oj];refine ca (σ:={i:Nat // i≤4∧∀p∈iO.take i,p.isPrefixOf s=false}) [.par 0] (fun q=>[(0,.list (iO.map IV.str)),(1,.fn aI [.ptr (.par 0) 2 0 0] []),(7,.int .i64 4),(8,.int .i64 q.1)]) (fun _=>[(.par 0,⟨2,[cG s b]⟩)]) (fun q=>4 - q.1) ⟨0,N7⟩ (fun _=>rfl) Pr PC PC ?_ ?_
 ·refine eL ?_ PD PD;intro l hl hu;by_cases e:l= .par 0
  ·subst e;simp
  exfalso;apply hu;simp[ae,e,Hp.none]
 rintro⟨i,hi,dN⟩;simp only[↓aX,mX,seval,cF,bW];have LH:jV 1 (iO.map IV.str):=by
  intro x hx;obtain⟨c,_,rfl⟩:=pb.1 hx;rfl
 by_cases bI:i<4
 ·rw[show decide (((i:Nat):Int)<(4:Int))=true by simp;omega];obtain⟨p,hp⟩:∃p,iO[i]?=some p:=⟨_,bS bI⟩;have hw:IntKind.i64.wrap ((i:Int)+1)=((i+1:Nat):Int):=wrap64 tM tM;have LI:(iO.map IV.str)[i]?=some (.str p):=by rw[cn,hp];rfl
  have Jn:ma s iO 0=ma s (p::iO.drop (i+1)) i:=by
   rw[mJ dN (by simp[iO];omega),bM];congr 1;rw[EK (by simpa[iO] using bI)];congr 1;exact(bd.1 hp).2
  simp only[↓aX,mX,seval,eG,bX,LI,LH,yE,Ek,IV.cells];refine⟨hB,bj (l:= .par 0) (hA s p b) PL PE ?_⟩;rintro x1 dF ⟨rfl,rfl⟩ _ _ _;cases h:p.isPrefixOf s with
  |true=>
   simp only[↓aX,mX,seval,YT,Jn,ma,h];exact⟨cG (s.drop p.length) b,by simp[ae,ah,AV.an,cZ,h]⟩
  |false=>
  simp only[↓aX,mX,seval,hw];refine⟨⟨i+1,bI,fun q hq=> ?_⟩,Pq,eL ?_ PD ?_⟩
  ·rw[yf,hp] at hq;simp only[Mv,eR,bY] at hq;rcases hq with hq|rfl
   ·exact dN q hq
   exact h
  ·intro l hl hu;by_cases e:l= .par 0
   ·subst e;simp
   exfalso;apply hu;simp[ae,e,Hp.none]
  refine⟨by simp[ae,cZ,h],trivial⟩
 have LJ:i=4:=tM
 subst LJ;have Jn:ma s iO 0=none:=by rw[mJ dN (by simp[iO])];rfl
 rw[show decide (((4:Nat):Int)<(4:Int))=false by simp];simp only[↓aX,mX,seval,YT,Jn];exact⟨cG s b,by simp[ae,ah,AV.an]⟩
theorem yF (s:Bs):match ma s iO 0 with
  |some (i,r)=>∃e:UInt8,([60,62,38,34]:Bs)[i]?=some e∧og s=some (e,r)
  |none=>og s=none:=by
 unfold og;simp only[iO,ma];split
 ·rename_i i r h;split at h
  ·rename_i h1;cases h;exact⟨60,rfl,by rw[eE h1];rfl⟩
  rename_i h1;split at h
  ·rename_i h2;cases h;exact⟨62,rfl,by rw[cY h1,eE h2];rfl⟩
  rename_i h2;split at h
  ·rename_i h3;cases h;exact⟨38,rfl,by rw[cY h1,cY h2,eE h3];rfl⟩
  rename_i h3;split at h
  ·rename_i h4;cases h;exact⟨34,rfl,by rw[cY h1,cY h2,cY h3,eE h4];rfl⟩
  cases h
 rename_i h;split at h
 ·cases h
 rename_i h1;split at h
 ·cases h
 rename_i h2;split at h
 ·cases h
 rename_i h3;split at h
 ·cases h
 rename_i h4;rw[cY h1,cY h2,cY h3,cY h4]
theorem jj:∀s:Bs,jW (a7 s)=some s
 |[]=>rfl
 |c::s=>by
  have ih:=jj s;unfold a7 at ih ⊢;simp only[o2,jW,ih];simp
def rO (v:Bool) (s:Bs) (b:Bool) (x:AV) (cs:List AV):Prop:=∃t r b',x= .str t∧cs=cG r b'∧r.length+t.length≤s.length∧(b=true→b'=true) ∧
 (b=false→match bm v s with
  |some y=>b'=false∧y=(t,r)
  |none=>b'=true)
def yG (v:Bool) (s:Bs) (b:Bool) (q:Bs×Bs×Bool):Prop:=q.1.length+q.2.1.length≤s.length∧(b=true→q.2.2=true)∧(b=false→if q.2.2 then bm v s=none else bm v s=(bm v q.1).map fun y=>(q.2.1++y.1,y.2))
def cI (c:UInt8) (k:Nat) (hk:k<256):((c.toNat:Int)==(k:Int))=(c==UInt8.ofNat k):=by
 rw[Bb];simp only[yt];rw[←M7];have:(UInt8.ofNat k).toNat=k:=PJ
 rw[this];omega
def fk (c:UInt8):arM c=(((c.toNat:Int)==10)|| !(decide ((c.toNat:Int)<32)||decide ((c.toNat:Int)>126))):=by
 have h1:((c.toNat:Int)==10)=(c==10):=cI c 10 Pr;unfold arM;rw[h1];congr 1;rw[Bb];simp only[de,dj,D0,EI,D5,Gj];show(32≤_∧_≤126)↔_;omega
def alI (aI aZ:Nat):AC:=
(aM [aQ 4 (.iC (.c (.str [])))] (aM [zi 5] (.gh (.own 5 1) (.seq (.block 0 (.loop (.seq (aM [MR 8 0,aQ 9 (.dp (.t 8)),ep 10 9 0,fm 11 10,aQ 12 (.bin .neq (.t 11) (.c (.str []))),MR 13 12,cU 14 13 0,dW 15 13 (.dp (.t 14)),Wb 16 13 15 1,jm 17 13 16,dW 18 13 (.not (.t 17)),jT 19 13 18] (.cond (.t 19) .skip (.exit 0))) (.block 1 (aM [MR 20 0,aQ 21 (.dp (.t 20)),ep 22 21 0,fm 23 22,aQ 24 (.lj (.t 23) (jS 0)),MR 6 24] (.block 2 (aM [MR 38 6,aQ 39 (.bin .eql (.t 38) (.c (.int .u8 60))),MR 40 39,gV 41 40 6,iR 42 40 (.bin .eql (.t 41) (.c (.int .u8 34))),gV 43 40 42,cU 44 43 1,iR 45 40 (.pick (.t 43) (.t 44) (me false)),sj 46 40 45,MR 37 46] (.cond (.t 37) (.gh (.zS (.loc 5) 5) (aM [MR 47 5,aQ 48 (.wm (.t 47)),MR 4 48] .ret)) (aM [MR 50 6,aQ 51 (.bin .eql (.t 50) (.c (.int .u8 38))),MR 49 51] (.cond (.t 49) (aM [aQ 52 (.oD (.c (.lptr [(.str [38,108,116,59]),(.str [38,103,116,59]),(.str [38,97,109,112,59]),(.str [38,113,117,111,116,59])])) 4 1),MR 53 0,aQ 54 (.zh aI [(.t 53)] []),aQ 55 (.call aZ [(.t 52),(.t 54)]),MR 7 55] (.seq (aM [MR 56 7,eY 57 .lss 56 0] (.cond (.t 57) (aM [MR 58 0,aQ 59 (.dp (.t 58)),ep 60 59 1,gg (.store 1 (.t 60) (me true))] (aM [aQ 4 (.iC (.c (.str [])))] .ret)) .skip)) (.cq [MR 61 5,MR 62 7,aQ 63 (.lj (.c (.str [60,62,38,34])) (.t 62)),aQ 64 (.lits 1 1 [(.int .u8 0)] [(0,(.t 63))]),aQ 65 (.app (.t 61) (.t 64) 1 1),MR 5 65]))) (aM [MR 67 6,aQ 68 (.bin .eql (.t 67) (.c (.int .u8 62))),MR 69 68,gV 70 69 6,iR 71 69 (.bin .neq (.t 70) (.c (.int .u8 10))),gV 72 69 71,cU 73 72 6,dW 74 72 (.bin .lss (.t 73) (.c (.int .u8 32))),cU 75 72 74,gV 76 75 6,iR 77 75 (.bin .gtr (.t 76) (.c (.int .u8 126))),dW 78 72 (.pick (.t 75) (me true) (.t 77)),iR 79 69 (.pick (.t 72) (.t 78) (me false)),sj 80 69 79,MR 66 80] (.cond (.t 66) (.cq [MR 81 0,aQ 82 (.dp (.t 81)),ep 83 82 1,gg (.store 1 (.t 83) (me true))]) (aM [MR 25 5,MR 26 6,aQ 27 (.lits 1 1 [(.int .u8 0)] [(0,(.t 26))]),aQ 28 (.app (.t 25) (.t 27) 1 1),MR 5 28] (.cq [MR 29 0,MR 30 0,aQ 31 (.dp (.t 30)),ep 32 31 0,fm 33 32,aQ 34 (.ZL (.t 33) (some (jS 1)) none),aQ 35 (.dp (.t 29)),ep 36 35 0,gg (.store 1 (.t 36) (.t 34))])))))))))))))) (.gh (.zS (.loc 5) 5) (aM [MR 84 5,aQ 85 (.wm (.t 84)),MR 4 85] .ret))))))
theorem El {bo aZ aI:Nat} (hF:aw P G bo=some (86,[(none,4)],(alI aI aZ).bare)) (hI:∀(s:Bs) (b:Bool),
  cR P G aZ [.list (iO.map IV.str),.fn aI [.ptr (.par 0) 2 0 0] []] (cG s b) fun x cs=>
   match ma s iO 0 with
   |some (i,r)=>x= .int .i64 (i:Nat)∧cs=cG r b
   |none=>x= .int .i64 (-1)∧cs=cG s b) (v:Bool) (s:Bs) (hs:s.length≤B) (b:Bool) :
  cR P G bo [.ptr (.par 0) 2 0 0,.bool v] (cG s b) (rO v s b):=by
 refine dw hF N7 PC PC ?_;have zo:B=1073741824:=rfl;unfold alI;simp only[↓aX,mX,seval,Oj];refine gb (σ:={q:Bs×Bs×Bool // yG v s b q}) (fun _=>[.par 0,.loc 5]) (fun _ _=>false)
  (fun q=>[(0,.ptr (.par 0) 2 0 0),(1,.bool v),(5,.sl (.loc 5) 1 0 q.1.2.1.length)])
  (fun q=>[(.par 0,⟨2,[cG q.1.1 q.1.2.2]⟩),(.loc 5,⟨1,aB (a7 q.1.2.1)⟩)]) (fun q=>2*q.1.1.length+(if q.1.2.2 then 0 else 1)) ⟨(s,[],b),N7,fun h=>h,fun h=> ?_⟩ (fun _=>rfl) (fun q=>by simp[ah,AV.an]) ?_ ⟨[],?_⟩ ?_
 ·simp only[h,jy,nX];cases bm v s<;>simp
 ·intro q w hw cs jB z hz;simp only[dU,e7,kt] at hw;rcases hw with rfl|rfl
  ·simp only[bY] at jB;subst jB;simp[ah,AV.an] at hz
  rw[bU jB] at hz;simp at hz
 ·refine⟨?_,?_,?_,PN,PN⟩
  ·intro l hf hu;left;cases l<;>simp[Lb.entry] at hf;rename_i n;by_cases e:n=0
   ·subst e;simp
   exfalso;apply hu;simp[ae,Hp.none,e]
  ·simp[k_,dn,bJ,put,jP]
  simp[tc,dn,ae,dO,bu,bJ,a7,aB]
 rintro⟨⟨r,t,bad⟩,hlen,qE,nL⟩;simp only at hlen qE nL;have hU:∀d,d≠5→ie (fun _=>false) [(Lb.par 0,⟨2,[cG r bad]⟩),(Lb.loc 5,⟨1,aB (a7 t)⟩)] (.loc d)= .unused:=fun d hd=>by rw[fE (by simp[hd])];rfl
 have hUp:∀d,d≠0→ie (fun _=>false) [(Lb.par 0,⟨2,[cG r bad]⟩),(Lb.loc 5,⟨1,aB (a7 t)⟩)] (.par d)= .unused:=fun d hd=>by rw[fE (by simp[hd])];rfl
 have ij:ie (fun _=>false) [(Lb.par 0,⟨2,[cG r bad]⟩),(Lb.loc 5,⟨1,aB (a7 t)⟩)] (.par 0)= .live ⟨2,[cG r bad]⟩:=cL.2 P8;have oB:ie (fun _=>false) [(Lb.par 0,⟨2,[cG r bad]⟩),(Lb.loc 5,⟨1,aB (a7 t)⟩)] (.loc 5)= .live ⟨1,aB (a7 t)⟩:=cL.2 P8;simp only;generalize ie (fun _=>false) [(Lb.par 0,⟨2,[cG r bad]⟩),(Lb.loc 5,⟨1,aB (a7 t)⟩)]=H0 at *;have sk:((a7 t).drop 0).take t.length=a7 t:=by rw[tn,eN (by rw[a_];exact eM _)]
 have qB:0+t.length≤(a7 t).length:=by rw[a_];omega
 have fin:∀(H1:Hp),H1 (.par 0)= .live ⟨2,[cG r bad]⟩→(bad=false→∃y,bm v r=some y∧y=([],r))→∃dF,rO v s b (.str t) dF∧(AV.str t).an=[]∧ah dF=[]∧dF.length=2∧H1 (.par 0)= .live ⟨2,[dF]⟩:=by
  intro H1 h1 h2;refine⟨cG r bad,⟨t,r,bad,rfl,rfl,hlen,qE,fun hb=> ?_⟩,rfl,PC,rfl,h1⟩;have h3:=nL hb;cases bad with
  |true=>simp only[ku] at h3;rw[h3]
  |false=>
  obtain⟨y,hy,rfl⟩:=h2 rfl;simp only[jy,nX,hy,bT,rI] at h3;rw[h3];exact⟨rfl,rfl⟩
 simp only[↓aX,mX,seval,ij]
 match r,hlen,nL,ij,fin with
 |[],hlen,nL,ij,fin=>
  simp only[↓aX,mX,seval,show(([]:Bs)==[])=true from rfl,ib];refine⟨1,a7 t,0,t.length,rfl,oB,qB,jh t,?_⟩;rw[sk];simp only[↓aX,mX,seval,sJ,jj,bT,YT];exact fin _ (by simp[ae,ij]) (fun _=>⟨_,vW v,rfl⟩)
 |c::q,hlen,nL,ij,fin=>
  simp only[↓aX,mX,seval,show((c::q:Bs)==[])=false from rfl,fj,ij];cases bad with
  |true=>
   simp only[↓aX,mX,seval,ib];refine⟨1,a7 t,0,t.length,rfl,oB,qB,jh t,?_⟩;rw[sk];simp only[↓aX,mX,seval,sJ,jj,bT,YT];exact fin _ (by simp[ae,ij]) (fun h=>by cases h)
  |false=>
  have Cm:b=false:=by cases b with|true=>exact absurd (qE rfl) N7|false=>rfl
  have ke:=nL Cm;simp only[jy,nX] at ke;have GL:((c.toNat:Int)==60)=(c==60):=cI c 60 Pr;have E6:((c.toNat:Int)==62)=(c==62):=cI c 62 Pr;have HF:((c.toNat:Int)==38)=(c==38):=cI c 38 Pr;have Jh:((c.toNat:Int)==34)=(c==34):=cI c 34 Pr;simp only[↓aX,mX,seval,fj,ij,show((0:Int)).toNat=0 from rfl,yr,GL];have stop:yu v c→∃y,bm v (c::q)=some y∧y=([],c::q):=fun h=>⟨_,aou h q,rfl⟩;by_cases tv:c=60
  ·rw[show(c==60)=true by simp[tv]];simp only[↓aX,mX,seval];refine⟨1,a7 t,0,t.length,rfl,oB,qB,jh t,?_⟩;rw[sk];simp only[↓aX,mX,seval,sJ,jj,bT,YT];exact fin _ (by simp[ae,ij]) (fun _=>stop (.inl tv))
  rw[show(c==60)=false by simp[tv]];simp only[↓aX,mX,seval,fj,Jh];have next:∀(e:UInt8) (r':Bs) (d:Nat) (env:Env),bm v (c::q)=(bm v r').map (fun x=>(e::x.1,x.2))→r'.length<(c::q).length→env 0= .ptr (.par 0) 2 0 0→env 1= .bool v→env 5= .sl (.loc d) 1 0 (t.length+1)→∀(H1:Hp),H1 (.par 0)= .live ⟨2,[cG r' false]⟩→H1 (.loc d)= .live ⟨1,aB (a7 t++a7 [e])⟩→(∀n,n≠0→H1 (.par n)= .unused) →
    ∃q':{q:Bs×Bs×Bool // yG v s b q},2*q'.1.1.length+(if q'.1.2.2 then 0 else 1)<2*(c::q).length+1∧∃m,WE [.par 0,.loc 5] (fun _=>false) [(0,.ptr (.par 0) 2 0 0),(1,.bool v),(5,.sl (.loc 5) 1 0 q'.1.2.1.length)]
     [(.par 0,⟨2,[cG q'.1.1 q'.1.2.2]⟩),(.loc 5,⟨1,aB (a7 q'.1.2.1)⟩)] env H1 m:=by
   intro e r' d env h1 h2 h3 h4 h5 H1 h6 h7 h8;refine⟨⟨(r',t++[e],false),?_,qE,fun _=> ?_⟩,?_,[(.loc 5,.loc d)],?_,?_,?_,PN,?_⟩
   ·simp only[ko,gL,yg] at hlen h2 ⊢;omega
   ·simp only[jy,nX];rw[ke,h1];cases bm v r'<;>simp
   ·simp only[jy,nX];omega
   ·intro l hf hu;left;cases l<;>simp[Lb.entry] at hf;rename_i n;by_cases e0:n=0
    ·subst e0;simp
    exact absurd (h8 n e0) hu
   ·simp[k_,h3,h4,h5,bJ,dn]
   ·refine⟨by simp[dn,dO,bu,bJ,h6],by simp[dn,dy,h7,rK],trivial⟩
   intro l hl;simp only[dU,e7,kt] at hl;rcases hl with rfl|rfl
   ·simp[dn]
   simp[dn,Lb.fresh,Lb.entry]
  have v7:∀(env:Env) (H1:Hp),bm v (c::q)=none→env 0= .ptr (.par 0) 2 0 0→env 1= .bool v→env 5= .sl (.loc 5) 1 0 t.length→H1 (.par 0)= .live ⟨2,[cG (c::q) true]⟩→H1 (.loc 5)= .live ⟨1,aB (a7 t)⟩→(∀n,n≠0→H1 (.par n)= .unused) →
    ∃q':{q:Bs×Bs×Bool // yG v s b q},2*q'.1.1.length+(if q'.1.2.2 then 0 else 1)<2*(c::q).length+1∧∃m,WE [.par 0,.loc 5] (fun _=>false) [(0,.ptr (.par 0) 2 0 0),(1,.bool v),(5,.sl (.loc 5) 1 0 q'.1.2.1.length)]
     [(.par 0,⟨2,[cG q'.1.1 q'.1.2.2]⟩),(.loc 5,⟨1,aB (a7 q'.1.2.1)⟩)] env H1 m:=by
   intro env H1 h1 h3 h4 h5 h6 h7 h8;refine⟨⟨(c::q,t,true),hlen,fun _=>rfl,fun _=> ?_⟩,?_,[],?_,?_,?_,PN,PN⟩
   ·simp only[ku];rw[ke,h1];rfl
   ·simp only[ku];omega
   ·intro l hf hu;left;cases l<;>simp[Lb.entry] at hf;rename_i n;by_cases e0:n=0
    ·subst e0;simp
    exact absurd (h8 n e0) hu
   ·simp[k_,h3,h4,h5,bJ,dn]
   refine⟨by simp[dn,dO,bu,bJ,h6],by simp[dn,dy,h7],trivial⟩
  by_cases GO:c=34∧v=true
  ·rw[show(c==34)=true by simp[GO.1]];simp only[↓aX,mX,seval];refine AU (fun _=> ?_) (fun hv=>by rw[GO.2] at hv;cases hv);simp only[↓aX,mX,seval];refine⟨1,a7 t,0,t.length,rfl,oB,qB,jh t,?_⟩;rw[sk];simp only[↓aX,mX,seval,sJ,jj,bT,YT];exact fin _ (by simp[ae,ij]) (fun _=>stop (.inr GO))
  have np:¬yu v c:=fun h=>h.elim tv GO;cases Jo:(c==34) with
  |true=>
   simp only[↓aX,mX,seval];refine AU (fun hv=>absurd ⟨by simpa using Jo,hv⟩ GO) (fun _=> ?_);simp only[↓aX,mX,seval,HF];by_cases qv:c=38
   ·rw[show(c==38)=true by simp[qv]];simp only[↓aX,mX,seval];rw[eE ⟨rfl,Pr,by intro y hy;simp only[dU,e7,kt] at hy;rcases hy with rfl|rfl|rfl|rfl<;>rfl⟩];simp only[↓aX,mX,seval];refine bj (l:= .par 0) (hI (c::q) false) QB (by simp[ij]) ?_;intro x1 dF hx _ _ _;have hK:=yF (c::q);cases hk:ma (c::q) iO 0 with
    |none=>
     rw[hk] at hx hK;simp only at hx hK;obtain⟨rfl,rfl⟩:=hx;have hn:bm v (c::q)=none:=by
      rw[bm,cY np,eE qv];split
      ·rename_i e1 q1 h;rw[hK] at h;cases h
      rfl
     simp only[↓aX,mX,seval,show((-1:Int)<0)=True by simp,A_,YT];refine⟨cG (c::q) true,⟨[],c::q,true,rfl,rfl,by simp at hlen ⊢;omega,fun _=>rfl,fun hb=> ?_⟩,rfl,PC,rfl,PE⟩;rw[ke,hn];rfl
    |some y=>
    obtain⟨i,r'⟩:=y;rw[hk] at hx hK;simp only at hx hK;obtain⟨rfl,rfl⟩:=hx;obtain⟨e,he,tw⟩:=hK;have hn:bm v (c::q)=(bm v r').map fun x=>(e::x.1,x.2):=by
     rw[bm,cY np,eE qv];split
     ·rename_i e1 q1 h;rw[tw] at h;cases h;rfl
     rename_i h;rw[tw] at h;cases h
    have bI:=nw tw;simp only[↓aX,mX,seval,show decide (((i:Nat):Int)<0)=false by simp,eG,bX,he];rw[fH (xs:=a7 t) (by simp[ae,oB]) (a_ t).symm (by simp at hlen;omega) PO (by simp[Lb.app,Lb.fresh,ae,hU 65 Pr])];simp only[↓aX,mX,seval,Lb.app,Lb.fresh];refine next e r' 65 _ hn bI ?_ ?_ ?_ _ ?_ ?_ ?_
    ·rfl
    ·rfl
    ·rfl
    ·simp[ae]
    ·simp[ae]
    intro n hn;simp[ae,hUp n hn,hn]
   rw[show(c==38)=false by simp[qv]];simp only[↓aX,mX,seval,E6];cases yH:(c==62) with
   |true=>
    simp only[↓aX,mX,seval,ij];have hn:bm v (c::q)=none:=(by rw[bm,cY np,cY qv,eE (.inl (by simpa using yH))]);refine v7 _ _ hn ?_ ?_ ?_ ?_ ?_ ?_
    ·rfl
    ·rfl
    ·rfl
    ·simp[ae]
    ·simp[ae,oB]
    intro n hn;simp[ae,hUp n hn,hn]
   |false=>
   simp only[↓aX,mX,seval,fj];rw[show((c.toNat:Int) !=10)= !((c.toNat:Int)==10) from rfl];cases wH:((c.toNat:Int)==10) with
   |true=>
    have qG:arM c=true:=(by rw[fk,wH];rfl);simp only[↓aX,mX,seval,ib];have hn:bm v (c::q)=(bm v q).map fun x=>(c::x.1,x.2):=(by rw[bm,cY np,cY qv,cY (by rintro(h|h);exact absurd h (by simpa using yH);rw[qG] at h;cases h)]);rw[fH (xs:=a7 t) oB (a_ t).symm (by simp at hlen;omega) PO (hU 28 Pr)];simp only[↓aX,mX,seval,Lb.app,Lb.fresh,ij,bnd,eG,show(0:Int)≤1 by decide,show(1:Int).toNat=1 from rfl,tk,gL,show 1≤q.length+1 by omega,ku,eQ,bT,nc,va,A7,tn,eM,Cj];refine next c q 28 _ hn N7 ?_ ?_ ?_ _ ?_ ?_ ?_
    ·rfl
    ·rfl
    ·rfl
    ·simp[ae]
    ·simp[ae]
    intro n hn;simp[ae,hUp n hn,hn]
   |false=>
   simp only[↓aX,mX,seval,fj];cases Em:decide ((c.toNat:Int)<32) with
   |true=>
    have qG:arM c=false:=(by rw[fk,wH,Em];rfl);simp only[↓aX,mX,seval,ib,ij];have hn:bm v (c::q)=none:=(by rw[bm,cY np,cY qv,eE (.inr qG)]);refine v7 _ _ hn ?_ ?_ ?_ ?_ ?_ ?_
    ·rfl
    ·rfl
    ·rfl
    ·simp[ae]
    ·simp[ae,oB]
    intro n hn;simp[ae,hUp n hn,hn]
   |false=>
   simp only[↓aX,mX,seval,fj];cases yI:decide ((c.toNat:Int)>126) with
   |true=>
    have qG:arM c=false:=(by rw[fk,wH,Em,yI];rfl);simp only[↓aX,mX,seval,ij];have hn:bm v (c::q)=none:=(by rw[bm,cY np,cY qv,eE (.inr qG)]);refine v7 _ _ hn ?_ ?_ ?_ ?_ ?_ ?_
    ·rfl
    ·rfl
    ·rfl
    ·simp[ae]
    ·simp[ae,oB]
    intro n hn;simp[ae,hUp n hn,hn]
   |false=>
   have qG:arM c=true:=(by rw[fk,wH,Em,yI];rfl);simp only[↓aX,mX,seval];have hn:bm v (c::q)=(bm v q).map fun x=>(c::x.1,x.2):=(by rw[bm,cY np,cY qv,cY (by rintro(h|h);exact absurd h (by simpa using yH);rw[qG] at h;cases h)]);rw[fH (xs:=a7 t) oB (a_ t).symm (by simp at hlen;omega) PO (hU 28 Pr)];simp only[↓aX,mX,seval,Lb.app,Lb.fresh,ij,bnd,eG,show(0:Int)≤1 by decide,show(1:Int).toNat=1 from rfl,tk,gL,show 1≤q.length+1 by omega,ku,eQ,bT,nc,va,A7,tn,eM,Cj];refine next c q 28 _ hn N7 ?_ ?_ ?_ _ ?_ ?_ ?_
   ·rfl
   ·rfl
   ·rfl
   ·simp[ae]
   ·simp[ae]
   intro n hn;simp[ae,hUp n hn,hn]
  |false=>
  simp only[↓aX,mX,seval,HF];by_cases qv:c=38
  ·rw[show(c==38)=true by simp[qv]];simp only[↓aX,mX,seval];rw[eE ⟨rfl,Pr,by intro y hy;simp only[dU,e7,kt] at hy;rcases hy with rfl|rfl|rfl|rfl<;>rfl⟩];simp only[↓aX,mX,seval];refine bj (l:= .par 0) (hI (c::q) false) QB (by simp[ij]) ?_;intro x1 dF hx _ _ _;have hK:=yF (c::q);cases hk:ma (c::q) iO 0 with
   |none=>
    rw[hk] at hx hK;simp only at hx hK;obtain⟨rfl,rfl⟩:=hx;have hn:bm v (c::q)=none:=by
     rw[bm,cY np,eE qv];split
     ·rename_i e1 q1 h;rw[hK] at h;cases h
     rfl
    simp only[↓aX,mX,seval,show((-1:Int)<0)=True by simp,A_,YT];refine⟨cG (c::q) true,⟨[],c::q,true,rfl,rfl,by simp at hlen ⊢;omega,fun _=>rfl,fun hb=> ?_⟩,rfl,PC,rfl,PE⟩;rw[ke,hn];rfl
   |some y=>
   obtain⟨i,r'⟩:=y;rw[hk] at hx hK;simp only at hx hK;obtain⟨rfl,rfl⟩:=hx;obtain⟨e,he,tw⟩:=hK;have hn:bm v (c::q)=(bm v r').map fun x=>(e::x.1,x.2):=by
    rw[bm,cY np,eE qv];split
    ·rename_i e1 q1 h;rw[tw] at h;cases h;rfl
    rename_i h;rw[tw] at h;cases h
   have bI:=nw tw;simp only[↓aX,mX,seval,show decide (((i:Nat):Int)<0)=false by simp,eG,bX,he];rw[fH (xs:=a7 t) (by simp[ae,oB]) (a_ t).symm (by simp at hlen;omega) PO (by simp[Lb.app,Lb.fresh,ae,hU 65 Pr])];simp only[↓aX,mX,seval,Lb.app,Lb.fresh];refine next e r' 65 _ hn bI ?_ ?_ ?_ _ ?_ ?_ ?_
   ·rfl
   ·rfl
   ·rfl
   ·simp[ae]
   ·simp[ae]
   intro n hn;simp[ae,hUp n hn,hn]
  rw[show(c==38)=false by simp[qv]];simp only[↓aX,mX,seval,E6];cases yH:(c==62) with
  |true=>
   simp only[↓aX,mX,seval,ij];have hn:bm v (c::q)=none:=(by rw[bm,cY np,cY qv,eE (.inl (by simpa using yH))]);refine v7 _ _ hn ?_ ?_ ?_ ?_ ?_ ?_
   ·rfl
   ·rfl
   ·rfl
   ·simp[ae]
   ·simp[ae,oB]
   intro n hn;simp[ae,hUp n hn,hn]
  |false=>
  simp only[↓aX,mX,seval,fj];rw[show((c.toNat:Int) !=10)= !((c.toNat:Int)==10) from rfl];cases wH:((c.toNat:Int)==10) with
  |true=>
   have qG:arM c=true:=(by rw[fk,wH];rfl);simp only[↓aX,mX,seval,ib];have hn:bm v (c::q)=(bm v q).map fun x=>(c::x.1,x.2):=(by rw[bm,cY np,cY qv,cY (by rintro(h|h);exact absurd h (by simpa using yH);rw[qG] at h;cases h)]);rw[fH (xs:=a7 t) oB (a_ t).symm (by simp at hlen;omega) PO (hU 28 Pr)];simp only[↓aX,mX,seval,Lb.app,Lb.fresh,ij,bnd,eG,show(0:Int)≤1 by decide,show(1:Int).toNat=1 from rfl,tk,gL,show 1≤q.length+1 by omega,ku,eQ,bT,nc,va,A7,tn,eM,Cj];refine next c q 28 _ hn N7 ?_ ?_ ?_ _ ?_ ?_ ?_
   ·rfl
   ·rfl
   ·rfl
   ·simp[ae]
   ·simp[ae]
   intro n hn;simp[ae,hUp n hn,hn]
  |false=>
  simp only[↓aX,mX,seval,fj];cases Em:decide ((c.toNat:Int)<32) with
  |true=>
   have qG:arM c=false:=(by rw[fk,wH,Em];rfl);simp only[↓aX,mX,seval,ib,ij];have hn:bm v (c::q)=none:=(by rw[bm,cY np,cY qv,eE (.inr qG)]);refine v7 _ _ hn ?_ ?_ ?_ ?_ ?_ ?_
   ·rfl
   ·rfl
   ·rfl
   ·simp[ae]
   ·simp[ae,oB]
   intro n hn;simp[ae,hUp n hn,hn]
  |false=>
  simp only[↓aX,mX,seval,fj];cases yI:decide ((c.toNat:Int)>126) with
  |true=>
   have qG:arM c=false:=(by rw[fk,wH,Em,yI];rfl);simp only[↓aX,mX,seval,ij];have hn:bm v (c::q)=none:=(by rw[bm,cY np,cY qv,eE (.inr qG)]);refine v7 _ _ hn ?_ ?_ ?_ ?_ ?_ ?_
   ·rfl
   ·rfl
   ·rfl
   ·simp[ae]
   ·simp[ae,oB]
   intro n hn;simp[ae,hUp n hn,hn]
  |false=>
  have qG:arM c=true:=by rw[fk,wH,Em,yI];rfl
  simp only[↓aX,mX,seval];have hn:bm v (c::q)=(bm v q).map fun x=>(c::x.1,x.2):=by rw[bm,cY np,cY qv,cY (by rintro(h|h);exact absurd h (by simpa using yH);rw[qG] at h;cases h)]
  rw[fH (xs:=a7 t) oB (a_ t).symm (by simp at hlen;omega) PO (hU 28 Pr)];simp only[↓aX,mX,seval,Lb.app,Lb.fresh,ij,bnd,eG,show(0:Int)≤1 by decide,show(1:Int).toNat=1 from rfl,tk,gL,show 1≤q.length+1 by omega,ku,eQ,bT,nc,va,A7,tn,eM,Cj];refine next c q 28 _ hn N7 ?_ ?_ ?_ _ ?_ ?_ ?_
  ·rfl
  ·rfl
  ·rfl
  ·simp[ae]
  ·simp[ae]
  intro n hn;simp[ae,hUp n hn,hn]
end

theorem uW:∀l m:List Attr,dX (l++m)=dX l+dX m
 |[],m=>by simp[dX]
 |a::r,m=>by simp[dX,uW r m];omega
def yJ {l m:List Attr} (h:l.Perm m):dX l=dX m:=by
 induction h with
 |nil=>rfl
 |cons x _ ih=>simp[dX,ih]
 |swap x y l=>simp[dX];omega
 |trans _ _ h1 h2=>exact h1.trans h2
def qw (s:Bs) (b:Bool) (x:AV) (cs:List AV):Prop:=∃l r b',x= .list (cD l)∧cs=cG r b'∧r.length+dX l≤s.length∧(b=true→b'=true) ∧
 (b=false→match ea s with
  |some y=>b'=false∧r=y.2∧l.length=y.1.length∧(y.1.length≤20→l=cu y.1)
  |none=>b'=true)
def GP (s:Bs) (b:Bool) (q:Bs×List Attr×Bool):Prop:=q.1.length+dX q.2.1≤s.length∧(b=true→q.2.2=true)∧(b=false→if q.2.2 then ea s=none else ea s=(ea q.1).map fun y=>(q.2.1++y.1,y.2))
def gU (p s:Bs):iA p s=if p.isPrefixOf s then some (cZ p s) else none:=by
 unfold iA cZ;split<;>rfl
def oj (s:Bs):l6 s=if(decide (s.takeWhile akP=[])||decide (8<(s.takeWhile akP).length)) then none else some (s.takeWhile akP,s.dropWhile akP):=by
 unfold l6;simp only[Be,dj]
def jC (p:UInt8→Bool) (s:Bs):(s.takeWhile p).length+(s.dropWhile p).length=s.length:=by
 rw[←ko,NO]
section
variable {P:Program} {G:Nat→Option (List IV)}
def eV (bf bb aP bo aV bO:Nat):AC:=
(aM [zi 2] (aM [zi 3] (.gh (.own 3 2) (.seq (.block 0 (.loop (.seq (aM [MR 5 0,aQ 6 (.call bf [(.t 5)]),MR 7 6,cU 8 7 0,dW 9 7 (.dp (.t 8)),Wb 10 7 9 1,jm 11 7 10,dW 12 7 (.not (.t 11)),jT 13 7 12,MR 14 13,cU 15 14 0,dW 16 14 (.dp (.t 15)),Wb 17 14 16 0,jm 18 14 17,dW 19 14 (.bin .neq (.t 18) (.c (.str []))),jT 20 14 19,MR 21 20,cU 22 21 0,dW 23 21 (.dp (.t 22)),Wb 24 21 23 0,jm 25 21 24,dW 26 21 (.lj (.t 25) (jS 0)),dW 27 21 (.bin .neq (.t 26) (.c (.int .u8 62))),jT 28 21 27,MR 29 28,cU 30 29 0,dW 31 29 (.dp (.t 30)),Wb 32 29 31 0,jm 33 29 32,dW 34 29 (.lj (.t 33) (jS 0)),dW 35 29 (.bin .neq (.t 34) (.c (.int .u8 47))),jT 36 29 35] (.cond (.t 36) .skip (.exit 0))) (.block 1 (aM [MR 37 0,aQ 38 (.call bb [(.t 37)]),aQ 39 (.sg [(.str []),(.str [])] [(0,(1,(.t 38)))]),aQ 4 (.new [(.str []),(.str [])]),gg (.store 2 (.t 4) (.t 39))] (aM [MR 40 0,aQ 41 (.call aP [(.t 40),(.c (.str [61,34]))])] (aM [MR 42 0,aQ 43 (.call bo [(.t 42),(me true)]),ep 44 4 1,gg (.store 1 (.t 44) (.t 43))] (aM [MR 45 0,aQ 46 (.call aP [(.t 45),(.c (.str [34]))])] (.cq [MR 47 3,gz 48 2 4,aQ 49 (.lits 1 2 [(.str []),(.str [])] [(0,(.t 48))]),aQ 50 (.app (.t 47) (.t 49) 2 32),MR 3 50]))))))))) (aM [MR 51 3,aQ 52 (.call aV [(.t 51),(.c (.fn bO [] []))])] (aM [MR 53 3,MR 2 53] (.gh (.zS (.loc 3) 2) .ret)))))))
def Bp {b5 bf bb aP bo aV bO:Nat} (hF:aw P G b5=some (54,[(none,2)],(eV bf bb aP bo aV bO).bare))
  (HK:∀(s:Bs) (b:Bool),s.length≤B→cR P G bf [.ptr (.par 0) 2 0 0] (cG s b) fun x cs=>x= .bool (decide ((s.dropWhile isSp).length<s.length))∧cs=cG (s.dropWhile isSp) b)
  (hN:∀(s:Bs) (b:Bool),s.length≤B→cR P G bb [.ptr (.par 0) 2 0 0] (cG s b) fun x cs=>x= .str (s.takeWhile akP)∧cs=cG (s.dropWhile akP) (b||(decide (s.takeWhile akP=[])||decide (8<(s.takeWhile akP).length))))
  (Cn:∀(s p:Bs) (b:Bool),cR P G aP [.ptr (.par 0) 2 0 0,.str p] (cG s b) fun x cs=>cs=cG (cZ p s) (b|| !p.isPrefixOf s))
  (hT:∀(v:Bool) (s:Bs) (b:Bool),s.length≤B→cR P G bo [.ptr (.par 0) 2 0 0,.bool v] (cG s b) (rO v s b))
  (rP:∀l:List Attr,l.length≤B→ig P G aV [.sl (.par 0) 2 0 l.length,.fn bO [] []] 2 (cD l) fun x ys=>∃zs:List Attr,ys=cD zs∧zs.Perm l∧(l.length≤20→zs=cu l))
  (s:Bs) (hs:s.length≤B) (b:Bool) :
  cR P G b5 [.ptr (.par 0) 2 0 0] (cG s b) (qw s b):=by
 refine dw hF N7 PC PC ?_;have zo:B=1073741824:=rfl;unfold eV;simp only[↓aX,mX,seval,Oj];refine gb (σ:={q:Bs×List Attr×Bool // GP s b q}) (fun _=>[.par 0,.loc 3]) (fun _ _=>false)
  (fun q=>[(0,.ptr (.par 0) 2 0 0),(3,.sl (.loc 3) 2 0 q.1.2.1.length)])
  (fun q=>[(.par 0,⟨2,[cG q.1.1 q.1.2.2]⟩),(.loc 3,⟨2,aB (cD q.1.2.1)⟩)]) (fun q=>q.1.1.length) ⟨(s,[],b),by simp[dX],fun h=>h,fun h=> ?_⟩ (fun _=>rfl) (fun q=>by simp[ah,AV.an]) ?_ ⟨[],?_⟩ ?_
 ·simp only[h,jy,nX];cases ea s<;>simp
 ·intro q w hw cs jB z hz;simp only[dU,e7,kt] at hw;rcases hw with rfl|rfl
  ·simp only[bY] at jB;subst jB;simp[ah,AV.an] at hz
  rw[bU jB] at hz;simp at hz
 ·refine⟨?_,?_,?_,PN,PN⟩
  ·intro l hf hu;left;cases l<;>simp[Lb.entry] at hf;rename_i n;by_cases e:n=0
   ·subst e;simp
   exfalso;apply hu;simp[ae,Hp.none,e]
  ·simp[k_,dn,bJ,put,jP]
  simp[tc,dn,ae,dO,bu,bJ,cD,aB]
 rintro⟨⟨r,l,bad⟩,hlen,qE,nL⟩;simp only at hlen qE nL;have Ij:=iz l;have hU:∀d,d≠3→ie (fun _=>false) [(Lb.par 0,⟨2,[cG r bad]⟩),(Lb.loc 3,⟨2,aB (cD l)⟩)] (.loc d)= .unused:=fun d hd=>by rw[fE (by simp[hd])];rfl
 have hUp:∀d,d≠0→ie (fun _=>false) [(Lb.par 0,⟨2,[cG r bad]⟩),(Lb.loc 3,⟨2,aB (cD l)⟩)] (.par d)= .unused:=fun d hd=>by rw[fE (by simp[hd])];rfl
 have ij:ie (fun _=>false) [(Lb.par 0,⟨2,[cG r bad]⟩),(Lb.loc 3,⟨2,aB (cD l)⟩)] (.par 0)= .live ⟨2,[cG r bad]⟩:=cL.2 P8;have qI:ie (fun _=>false) [(Lb.par 0,⟨2,[cG r bad]⟩),(Lb.loc 3,⟨2,aB (cD l)⟩)] (.loc 3)= .live ⟨2,aB (cD l)⟩:=cL.2 P8;simp only;generalize ie (fun _=>false) [(Lb.par 0,⟨2,[cG r bad]⟩),(Lb.loc 3,⟨2,aB (cD l)⟩)]=H0 at *;simp only[↓aX,mX,seval];refine bj (l:= .par 0) (HK r bad tM) PL (by simp[ij]) ?_;rintro x1 dF ⟨rfl,rfl⟩ _ _ _;obtain⟨r1,iS⟩:∃r1,r1=r.dropWhile isSp:=⟨_,rfl⟩;have En:r1.length≤r.length:=by rw[iS];exact jf _ _
 rw[←iS];simp only[↓aX,mX,seval];have fin:∀(zs:List Attr),zs.Perm l→(l.length≤20→zs=cu l)→(bad=false→ea r=some ([],r1))→qw s b (.list (cD zs)) (cG r1 bad):=by
  intro zs h1 h2 h4;refine⟨zs,r1,bad,rfl,rfl,by rw[yJ h1];omega,qE,fun hb=> ?_⟩;have h5:=nL hb;cases bad with
  |true=>simp only[ku] at h5;rw[h5]
  |false=>
  simp only[jy,nX,h4 rfl,bT,rI] at h5;rw[h5];exact⟨rfl,rfl,h1.length_eq,h2⟩
 have wv:∀B':Bool,iL r r1=B'→ea r=if B' then(match l7 r1 with|some (a,q)=>(ea q).map fun x=>(a::x.1,x.2)|none=>none) else some ([],r1):=by
  intro B' h;rw[ea,←iS,h];split
  ·split<;>simp_all
  rfl
 cases wu:decide (r1.length<r.length) with
 |false=>
  simp only[↓aX,mX,seval];refine cT (l:= .loc 3) (rP l tM) PL (by simp[ae,qI]) ?_;rintro x1 ys ⟨zs,rfl,ln,oz⟩ _ _;simp only[↓aX,mX,seval];refine⟨2,cD zs,0,l.length,rfl,PE,by rw[bp,ln.length_eq];omega,nW zs,?_⟩;rw[tn,eN (by rw[bp,ln.length_eq];exact eM _)];exact⟨_,fin zs ln oz (fun _=>by rw[wv false (by unfold iL;rw[wu];rfl)];rfl),rfl,PC,rfl,PE⟩
 |true=>
 simp only[↓aX,mX,seval,ib,fj];cases bad with
 |true=>
  simp only[↓aX,mX,seval,ib,fj];refine cT (l:= .loc 3) (rP l tM) PL (by simp[ae,qI]) ?_;rintro x1 ys ⟨zs,rfl,ln,oz⟩ _ _;simp only[↓aX,mX,seval];refine⟨2,cD zs,0,l.length,rfl,PE,by rw[bp,ln.length_eq];omega,nW zs,?_⟩;rw[tn,eN (by rw[bp,ln.length_eq];exact eM _)];exact⟨_,fin zs ln oz (fun h=>by cases h),rfl,PC,rfl,PE⟩
 |false=>
 have Cm:b=false:=by cases b with|true=>exact absurd (qE rfl) N7|false=>rfl
 have ke:=nL Cm;simp only[jy,nX] at ke;simp only[↓aX,mX,seval,ib,fj];clear nL
 match r1,iS,En,wu,wv,fin with
 |[],iS,En,wu,wv,fin=>
  simp only[↓aX,mX,seval,show((([]:Bs) !=[])=false) from rfl,show(([]:Bs)==[])=true from rfl,ib];refine cT (l:= .loc 3) (rP l tM) PL (by simp[ae,qI]) ?_;rintro x1 ys ⟨zs,rfl,ln,oz⟩ _ _;simp only[↓aX,mX,seval];refine⟨2,cD zs,0,l.length,rfl,PE,by rw[bp,ln.length_eq];omega,nW zs,?_⟩;rw[tn,eN (by rw[bp,ln.length_eq];exact eM _)];exact⟨_,fin zs ln oz (fun _=>by rw[wv false (by unfold iL;rw[wu];rfl)];rfl),rfl,PC,rfl,PE⟩
 |c::q,iS,En,wu,wv,fin=>
  have E6:((c.toNat:Int)==62)=(c==62):=cI c 62 Pr;have LK:((c.toNat:Int)==47)=(c==47):=cI c 47 Pr;simp only[↓aX,mX,seval,show((c::q:Bs)==[])=false from rfl,fj,show((0:Int)).toNat=0 from rfl,yr,bne,E6];cases yH:(c==62) with
  |true=>
   simp only[↓aX,mX,seval,ib];refine cT (l:= .loc 3) (rP l tM) PL (by simp[ae,qI]) ?_;rintro x1 ys ⟨zs,rfl,ln,oz⟩ _ _;simp only[↓aX,mX,seval];refine⟨2,cD zs,0,l.length,rfl,PE,by rw[bp,ln.length_eq];omega,nW zs,?_⟩;rw[tn,eN (by rw[bp,ln.length_eq];exact eM _)];exact⟨_,fin zs ln oz (fun _=>by rw[wv false (by unfold iL;simp[yH])];rfl),rfl,PC,rfl,PE⟩
  |false=>
  simp only[↓aX,mX,seval,fj,show((0:Int)).toNat=0 from rfl,yr,bne,LK];cases HE:(c==47) with
  |true=>
   simp only[↓aX,mX,seval,ib];refine cT (l:= .loc 3) (rP l tM) PL (by simp[ae,qI]) ?_;rintro x1 ys ⟨zs,rfl,ln,oz⟩ _ _;simp only[↓aX,mX,seval];refine⟨2,cD zs,0,l.length,rfl,PE,by rw[bp,ln.length_eq];omega,nW zs,?_⟩;rw[tn,eN (by rw[bp,ln.length_eq];exact eM _)];exact⟨_,fin zs ln oz (fun _=>by rw[wv false (by unfold iL;simp[yH,HE])];rfl),rfl,PC,rfl,PE⟩
  |false=>
  simp only[↓aX,mX,seval,fj];have GQ:=wv true (by unfold iL;simp only[wu,yH,HE];rfl);simp only[ku] at GQ;have LL:(c::q).length<r.length:=by simpa using wu
  generalize c::q=r1 at *;refine bj (l:= .par 0) (hN r1 false tM) PL PE ?_;rintro x1 dF ⟨rfl,rfl⟩ _ _ _;have Cv:=jC akP r1;have B2:=oj r1;rw[N4];generalize r1.takeWhile akP=nm at *;generalize r1.dropWhile akP=r2 at *;generalize (decide (nm=[])||decide (8<nm.length))=Eo at *;simp only[↓aX,mX,seval];refine⟨by simp[ae,hU 4 Pr],?_⟩;refine bj (l:= .par 0) (Cn r2 [61,34] Eo) PL PE ?_;rintro x1 dF rfl _ _ _;have H5:=ic [61,34] r2;have u6:=gU [61,34] r2;generalize List.isPrefixOf [61,34] r2=E7 at *;generalize cZ [61,34] r2=r3 at *;simp only[↓aX,mX,seval];refine bj (l:= .par 0) (hT true r3 (Eo|| !E7) tM) PL PE ?_;rintro x1 dF ⟨t,r4,b4,rfl,rfl,MG,Kr,ky⟩ _ _ _;simp only[↓aX,mX,seval];refine bj (l:= .par 0) (Cn r4 [34] b4) PL PE ?_;rintro x1 dF rfl _ _ _;have MH:=ic [34] r4;have GM:=gU [34] r4;generalize List.isPrefixOf [34] r4=HL at *;generalize cZ [34] r4=r5 at *;simp only[↓aX,mX,seval];rw[qg 2 32 50 3 (cD l) (.agg [.str nm,.str t]) (by simp[ae,qI]) (bp l) rfl (by intro z hz cs;simp only[IV.cells,dU,e7,kt] at hz;rcases hz with rfl|rfl<;>simp) tM Pr Pr (by simp[ae,hU 50 Pr])];simp only[↓aX,mX,seval];have pD:if b4|| !HL then l7 r1=none else l7 r1=some (⟨nm,t⟩,r5):=by
   unfold l7;rw[B2];cases Eo with
   |true=>rw[Kr rfl];rfl
   |false=>
   simp only[jy,nX,eQ];rw[u6];cases E7 with
   |false=>rw[Kr rfl];rfl
   |true=>
   simp only[ku,eQ];have h4:=ky rfl;cases Ks:bm true r3 with
   |none=>
    rw[Ks] at h4;simp only at h4;rw[h4];rfl
   |some y=>
   rw[Ks] at h4;obtain⟨rfl,rfl⟩:=h4;simp only[eQ];rw[GM];cases HL<;>rfl
  refine⟨⟨(r5,l++[⟨nm,t⟩],b4|| !HL),?_,fun(h:b=true)=>(by rw[Cm] at h;cases h),fun _=> ?_⟩,Pq,[(.loc 3,.loc 50)],?_,?_,?_,PN,?_⟩
  ·simp only[uW,dX,Attr.wt];omega
  ·simp only;rw[ke,GQ];cases GR:(b4|| !HL) with
   |true=>rw[GR] at pD;simp only[ku] at pD ⊢;rw[pD];rfl
   |false=>
   rw[GR] at pD;simp only[jy,nX] at pD ⊢;rw[pD];simp only;cases ea r5 with
   |none=>rfl
   |some y=>simp only[bT,yo,Nj]
  ·intro z hf hu;left;cases z<;>simp[Lb.entry] at hf;rename_i n;by_cases e0:n=0
   ·subst e0;simp
   exfalso;apply hu;simp[ae,e0,hUp n e0]
  ·simp[k_,bJ,dn,put]
  ·refine⟨Qw,by simp[dn,dy,ae,cD];rfl,trivial⟩
  intro z hz;simp only[dU,e7,kt] at hz;rcases hz with rfl|rfl
  ·simp[dn]
  simp[dn,Lb.fresh,Lb.entry]
end

def ang {P:Program} {G:Nat→Option (List IV)} {f:Nat} {n:Nat} {rs:List RO} {ac:AC} {args cs:List AV} {R:AV→List AV→Prop}
  (hF:aw P G f=some (n,rs,ac.bare)) (hn:args.length≤n) (ha:∀l∈ah args,l= .par 0) (hc:ah cs=[])
  (hg:go ⟨P,G,n⟩ (fX rs fun x H'=>∃dF,R (norm x) dF∧x.an=[]∧ah dF=[]∧dF.length=cs.length∧H' (.par 0)= .live ⟨cs.length,[dF]⟩) [.code ac] (jP args) (Oj cs)):cR P G f args cs R:=by
 have h:=dw (R:=fun x c=>R (norm x) c) hF hn ha hc hg;refine⟨h.1,h.2.1,h.2.2.res.mono ?_⟩;rintro x H ⟨y,⟨dF,h1,h2,h3⟩,rfl⟩;exact⟨dF,h1,by rw[nV];exact h2,h3⟩
def Bq {S:St} {F:List Lb} {f:Nat} {args U6:List AV} {cs:List AV} {R:AV→List AV→Prop} {H:Hp} {k:AV→Hp→Prop} {u:Tw k} {l:Lb} (h:cR S.P S.G f U6 cs R)
  (ha:args=bu (ft l) U6) (hl:H l= .live ⟨cs.length,[cs]⟩) (hF:l.iQ∉F) {x0:AV} {wy:List AV} (h0:R x0 wy) (h1:x0.an=[]) (h2:ah wy=[]) (h3:wy.length=cs.length)
  (hk:∀x dF,R x dF→x.an=[]→ah dF=[]→dF.length=cs.length→k x (bD H l (.live ⟨cs.length,[dF]⟩))):DX S F f args H k u:=by
 refine⟨fun x H'=>∃dF,R x dF∧x.an=[]∧ah dF=[]∧dF.length=cs.length∧H'=bD H l (.live ⟨cs.length,[dF]⟩),?_,⟨x0,_,wy,h0,h1,h2,h3,rfl⟩,?_⟩
 ·exact bj (k:=fun x H'=>∃dF,R x dF∧x.an=[]∧ah dF=[]∧dF.length=cs.length∧H'=bD H l (.live ⟨cs.length,[dF]⟩)) (u:= .mk) h ha hl (fun x dF g1 g2 g3 g4=>⟨dF,g1,g2,g3,g4,rfl⟩)
 rintro x H' ⟨dF,g1,g2,g3,g4,rfl⟩;refine⟨fun q hq=> ?_,hk x dF g1 g2 g3 g4⟩;rw[aq _ _ (fun e=>hF (by rw[e] at hq;exact hq))]
def yK (l:List Attr) (a:Attr):(gF l a).length=l.length+1:=by
 induction l with
 |nil=>rfl
 |cons b r ih=>
 unfold gF;split
 ·rfl
 simp[ih]
def pE (l:List Attr):(cu l).length=l.length:=by
 have key:∀(l acc:List Attr),(l.foldl gF acc).length=acc.length+l.length:=by
  intro l;induction l with
  |nil=>intro acc;rfl
  |cons a r ih=>intro acc;simp only[Bw,ih,yK,gL];omega
 unfold cu;rw[key];simp
mutual
def Tree.v8:Tree→Bool
 | .mk _ _ az ks=>decide (20<az.length)||jR ks
def jR:List Tree→Bool
 |[]=>false
 |x::r=>x.v8||jR r
end
theorem rQ:∀l m:List Tree,jR (l++m)=(jR l||jR m)
 |[],m=>by simp[jR]
 |x::r,m=>by simp[jR,rQ r m,Bool.or_assoc]
def rR (d:Nat) (s:Bs) (b:Bool) (x:AV) (cs:List AV):Prop:=∃(t:Tree) (r:Bs) (b':Bool),x=t.av∧cs=cG r b'∧t.wt≤3*s.length+2∧r.length≤s.length ∧
 (∀q,s=60::q→t.wt+3*r.length≤3*s.length∧r.length<s.length)∧(b=true→b'=true) ∧
 (b=false→match bG d s with
  |some y=>b'=false∧r=y.2∧(t=y.1∨(t.v8=true∧y.1.v8=true))
  |none=>b'=true)
def pF (d:Nat) (s:Bs) (b:Bool) (x:AV) (cs:List AV):Prop:=∃(l:List Tree) (r:Bs) (b':Bool),x= .list (dq l)∧cs=cG r b'∧dE l+3*r.length≤3*s.length+1∧(b=true→b'=true) ∧
 (b=false→match dM (bG d) s with
  |some y=>b'=false∧r=y.2∧(l=y.1∨(jR l=true∧jR y.1=true))
  |none=>b'=true)
section
variable {P:Program} {G:Nat→Option (List IV)}
def ek (aP bb b5 aI cj bf:Nat):AC:=
(aM [aQ 4 (.new [(.bool false),(.str []),.nil0,.nil0])] (aM [MR 6 0,aQ 7 (.call aP [(.t 6),(.c (.str [60]))])] (aM [MR 8 0,aQ 9 (.call bb [(.t 8)]),aQ 10 (.sg [(.bool false),(.str []),.nil0,.nil0] [(1,(1,(.t 9)))]),aQ 5 (.new [(.bool false),(.str []),.nil0,.nil0]),gg (.store 4 (.t 5) (.t 10))] (aM [MR 11 0,aQ 12 (.call b5 [(.t 11)]),ep 13 5 2,gg (.store 1 (.t 13) (.t 12))] (.seq (aM [MR 14 0,aQ 15 (.dp (.t 14)),ep 16 15 1,fm 17 16,MR 18 17,gV 19 18 1,iR 20 18 (.bin .gtr (.t 19) (jS 8)),sj 21 18 20] (.cond (.t 21) (aM [MR 22 0,aQ 23 (.dp (.t 22)),ep 24 23 1,gg (.store 1 (.t 24) (me true))] (aM [gz 25 4 5,gg (.store 4 (.t 4) (.t 25))] .ret)) .skip)) (.seq (aM [MR 26 0,aQ 27 (.call aI [(.t 26),(.c (.str [47,62]))])] (.cond (.t 27) (aM [gz 28 4 5,gg (.store 4 (.t 4) (.t 28))] .ret) .skip)) (aM [MR 29 0,aQ 30 (.call aP [(.t 29),(.c (.str [62]))])] (aM [MR 31 0,MR 32 1,eY 33 .add 32 1,aQ 34 (.call cj [(.t 31),(.t 33)]),ep 35 5 3,gg (.store 1 (.t 35) (.t 34))] (aM [MR 36 0,aQ 37 (.call aP [(.t 36),(.c (.str [60,47]))])] (.seq (.seq (.VL [MR 38 0,aQ 39 (.call bb [(.t 38)]),ep 40 5 1,fm 41 40,et 42 .neq 39 41] [[],[0],[],[2],[1,3]] [.no,(.p_ [(.loc 5)]),.no,.rw [.loc 5] [],.no]) (.cond (.t 42) (.cq [MR 43 0,aQ 44 (.dp (.t 43)),ep 45 44 1,gg (.store 1 (.t 45) (me true))]) .skip)) (aM [MR 46 0,aQ 47 (.call bf [(.t 46)])] (aM [MR 48 0,aQ 49 (.call aP [(.t 48),(.c (.str [62]))])] (aM [gz 50 4 5,gg (.store 4 (.t 4) (.t 50))] .ret)))))))))))))
def yL {aW aP bb b5 aI cj bf:Nat} (hF:aw P G aW=some (51,[((some (some 4)),4)],(ek aP bb b5 aI cj bf).bare))
  (HK:∀(s:Bs) (b:Bool),s.length≤B→cR P G bf [.ptr (.par 0) 2 0 0] (cG s b) fun x cs=>x= .bool (decide ((s.dropWhile isSp).length<s.length))∧cs=cG (s.dropWhile isSp) b)
  (hN:∀(s:Bs) (b:Bool),s.length≤B→cR P G bb [.ptr (.par 0) 2 0 0] (cG s b) fun x cs=>x= .str (s.takeWhile akP)∧cs=cG (s.dropWhile akP) (b||(decide (s.takeWhile akP=[])||decide (8<(s.takeWhile akP).length))))
  (Cn:∀(s p:Bs) (b:Bool),cR P G aP [.ptr (.par 0) 2 0 0,.str p] (cG s b) fun x cs=>cs=cG (cZ p s) (b|| !p.isPrefixOf s))
  (Km:∀(s p:Bs) (b:Bool),cR P G aI [.ptr (.par 0) 2 0 0,.str p] (cG s b) fun x cs=>x= .bool (p.isPrefixOf s)∧cs=cG (cZ p s) b)
  (hA:∀(s:Bs) (b:Bool),s.length≤B→cR P G b5 [.ptr (.par 0) 2 0 0] (cG s b) (qw s b))
  (d:Nat) (hd:d≤9) (hK:∀d',d=d'+1→∀(s:Bs) (b:Bool),s.length≤B→cR P G cj [.ptr (.par 0) 2 0 0,.int .i64 (9 - d':Int)] (cG s b) (pF d' s b))
  (s:Bs) (hs:s.length≤B) (b:Bool) :
  cR P G aW [.ptr (.par 0) 2 0 0,.int .i64 (9 - d:Int)] (cG s b) (rR d s b):=by
 refine ang hF N7 PC PC ?_;have zo:B=1073741824:=rfl;unfold ek;simp only[↓aX,mX,seval,Oj];refine bj (l:= .par 0) (Cn s [60] b) PL PE ?_;rintro x1 dF rfl _ _ _;have H5:=ic [60] s;have Jp:∀q,s=60::q→cZ [60] s=q:=by rintro q rfl;simp[cZ,List.isPrefixOf]
 have u6:=gU [60] s;generalize List.isPrefixOf [60] s=E7 at *;generalize cZ [60] s=r1 at *;simp only[↓aX,mX,seval];refine bj (l:= .par 0) (hN r1 (b|| !E7) tM) PL PE ?_;rintro x1 dF ⟨rfl,rfl⟩ _ _ _;have Cv:=jC akP r1;have B2:=oj r1;generalize r1.takeWhile akP=nm at *;generalize r1.dropWhile akP=r2 at *;generalize (decide (nm=[])||decide (8<nm.length))=bn at *;simp only[↓aX,mX,seval];refine bj (l:= .par 0) (hA r2 (b|| !E7||bn) tM) PL PE ?_;rintro x1 dF ⟨az,r3,b3,rfl,rfl,MI,HM,Kt⟩ _ _ _;simp only[↓aX,mX,seval];have yM:b=false→if b3 then kO s=none else ∃mZ,kO s=some (nm,mZ,r3)∧az.length=mZ.length∧(mZ.length≤20→az=cu mZ):=by
  intro hb;unfold kO;rw[u6];cases E7 with
  |false=>rw[HM (by simp[hb])];simp
  |true=>
  simp only[ku,eQ,B2];cases bn with
  |true=>rw[HM N7];simp
  |false=>
  have h3:=Kt (by simp[hb]);cases HN:ea r2 with
  |none=>rw[HN] at h3;simp only at h3;rw[h3];simp[HN]
  |some y=>
  rw[HN] at h3;obtain⟨rfl,rfl,e3,e4⟩:=h3;simp[HN];exact⟨e3,e4⟩
 have GR:b=true→b3=true:=fun h=>HM (by simp[h]);clear Kt HM;have bI:∀q,s=60::q→nm.length+r2.length+1=s.length:=by
  intro q hq;rw[←Jp q hq] at hq;rw[hq];simp;omega
 have stop:(b=false→bG d s=none)→rR d s b (Tree.av (.mk false nm az [])) (cG r3 true):=by
  intro h2;refine⟨_,r3,true,rfl,rfl,?_,tM,fun q hq=> ?_,fun _=>rfl,fun hb=>by rw[h2 hb]⟩
  ·simp only[Tree.wt,dE];omega
  have:=bI q hq;simp only[Tree.wt,dE];omega
 have LM:bG 0 s=none:=rfl;have GS:∀d',bG (d'+1) s=(kO s).bind fun x=>
  if [47,62].isPrefixOf x.2.2 then some (.mk false x.1 (cu x.2.1) [],x.2.2.drop 2)
  else(iA [62] x.2.2).bind fun r=>(dM (bG d') r).bind fun y=>(ka x.1 y.2).map fun q=>(.mk false x.1 (cu x.2.1) y.1,q):=fun _=>rfl
 cases b3 with
 |true=>
  simp only[↓aX,mX,seval,norm,fi,kj];exact⟨_,stop (fun hb=>by
   have h:=yM hb;simp only[ku] at h;cases d with
   |zero=>rfl
   |succ d=>rw[GS,h];rfl),PK,PK,rfl,PE⟩
 |false=>
 simp only[↓aX,mX,seval,fj];cases d with
 |zero=>
  simp only[↓aX,mX,seval,norm,fi,kj,show((9:Int) - ((0:Nat):Int)>8)=True by simp,A_];exact⟨_,stop (fun hb=>rfl),PK,PK,rfl,PE⟩
 |succ d=>
 have hK:=hK d rfl;have hw:IntKind.i64.wrap ((9:Int) - ((d+1:Nat):Int)+1)=(9:Int) - (d:Int):=by rw[wrap64 tM tM];omega
 simp only[↓aX,mX,seval,show((9:Int) - ((d+1:Nat):Int)>8)=False by simp;omega,XG];refine bj (l:= .par 0) (Km r3 [47,62] false) PL PE ?_;rintro x1 dF ⟨rfl,rfl⟩ _ _ _;have ke:∀mZ,kO s=some (nm,mZ,r3)→bG (d+1) s=if [47,62].isPrefixOf r3 then some (.mk false nm (cu mZ) [],r3.drop 2)
   else(iA [62] r3).bind fun r=>(dM (bG d) r).bind fun y=>(ka nm y.2).map fun q=>(.mk false nm (cu mZ) y.1,q):=by
  intro mZ h;rw[GS,h];rfl
 have j0:∀mZ:List Attr,az.length=mZ.length→(mZ.length≤20→az=cu mZ)→∀ks:List Tree,(Tree.mk false nm az ks= .mk false nm (cu mZ) ks)∨(∀k1 k2,(Tree.mk false nm az k1).v8=true∧(Tree.mk false nm (cu mZ) k2).v8=true):=by
  intro mZ h1 h2 ks;by_cases h:mZ.length≤20
  ·left;rw[h2 h]
  right;intro k1 k2;have h3:(cu mZ).length=mZ.length:=(pE mZ);simp only[Tree.v8,Be,dj];omega
 cases HO:[47,62].isPrefixOf r3 with
 |true=>
  have wJ:cZ [47,62] r3=r3.drop 2:=by unfold cZ;rw[HO];rfl
  rw[wJ];simp only[↓aX,mX,seval,norm,fi,kj];refine⟨cG (r3.drop 2) false,⟨.mk false nm az [],r3.drop 2,false,rfl,rfl,?_,PJ,fun q hq=> ?_,GR,fun hb=> ?_⟩,PK,PK,rfl,PE⟩
  ·simp only[Tree.wt,dE];omega
  ·have:=bI q hq;simp only[Tree.wt,dE,BH];omega
  have h:=yM hb;simp only[jy,nX] at h;obtain⟨mZ,h1,h2,h3⟩:=h;rw[ke mZ h1,HO];refine⟨rfl,rfl,?_⟩;rcases j0 mZ h2 h3 [] with h|h
  ·exact .inl h
  exact .inr (h [] [])
 |false=>
 have wJ:cZ [47,62] r3=r3:=by unfold cZ;rw[HO];rfl
 rw[wJ];simp only[↓aX,mX,seval];refine bj (l:= .par 0) (Cn r3 [62] false) PL PE ?_;rintro x1 dF rfl _ _ _;have MJ:=ic [62] r3;have LN:=gU [62] r3;rw[N4];generalize List.isPrefixOf [62] r3=Ku at *;generalize cZ [62] r3=r5 at *;simp only[↓aX,mX,seval,hw];refine bj (l:= .par 0) (hK r5 (!Ku) tM) PL PE ?_;rintro x1 dF ⟨ks,r6,b6,rfl,rfl,MK,LO,LP⟩ _ _ _;simp only[↓aX,mX,seval];refine bj (l:= .par 0) (Cn r6 [60,47] b6) PL PE ?_;rintro x1 dF rfl _ _ _;have ML:=ic [60,47] r6;have LQ:=gU [60,47] r6;generalize List.isPrefixOf [60,47] r6=E8 at *;generalize cZ [60,47] r6=r7 at *;have MM:r6.length≤r5.length:=by have:=eZ ks;omega
 simp only[↓aX,mX,seval];refine⟨rfl,?_⟩;refine Bq (l:= .par 0) (hN r7 (b6|| !E8) tM) PL PE (by simp[pL]) ⟨rfl,rfl⟩ rfl PK rfl ?_;rintro x1 dF ⟨rfl,rfl⟩ _ _ _;have MN:=jC akP r7;have Jq:=oj r7;generalize r7.takeWhile akP=GU at *;generalize r7.dropWhile akP=r8 at *;generalize (decide (GU=[])||decide (8<GU.length))=GV at *;simp only[↓aX,mX,seval];have last:∀b9:Bool,b9=(b6|| !E8||GV|| !(GU==nm))→∀r9 GW:Bs,r9.length≤r8.length→GW.length≤r9.length→r9=r8.dropWhile isSp→GW=cZ [62] r9→rR (d+1) s b (Tree.av (.mk false nm az ks)) (cG GW (b9|| !List.isPrefixOf [62] r9)):=by
  rintro b9 h9 r9 GW g9 g10 e9 GX;refine⟨_,GW,_,rfl,rfl,?_,tM,fun q hq=> ?_,fun hb=> ?_,fun hb=> ?_⟩
  ·simp only[Tree.wt];omega
  ·have:=bI q hq;simp only[Tree.wt];omega
  ·have:=GR hb;cases this
  have h:=yM hb;simp only[jy,nX] at h;obtain⟨mZ,h1,h2,h3⟩:=h;rw[ke mZ h1,HO];simp only[jy,nX];rw[LN];cases Ku with
  |false=>
   have:b9=true:=(by rw[h9,LO rfl];rfl);rw[this];rfl
  |true=>
  simp only[ku,eQ];have h6:=LP rfl;cases Kv:dM (bG d) r5 with
  |none=>
   rw[Kv] at h6;simp only at h6;have:b9=true:=(by rw[h9,h6];rfl);rw[this];rfl
  |some y=>
  rw[Kv] at h6;obtain⟨rfl,rfl,h7⟩:=h6;simp only[eQ];unfold ka;rw[LQ];cases E8 with
  |false=>
   have:b9=true:=(by rw[h9];rfl);rw[this];rfl
  |true=>
  simp only[ku,eQ,Jq];cases GV with
  |true=>
   have:b9=true:=(by rw[h9];rfl);rw[this];rfl
  |false=>
  simp only[jy,nX,eQ];by_cases wM:GU=nm
  ·rw[eE wM,←e9,gU,←GX];have:b9=false:=(by rw[h9,wM];simp);rw[this];cases List.isPrefixOf [62] r9 with
   |false=>rfl
   |true=>
   simp only[ku,bT];refine⟨rfl,trivial,?_⟩;rcases j0 mZ h2 h3 ks with g|g
   ·rcases h7 with h7|⟨h7,h8⟩
    ·left;rw[←h7];exact g
    right;simp only[Tree.v8,h7,h8,Bool.or_true,A5]
   exact .inr (g ks y.1)
  rw[cY wM];have:b9=true:=by rw[h9];simp[wM]
  rw[this];rfl
 cases wM:(GU==nm) with
 |true=>
  simp only[↓aX,mX,seval];refine bj (l:= .par 0) (HK r8 (b6|| !E8||GV) tM) PL PE ?_;rintro x1 dF ⟨rfl,rfl⟩ _ _ _;have Jr:=jf isSp r8;simp only[↓aX,mX,seval];refine bj (l:= .par 0) (Cn (r8.dropWhile isSp) [62] (b6|| !E8||GV)) PL PE ?_;rintro x1 dF rfl _ _ _;have Ep:=ic [62] (r8.dropWhile isSp);simp only[↓aX,mX,seval,norm,fi,kj];refine⟨_,last (b6|| !E8||GV) (by rw[wM];simp) _ _ Jr Ep rfl rfl,PK,PK,rfl,PE⟩
 |false=>
 simp only[↓aX,mX,seval];refine bj (l:= .par 0) (HK r8 true tM) PL PE ?_;rintro x1 dF ⟨rfl,rfl⟩ _ _ _;have Jr:=jf isSp r8;simp only[↓aX,mX,seval];refine bj (l:= .par 0) (Cn (r8.dropWhile isSp) [62] true) PL PE ?_;rintro x1 dF rfl _ _ _;have Ep:=ic [62] (r8.dropWhile isSp);simp only[↓aX,mX,seval,norm,fi,kj];refine⟨_,last true (by rw[wM];simp) _ _ Jr Ep rfl rfl,PK,PK,rfl,PE⟩
end

def Js (d:Nat) (s:Bs) (b:Bool) (q:Bs×List Tree×Bool):Prop:=dE q.2.1+3*q.1.length≤3*s.length+(if q.2.2 then 1 else 0)∧(b=true→q.2.2=true) ∧
 (b=false→∃l0,(q.2.1=l0∨(jR q.2.1=true∧jR l0=true))∧if q.2.2 then dM (bG d) s=none else dM (bG d) s=(dM (bG d) q.1).map fun y=>(l0++y.1,y.2))
def iP {c:UInt8} {q t r:Bs} (hc:c≠60) (h:bm false (c::q)=some (t,r)):r.length<(c::q).length:=by
 have hl:=mC _ _ _ _ (eM _) h;have ht:t≠[]:=by
  rw[bm,cY (by simp[hc])] at h;split at h
  ·split at h
   ·obtain⟨y,_,h2⟩:=bR.1 h;simp only[eS] at h2;rw[←h2.1];simp
   cases h
  split at h
  ·cases h
  obtain⟨y,_,h2⟩:=bR.1 h;simp only[eS] at h2;rw[←h2.1];simp
 have:0<t.length:=M0.2 ht;omega
section
variable {P:Program} {G:Nat→Option (List IV)}
def alJ (b7 aW bo:Nat):AC:=
(aM [zi 4] (aM [zi 5] (.gh (.own 5 4) (.seq (.block 0 (.loop (.seq (aM [MR 6 0,aQ 7 (.dp (.t 6)),ep 8 7 0,fm 9 8,aQ 10 (.bin .neq (.t 9) (.c (.str []))),MR 11 10,cU 12 11 0,dW 13 11 (.dp (.t 12)),Wb 14 11 13 1,jm 15 11 14,dW 16 11 (.not (.t 15)),jT 17 11 16,MR 18 17,cU 19 18 0,dW 20 18 (.dp (.t 19)),Wb 21 18 20 0,jm 22 18 21,dW 23 18 (.call b7 [(.t 22),(.c (.str [60,47]))]),dW 24 18 (.not (.t 23)),jT 25 18 24] (.cond (.t 25) .skip (.exit 0))) (.block 1 (aM [MR 26 0,aQ 27 (.dp (.t 26)),ep 28 27 0,fm 29 28,aQ 30 (.lj (.t 29) (jS 0)),aQ 31 (.bin .eql (.t 30) (.c (.int .u8 60)))] (.cond (.t 31) (.cq [MR 32 5,MR 33 0,MR 34 1,aQ 35 (.call aW [(.t 33),(.t 34)]),aQ 36 (.lits 1 4 [(.bool false),(.str []),.nil0,.nil0] [(0,(.t 35))]),aQ 37 (.app (.t 32) (.t 36) 4 72),MR 5 37]) (.cq [MR 38 5,MR 39 0,aQ 40 (.call bo [(.t 39),(me false)]),aQ 41 (.sg [(.bool false),(.str []),.nil0,.nil0] [(0,(1,(me true))),(1,(1,(.t 40)))]),aQ 42 (.lits 1 4 [(.bool false),(.str []),.nil0,.nil0] [(0,(.t 41))]),aQ 43 (.app (.t 38) (.t 42) 4 72),MR 5 43]))))))) (.gh (.zS (.loc 5) 5) (aM [MR 44 5,MR 4 44] .ret))))))
def Er {cj b7 aW bo:Nat} (hF:aw P G cj=some (45,[(none,4)],(alJ b7 aW bo).bare))
  (hP:∀s t:Bs,au P G b7 [.str s,.str t] (.bool (t.isPrefixOf s)))
  (hT:∀(v:Bool) (s:Bs) (b:Bool),s.length≤B→cR P G bo [.ptr (.par 0) 2 0 0,.bool v] (cG s b) (rO v s b))
  (d:Nat) (hE:∀(s:Bs) (b:Bool),s.length≤B→cR P G aW [.ptr (.par 0) 2 0 0,.int .i64 (9 - d:Int)] (cG s b) (rR d s b))
  (s:Bs) (hs:s.length≤B) (b:Bool) :
  cR P G cj [.ptr (.par 0) 2 0 0,.int .i64 (9 - d:Int)] (cG s b) (pF d s b):=by
 refine dw hF N7 PC PC ?_;have zo:B=1073741824:=rfl;unfold alJ;simp only[↓aX,mX,seval,Oj];refine gb (σ:={q:Bs×List Tree×Bool // Js d s b q}) (fun _=>[.par 0,.loc 5]) (fun _ _=>false)
  (fun q=>[(0,.ptr (.par 0) 2 0 0),(1,.int .i64 (9 - d:Int)),(5,.sl (.loc 5) 4 0 q.1.2.1.length)])
  (fun q=>[(.par 0,⟨2,[cG q.1.1 q.1.2.2]⟩),(.loc 5,⟨4,aB (dq q.1.2.1)⟩)]) (fun q=>2*q.1.1.length+(if q.1.2.2 then 0 else 1)) ⟨(s,[],b),QF,fun h=>h,fun h=>⟨[],.inl rfl,?_⟩⟩ (fun _=>rfl) (fun q=>by simp[ah,AV.an]) ?_ ⟨[],?_⟩ ?_
 ·simp only[h,jy,nX];cases dM (bG d) s<;>simp
 ·intro q w hw cs jB z hz;simp only[dU,e7,kt] at hw;rcases hw with rfl|rfl
  ·simp only[bY] at jB;subst jB;simp[ah,AV.an] at hz
  rw[bU jB] at hz;simp at hz
 ·refine⟨?_,?_,?_,PN,PN⟩
  ·intro l hf hu;left;cases l<;>simp[Lb.entry] at hf;rename_i n;by_cases e:n=0
   ·subst e;simp
   exfalso;apply hu;simp[ae,Hp.none,e]
  ·simp[k_,dn,bJ,put,jP]
  simp[tc,dn,ae,dO,bu,bJ,dq,aB]
 rintro⟨⟨r,l,bad⟩,hlen,qE,nL⟩;simp only at hlen qE nL;have Ij:=eZ l;have Ly:l.length≤3*s.length+1:=by split at hlen<;>omega
 have Jt:r.length≤s.length:=by split at hlen<;>omega
 have hU:∀d,d≠5→ie (fun _=>false) [(Lb.par 0,⟨2,[cG r bad]⟩),(Lb.loc 5,⟨4,aB (dq l)⟩)] (.loc d)= .unused:=fun d hd=>by rw[fE (by simp[hd])];rfl
 have hUp:∀d,d≠0→ie (fun _=>false) [(Lb.par 0,⟨2,[cG r bad]⟩),(Lb.loc 5,⟨4,aB (dq l)⟩)] (.par d)= .unused:=fun d hd=>by rw[fE (by simp[hd])];rfl
 have ij:ie (fun _=>false) [(Lb.par 0,⟨2,[cG r bad]⟩),(Lb.loc 5,⟨4,aB (dq l)⟩)] (.par 0)= .live ⟨2,[cG r bad]⟩:=cL.2 P8;have oB:ie (fun _=>false) [(Lb.par 0,⟨2,[cG r bad]⟩),(Lb.loc 5,⟨4,aB (dq l)⟩)] (.loc 5)= .live ⟨4,aB (dq l)⟩:=cL.2 P8;simp only;generalize ie (fun _=>false) [(Lb.par 0,⟨2,[cG r bad]⟩),(Lb.loc 5,⟨4,aB (dq l)⟩)]=H0 at *;have fin:(bad=false→dM (bG d) r=some ([],r))→pF d s b (.list (dq l)) (cG r bad):=by
  intro h4;refine⟨l,r,bad,rfl,rfl,by split at hlen<;>omega,qE,fun hb=> ?_⟩;obtain⟨l0,h1,h2⟩:=nL hb;cases bad with
  |true=>simp only[ku] at h2;rw[h2]
  |false=>
  simp only[jy,nX,h4 rfl,bT,rI] at h2;rw[h2];exact⟨rfl,rfl,h1⟩
 simp only[↓aX,mX,seval,ij]
 match r,hlen,nL,ij,fin,Jt with
 |[],hlen,nL,ij,fin,Jt=>
  simp only[↓aX,mX,seval,show(([]:Bs)==[])=true from rfl,ib];refine⟨4,dq l,0,l.length,rfl,oB,by rw[bF];omega,pa l,?_⟩;rw[tn,eN (by rw[bF];exact eM _)];exact⟨_,fin (fun _=>by rw[dM]),rfl,PC,rfl,by simp[ae,ij]⟩
 |c::q,hlen,nL,ij,fin,Jt=>
  simp only[↓aX,mX,seval,show((c::q:Bs)==[])=false from rfl,fj,ij];cases bad with
  |true=>
   simp only[↓aX,mX,seval,ib];refine⟨4,dq l,0,l.length,rfl,oB,by rw[bF];omega,pa l,?_⟩;rw[tn,eN (by rw[bF];exact eM _)];exact⟨_,fin (fun h=>by cases h),rfl,PC,rfl,by simp[ae,ij]⟩
  |false=>
  have Cm:b=false:=by cases b with|true=>exact absurd (qE rfl) N7|false=>rfl
  obtain⟨l0,LR,ke⟩:=nL Cm;simp only[jy,nX] at ke hlen;simp only[↓aX,mX,seval,fj,ij];refine ay (hP (c::q) [60,47]) ?_;cases yN:List.isPrefixOf [60,47] (c::q) with
  |true=>
   simp only[↓aX,mX,seval,ib];refine⟨4,dq l,0,l.length,rfl,oB,by rw[bF];omega,pa l,?_⟩;rw[tn,eN (by rw[bF];exact eM _)];exact⟨_,fin (fun _=>by rw[dM,eE yN]),rfl,PC,rfl,by simp[ae,ij]⟩
  |false=>
  have GL:((c.toNat:Int)==60)=(c==60):=cI c 60 Pr;have HP:¬List.isPrefixOf [60,47] (c::q)=true:=by rw[yN];simp
  simp only[↓aX,mX,seval,fj,ij,show((0:Int)).toNat=0 from rfl,yr,GL];have cX:∀(t t0:Tree),(t=t0∨(t.v8=true∧t0.v8=true))→(l++[t]=l0++[t0]∨(jR (l++[t])=true∧jR (l0++[t0])=true)):=by
   intro t t0 h;simp only[rQ,jR,Bool.or_false];rcases LR with h1|⟨h1,h2⟩
   ·rcases h with h|⟨h3,h4⟩
    ·left;rw[h1,h]
    right;rw[h3,h4];simp
   right;rw[h1,h2];simp
  by_cases tv:c=60
  ·rw[show(c==60)=true by simp[tv]];simp only[↓aX,mX,seval];refine bj (l:= .par 0) (hE (c::q) false tM) PL (by simp[ij]) ?_;rintro x1 dF ⟨t,r',b',rfl,rfl,zO,pU,wB,_,ky⟩ _ _ _;obtain⟨Es,HQ⟩:=wB q (by rw[tv]);have ky:=ky rfl;simp only[↓aX,mX,seval,Tree.av];rw[qg 4 72 37 5 (dq l) (.agg [.bool t.text,.str t.s,.list (cD t.attrs),.list (dq t.kids)]) (by simp[ae,oB]) (bF l) rfl (by intro z hz cs;simp only[IV.cells,dU,e7,kt] at hz;rcases hz with rfl|rfl|rfl|rfl<;>simp) tM Pr Pr (by simp[ae,hU 37 Pr])];simp only[↓aX,mX,seval];refine⟨⟨(r',l++[t],b'),?_,fun(h:b=true)=>(by rw[Cm] at h;cases h),fun _=> ?_⟩,?_,[(.loc 5,.loc 37)],?_,?_,?_,PN,?_⟩
   ·simp only[kn,dE];split<;>omega
   ·cases ll:bG d (c::q) with
    |none=>
     rw[ll] at ky;refine⟨l0++[t],cX t t (.inl rfl),?_⟩;simp only[ky,ku];rw[ke,dM,cY HP,eE tv,ll];rfl
    |some y=>
     rw[ll] at ky;obtain⟨rfl,rfl,h7⟩:=ky;refine⟨l0++[y.1],cX t y.1 h7,?_⟩;simp only[jy,nX];rw[ke]
     conv=>lhs;rw[dM,cY HP,eE tv,ll]
     simp only;rw[OM HQ];cases dM (bG d) y.2 with
     |none=>rfl
     |some z=>simp only[bT,yo,Nj]
   ·simp only;cases b'<;>simp at HQ ⊢<;>omega
   ·intro z hf hu;left;cases z<;>simp[Lb.entry] at hf;rename_i n;by_cases e0:n=0
    ·subst e0;simp
    exfalso;apply hu;simp[ae,e0,hUp n e0]
   ·simp[k_,bJ,dn,put]
   ·refine⟨Qw,P_,trivial⟩
   intro z hz;simp only[dU,e7,kt] at hz;rcases hz with rfl|rfl
   ·simp[dn]
   simp[dn,Lb.fresh,Lb.entry]
  rw[show(c==60)=false by simp[tv]];simp only[↓aX,mX,seval];refine bj (l:= .par 0) (hT false (c::q) false tM) PL (by simp[ij]) ?_;rintro x1 dF ⟨t,r',b',rfl,rfl,zO,_,ky⟩ _ _ _;have ky:=ky rfl;simp only[↓aX,mX,seval];rw[qg 4 72 43 5 (dq l) (.agg [.bool true,.str t,.list [],.list []]) (by simp[ae,oB]) (bF l) rfl (by intro z hz cs;simp only[IV.cells,dU,e7,kt] at hz;rcases hz with rfl|rfl|rfl|rfl<;>simp) tM Pr Pr (by simp[ae,hU 43 Pr])];simp only[↓aX,mX,seval];refine⟨⟨(r',l++[(Tree.mk true t [] [])],b'),?_,fun(h:b=true)=>(by rw[Cm] at h;cases h),fun _=> ?_⟩,?_,[(.loc 5,.loc 43)],?_,?_,?_,PN,?_⟩
  ·simp only[kn,dE,Tree.wt,dX];cases v_:bm false (c::q) with
   |none=>rw[v_] at ky;rw[ky];simp only[ku];omega
   |some y=>
   rw[v_] at ky;obtain⟨rfl,rfl⟩:=ky;have:=iP tv v_;simp only[jy,nX];omega
  ·cases v_:bm false (c::q) with
   |none=>
    rw[v_] at ky;refine⟨l0++[.mk true t [] []],cX _ _ (.inl rfl),?_⟩;simp only at ky;simp only[ky,ku];rw[ke,dM,cY HP,cY tv,v_];rfl
   |some y=>
    rw[v_] at ky;obtain⟨rfl,rfl⟩:=ky;refine⟨l0++[.mk true t [] []],cX _ _ (.inl rfl),?_⟩;simp only[jy,nX];rw[ke]
    conv=>lhs;rw[dM,cY HP,cY tv,v_]
    simp only[bT];rw[OM (iP tv v_)];cases dM (bG d) r' with
    |none=>rfl
    |some z=>simp only[bT,yo,Nj]
  ·show 2*r'.length+(if b'=true then 0 else 1)<2*(c::q).length+1;cases v_:bm false (c::q) with
   |none=>rw[v_] at ky;simp only at ky;simp only[ky,ku];omega
   |some y=>
   rw[v_] at ky;obtain⟨rfl,rfl⟩:=ky;have:=iP tv v_;simp only[jy,nX];omega
  ·intro z hf hu;left;cases z<;>simp[Lb.entry] at hf;rename_i n;by_cases e0:n=0
   ·subst e0;simp
   exfalso;apply hu;simp[ae,e0,hUp n e0]
  ·simp[k_,bJ,dn,put]
  ·refine⟨Qw,P_,trivial⟩
  intro z hz;simp only[dU,e7,kt] at hz;rcases hz with rfl|rfl
  ·simp[dn]
  simp[dn,Lb.fresh,Lb.entry]
end
end Go.Am
