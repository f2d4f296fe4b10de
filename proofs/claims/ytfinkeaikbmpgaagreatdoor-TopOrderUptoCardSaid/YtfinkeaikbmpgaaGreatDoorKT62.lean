import Derived.Test.YtfinkeaikbmpgaaGreatDoorKT82
import Derived.Test.YtfinkeaikbmpgaaGreatDoorKAm47
set_option linter.unusedSimpArgs false
set_option linter.unusedVariables false
set_option linter.unnecessarySimpa false
set_option linter.defProp false
/- Reading: texts. -/
namespace Go.Am
open Go Go.RowKit
section
variable {P:Program} {G:Nat→Option (List IV)}
def qP:List Bs:=[Js,K7,zj,tv]
def xd (s:Bs):List Bs→Nat→Option (Nat×Bs)
 |[],_=>none
 |p::r,i=>if p.isPrefixOf s then some (i,s.drop p.length) else xd s r (i+1)
theorem ya {s:Bs}:∀{l:List Bs} {n i:Nat},(∀p∈l.take n,p.isPrefixOf s=false)→n≤l.length→xd s l i=xd s (l.drop n) (i+n)
 |l,0,i,_,_=>by simp
 |[],n+1,i,_,h=>by simp at h
 |p::r,n+1,i,hp,h=>by
  have h1:p.isPrefixOf s=false:=hp p (by simp);have:=ya (s:=s) (l:=r) (n:=n) (i:=i+1) (fun q hq=>hp q (by simp[hq])) (by simpa using h);simp only[xd,h1,adQ,adS,aet,this,aer,agt 1 n]
def gy:AC:=
(ay [eX 4 0] (.seq (ay [af 6 0,ky 7 6,eX 8 0] (.block 0 (.loop (ay [eS 9 .lss 8 7] (.seq (.cond (.t 9) .skip (.exit 0)) (.seq (.block 1 (ay [af 10 8,af 5 10] (ay [af 11 1,af 12 0,af 13 5,ig 14 12 13 1,cS 15 14,aE 16 (.jH (.t 11) [(.t 15)])] (.cond (.t 16) (ay [af 17 5,af 4 17] .ret) .skip)))) (.ec [db 18 .add 8 1,af 8 18]))))))) (ay [aE 4 (.nE (.c (.int .i64 (-1))))] .ret)))
theorem Sw {ct bA:Nat} (hF:an P G ct=some (19,[(none,4)],gy.bare)) (hB:jQ P bA=true)
  (hA:∀(s p:Bs) (b:Bool),ez P G bA [.ptr (.par 0) 2 0 0,.str p] (gE s b) fun x cs=>x= .bool (p.isPrefixOf s)∧cs=gE (il p s) b) (s:Bs) (b:Bool) :
  ez P G ct [.list (qP.map IV.str),.fn bA [.ptr (.par 0) 2 0 0] []] (gE s b) fun x cs=>
   match xd s qP 0 with
   |some (i,r)=>x= .int .i64 (i:Nat)∧cs=gE r b
   |none=>x= .int .i64 (-1)∧cs=gE s b:=by
 refine ft hF (by simp) (by simp[ah,AV.aB]) (by simp[ah,AV.aB]) ?_;unfold gy;simp only[↓aX,mX,seval,kY];refine eB (σ:={i:Nat // i≤4∧∀p∈qP.take i,p.isPrefixOf s=false}) [.par 0] (fun q=>[(0,.list (qP.map IV.str)),(1,.fn bA [.ptr (.par 0) 2 0 0] []),(7,.int .i64 4),(8,.int .i64 q.1)]) (fun _=>[(.par 0,⟨2,[gE s b]⟩)]) (fun q=>4 - q.1) ⟨0,by simp⟩ (fun _=>rfl) (by decide) (by simp[ah,AV.aB]) (by simp[ah,AV.aB]) ?_ ?_
 ·refine jI ?_ (by repeat' constructor) (by repeat' constructor);intro l hl hu;by_cases e:l= .par 0
  ·subst e;simp
  exfalso;apply hu;simp[ae,e,Hp.none]
 rintro⟨i,hi,fX⟩;simp only[↓aX,mX,seval,ed,dk];have hes:ko 1 (qP.map IV.str):=by
  intro x hx;obtain⟨c,_,rfl⟩:=adY.1 hx;rfl
 by_cases bO:i<4
 ·rw[show decide (((i:Nat):Int)<(4:Int))=true by simp;omega];obtain⟨p,hp⟩:∃p,qP[i]?=some p:=⟨_,ag7 bO⟩;have hw:IntKind.i64.wrap ((i:Int)+1)=((i+1:Nat):Int):=wrap64 (by omega) (by omega);have hpe:(qP.map IV.str)[i]?=some (.str p):=by rw[adX,hp];rfl
  have hek:xd s qP 0=xd s (p::qP.drop (i+1)) i:=by
   rw[ya fX (by simp[qP];omega),adC];congr 1;rw[aeN (by simpa[qP] using bO)];congr 1;exact(ag6.1 hp).2
  simp only[↓aX,mX,seval,adt,ag9,hpe,hes,lh,pP,IV.cells];refine⟨hB,a7 (l:= .par 0) (hA s p b) (by simp[aY,e7,iH]) (by simp[ae]) ?_⟩;rintro x1 jm ⟨rfl,rfl⟩ _ _ _;cases h:p.isPrefixOf s with
  |true=>
   simp only[↓aX,mX,seval,dB,hek,xd,h];exact⟨gE (s.drop p.length) b,by simp[ae,ah,AV.aB,il,h]⟩
  |false=>
  simp only[↓aX,mX,seval,hw];refine⟨⟨i+1,bO,fun q hq=> ?_⟩,by simp only;omega,jI ?_ (by repeat' constructor) ?_⟩
  ·rw[aei,hp] at hq;simp only[afA,adD,adr] at hq;rcases hq with hq|rfl
   ·exact fX q hq
   exact h
  ·intro l hl hu;by_cases e:l= .par 0
   ·subst e;simp
   exfalso;apply hu;simp[ae,e,Hp.none]
  refine⟨by simp[ae,il,h],trivial⟩
 have hi4:i=4:=by omega
 subst hi4;have hek:xd s qP 0=none:=by rw[ya fX (by simp[qP])];rfl
 rw[show decide (((4:Nat):Int)<(4:Int))=false by simp];simp only[↓aX,mX,seval,dB,hek];exact⟨gE s b,by simp[ae,ah,AV.aB]⟩
theorem OI (s:Bs):match xd s qP 0 with
  |some (i,r)=>∃e:UInt8,([60,62,38,34]:Bs)[i]?=some e∧AL s=some (e,r)
  |none=>AL s=none:=by
 unfold AL;simp only[qP,xd];split
 ·rename_i i r h;split at h
  ·rename_i h1;cases h;exact⟨60,rfl,by rw[adv h1];rfl⟩
  rename_i h1;split at h
  ·rename_i h2;cases h;exact⟨62,rfl,by rw[ag8 h1,adv h2];rfl⟩
  rename_i h2;split at h
  ·rename_i h3;cases h;exact⟨38,rfl,by rw[ag8 h1,ag8 h2,adv h3];rfl⟩
  rename_i h3;split at h
  ·rename_i h4;cases h;exact⟨34,rfl,by rw[ag8 h1,ag8 h2,ag8 h3,adv h4];rfl⟩
  cases h
 rename_i h;split at h
 ·cases h
 rename_i h1;split at h
 ·cases h
 rename_i h2;split at h
 ·cases h
 rename_i h3;split at h
 ·cases h
 rename_i h4;rw[ag8 h1,ag8 h2,ag8 h3,ag8 h4]
theorem rB:∀s:Bs,s7 (cw s)=some s
 |[]=>rfl
 |c::s=>by
  have ih:=rB s;unfold cw at ih ⊢;simp only[ad5,s7,ih];simp
def CV (v:Bool) (s:Bs) (b:Bool) (x:AV) (cs:List AV):Prop:=∃t r b',x= .str t∧cs=gE r b'∧r.length+t.length≤s.length∧(b=true→b'=true) ∧
 (b=false→match cC v s with
  |some y=>b'=false∧y=(t,r)
  |none=>b'=true)
def OJ (v:Bool) (s:Bs) (b:Bool) (q:Bs×Bs×Bool):Prop:=q.1.length+q.2.1.length≤s.length∧(b=true→q.2.2=true)∧(b=false→if q.2.2 then cC v s=none else cC v s=(cC v q.1).map fun y=>(q.2.1++y.1,y.2))
def cI (c:UInt8) (k:Nat) (hk:k<256):((c.toNat:Int)==(k:Int))=(c==UInt8.ofNat k):=by
 rw[aeG];simp only[aep];rw[←afZ];have:(UInt8.ofNat k).toNat=k:=by simp;omega
 rw[this];omega
def mO (c:UInt8):nX c=(((c.toNat:Int)==10)|| !(decide ((c.toNat:Int)<32)||decide ((c.toNat:Int)>126))):=by
 have h1:((c.toNat:Int)==10)=(c==10):=cI c 10 (by decide);unfold nX;rw[h1];congr 1;rw[aeG];simp only[ady,adM,aeT,ae5,aeV,ae8];show(32≤_∧_≤126)↔_;omega
def mB (bA ct:Nat):AC:=
(ay [aE 4 (.nE (.c (.str [])))] (ay [oQ 5] (.gh (.own 5 1) (.seq (.block 0 (.loop (.seq (ay [af 8 0,aE 9 (.dc (.t 8)),b7 10 9 0,cS 11 10,aE 12 (.bin .neq (.t 11) (.c (.str []))),af 13 12,eJ 14 13 0,eP 15 13 (.dc (.t 14)),iu 16 13 15 1,ir 17 13 16,eP 18 13 (.not (.t 17)),l7 19 13 18] (.cond (.t 19) .skip (.exit 0))) (.block 1 (ay [af 20 0,aE 21 (.dc (.t 20)),b7 22 21 0,cS 23 22,aE 24 (.vd (.t 23) (ij 0)),af 6 24] (.block 2 (ay [af 38 6,aE 39 (.bin .eql (.t 38) (.c (.int .u8 60))),af 40 39,gj 41 40 6,hQ 42 40 (.bin .eql (.t 41) (.c (.int .u8 34))),gj 43 40 42,eJ 44 43 1,hQ 45 40 (.pick (.t 43) (.t 44) (vC false)),nC 46 40 45,af 37 46] (.cond (.t 37) (.gh (.Ch (.loc 5) 5) (ay [af 47 5,aE 48 (.Ms (.t 47)),af 4 48] .ret)) (ay [af 50 6,aE 51 (.bin .eql (.t 50) (.c (.int .u8 38))),af 49 51] (.cond (.t 49) (ay [aE 52 (.zN (.c (.lptr [(.str [38,108,116,59]),(.str [38,103,116,59]),(.str [38,97,109,112,59]),(.str [38,113,117,111,116,59])])) 4 1),af 53 0,aE 54 (.Qp bA [(.t 53)] []),aE 55 (.call ct [(.t 52),(.t 54)]),af 7 55] (.seq (ay [af 56 7,db 57 .lss 56 0] (.cond (.t 57) (ay [af 58 0,aE 59 (.dc (.t 58)),b7 60 59 1,dT (.store 1 (.t 60) (vC true))] (ay [aE 4 (.nE (.c (.str [])))] .ret)) .skip)) (.ec [af 61 5,af 62 7,aE 63 (.vd (.c (.str [60,62,38,34])) (.t 62)),aE 64 (.lits 1 1 [(.int .u8 0)] [(0,(.t 63))]),aE 65 (.app (.t 61) (.t 64) 1 1),af 5 65]))) (ay [af 67 6,aE 68 (.bin .eql (.t 67) (.c (.int .u8 62))),af 69 68,gj 70 69 6,hQ 71 69 (.bin .neq (.t 70) (.c (.int .u8 10))),gj 72 69 71,eJ 73 72 6,eP 74 72 (.bin .lss (.t 73) (.c (.int .u8 32))),eJ 75 72 74,gj 76 75 6,hQ 77 75 (.bin .gtr (.t 76) (.c (.int .u8 126))),eP 78 72 (.pick (.t 75) (vC true) (.t 77)),hQ 79 69 (.pick (.t 72) (.t 78) (vC false)),nC 80 69 79,af 66 80] (.cond (.t 66) (.ec [af 81 0,aE 82 (.dc (.t 81)),b7 83 82 1,dT (.store 1 (.t 83) (vC true))]) (ay [af 25 5,af 26 6,aE 27 (.lits 1 1 [(.int .u8 0)] [(0,(.t 26))]),aE 28 (.app (.t 25) (.t 27) 1 1),af 5 28] (.ec [af 29 0,af 30 0,aE 31 (.dc (.t 30)),b7 32 31 0,cS 33 32,aE 34 (.ot (.t 33) (some (ij 1)) none),aE 35 (.dc (.t 29)),b7 36 35 0,dT (.store 1 (.t 36) (.t 34))])))))))))))))) (.gh (.Ch (.loc 5) 5) (ay [af 84 5,aE 85 (.Ms (.t 84)),af 4 85] .ret))))))
theorem W8 {bL ct bA:Nat} (hF:an P G bL=some (86,[(none,4)],(mB bA ct).bare)) (hI:∀(s:Bs) (b:Bool),
  ez P G ct [.list (qP.map IV.str),.fn bA [.ptr (.par 0) 2 0 0] []] (gE s b) fun x cs=>
   match xd s qP 0 with
   |some (i,r)=>x= .int .i64 (i:Nat)∧cs=gE r b
   |none=>x= .int .i64 (-1)∧cs=gE s b) (v:Bool) (s:Bs) (hs:s.length≤B) (b:Bool) :
  ez P G bL [.ptr (.par 0) 2 0 0,.bool v] (gE s b) (CV v s b):=by
 refine ft hF (by simp) (by simp[ah,AV.aB]) (by simp[ah,AV.aB]) ?_;have nM:B=1073741824:=rfl;unfold mB;simp only[↓aX,mX,seval,kY];refine ki (σ:={q:Bs×Bs×Bool // OJ v s b q}) (fun _=>[.par 0,.loc 5]) (fun _ _=>false)
  (fun q=>[(0,.ptr (.par 0) 2 0 0),(1,.bool v),(5,.sl (.loc 5) 1 0 q.1.2.1.length)])
  (fun q=>[(.par 0,⟨2,[gE q.1.1 q.1.2.2]⟩),(.loc 5,⟨1,ar (cw q.1.2.1)⟩)]) (fun q=>2*q.1.1.length+(if q.1.2.2 then 0 else 1)) ⟨(s,[],b),by simp,fun h=>h,fun h=> ?_⟩ (fun _=>rfl) (fun q=>by simp[ah,AV.aB]) ?_ ⟨[],?_⟩ ?_
 ·simp only[h,adQ,adS];cases cC v s<;>simp
 ·intro q w hw cs sf z hz;simp only[adz,adG,adO] at hw;rcases hw with rfl|rfl
  ·simp only[adr] at sf;subst sf;simp[ah,AV.aB] at hz
  rw[bT sf] at hz;simp at hz
 ·refine⟨?_,?_,?_,by simp[bZ],by simp[bZ]⟩
  ·intro l hf hu;left;cases l<;>simp[Lb.entry] at hf;rename_i n;by_cases e:n=0
   ·subst e;simp
   exfalso;apply hu;simp[ae,Hp.none,e]
  ·simp[kv,bZ,e7,put,lE]
  simp[qe,bZ,ae,cV,aY,e7,cw,ar]
 rintro⟨⟨r,t,bad⟩,hlen,Eo,z6⟩;simp only at hlen Eo z6;have hU:∀d,d≠5→fy (fun _=>false) [(Lb.par 0,⟨2,[gE r bad]⟩),(Lb.loc 5,⟨1,ar (cw t)⟩)] (.loc d)= .unused:=fun d hd=>by rw[jT (by simp[hd])];rfl
 have xc:∀d,d≠0→fy (fun _=>false) [(Lb.par 0,⟨2,[gE r bad]⟩),(Lb.loc 5,⟨1,ar (cw t)⟩)] (.par d)= .unused:=fun d hd=>by rw[jT (by simp[hd])];rfl
 have nh:fy (fun _=>false) [(Lb.par 0,⟨2,[gE r bad]⟩),(Lb.loc 5,⟨1,ar (cw t)⟩)] (.par 0)= .live ⟨2,[gE r bad]⟩:=dm.2 (by simp[kx,ae]);have zo:fy (fun _=>false) [(Lb.par 0,⟨2,[gE r bad]⟩),(Lb.loc 5,⟨1,ar (cw t)⟩)] (.loc 5)= .live ⟨1,ar (cw t)⟩:=dm.2 (by simp[kx,ae]);simp only;generalize fy (fun _=>false) [(Lb.par 0,⟨2,[gE r bad]⟩),(Lb.loc 5,⟨1,ar (cw t)⟩)]=H0 at *;have GG:((cw t).drop 0).take t.length=cw t:=by rw[ad1,ads (by rw[cx];exact adw _)]
 have qW:0+t.length≤(cw t).length:=by rw[cx];omega
 have fin:∀(H1:Hp),H1 (.par 0)= .live ⟨2,[gE r bad]⟩→(bad=false→∃y,cC v r=some y∧y=([],r))→∃jm,CV v s b (.str t) jm∧(AV.str t).aB=[]∧ah jm=[]∧jm.length=2∧H1 (.par 0)= .live ⟨2,[jm]⟩:=by
  intro H1 h1 h2;refine⟨gE r bad,⟨t,r,bad,rfl,rfl,hlen,Eo,fun hb=> ?_⟩,rfl,by simp[ah,AV.aB],rfl,h1⟩;have h3:=z6 hb;cases bad with
  |true=>simp only[adH] at h3;rw[h3]
  |false=>
  obtain⟨y,hy,rfl⟩:=h2 rfl;simp only[adQ,adS,hy,adB,adN] at h3;rw[h3];exact⟨rfl,rfl⟩
 simp only[↓aX,mX,seval,nh]
 match r,hlen,z6,nh,fin with
 |[],hlen,z6,nh,fin=>
  simp only[↓aX,mX,seval,show(([]:Bs)==[])=true from rfl,adL];refine⟨1,cw t,0,t.length,rfl,zo,qW,rA t,?_⟩;rw[GG];simp only[↓aX,mX,seval,GR,rB,adB,dB];exact fin _ (by simp[ae,nh]) (fun _=>⟨_,Lw v,rfl⟩)
 |c::q,hlen,z6,nh,fin=>
  simp only[↓aX,mX,seval,show((c::q:Bs)==[])=false from rfl,adI,nh];cases bad with
  |true=>
   simp only[↓aX,mX,seval,adL];refine⟨1,cw t,0,t.length,rfl,zo,qW,rA t,?_⟩;rw[GG];simp only[↓aX,mX,seval,GR,rB,adB,dB];exact fin _ (by simp[ae,nh]) (fun h=>by cases h)
  |false=>
  have Uj:b=false:=by cases b with|true=>exact absurd (Eo rfl) (by simp)|false=>rfl
  have tU:=z6 Uj;simp only[adQ,adS] at tU;have c60:((c.toNat:Int)==60)=(c==60):=cI c 60 (by decide);have Yu:((c.toNat:Int)==62)=(c==62):=cI c 62 (by decide);have c38:((c.toNat:Int)==38)=(c==38):=cI c 38 (by decide);have c34:((c.toNat:Int)==34)=(c==34):=cI c 34 (by decide);simp only[↓aX,mX,seval,adI,nh,show((0:Int)).toNat=0 from rfl,aem,c60];have stop:OB v c→∃y,cC v (c::q)=some y∧y=([],c::q):=fun h=>⟨_,HU h q,rfl⟩;by_cases HV:c=60
  ·rw[show(c==60)=true by simp[HV]];simp only[↓aX,mX,seval];refine⟨1,cw t,0,t.length,rfl,zo,qW,rA t,?_⟩;rw[GG];simp only[↓aX,mX,seval,GR,rB,adB,dB];exact fin _ (by simp[ae,nh]) (fun _=>stop (.inl HV))
  rw[show(c==60)=false by simp[HV]];simp only[↓aX,mX,seval,adI,c34];have next:∀(e:UInt8) (r':Bs) (d:Nat) (env:Env),cC v (c::q)=(cC v r').map (fun x=>(e::x.1,x.2))→r'.length<(c::q).length→env 0= .ptr (.par 0) 2 0 0→env 1= .bool v→env 5= .sl (.loc d) 1 0 (t.length+1)→∀(H1:Hp),H1 (.par 0)= .live ⟨2,[gE r' false]⟩→H1 (.loc d)= .live ⟨1,ar (cw t++cw [e])⟩→(∀n,n≠0→H1 (.par n)= .unused) →
    ∃q':{q:Bs×Bs×Bool // OJ v s b q},2*q'.1.1.length+(if q'.1.2.2 then 0 else 1)<2*(c::q).length+1∧∃m,WE [.par 0,.loc 5] (fun _=>false) [(0,.ptr (.par 0) 2 0 0),(1,.bool v),(5,.sl (.loc 5) 1 0 q'.1.2.1.length)]
     [(.par 0,⟨2,[gE q'.1.1 q'.1.2.2]⟩),(.loc 5,⟨1,ar (cw q'.1.2.1)⟩)] env H1 m:=by
   intro e r' d env h1 h2 h3 h4 h5 H1 h6 h7 h8;refine⟨⟨(r',t++[e],false),?_,Eo,fun _=> ?_⟩,?_,[(.loc 5,.loc d)],?_,?_,?_,by simp[bZ],?_⟩
   ·simp only[adE,adK,aek] at hlen h2 ⊢;omega
   ·simp only[adQ,adS];rw[tU,h1];cases cC v r'<;>simp
   ·simp only[adQ,adS];omega
   ·intro l hf hu;left;cases l<;>simp[Lb.entry] at hf;rename_i n;by_cases e0:n=0
    ·subst e0;simp
    exact absurd (h8 n e0) hu
   ·simp[kv,h3,h4,h5,e7,bZ]
   ·refine⟨by simp[bZ,cV,aY,e7,h6],by simp[bZ,b5,h7,FE],trivial⟩
   intro l hl;simp only[adz,adG,adO] at hl;rcases hl with rfl|rfl
   ·simp[bZ]
   simp[bZ,Lb.fresh,Lb.entry]
  have LA:∀(env:Env) (H1:Hp),cC v (c::q)=none→env 0= .ptr (.par 0) 2 0 0→env 1= .bool v→env 5= .sl (.loc 5) 1 0 t.length→H1 (.par 0)= .live ⟨2,[gE (c::q) true]⟩→H1 (.loc 5)= .live ⟨1,ar (cw t)⟩→(∀n,n≠0→H1 (.par n)= .unused) →
    ∃q':{q:Bs×Bs×Bool // OJ v s b q},2*q'.1.1.length+(if q'.1.2.2 then 0 else 1)<2*(c::q).length+1∧∃m,WE [.par 0,.loc 5] (fun _=>false) [(0,.ptr (.par 0) 2 0 0),(1,.bool v),(5,.sl (.loc 5) 1 0 q'.1.2.1.length)]
     [(.par 0,⟨2,[gE q'.1.1 q'.1.2.2]⟩),(.loc 5,⟨1,ar (cw q'.1.2.1)⟩)] env H1 m:=by
   intro env H1 h1 h3 h4 h5 h6 h7 h8;refine⟨⟨(c::q,t,true),hlen,fun _=>rfl,fun _=> ?_⟩,?_,[],?_,?_,?_,by simp[bZ],by simp[bZ]⟩
   ·simp only[adH];rw[tU,h1];rfl
   ·simp only[adH];omega
   ·intro l hf hu;left;cases l<;>simp[Lb.entry] at hf;rename_i n;by_cases e0:n=0
    ·subst e0;simp
    exact absurd (h8 n e0) hu
   ·simp[kv,h3,h4,h5,e7,bZ]
   refine⟨by simp[bZ,cV,aY,e7,h6],by simp[bZ,b5,h7],trivial⟩
  by_cases h34:c=34∧v=true
  ·rw[show(c==34)=true by simp[h34.1]];simp only[↓aX,mX,seval];refine qG (fun _=> ?_) (fun hv=>by rw[h34.2] at hv;cases hv);simp only[↓aX,mX,seval];refine⟨1,cw t,0,t.length,rfl,zo,qW,rA t,?_⟩;rw[GG];simp only[↓aX,mX,seval,GR,rB,adB,dB];exact fin _ (by simp[ae,nh]) (fun _=>stop (.inr h34))
  have xp:¬OB v c:=fun h=>h.elim HV h34;cases ack:(c==34) with
  |true=>
   simp only[↓aX,mX,seval];refine qG (fun hv=>absurd ⟨by simpa using ack,hv⟩ h34) (fun _=> ?_);simp only[↓aX,mX,seval,c38];by_cases DX:c=38
   ·rw[show(c==38)=true by simp[DX]];simp only[↓aX,mX,seval];rw[adv ⟨rfl,by decide,by intro y hy;simp only[adz,adG,adO] at hy;rcases hy with rfl|rfl|rfl|rfl<;>rfl⟩];simp only[↓aX,mX,seval];refine a7 (l:= .par 0) (hI (c::q) false) (by simp[aY,e7,iH,qP,Js,K7,zj,tv]) (by simp[nh]) ?_;intro x1 jm hx _ _ _;have hK:=OI (c::q);cases hk:xd (c::q) qP 0 with
    |none=>
     rw[hk] at hx hK;simp only at hx hK;obtain⟨rfl,rfl⟩:=hx;have hn:cC v (c::q)=none:=by
      rw[cC,ag8 xp,adv DX];split
      ·rename_i e1 q1 h;rw[hK] at h;cases h
      rfl
     simp only[↓aX,mX,seval,show((-1:Int)<0)=True by simp,aeB,dB];refine⟨gE (c::q) true,⟨[],c::q,true,rfl,rfl,by simp at hlen ⊢;omega,fun _=>rfl,fun hb=> ?_⟩,rfl,by simp[ah,AV.aB],rfl,by simp[ae]⟩;rw[tU,hn];rfl
    |some y=>
    obtain⟨i,r'⟩:=y;rw[hk] at hx hK;simp only at hx hK;obtain⟨rfl,rfl⟩:=hx;obtain⟨e,he,HW⟩:=hK;have hn:cC v (c::q)=(cC v r').map fun x=>(e::x.1,x.2):=by
     rw[cC,ag8 xp,adv DX];split
     ·rename_i e1 q1 h;rw[HW] at h;cases h;rfl
     rename_i h;rw[HW] at h;cases h
    have bO:=zD HW;simp only[↓aX,mX,seval,show decide (((i:Nat):Int)<0)=false by simp,adt,ag9,he];rw[nr (xs:=cw t) (by simp[ae,zo]) (cx t).symm (by simp at hlen;omega) (by simp[Lb.app,Lb.fresh]) (by simp[Lb.app,Lb.fresh,ae,hU 65 (by decide)])];simp only[↓aX,mX,seval,Lb.app,Lb.fresh];refine next e r' 65 _ hn bO ?_ ?_ ?_ _ ?_ ?_ ?_
    ·rfl
    ·rfl
    ·rfl
    ·simp[ae]
    ·simp[ae]
    intro n hn;simp[ae,xc n hn,hn]
   rw[show(c==38)=false by simp[DX]];simp only[↓aX,mX,seval,Yu];cases OK:(c==62) with
   |true=>
    simp only[↓aX,mX,seval,nh];have hn:cC v (c::q)=none:=(by rw[cC,ag8 xp,ag8 DX,adv (.inl (by simpa using OK))]);refine LA _ _ hn ?_ ?_ ?_ ?_ ?_ ?_
    ·rfl
    ·rfl
    ·rfl
    ·simp[ae]
    ·simp[ae,zo]
    intro n hn;simp[ae,xc n hn,hn]
   |false=>
   simp only[↓aX,mX,seval,adI];rw[show((c.toNat:Int) !=10)= !((c.toNat:Int)==10) from rfl];cases GS:((c.toNat:Int)==10) with
   |true=>
    have Et:nX c=true:=(by rw[mO,GS];rfl);simp only[↓aX,mX,seval,adL];have hn:cC v (c::q)=(cC v q).map fun x=>(c::x.1,x.2):=(by rw[cC,ag8 xp,ag8 DX,ag8 (by rintro(h|h);exact absurd h (by simpa using OK);rw[Et] at h;cases h)]);rw[nr (xs:=cw t) zo (cx t).symm (by simp at hlen;omega) (by simp[Lb.app,Lb.fresh]) (hU 28 (by decide))];simp only[↓aX,mX,seval,Lb.app,Lb.fresh,nh,mW,adt,show(0:Int)≤1 by decide,show(1:Int).toNat=1 from rfl,adF,adK,show 1≤q.length+1 by omega,adH,adA,adB,afz,aee,aet,ad1,adw,aeF];refine next c q 28 _ hn (by simp) ?_ ?_ ?_ _ ?_ ?_ ?_
    ·rfl
    ·rfl
    ·rfl
    ·simp[ae]
    ·simp[ae]
    intro n hn;simp[ae,xc n hn,hn]
   |false=>
   simp only[↓aX,mX,seval,adI];cases wh:decide ((c.toNat:Int)<32) with
   |true=>
    have Et:nX c=false:=(by rw[mO,GS,wh];rfl);simp only[↓aX,mX,seval,adL,nh];have hn:cC v (c::q)=none:=(by rw[cC,ag8 xp,ag8 DX,adv (.inr Et)]);refine LA _ _ hn ?_ ?_ ?_ ?_ ?_ ?_
    ·rfl
    ·rfl
    ·rfl
    ·simp[ae]
    ·simp[ae,zo]
    intro n hn;simp[ae,xc n hn,hn]
   |false=>
   simp only[↓aX,mX,seval,adI];cases OL:decide ((c.toNat:Int)>126) with
   |true=>
    have Et:nX c=false:=(by rw[mO,GS,wh,OL];rfl);simp only[↓aX,mX,seval,nh];have hn:cC v (c::q)=none:=(by rw[cC,ag8 xp,ag8 DX,adv (.inr Et)]);refine LA _ _ hn ?_ ?_ ?_ ?_ ?_ ?_
    ·rfl
    ·rfl
    ·rfl
    ·simp[ae]
    ·simp[ae,zo]
    intro n hn;simp[ae,xc n hn,hn]
   |false=>
   have Et:nX c=true:=(by rw[mO,GS,wh,OL];rfl);simp only[↓aX,mX,seval];have hn:cC v (c::q)=(cC v q).map fun x=>(c::x.1,x.2):=(by rw[cC,ag8 xp,ag8 DX,ag8 (by rintro(h|h);exact absurd h (by simpa using OK);rw[Et] at h;cases h)]);rw[nr (xs:=cw t) zo (cx t).symm (by simp at hlen;omega) (by simp[Lb.app,Lb.fresh]) (hU 28 (by decide))];simp only[↓aX,mX,seval,Lb.app,Lb.fresh,nh,mW,adt,show(0:Int)≤1 by decide,show(1:Int).toNat=1 from rfl,adF,adK,show 1≤q.length+1 by omega,adH,adA,adB,afz,aee,aet,ad1,adw,aeF];refine next c q 28 _ hn (by simp) ?_ ?_ ?_ _ ?_ ?_ ?_
   ·rfl
   ·rfl
   ·rfl
   ·simp[ae]
   ·simp[ae]
   intro n hn;simp[ae,xc n hn,hn]
  |false=>
  simp only[↓aX,mX,seval,c38];by_cases DX:c=38
  ·rw[show(c==38)=true by simp[DX]];simp only[↓aX,mX,seval];rw[adv ⟨rfl,by decide,by intro y hy;simp only[adz,adG,adO] at hy;rcases hy with rfl|rfl|rfl|rfl<;>rfl⟩];simp only[↓aX,mX,seval];refine a7 (l:= .par 0) (hI (c::q) false) (by simp[aY,e7,iH,qP,Js,K7,zj,tv]) (by simp[nh]) ?_;intro x1 jm hx _ _ _;have hK:=OI (c::q);cases hk:xd (c::q) qP 0 with
   |none=>
    rw[hk] at hx hK;simp only at hx hK;obtain⟨rfl,rfl⟩:=hx;have hn:cC v (c::q)=none:=by
     rw[cC,ag8 xp,adv DX];split
     ·rename_i e1 q1 h;rw[hK] at h;cases h
     rfl
    simp only[↓aX,mX,seval,show((-1:Int)<0)=True by simp,aeB,dB];refine⟨gE (c::q) true,⟨[],c::q,true,rfl,rfl,by simp at hlen ⊢;omega,fun _=>rfl,fun hb=> ?_⟩,rfl,by simp[ah,AV.aB],rfl,by simp[ae]⟩;rw[tU,hn];rfl
   |some y=>
   obtain⟨i,r'⟩:=y;rw[hk] at hx hK;simp only at hx hK;obtain⟨rfl,rfl⟩:=hx;obtain⟨e,he,HW⟩:=hK;have hn:cC v (c::q)=(cC v r').map fun x=>(e::x.1,x.2):=by
    rw[cC,ag8 xp,adv DX];split
    ·rename_i e1 q1 h;rw[HW] at h;cases h;rfl
    rename_i h;rw[HW] at h;cases h
   have bO:=zD HW;simp only[↓aX,mX,seval,show decide (((i:Nat):Int)<0)=false by simp,adt,ag9,he];rw[nr (xs:=cw t) (by simp[ae,zo]) (cx t).symm (by simp at hlen;omega) (by simp[Lb.app,Lb.fresh]) (by simp[Lb.app,Lb.fresh,ae,hU 65 (by decide)])];simp only[↓aX,mX,seval,Lb.app,Lb.fresh];refine next e r' 65 _ hn bO ?_ ?_ ?_ _ ?_ ?_ ?_
   ·rfl
   ·rfl
   ·rfl
   ·simp[ae]
   ·simp[ae]
   intro n hn;simp[ae,xc n hn,hn]
  rw[show(c==38)=false by simp[DX]];simp only[↓aX,mX,seval,Yu];cases OK:(c==62) with
  |true=>
   simp only[↓aX,mX,seval,nh];have hn:cC v (c::q)=none:=(by rw[cC,ag8 xp,ag8 DX,adv (.inl (by simpa using OK))]);refine LA _ _ hn ?_ ?_ ?_ ?_ ?_ ?_
   ·rfl
   ·rfl
   ·rfl
   ·simp[ae]
   ·simp[ae,zo]
   intro n hn;simp[ae,xc n hn,hn]
  |false=>
  simp only[↓aX,mX,seval,adI];rw[show((c.toNat:Int) !=10)= !((c.toNat:Int)==10) from rfl];cases GS:((c.toNat:Int)==10) with
  |true=>
   have Et:nX c=true:=(by rw[mO,GS];rfl);simp only[↓aX,mX,seval,adL];have hn:cC v (c::q)=(cC v q).map fun x=>(c::x.1,x.2):=(by rw[cC,ag8 xp,ag8 DX,ag8 (by rintro(h|h);exact absurd h (by simpa using OK);rw[Et] at h;cases h)]);rw[nr (xs:=cw t) zo (cx t).symm (by simp at hlen;omega) (by simp[Lb.app,Lb.fresh]) (hU 28 (by decide))];simp only[↓aX,mX,seval,Lb.app,Lb.fresh,nh,mW,adt,show(0:Int)≤1 by decide,show(1:Int).toNat=1 from rfl,adF,adK,show 1≤q.length+1 by omega,adH,adA,adB,afz,aee,aet,ad1,adw,aeF];refine next c q 28 _ hn (by simp) ?_ ?_ ?_ _ ?_ ?_ ?_
   ·rfl
   ·rfl
   ·rfl
   ·simp[ae]
   ·simp[ae]
   intro n hn;simp[ae,xc n hn,hn]
  |false=>
  simp only[↓aX,mX,seval,adI];cases wh:decide ((c.toNat:Int)<32) with
  |true=>
   have Et:nX c=false:=(by rw[mO,GS,wh];rfl);simp only[↓aX,mX,seval,adL,nh];have hn:cC v (c::q)=none:=(by rw[cC,ag8 xp,ag8 DX,adv (.inr Et)]);refine LA _ _ hn ?_ ?_ ?_ ?_ ?_ ?_
   ·rfl
   ·rfl
   ·rfl
   ·simp[ae]
   ·simp[ae,zo]
   intro n hn;simp[ae,xc n hn,hn]
  |false=>
  simp only[↓aX,mX,seval,adI];cases OL:decide ((c.toNat:Int)>126) with
  |true=>
   have Et:nX c=false:=(by rw[mO,GS,wh,OL];rfl);simp only[↓aX,mX,seval,nh];have hn:cC v (c::q)=none:=(by rw[cC,ag8 xp,ag8 DX,adv (.inr Et)]);refine LA _ _ hn ?_ ?_ ?_ ?_ ?_ ?_
   ·rfl
   ·rfl
   ·rfl
   ·simp[ae]
   ·simp[ae,zo]
   intro n hn;simp[ae,xc n hn,hn]
  |false=>
  have Et:nX c=true:=by rw[mO,GS,wh,OL];rfl
  simp only[↓aX,mX,seval];have hn:cC v (c::q)=(cC v q).map fun x=>(c::x.1,x.2):=by rw[cC,ag8 xp,ag8 DX,ag8 (by rintro(h|h);exact absurd h (by simpa using OK);rw[Et] at h;cases h)]
  rw[nr (xs:=cw t) zo (cx t).symm (by simp at hlen;omega) (by simp[Lb.app,Lb.fresh]) (hU 28 (by decide))];simp only[↓aX,mX,seval,Lb.app,Lb.fresh,nh,mW,adt,show(0:Int)≤1 by decide,show(1:Int).toNat=1 from rfl,adF,adK,show 1≤q.length+1 by omega,adH,adA,adB,afz,aee,aet,ad1,adw,aeF];refine next c q 28 _ hn (by simp) ?_ ?_ ?_ _ ?_ ?_ ?_
  ·rfl
  ·rfl
  ·rfl
  ·simp[ae]
  ·simp[ae]
  intro n hn;simp[ae,xc n hn,hn]
end

theorem sg:∀l m:List Attr,j0 (l++m)=j0 l+j0 m
 |[],m=>by simp[j0]
 |a::r,m=>by simp[j0,sg r m];omega
def OM {l m:List Attr} (h:l.Perm m):j0 l=j0 m:=by
 induction h with
 |nil=>rfl
 |cons x _ ih=>simp[j0,ih]
 |swap x y l=>simp[j0];omega
 |trans _ _ h1 h2=>exact h1.trans h2
def DY (s:Bs) (b:Bool) (x:AV) (cs:List AV):Prop:=∃l r b',x= .list (dA l)∧cs=gE r b'∧r.length+j0 l≤s.length∧(b=true→b'=true) ∧
 (b=false→match kg s with
  |some y=>b'=false∧r=y.2∧l.length=y.1.length∧(y.1.length≤20→l=gb y.1)
  |none=>b'=true)
def aaw (s:Bs) (b:Bool) (q:Bs×List Attr×Bool):Prop:=q.1.length+j0 q.2.1≤s.length∧(b=true→q.2.2=true)∧(b=false→if q.2.2 then kg s=none else kg s=(kg q.1).map fun y=>(q.2.1++y.1,y.2))
def py (p s:Bs):qu p s=if p.isPrefixOf s then some (il p s) else none:=by
 unfold qu il;split<;>rfl
def A' (s:Bs):wS s=if(decide (s.takeWhile dn=[])||decide (8<(s.takeWhile dn).length)) then none else some (s.takeWhile dn,s.dropWhile dn):=by
 unfold wS;simp only[aeJ,adM]
def si (p:UInt8→Bool) (s:Bs):(s.takeWhile p).length+(s.dropWhile p).length=s.length:=by
 rw[←adE,aga]
section
variable {P:Program} {G:Nat→Option (List IV)}
def lW (cH cF bU bL b8 eH:Nat):AC:=
(ay [oQ 2] (ay [oQ 3] (.gh (.own 3 2) (.seq (.block 0 (.loop (.seq (ay [af 5 0,aE 6 (.call cH [(.t 5)]),af 7 6,eJ 8 7 0,eP 9 7 (.dc (.t 8)),iu 10 7 9 1,ir 11 7 10,eP 12 7 (.not (.t 11)),l7 13 7 12,af 14 13,eJ 15 14 0,eP 16 14 (.dc (.t 15)),iu 17 14 16 0,ir 18 14 17,eP 19 14 (.bin .neq (.t 18) (.c (.str []))),l7 20 14 19,af 21 20,eJ 22 21 0,eP 23 21 (.dc (.t 22)),iu 24 21 23 0,ir 25 21 24,eP 26 21 (.vd (.t 25) (ij 0)),eP 27 21 (.bin .neq (.t 26) (.c (.int .u8 62))),l7 28 21 27,af 29 28,eJ 30 29 0,eP 31 29 (.dc (.t 30)),iu 32 29 31 0,ir 33 29 32,eP 34 29 (.vd (.t 33) (ij 0)),eP 35 29 (.bin .neq (.t 34) (.c (.int .u8 47))),l7 36 29 35] (.cond (.t 36) .skip (.exit 0))) (.block 1 (ay [af 37 0,aE 38 (.call cF [(.t 37)]),aE 39 (.oa [(.str []),(.str [])] [(0,(1,(.t 38)))]),aE 4 (.new [(.str []),(.str [])]),dT (.store 2 (.t 4) (.t 39))] (ay [af 40 0,aE 41 (.call bU [(.t 40),(.c (.str [61,34]))])] (ay [af 42 0,aE 43 (.call bL [(.t 42),(vC true)]),b7 44 4 1,dT (.store 1 (.t 44) (.t 43))] (ay [af 45 0,aE 46 (.call bU [(.t 45),(.c (.str [34]))])] (.ec [af 47 3,gd 48 2 4,aE 49 (.lits 1 2 [(.str []),(.str [])] [(0,(.t 48))]),aE 50 (.app (.t 47) (.t 49) 2 32),af 3 50]))))))))) (ay [af 51 3,aE 52 (.call b8 [(.t 51),(.c (.fn eH [] []))])] (ay [af 53 3,af 2 53] (.gh (.Ch (.loc 3) 2) .ret)))))))
def Sx {fi cH cF bU bL b8 eH:Nat} (hF:an P G fi=some (54,[(none,2)],(lW cH cF bU bL b8 eH).bare))
  (Yr:∀(s:Bs) (b:Bool),s.length≤B→ez P G cH [.ptr (.par 0) 2 0 0] (gE s b) fun x cs=>x= .bool (decide ((s.dropWhile isSp).length<s.length))∧cs=gE (s.dropWhile isSp) b)
  (hN:∀(s:Bs) (b:Bool),s.length≤B→ez P G cF [.ptr (.par 0) 2 0 0] (gE s b) fun x cs=>x= .str (s.takeWhile dn)∧cs=gE (s.dropWhile dn) (b||(decide (s.takeWhile dn=[])||decide (8<(s.takeWhile dn).length))))
  (Uk:∀(s p:Bs) (b:Bool),ez P G bU [.ptr (.par 0) 2 0 0,.str p] (gE s b) fun x cs=>cs=gE (il p s) (b|| !p.isPrefixOf s))
  (hT:∀(v:Bool) (s:Bs) (b:Bool),s.length≤B→ez P G bL [.ptr (.par 0) 2 0 0,.bool v] (gE s b) (CV v s b))
  (FH:∀l:List Attr,l.length≤B→qg P G b8 [.sl (.par 0) 2 0 l.length,.fn eH [] []] 2 (dA l) fun x ys=>∃zs:List Attr,ys=dA zs∧zs.Perm l∧(l.length≤20→zs=gb l))
  (s:Bs) (hs:s.length≤B) (b:Bool) :
  ez P G fi [.ptr (.par 0) 2 0 0] (gE s b) (DY s b):=by
 refine ft hF (by simp) (by simp[ah,AV.aB]) (by simp[ah,AV.aB]) ?_;have nM:B=1073741824:=rfl;unfold lW;simp only[↓aX,mX,seval,kY];refine ki (σ:={q:Bs×List Attr×Bool // aaw s b q}) (fun _=>[.par 0,.loc 3]) (fun _ _=>false)
  (fun q=>[(0,.ptr (.par 0) 2 0 0),(3,.sl (.loc 3) 2 0 q.1.2.1.length)])
  (fun q=>[(.par 0,⟨2,[gE q.1.1 q.1.2.2]⟩),(.loc 3,⟨2,ar (dA q.1.2.1)⟩)]) (fun q=>q.1.1.length) ⟨(s,[],b),by simp[j0],fun h=>h,fun h=> ?_⟩ (fun _=>rfl) (fun q=>by simp[ah,AV.aB]) ?_ ⟨[],?_⟩ ?_
 ·simp only[h,adQ,adS];cases kg s<;>simp
 ·intro q w hw cs sf z hz;simp only[adz,adG,adO] at hw;rcases hw with rfl|rfl
  ·simp only[adr] at sf;subst sf;simp[ah,AV.aB] at hz
  rw[bT sf] at hz;simp at hz
 ·refine⟨?_,?_,?_,by simp[bZ],by simp[bZ]⟩
  ·intro l hf hu;left;cases l<;>simp[Lb.entry] at hf;rename_i n;by_cases e:n=0
   ·subst e;simp
   exfalso;apply hu;simp[ae,Hp.none,e]
  ·simp[kv,bZ,e7,put,lE]
  simp[qe,bZ,ae,cV,aY,e7,dA,ar]
 rintro⟨⟨r,l,bad⟩,hlen,Eo,z6⟩;simp only at hlen Eo z6;have G8:=oc l;have hU:∀d,d≠3→fy (fun _=>false) [(Lb.par 0,⟨2,[gE r bad]⟩),(Lb.loc 3,⟨2,ar (dA l)⟩)] (.loc d)= .unused:=fun d hd=>by rw[jT (by simp[hd])];rfl
 have xc:∀d,d≠0→fy (fun _=>false) [(Lb.par 0,⟨2,[gE r bad]⟩),(Lb.loc 3,⟨2,ar (dA l)⟩)] (.par d)= .unused:=fun d hd=>by rw[jT (by simp[hd])];rfl
 have nh:fy (fun _=>false) [(Lb.par 0,⟨2,[gE r bad]⟩),(Lb.loc 3,⟨2,ar (dA l)⟩)] (.par 0)= .live ⟨2,[gE r bad]⟩:=dm.2 (by simp[kx,ae]);have zm:fy (fun _=>false) [(Lb.par 0,⟨2,[gE r bad]⟩),(Lb.loc 3,⟨2,ar (dA l)⟩)] (.loc 3)= .live ⟨2,ar (dA l)⟩:=dm.2 (by simp[kx,ae]);simp only;generalize fy (fun _=>false) [(Lb.par 0,⟨2,[gE r bad]⟩),(Lb.loc 3,⟨2,ar (dA l)⟩)]=H0 at *;simp only[↓aX,mX,seval];refine a7 (l:= .par 0) (Yr r bad (by omega)) (by simp[aY,e7,iH]) (by simp[nh]) ?_;rintro x1 jm ⟨rfl,rfl⟩ _ _ _;obtain⟨r1,pf⟩:∃r1,r1=r.dropWhile isSp:=⟨_,rfl⟩;have W9:r1.length≤r.length:=by rw[pf];exact ru _ _
 rw[←pf];simp only[↓aX,mX,seval];have fin:∀(zs:List Attr),zs.Perm l→(l.length≤20→zs=gb l)→(bad=false→kg r=some ([],r1))→DY s b (.list (dA zs)) (gE r1 bad):=by
  intro zs h1 h2 h4;refine⟨zs,r1,bad,rfl,rfl,by rw[OM h1];omega,Eo,fun hb=> ?_⟩;have h5:=z6 hb;cases bad with
  |true=>simp only[adH] at h5;rw[h5]
  |false=>
  simp only[adQ,adS,h4 rfl,adB,adN] at h5;rw[h5];exact⟨rfl,rfl,h1.length_eq,h2⟩
 have I1:∀B':Bool,qJ r r1=B'→kg r=if B' then(match wT r1 with|some (a,q)=>(kg q).map fun x=>(a::x.1,x.2)|none=>none) else some ([],r1):=by
  intro B' h;rw[kg,←pf,h];split
  ·split<;>simp_all
  rfl
 cases Ey:decide (r1.length<r.length) with
 |false=>
  simp only[↓aX,mX,seval];refine h_ (l:= .loc 3) (FH l (by omega)) (by simp[aY,e7,iH]) (by simp[ae,zm]) ?_;rintro x1 ys ⟨zs,rfl,rP,Cc⟩ _ _;simp only[↓aX,mX,seval];refine⟨2,dA zs,0,l.length,rfl,by simp[ae],by rw[bQ,rP.length_eq];omega,ri zs,?_⟩;rw[ad1,ads (by rw[bQ,rP.length_eq];exact adw _)];exact⟨_,fin zs rP Cc (fun _=>by rw[I1 false (by unfold qJ;rw[Ey];rfl)];rfl),rfl,by simp[ah,AV.aB],rfl,by simp[ae]⟩
 |true=>
 simp only[↓aX,mX,seval,adL,adI];cases bad with
 |true=>
  simp only[↓aX,mX,seval,adL,adI];refine h_ (l:= .loc 3) (FH l (by omega)) (by simp[aY,e7,iH]) (by simp[ae,zm]) ?_;rintro x1 ys ⟨zs,rfl,rP,Cc⟩ _ _;simp only[↓aX,mX,seval];refine⟨2,dA zs,0,l.length,rfl,by simp[ae],by rw[bQ,rP.length_eq];omega,ri zs,?_⟩;rw[ad1,ads (by rw[bQ,rP.length_eq];exact adw _)];exact⟨_,fin zs rP Cc (fun h=>by cases h),rfl,by simp[ah,AV.aB],rfl,by simp[ae]⟩
 |false=>
 have Uj:b=false:=by cases b with|true=>exact absurd (Eo rfl) (by simp)|false=>rfl
 have tU:=z6 Uj;simp only[adQ,adS] at tU;simp only[↓aX,mX,seval,adL,adI];clear z6
 match r1,pf,W9,Ey,I1,fin with
 |[],pf,W9,Ey,I1,fin=>
  simp only[↓aX,mX,seval,show((([]:Bs) !=[])=false) from rfl,show(([]:Bs)==[])=true from rfl,adL];refine h_ (l:= .loc 3) (FH l (by omega)) (by simp[aY,e7,iH]) (by simp[ae,zm]) ?_;rintro x1 ys ⟨zs,rfl,rP,Cc⟩ _ _;simp only[↓aX,mX,seval];refine⟨2,dA zs,0,l.length,rfl,by simp[ae],by rw[bQ,rP.length_eq];omega,ri zs,?_⟩;rw[ad1,ads (by rw[bQ,rP.length_eq];exact adw _)];exact⟨_,fin zs rP Cc (fun _=>by rw[I1 false (by unfold qJ;rw[Ey];rfl)];rfl),rfl,by simp[ah,AV.aB],rfl,by simp[ae]⟩
 |c::q,pf,W9,Ey,I1,fin=>
  have Yu:((c.toNat:Int)==62)=(c==62):=cI c 62 (by decide);have ZW:((c.toNat:Int)==47)=(c==47):=cI c 47 (by decide);simp only[↓aX,mX,seval,show((c::q:Bs)==[])=false from rfl,adI,show((0:Int)).toNat=0 from rfl,aem,bne,Yu];cases OK:(c==62) with
  |true=>
   simp only[↓aX,mX,seval,adL];refine h_ (l:= .loc 3) (FH l (by omega)) (by simp[aY,e7,iH]) (by simp[ae,zm]) ?_;rintro x1 ys ⟨zs,rfl,rP,Cc⟩ _ _;simp only[↓aX,mX,seval];refine⟨2,dA zs,0,l.length,rfl,by simp[ae],by rw[bQ,rP.length_eq];omega,ri zs,?_⟩;rw[ad1,ads (by rw[bQ,rP.length_eq];exact adw _)];exact⟨_,fin zs rP Cc (fun _=>by rw[I1 false (by unfold qJ;simp[OK])];rfl),rfl,by simp[ah,AV.aB],rfl,by simp[ae]⟩
  |false=>
  simp only[↓aX,mX,seval,adI,show((0:Int)).toNat=0 from rfl,aem,bne,ZW];cases h47:(c==47) with
  |true=>
   simp only[↓aX,mX,seval,adL];refine h_ (l:= .loc 3) (FH l (by omega)) (by simp[aY,e7,iH]) (by simp[ae,zm]) ?_;rintro x1 ys ⟨zs,rfl,rP,Cc⟩ _ _;simp only[↓aX,mX,seval];refine⟨2,dA zs,0,l.length,rfl,by simp[ae],by rw[bQ,rP.length_eq];omega,ri zs,?_⟩;rw[ad1,ads (by rw[bQ,rP.length_eq];exact adw _)];exact⟨_,fin zs rP Cc (fun _=>by rw[I1 false (by unfold qJ;simp[OK,h47])];rfl),rfl,by simp[ah,AV.aB],rfl,by simp[ae]⟩
  |false=>
  simp only[↓aX,mX,seval,adI];have aax:=I1 true (by unfold qJ;simp only[Ey,OK,h47];rfl);simp only[adH] at aax;have adh:(c::q).length<r.length:=by simpa using Ey
  generalize c::q=r1 at *;refine a7 (l:= .par 0) (hN r1 false (by omega)) (by simp[aY,e7,iH]) (by simp[ae]) ?_;rintro x1 jm ⟨rfl,rfl⟩ _ _ _;have IQ:=si dn r1;have TM:=A' r1;rw[agV];generalize r1.takeWhile dn=nm at *;generalize r1.dropWhile dn=r2 at *;generalize (decide (nm=[])||decide (8<nm.length))=W_ at *;simp only[↓aX,mX,seval];refine⟨by simp[ae,hU 4 (by decide)],?_⟩;refine a7 (l:= .par 0) (Uk r2 [61,34] W_) (by simp[aY,e7,iH]) (by simp[ae]) ?_;rintro x1 jm rfl _ _ _;have B4:=pR [61,34] r2;have Dj:=py [61,34] r2;generalize List.isPrefixOf [61,34] r2=Yw at *;generalize il [61,34] r2=r3 at *;simp only[↓aX,mX,seval];refine a7 (l:= .par 0) (hT true r3 (W_|| !Yw) (by omega)) (by simp[aY,e7,iH]) (by simp[ae]) ?_;rintro x1 jm ⟨t,r4,b4,rfl,rfl,Yn,hb4,oP⟩ _ _ _;simp only[↓aX,mX,seval];refine a7 (l:= .par 0) (Uk r4 [34] b4) (by simp[aY,e7,iH]) (by simp[ae]) ?_;rintro x1 jm rfl _ _ _;have HT:=pR [34] r4;have Sr:=py [34] r4;generalize List.isPrefixOf [34] r4=pf2 at *;generalize il [34] r4=r5 at *;simp only[↓aX,mX,seval];rw[gU 2 32 50 3 (dA l) (.agg [.str nm,.str t]) (by simp[ae,zm]) (bQ l) rfl (by intro z hz cs;simp only[IV.cells,adz,adG,adO] at hz;rcases hz with rfl|rfl<;>simp) (by omega) (by decide) (by decide) (by simp[ae,hU 50 (by decide)])];simp only[↓aX,mX,seval];have CW:if b4|| !pf2 then wT r1=none else wT r1=some (⟨nm,t⟩,r5):=by
   unfold wT;rw[TM];cases W_ with
   |true=>rw[hb4 rfl];rfl
   |false=>
   simp only[adQ,adS,adA];rw[Dj];cases Yw with
   |false=>rw[hb4 rfl];rfl
   |true=>
   simp only[adH,adA];have h4:=oP rfl;cases htf:cC true r3 with
   |none=>
    rw[htf] at h4;simp only at h4;rw[h4];rfl
   |some y=>
   rw[htf] at h4;obtain⟨rfl,rfl⟩:=h4;simp only[adA];rw[Sr];cases pf2<;>rfl
  refine⟨⟨(r5,l++[⟨nm,t⟩],b4|| !pf2),?_,fun(h:b=true)=>(by rw[Uj] at h;cases h),fun _=> ?_⟩,by simp only;omega,[(.loc 3,.loc 50)],?_,?_,?_,by simp[bZ],?_⟩
  ·simp only[sg,j0,Attr.wt];omega
  ·simp only;rw[tU,aax];cases hbb:(b4|| !pf2) with
   |true=>rw[hbb] at CW;simp only[adH] at CW ⊢;rw[CW];rfl
   |false=>
   rw[hbb] at CW;simp only[adQ,adS] at CW ⊢;rw[CW];simp only;cases kg r5 with
   |none=>rfl
   |some y=>simp only[adB,adV,afS]
  ·intro z hf hu;left;cases z<;>simp[Lb.entry] at hf;rename_i n;by_cases e0:n=0
   ·subst e0;simp
   exfalso;apply hu;simp[ae,e0,xc n e0]
  ·simp[kv,e7,bZ,put]
  ·refine⟨by simp[bZ,cV,aY,e7,ae],by simp[bZ,b5,ae,dA];rfl,trivial⟩
  intro z hz;simp only[adz,adG,adO] at hz;rcases hz with rfl|rfl
  ·simp[bZ]
  simp[bZ,Lb.fresh,Lb.entry]
end

def A_ {P:Program} {G:Nat→Option (List IV)} {f:Nat} {n:Nat} {rs:List RO} {ac:AC} {args cs:List AV} {R:AV→List AV→Prop}
  (hF:an P G f=some (n,rs,ac.bare)) (hn:args.length≤n) (ha:∀l∈ah args,l= .par 0) (hc:ah cs=[])
  (hg:go ⟨P,G,n⟩ (kX rs fun x H'=>∃jm,R (norm x) jm∧x.aB=[]∧ah jm=[]∧jm.length=cs.length∧H' (.par 0)= .live ⟨cs.length,[jm]⟩) [.code ac] (lE args) (kY cs)):ez P G f args cs R:=by
 have h:=ft (R:=fun x c=>R (norm x) c) hF hn ha hc hg;refine⟨h.1,h.2.1,h.2.2.res.mono ?_⟩;rintro x H ⟨y,⟨jm,h1,h2,h3⟩,rfl⟩;exact⟨jm,h1,by rw[Aj];exact h2,h3⟩
def pd {S:St} {F:List Lb} {f:Nat} {args dG:List AV} {cs:List AV} {R:AV→List AV→Prop} {H:Hp} {k:AV→Hp→Prop} {u:Tw k} {l:Lb} (h:ez S.P S.G f dG cs R)
  (ha:args=aY (iH l) dG) (hl:H l= .live ⟨cs.length,[cs]⟩) (hF:l.kQ∉F) {x0:AV} {EL:List AV} (h0:R x0 EL) (h1:x0.aB=[]) (h2:ah EL=[]) (h3:EL.length=cs.length)
  (hk:∀x jm,R x jm→x.aB=[]→ah jm=[]→jm.length=cs.length→k x (bF H l (.live ⟨cs.length,[jm]⟩))):NI S F f args H k u:=by
 refine⟨fun x H'=>∃jm,R x jm∧x.aB=[]∧ah jm=[]∧jm.length=cs.length∧H'=bF H l (.live ⟨cs.length,[jm]⟩),?_,⟨x0,_,EL,h0,h1,h2,h3,rfl⟩,?_⟩
 ·exact a7 (k:=fun x H'=>∃jm,R x jm∧x.aB=[]∧ah jm=[]∧jm.length=cs.length∧H'=bF H l (.live ⟨cs.length,[jm]⟩)) (u:= .mk) h ha hl (fun x jm g1 g2 g3 g4=>⟨jm,g1,g2,g3,g4,rfl⟩)
 rintro x H' ⟨jm,g1,g2,g3,g4,rfl⟩;refine⟨fun q hq=> ?_,hk x jm g1 g2 g3 g4⟩;rw[ax _ _ (fun e=>hF (by rw[e] at hq;exact hq))]
def ON (l:List Attr) (a:Attr):(oX l a).length=l.length+1:=by
 induction l with
 |nil=>rfl
 |cons b r ih=>
 unfold oX;split
 ·rfl
 simp[ih]
def CX (l:List Attr):(gb l).length=l.length:=by
 have key:∀(l acc:List Attr),(l.foldl oX acc).length=acc.length+l.length:=by
  intro l;induction l with
  |nil=>intro acc;rfl
  |cons a r ih=>intro acc;simp only[aeP,ih,ON,adK];omega
 unfold gb;rw[key];simp
mutual
def Tree.My:Tree→Bool
 | .mk _ _ as ks=>decide (20<as.length)||sj ks
def sj:List Tree→Bool
 |[]=>false
 |x::r=>x.My||sj r
end
theorem FI:∀l m:List Tree,sj (l++m)=(sj l||sj m)
 |[],m=>by simp[sj]
 |x::r,m=>by simp[sj,FI r m,Bool.or_assoc]
def FJ (d:Nat) (s:Bs) (b:Bool) (x:AV) (cs:List AV):Prop:=∃(t:Tree) (r:Bs) (b':Bool),x=t.av∧cs=gE r b'∧t.wt≤3*s.length+2∧r.length≤s.length ∧
 (∀q,s=60::q→t.wt+3*r.length≤3*s.length∧r.length<s.length)∧(b=true→b'=true) ∧
 (b=false→match dy d s with
  |some y=>b'=false∧r=y.2∧(t=y.1∨(t.My=true∧y.1.My=true))
  |none=>b'=true)
def yT (d:Nat) (s:Bs) (b:Bool) (x:AV) (cs:List AV):Prop:=∃(l:List Tree) (r:Bs) (b':Bool),x= .list (eR l)∧cs=gE r b'∧er l+3*r.length≤3*s.length+1∧(b=true→b'=true) ∧
 (b=false→match iQ (dy d) s with
  |some y=>b'=false∧r=y.2∧(l=y.1∨(sj l=true∧sj y.1=true))
  |none=>b'=true)
section
variable {P:Program} {G:Nat→Option (List IV)}
def kz (bU cF fi bA cX cH:Nat):AC:=
(ay [aE 4 (.new [(.bool false),(.str []),.nil0,.nil0])] (ay [af 6 0,aE 7 (.call bU [(.t 6),(.c (.str [60]))])] (ay [af 8 0,aE 9 (.call cF [(.t 8)]),aE 10 (.oa [(.bool false),(.str []),.nil0,.nil0] [(1,(1,(.t 9)))]),aE 5 (.new [(.bool false),(.str []),.nil0,.nil0]),dT (.store 4 (.t 5) (.t 10))] (ay [af 11 0,aE 12 (.call fi [(.t 11)]),b7 13 5 2,dT (.store 1 (.t 13) (.t 12))] (.seq (ay [af 14 0,aE 15 (.dc (.t 14)),b7 16 15 1,cS 17 16,af 18 17,gj 19 18 1,hQ 20 18 (.bin .gtr (.t 19) (ij 8)),nC 21 18 20] (.cond (.t 21) (ay [af 22 0,aE 23 (.dc (.t 22)),b7 24 23 1,dT (.store 1 (.t 24) (vC true))] (ay [gd 25 4 5,dT (.store 4 (.t 4) (.t 25))] .ret)) .skip)) (.seq (ay [af 26 0,aE 27 (.call bA [(.t 26),(.c (.str [47,62]))])] (.cond (.t 27) (ay [gd 28 4 5,dT (.store 4 (.t 4) (.t 28))] .ret) .skip)) (ay [af 29 0,aE 30 (.call bU [(.t 29),(.c (.str [62]))])] (ay [af 31 0,af 32 1,db 33 .add 32 1,aE 34 (.call cX [(.t 31),(.t 33)]),b7 35 5 3,dT (.store 1 (.t 35) (.t 34))] (ay [af 36 0,aE 37 (.call bU [(.t 36),(.c (.str [60,47]))])] (.seq (.seq (.fg [af 38 0,aE 39 (.call cF [(.t 38)]),b7 40 5 1,cS 41 40,eS 42 .neq 39 41] [[],[0],[],[2],[1,3]] [.no,(.vj [(.loc 5)]),.no,.rw [.loc 5] [],.no]) (.cond (.t 42) (.ec [af 43 0,aE 44 (.dc (.t 43)),b7 45 44 1,dT (.store 1 (.t 45) (vC true))]) .skip)) (ay [af 46 0,aE 47 (.call cH [(.t 46)])] (ay [af 48 0,aE 49 (.call bU [(.t 48),(.c (.str [62]))])] (ay [gd 50 4 5,dT (.store 4 (.t 4) (.t 50))] .ret)))))))))))))
def OO {ca bU cF fi bA cX cH:Nat} (hF:an P G ca=some (51,[((some (some 4)),4)],(kz bU cF fi bA cX cH).bare))
  (Yr:∀(s:Bs) (b:Bool),s.length≤B→ez P G cH [.ptr (.par 0) 2 0 0] (gE s b) fun x cs=>x= .bool (decide ((s.dropWhile isSp).length<s.length))∧cs=gE (s.dropWhile isSp) b)
  (hN:∀(s:Bs) (b:Bool),s.length≤B→ez P G cF [.ptr (.par 0) 2 0 0] (gE s b) fun x cs=>x= .str (s.takeWhile dn)∧cs=gE (s.dropWhile dn) (b||(decide (s.takeWhile dn=[])||decide (8<(s.takeWhile dn).length))))
  (Uk:∀(s p:Bs) (b:Bool),ez P G bU [.ptr (.par 0) 2 0 0,.str p] (gE s b) fun x cs=>cs=gE (il p s) (b|| !p.isPrefixOf s))
  (Jx:∀(s p:Bs) (b:Bool),ez P G bA [.ptr (.par 0) 2 0 0,.str p] (gE s b) fun x cs=>x= .bool (p.isPrefixOf s)∧cs=gE (il p s) b)
  (hA:∀(s:Bs) (b:Bool),s.length≤B→ez P G fi [.ptr (.par 0) 2 0 0] (gE s b) (DY s b))
  (d:Nat) (hd:d≤9) (hK:∀d',d=d'+1→∀(s:Bs) (b:Bool),s.length≤B→ez P G cX [.ptr (.par 0) 2 0 0,.int .i64 (9 - d':Int)] (gE s b) (yT d' s b))
  (s:Bs) (hs:s.length≤B) (b:Bool) :
  ez P G ca [.ptr (.par 0) 2 0 0,.int .i64 (9 - d:Int)] (gE s b) (FJ d s b):=by
 refine A_ hF (by simp) (by simp[ah,AV.aB]) (by simp[ah,AV.aB]) ?_;have nM:B=1073741824:=rfl;unfold kz;simp only[↓aX,mX,seval,kY];refine a7 (l:= .par 0) (Uk s [60] b) (by simp[aY,e7,iH]) (by simp[ae]) ?_;rintro x1 jm rfl _ _ _;have B4:=pR [60] s;have acm:∀q,s=60::q→il [60] s=q:=by rintro q rfl;simp[il,List.isPrefixOf]
 have Dj:=py [60] s;generalize List.isPrefixOf [60] s=Yw at *;generalize il [60] s=r1 at *;simp only[↓aX,mX,seval];refine a7 (l:= .par 0) (hN r1 (b|| !Yw) (by omega)) (by simp[aY,e7,iH]) (by simp[ae]) ?_;rintro x1 jm ⟨rfl,rfl⟩ _ _ _;have IQ:=si dn r1;have TM:=A' r1;generalize r1.takeWhile dn=nm at *;generalize r1.dropWhile dn=r2 at *;generalize (decide (nm=[])||decide (8<nm.length))=bn at *;simp only[↓aX,mX,seval];refine a7 (l:= .par 0) (hA r2 (b|| !Yw||bn) (by omega)) (by simp[aY,e7,iH]) (by simp[ae]) ?_;rintro x1 jm ⟨as,r3,b3,rfl,rfl,Yx,hb3,hs3⟩ _ _ _;simp only[↓aX,mX,seval];have OP:b=false→if b3 then vw s=none else ∃yU,vw s=some (nm,yU,r3)∧as.length=yU.length∧(yU.length≤20→as=gb yU):=by
  intro hb;unfold vw;rw[Dj];cases Yw with
  |false=>rw[hb3 (by simp[hb])];simp
  |true=>
  simp only[adH,adA,TM];cases bn with
  |true=>rw[hb3 (by simp)];simp
  |false=>
  have h3:=hs3 (by simp[hb]);cases haf:kg r2 with
  |none=>rw[haf] at h3;simp only at h3;rw[h3];simp[haf]
  |some y=>
  rw[haf] at h3;obtain⟨rfl,rfl,e3,e4⟩:=h3;simp[haf];exact⟨e3,e4⟩
 have hbb:b=true→b3=true:=fun h=>hb3 (by simp[h]);clear hs3 hb3;have bO:∀q,s=60::q→nm.length+r2.length+1=s.length:=by
  intro q hq;rw[←acm q hq] at hq;rw[hq];simp;omega
 have stop:(b=false→dy d s=none)→FJ d s b (Tree.av (.mk false nm as [])) (gE r3 true):=by
  intro h2;refine⟨_,r3,true,rfl,rfl,?_,by omega,fun q hq=> ?_,fun _=>rfl,fun hb=>by rw[h2 hb]⟩
  ·simp only[Tree.wt,er];omega
  have:=bO q hq;simp only[Tree.wt,er];omega
 have adi:dy 0 s=none:=rfl;have aay:∀d',dy (d'+1) s=(vw s).bind fun x=>
  if [47,62].isPrefixOf x.2.2 then some (.mk false x.1 (gb x.2.1) [],x.2.2.drop 2)
  else(qu [62] x.2.2).bind fun r=>(iQ (dy d') r).bind fun y=>(tw x.1 y.2).map fun q=>(.mk false x.1 (gb x.2.1) y.1,q):=fun _=>rfl
 cases b3 with
 |true=>
  simp only[↓aX,mX,seval,norm,dC,uu];exact⟨_,stop (fun hb=>by
   have h:=OP hb;simp only[adH] at h;cases d with
   |zero=>rfl
   |succ d=>rw[aay,h];rfl),by simp[AV.aB,ah],by simp[AV.aB,ah],rfl,by simp[ae]⟩
 |false=>
 simp only[↓aX,mX,seval,adI];cases d with
 |zero=>
  simp only[↓aX,mX,seval,norm,dC,uu,show((9:Int) - ((0:Nat):Int)>8)=True by simp,aeB];exact⟨_,stop (fun hb=>rfl),by simp[AV.aB,ah],by simp[AV.aB,ah],rfl,by simp[ae]⟩
 |succ d=>
 have hK:=hK d rfl;have hw:IntKind.i64.wrap ((9:Int) - ((d+1:Nat):Int)+1)=(9:Int) - (d:Int):=by rw[wrap64 (by omega) (by omega)];omega
 simp only[↓aX,mX,seval,show((9:Int) - ((d+1:Nat):Int)>8)=False by simp;omega,aeL];refine a7 (l:= .par 0) (Jx r3 [47,62] false) (by simp[aY,e7,iH]) (by simp[ae]) ?_;rintro x1 jm ⟨rfl,rfl⟩ _ _ _;have tU:∀yU,vw s=some (nm,yU,r3)→dy (d+1) s=if [47,62].isPrefixOf r3 then some (.mk false nm (gb yU) [],r3.drop 2)
   else(qu [62] r3).bind fun r=>(iQ (dy d) r).bind fun y=>(tw nm y.2).map fun q=>(.mk false nm (gb yU) y.1,q):=by
  intro yU h;rw[aay,h];rfl
 have fH:∀yU:List Attr,as.length=yU.length→(yU.length≤20→as=gb yU)→∀ks:List Tree,(Tree.mk false nm as ks= .mk false nm (gb yU) ks)∨(∀k1 k2,(Tree.mk false nm as k1).My=true∧(Tree.mk false nm (gb yU) k2).My=true):=by
  intro yU h1 h2 ks;by_cases h:yU.length≤20
  ·left;rw[h2 h]
  right;intro k1 k2;have h3:(gb yU).length=yU.length:=(CX yU);simp only[Tree.My,aeJ,adM];omega
 cases hpf:[47,62].isPrefixOf r3 with
 |true=>
  have ML:il [47,62] r3=r3.drop 2:=by unfold il;rw[hpf];rfl
  rw[ML];simp only[↓aX,mX,seval,norm,dC,uu];refine⟨gE (r3.drop 2) false,⟨.mk false nm as [],r3.drop 2,false,rfl,rfl,?_,by simp;omega,fun q hq=> ?_,hbb,fun hb=> ?_⟩,by simp[AV.aB,ah],by simp[AV.aB,ah],rfl,by simp[ae]⟩
  ·simp only[Tree.wt,er];omega
  ·have:=bO q hq;simp only[Tree.wt,er,aen];omega
  have h:=OP hb;simp only[adQ,adS] at h;obtain⟨yU,h1,h2,h3⟩:=h;rw[tU yU h1,hpf];refine⟨rfl,rfl,?_⟩;rcases fH yU h2 h3 [] with h|h
  ·exact .inl h
  exact .inr (h [] [])
 |false=>
 have ML:il [47,62] r3=r3:=by unfold il;rw[hpf];rfl
 rw[ML];simp only[↓aX,mX,seval];refine a7 (l:= .par 0) (Uk r3 [62] false) (by simp[aY,e7,iH]) (by simp[ae]) ?_;rintro x1 jm rfl _ _ _;have hc5:=pR [62] r3;have ht5:=py [62] r3;rw[agV];generalize List.isPrefixOf [62] r3=pf5 at *;generalize il [62] r3=r5 at *;simp only[↓aX,mX,seval,hw];refine a7 (l:= .par 0) (hK r5 (!pf5) (by omega)) (by simp[aY,e7,iH]) (by simp[ae]) ?_;rintro x1 jm ⟨ks,r6,b6,rfl,rfl,hl6,hb6,hs6⟩ _ _ _;simp only[↓aX,mX,seval];refine a7 (l:= .par 0) (Uk r6 [60,47] b6) (by simp[aY,e7,iH]) (by simp[ae]) ?_;rintro x1 jm rfl _ _ _;have hc7:=pR [60,47] r6;have ht7:=py [60,47] r6;generalize List.isPrefixOf [60,47] r6=Yy at *;generalize il [60,47] r6=r7 at *;have hr6:r6.length≤r5.length:=by have:=jr ks;omega
 simp only[↓aX,mX,seval];refine⟨rfl,?_⟩;refine pd (l:= .par 0) (hN r7 (b6|| !Yy) (by omega)) (by simp[aY,e7,iH]) (by simp[ae]) (by simp[Df]) ⟨rfl,rfl⟩ rfl (by simp[AV.aB,ah]) rfl ?_;rintro x1 jm ⟨rfl,rfl⟩ _ _ _;have T4:=si dn r7;have acn:=A' r7;generalize r7.takeWhile dn=nm2 at *;generalize r7.dropWhile dn=r8 at *;generalize (decide (nm2=[])||decide (8<nm2.length))=bn8 at *;simp only[↓aX,mX,seval];have last:∀b9:Bool,b9=(b6|| !Yy||bn8|| !(nm2==nm))→∀r9 r10:Bs,r9.length≤r8.length→r10.length≤r9.length→r9=r8.dropWhile isSp→r10=il [62] r9→FJ (d+1) s b (Tree.av (.mk false nm as ks)) (gE r10 (b9|| !List.isPrefixOf [62] r9)):=by
  rintro b9 h9 r9 r10 g9 g10 e9 e10;refine⟨_,r10,_,rfl,rfl,?_,by omega,fun q hq=> ?_,fun hb=> ?_,fun hb=> ?_⟩
  ·simp only[Tree.wt];omega
  ·have:=bO q hq;simp only[Tree.wt];omega
  ·have:=hbb hb;cases this
  have h:=OP hb;simp only[adQ,adS] at h;obtain⟨yU,h1,h2,h3⟩:=h;rw[tU yU h1,hpf];simp only[adQ,adS];rw[ht5];cases pf5 with
  |false=>
   have:b9=true:=(by rw[h9,hb6 rfl];rfl);rw[this];rfl
  |true=>
  simp only[adH,adA];have h6:=hs6 rfl;cases hkf:iQ (dy d) r5 with
  |none=>
   rw[hkf] at h6;simp only at h6;have:b9=true:=(by rw[h9,h6];rfl);rw[this];rfl
  |some y=>
  rw[hkf] at h6;obtain⟨rfl,rfl,h7⟩:=h6;simp only[adA];unfold tw;rw[ht7];cases Yy with
  |false=>
   have:b9=true:=(by rw[h9];rfl);rw[this];rfl
  |true=>
  simp only[adH,adA,acn];cases bn8 with
  |true=>
   have:b9=true:=(by rw[h9];rfl);rw[this];rfl
  |false=>
  simp only[adQ,adS,adA];by_cases MO:nm2=nm
  ·rw[adv MO,←e9,py,←e10];have:b9=false:=(by rw[h9,MO];simp);rw[this];cases List.isPrefixOf [62] r9 with
   |false=>rfl
   |true=>
   simp only[adH,adB];refine⟨rfl,trivial,?_⟩;rcases fH yU h2 h3 ks with g|g
   ·rcases h7 with h7|⟨h7,h8⟩
    ·left;rw[←h7];exact g
    right;simp only[Tree.My,h7,h8,Bool.or_true,ad8]
   exact .inr (g ks y.1)
  rw[ag8 MO];have:b9=true:=by rw[h9];simp[MO]
  rw[this];rfl
 cases MO:(nm2==nm) with
 |true=>
  simp only[↓aX,mX,seval];refine a7 (l:= .par 0) (Yr r8 (b6|| !Yy||bn8) (by omega)) (by simp[aY,e7,iH]) (by simp[ae]) ?_;rintro x1 jm ⟨rfl,rfl⟩ _ _ _;have hc9:=ru isSp r8;simp only[↓aX,mX,seval];refine a7 (l:= .par 0) (Uk (r8.dropWhile isSp) [62] (b6|| !Yy||bn8)) (by simp[aY,e7,iH]) (by simp[ae]) ?_;rintro x1 jm rfl _ _ _;have Xa:=pR [62] (r8.dropWhile isSp);simp only[↓aX,mX,seval,norm,dC,uu];refine⟨_,last (b6|| !Yy||bn8) (by rw[MO];simp) _ _ hc9 Xa rfl rfl,by simp[AV.aB,ah],by simp[AV.aB,ah],rfl,by simp[ae]⟩
 |false=>
 simp only[↓aX,mX,seval];refine a7 (l:= .par 0) (Yr r8 true (by omega)) (by simp[aY,e7,iH]) (by simp[ae]) ?_;rintro x1 jm ⟨rfl,rfl⟩ _ _ _;have hc9:=ru isSp r8;simp only[↓aX,mX,seval];refine a7 (l:= .par 0) (Uk (r8.dropWhile isSp) [62] true) (by simp[aY,e7,iH]) (by simp[ae]) ?_;rintro x1 jm rfl _ _ _;have Xa:=pR [62] (r8.dropWhile isSp);simp only[↓aX,mX,seval,norm,dC,uu];refine⟨_,last true (by rw[MO];simp) _ _ hc9 Xa rfl rfl,by simp[AV.aB,ah],by simp[AV.aB,ah],rfl,by simp[ae]⟩
end

def aco (d:Nat) (s:Bs) (b:Bool) (q:Bs×List Tree×Bool):Prop:=er q.2.1+3*q.1.length≤3*s.length+(if q.2.2 then 1 else 0)∧(b=true→q.2.2=true) ∧
 (b=false→∃l0,(q.2.1=l0∨(sj q.2.1=true∧sj l0=true))∧if q.2.2 then iQ (dy d) s=none else iQ (dy d) s=(iQ (dy d) q.1).map fun y=>(l0++y.1,y.2))
def qQ {c:UInt8} {q t r:Bs} (hc:c≠60) (h:cC false (c::q)=some (t,r)):r.length<(c::q).length:=by
 have hl:=xX _ _ _ _ (adw _) h;have ht:t≠[]:=by
  rw[cC,ag8 (by simp[hc])] at h;split at h
  ·split at h
   ·obtain⟨y,_,h2⟩:=ag4.1 h;simp only[adJ] at h2;rw[←h2.1];simp
   cases h
  split at h
  ·cases h
  obtain⟨y,_,h2⟩:=ag4.1 h;simp only[adJ] at h2;rw[←h2.1];simp
 have:0<t.length:=afs.2 ht;omega
section
variable {P:Program} {G:Nat→Option (List IV)}
def mC (fj ca bL:Nat):AC:=
(ay [oQ 4] (ay [oQ 5] (.gh (.own 5 4) (.seq (.block 0 (.loop (.seq (ay [af 6 0,aE 7 (.dc (.t 6)),b7 8 7 0,cS 9 8,aE 10 (.bin .neq (.t 9) (.c (.str []))),af 11 10,eJ 12 11 0,eP 13 11 (.dc (.t 12)),iu 14 11 13 1,ir 15 11 14,eP 16 11 (.not (.t 15)),l7 17 11 16,af 18 17,eJ 19 18 0,eP 20 18 (.dc (.t 19)),iu 21 18 20 0,ir 22 18 21,eP 23 18 (.call fj [(.t 22),(.c (.str [60,47]))]),eP 24 18 (.not (.t 23)),l7 25 18 24] (.cond (.t 25) .skip (.exit 0))) (.block 1 (ay [af 26 0,aE 27 (.dc (.t 26)),b7 28 27 0,cS 29 28,aE 30 (.vd (.t 29) (ij 0)),aE 31 (.bin .eql (.t 30) (.c (.int .u8 60)))] (.cond (.t 31) (.ec [af 32 5,af 33 0,af 34 1,aE 35 (.call ca [(.t 33),(.t 34)]),aE 36 (.lits 1 4 [(.bool false),(.str []),.nil0,.nil0] [(0,(.t 35))]),aE 37 (.app (.t 32) (.t 36) 4 72),af 5 37]) (.ec [af 38 5,af 39 0,aE 40 (.call bL [(.t 39),(vC false)]),aE 41 (.oa [(.bool false),(.str []),.nil0,.nil0] [(0,(1,(vC true))),(1,(1,(.t 40)))]),aE 42 (.lits 1 4 [(.bool false),(.str []),.nil0,.nil0] [(0,(.t 41))]),aE 43 (.app (.t 38) (.t 42) 4 72),af 5 43]))))))) (.gh (.Ch (.loc 5) 5) (ay [af 44 5,af 4 44] .ret))))))
def Xb {cX fj ca bL:Nat} (hF:an P G cX=some (45,[(none,4)],(mC fj ca bL).bare))
  (hP:∀s t:Bs,aw P G fj [.str s,.str t] (.bool (t.isPrefixOf s)))
  (hT:∀(v:Bool) (s:Bs) (b:Bool),s.length≤B→ez P G bL [.ptr (.par 0) 2 0 0,.bool v] (gE s b) (CV v s b))
  (d:Nat) (hE:∀(s:Bs) (b:Bool),s.length≤B→ez P G ca [.ptr (.par 0) 2 0 0,.int .i64 (9 - d:Int)] (gE s b) (FJ d s b))
  (s:Bs) (hs:s.length≤B) (b:Bool) :
  ez P G cX [.ptr (.par 0) 2 0 0,.int .i64 (9 - d:Int)] (gE s b) (yT d s b):=by
 refine ft hF (by simp) (by simp[ah,AV.aB]) (by simp[ah,AV.aB]) ?_;have nM:B=1073741824:=rfl;unfold mC;simp only[↓aX,mX,seval,kY];refine ki (σ:={q:Bs×List Tree×Bool // aco d s b q}) (fun _=>[.par 0,.loc 5]) (fun _ _=>false)
  (fun q=>[(0,.ptr (.par 0) 2 0 0),(1,.int .i64 (9 - d:Int)),(5,.sl (.loc 5) 4 0 q.1.2.1.length)])
  (fun q=>[(.par 0,⟨2,[gE q.1.1 q.1.2.2]⟩),(.loc 5,⟨4,ar (eR q.1.2.1)⟩)]) (fun q=>2*q.1.1.length+(if q.1.2.2 then 0 else 1)) ⟨(s,[],b),by simp[er],fun h=>h,fun h=>⟨[],.inl rfl,?_⟩⟩ (fun _=>rfl) (fun q=>by simp[ah,AV.aB]) ?_ ⟨[],?_⟩ ?_
 ·simp only[h,adQ,adS];cases iQ (dy d) s<;>simp
 ·intro q w hw cs sf z hz;simp only[adz,adG,adO] at hw;rcases hw with rfl|rfl
  ·simp only[adr] at sf;subst sf;simp[ah,AV.aB] at hz
  rw[bT sf] at hz;simp at hz
 ·refine⟨?_,?_,?_,by simp[bZ],by simp[bZ]⟩
  ·intro l hf hu;left;cases l<;>simp[Lb.entry] at hf;rename_i n;by_cases e:n=0
   ·subst e;simp
   exfalso;apply hu;simp[ae,Hp.none,e]
  ·simp[kv,bZ,e7,put,lE]
  simp[qe,bZ,ae,cV,aY,e7,eR,ar]
 rintro⟨⟨r,l,bad⟩,hlen,Eo,z6⟩;simp only at hlen Eo z6;have G8:=jr l;have hbd:l.length≤3*s.length+1:=by split at hlen<;>omega
 have FK:r.length≤s.length:=by split at hlen<;>omega
 have hU:∀d,d≠5→fy (fun _=>false) [(Lb.par 0,⟨2,[gE r bad]⟩),(Lb.loc 5,⟨4,ar (eR l)⟩)] (.loc d)= .unused:=fun d hd=>by rw[jT (by simp[hd])];rfl
 have xc:∀d,d≠0→fy (fun _=>false) [(Lb.par 0,⟨2,[gE r bad]⟩),(Lb.loc 5,⟨4,ar (eR l)⟩)] (.par d)= .unused:=fun d hd=>by rw[jT (by simp[hd])];rfl
 have nh:fy (fun _=>false) [(Lb.par 0,⟨2,[gE r bad]⟩),(Lb.loc 5,⟨4,ar (eR l)⟩)] (.par 0)= .live ⟨2,[gE r bad]⟩:=dm.2 (by simp[kx,ae]);have zo:fy (fun _=>false) [(Lb.par 0,⟨2,[gE r bad]⟩),(Lb.loc 5,⟨4,ar (eR l)⟩)] (.loc 5)= .live ⟨4,ar (eR l)⟩:=dm.2 (by simp[kx,ae]);simp only;generalize fy (fun _=>false) [(Lb.par 0,⟨2,[gE r bad]⟩),(Lb.loc 5,⟨4,ar (eR l)⟩)]=H0 at *;have fin:(bad=false→iQ (dy d) r=some ([],r))→yT d s b (.list (eR l)) (gE r bad):=by
  intro h4;refine⟨l,r,bad,rfl,rfl,by split at hlen<;>omega,Eo,fun hb=> ?_⟩;obtain⟨l0,h1,h2⟩:=z6 hb;cases bad with
  |true=>simp only[adH] at h2;rw[h2]
  |false=>
  simp only[adQ,adS,h4 rfl,adB,adN] at h2;rw[h2];exact⟨rfl,rfl,h1⟩
 simp only[↓aX,mX,seval,nh]
 match r,hlen,z6,nh,fin,FK with
 |[],hlen,z6,nh,fin,FK=>
  simp only[↓aX,mX,seval,show(([]:Bs)==[])=true from rfl,adL];refine⟨4,eR l,0,l.length,rfl,zo,by rw[bx];omega,Cm l,?_⟩;rw[ad1,ads (by rw[bx];exact adw _)];exact⟨_,fin (fun _=>by rw[iQ]),rfl,by simp[ah,AV.aB],rfl,by simp[ae,nh]⟩
 |c::q,hlen,z6,nh,fin,FK=>
  simp only[↓aX,mX,seval,show((c::q:Bs)==[])=false from rfl,adI,nh];cases bad with
  |true=>
   simp only[↓aX,mX,seval,adL];refine⟨4,eR l,0,l.length,rfl,zo,by rw[bx];omega,Cm l,?_⟩;rw[ad1,ads (by rw[bx];exact adw _)];exact⟨_,fin (fun h=>by cases h),rfl,by simp[ah,AV.aB],rfl,by simp[ae,nh]⟩
  |false=>
  have Uj:b=false:=by cases b with|true=>exact absurd (Eo rfl) (by simp)|false=>rfl
  obtain⟨l0,mD,tU⟩:=z6 Uj;simp only[adQ,adS] at tU hlen;simp only[↓aX,mX,seval,adI,nh];refine aq (hP (c::q) [60,47]) ?_;cases Sb:List.isPrefixOf [60,47] (c::q) with
  |true=>
   simp only[↓aX,mX,seval,adL];refine⟨4,eR l,0,l.length,rfl,zo,by rw[bx];omega,Cm l,?_⟩;rw[ad1,ads (by rw[bx];exact adw _)];exact⟨_,fin (fun _=>by rw[iQ,adv Sb]),rfl,by simp[ah,AV.aB],rfl,by simp[ae,nh]⟩
  |false=>
  have c60:((c.toNat:Int)==60)=(c==60):=cI c 60 (by decide);have hnp:¬List.isPrefixOf [60,47] (c::q)=true:=by rw[Sb];simp
  simp only[↓aX,mX,seval,adI,nh,show((0:Int)).toNat=0 from rfl,aem,c60];have ik:∀(t t0:Tree),(t=t0∨(t.My=true∧t0.My=true))→(l++[t]=l0++[t0]∨(sj (l++[t])=true∧sj (l0++[t0])=true)):=by
   intro t t0 h;simp only[FI,sj,Bool.or_false];rcases mD with h1|⟨h1,h2⟩
   ·rcases h with h|⟨h3,h4⟩
    ·left;rw[h1,h]
    right;rw[h3,h4];simp
   right;rw[h1,h2];simp
  by_cases HV:c=60
  ·rw[show(c==60)=true by simp[HV]];simp only[↓aX,mX,seval];refine a7 (l:= .par 0) (hE (c::q) false (by omega)) (by simp[aY,e7,iH]) (by simp[nh]) ?_;rintro x1 jm ⟨t,r',b',rfl,rfl,GK,oU,BQ,_,oP⟩ _ _ _;obtain⟨BR,hw4⟩:=BQ q (by rw[HV]);have oP:=oP rfl;simp only[↓aX,mX,seval,Tree.av];rw[gU 4 72 37 5 (eR l) (.agg [.bool t.text,.str t.s,.list (dA t.attrs),.list (eR t.kids)]) (by simp[ae,zo]) (bx l) rfl (by intro z hz cs;simp only[IV.cells,adz,adG,adO] at hz;rcases hz with rfl|rfl|rfl|rfl<;>simp) (by omega) (by decide) (by decide) (by simp[ae,hU 37 (by decide)])];simp only[↓aX,mX,seval];refine⟨⟨(r',l++[t],b'),?_,fun(h:b=true)=>(by rw[Uj] at h;cases h),fun _=> ?_⟩,?_,[(.loc 5,.loc 37)],?_,?_,?_,by simp[bZ],?_⟩
   ·simp only[jL,er];split<;>omega
   ·cases oS:dy d (c::q) with
    |none=>
     rw[oS] at oP;refine⟨l0++[t],ik t t (.inl rfl),?_⟩;simp only[oP,adH];rw[tU,iQ,ag8 hnp,adv HV,oS];rfl
    |some y=>
     rw[oS] at oP;obtain⟨rfl,rfl,h7⟩:=oP;refine⟨l0++[y.1],ik t y.1 h7,?_⟩;simp only[adQ,adS];rw[tU]
     conv=>lhs;rw[iQ,ag8 hnp,adv HV,oS]
     simp only;rw[agK hw4];cases iQ (dy d) y.2 with
     |none=>rfl
     |some z=>simp only[adB,adV,afS]
   ·simp only;cases b'<;>simp at hw4 ⊢<;>omega
   ·intro z hf hu;left;cases z<;>simp[Lb.entry] at hf;rename_i n;by_cases e0:n=0
    ·subst e0;simp
    exfalso;apply hu;simp[ae,e0,xc n e0]
   ·simp[kv,e7,bZ,put]
   ·refine⟨by simp[bZ,cV,aY,e7,ae],by simp[bZ,b5,ae,ob,Tree.Cl,Tree.cs,Tree.text,Tree.s,Tree.attrs,Tree.kids,dA,eR],trivial⟩
   intro z hz;simp only[adz,adG,adO] at hz;rcases hz with rfl|rfl
   ·simp[bZ]
   simp[bZ,Lb.fresh,Lb.entry]
  rw[show(c==60)=false by simp[HV]];simp only[↓aX,mX,seval];refine a7 (l:= .par 0) (hT false (c::q) false (by omega)) (by simp[aY,e7,iH]) (by simp[nh]) ?_;rintro x1 jm ⟨t,r',b',rfl,rfl,GK,_,oP⟩ _ _ _;have oP:=oP rfl;simp only[↓aX,mX,seval];rw[gU 4 72 43 5 (eR l) (.agg [.bool true,.str t,.list [],.list []]) (by simp[ae,zo]) (bx l) rfl (by intro z hz cs;simp only[IV.cells,adz,adG,adO] at hz;rcases hz with rfl|rfl|rfl|rfl<;>simp) (by omega) (by decide) (by decide) (by simp[ae,hU 43 (by decide)])];simp only[↓aX,mX,seval];refine⟨⟨(r',l++[(Tree.mk true t [] [])],b'),?_,fun(h:b=true)=>(by rw[Uj] at h;cases h),fun _=> ?_⟩,?_,[(.loc 5,.loc 43)],?_,?_,?_,by simp[bZ],?_⟩
  ·simp only[jL,er,Tree.wt,j0];cases JH:cC false (c::q) with
   |none=>rw[JH] at oP;rw[oP];simp only[adH];omega
   |some y=>
   rw[JH] at oP;obtain⟨rfl,rfl⟩:=oP;have:=qQ HV JH;simp only[adQ,adS];omega
  ·cases JH:cC false (c::q) with
   |none=>
    rw[JH] at oP;refine⟨l0++[.mk true t [] []],ik _ _ (.inl rfl),?_⟩;simp only at oP;simp only[oP,adH];rw[tU,iQ,ag8 hnp,ag8 HV,JH];rfl
   |some y=>
    rw[JH] at oP;obtain⟨rfl,rfl⟩:=oP;refine⟨l0++[.mk true t [] []],ik _ _ (.inl rfl),?_⟩;simp only[adQ,adS];rw[tU]
    conv=>lhs;rw[iQ,ag8 hnp,ag8 HV,JH]
    simp only[adB];rw[agK (qQ HV JH)];cases iQ (dy d) r' with
    |none=>rfl
    |some z=>simp only[adB,adV,afS]
  ·show 2*r'.length+(if b'=true then 0 else 1)<2*(c::q).length+1;cases JH:cC false (c::q) with
   |none=>rw[JH] at oP;simp only at oP;simp only[oP,adH];omega
   |some y=>
   rw[JH] at oP;obtain⟨rfl,rfl⟩:=oP;have:=qQ HV JH;simp only[adQ,adS];omega
  ·intro z hf hu;left;cases z<;>simp[Lb.entry] at hf;rename_i n;by_cases e0:n=0
   ·subst e0;simp
   exfalso;apply hu;simp[ae,e0,xc n e0]
  ·simp[kv,e7,bZ,put]
  ·refine⟨by simp[bZ,cV,aY,e7,ae],by simp[bZ,b5,ae,ob,Tree.Cl,Tree.cs,Tree.text,Tree.s,Tree.attrs,Tree.kids,dA,eR],trivial⟩
  intro z hz;simp only[adz,adG,adO] at hz;rcases hz with rfl|rfl
  ·simp[bZ]
  simp[bZ,Lb.fresh,Lb.entry]
end
end Go.Am
