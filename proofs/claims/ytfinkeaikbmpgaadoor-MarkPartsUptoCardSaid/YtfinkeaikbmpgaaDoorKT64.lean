import Derived.Test.YtfinkeaikbmpgaaDoorKT61
set_option linter.unusedSimpArgs false
set_option linter.unusedVariables false
set_option linter.unnecessarySimpa false
set_option linter.defProp false
/- Reading: elements and what is in them. -/
namespace Go.Am
open Go Go.RowKit
def tz {P:Program} {G:Nat→Option (List IV)} {f:Nat} {n:Nat} {rs:List RO} {ac:AC} {args cs:List AV} {R:AV→List AV→Prop}
  (hF:aw P G f=some (n,rs,ac.bare)) (hn:args.length≤n) (ha:∀l∈ah args,l= .par 0) (hc:ah cs=[])
  (hg:go ⟨P,G,n⟩ (fX rs fun x H'=>∃dF,R (norm x) dF∧x.an=[]∧ah dF=[]∧dF.length=cs.length∧H' (.par 0)= .live ⟨cs.length,[dF]⟩) [.code ac] (jP args) (Oj cs)):cR P G f args cs R:=by
 have h:=dw (R:=fun x c=>R (norm x) c) hF hn ha hc hg;refine⟨h.1,h.2.1,h.2.2.res.mono ?_⟩;rintro x H ⟨y,⟨dF,h1,h2,h3⟩,rfl⟩;exact⟨dF,h1,by rw[nV];exact h2,h3⟩
def Bq {S:St} {F:List Lb} {f:Nat} {args cb:List AV} {cs:List AV} {R:AV→List AV→Prop} {H:Hp} {k:AV→Hp→Prop} {u:Tw k} {l:Lb} (h:cR S.P S.G f cb cs R)
  (ha:args=bu (ft l) cb) (hl:H l= .live ⟨cs.length,[cs]⟩) (hF:l.iQ∉F) {x0:AV} {wy:List AV} (h0:R x0 wy) (h1:x0.an=[]) (h2:ah wy=[]) (h3:wy.length=cs.length)
  (hk:∀x dF,R x dF→x.an=[]→ah dF=[]→dF.length=cs.length→k x (bD H l (.live ⟨cs.length,[dF]⟩))):DX S F f args H k u:=by
 refine⟨fun x H'=>∃dF,R x dF∧x.an=[]∧ah dF=[]∧dF.length=cs.length∧H'=bD H l (.live ⟨cs.length,[dF]⟩),?_,⟨x0,_,wy,h0,h1,h2,h3,rfl⟩,?_⟩
 ·exact bj (k:=fun x H'=>∃dF,R x dF∧x.an=[]∧ah dF=[]∧dF.length=cs.length∧H'=bD H l (.live ⟨cs.length,[dF]⟩)) (u:= .mk) h ha hl (fun x dF g1 g2 g3 g4=>⟨dF,g1,g2,g3,g4,rfl⟩)
 rintro x H' ⟨dF,g1,g2,g3,g4,rfl⟩;refine⟨fun q hq=> ?_,hk x dF g1 g2 g3 g4⟩;rw[aq _ _ (fun e=>hF (by rw[e] at hq;exact hq))]
def yK (l:List Attr) (a:Attr):(gF l a).length=l.length+1:=by
 induction l with
 |nil=>rfl
 |cons b r ih=>
 unfold gF;split
 ·rfl
 simp[ih]
def pE (l:List Attr):(cu l).length=l.length:=by
 have key:∀(l acc:List Attr),(l.foldl gF acc).length=acc.length+l.length:=by
  intro l;induction l with
  |nil=>intro acc;rfl
  |cons a r ih=>intro acc;simp only[W6,ih,yK,Vo];omega
 unfold cu;rw[key];simp
mutual
def Tree.v8:Tree→Bool
 | .mk _ _ as ks=>decide (20<as.length)||jR ks
def jR:List Tree→Bool
 |[]=>false
 |x::r=>x.v8||jR r
end
theorem rQ:∀l m:List Tree,jR (l++m)=(jR l||jR m)
 |[],m=>by simp[jR]
 |x::r,m=>by simp[jR,rQ r m,Bool.or_assoc]
def rR (d:Nat) (s:Bs) (b:Bool) (x:AV) (cs:List AV):Prop:=∃(t:Tree) (r:Bs) (b':Bool),x=t.av∧cs=cG r b'∧t.wt≤3*s.length+2∧r.length≤s.length ∧
 (∀q,s=60::q→t.wt+3*r.length≤3*s.length∧r.length<s.length)∧(b=true→b'=true) ∧
 (b=false→match bG d s with
  |some y=>b'=false∧r=y.2∧(t=y.1∨(t.v8=true∧y.1.v8=true))
  |none=>b'=true)
def pF (d:Nat) (s:Bs) (b:Bool) (x:AV) (cs:List AV):Prop:=∃(l:List Tree) (r:Bs) (b':Bool),x= .list (dq l)∧cs=cG r b'∧dE l+3*r.length≤3*s.length+1∧(b=true→b'=true) ∧
 (b=false→match dM (bG d) s with
  |some y=>b'=false∧r=y.2∧(l=y.1∨(jR l=true∧jR y.1=true))
  |none=>b'=true)
section
variable {P:Program} {G:Nat→Option (List IV)}
def ek (aP bb b5 aI cj bf:Nat):AC:=
(aM [aQ 4 (.new [(.bool false),(.str []),.nil0,.nil0])] (aM [MR 6 0,aQ 7 (.call aP [(.t 6),(.c (.str [60]))])] (aM [MR 8 0,aQ 9 (.call bb [(.t 8)]),aQ 10 (.sg [(.bool false),(.str []),.nil0,.nil0] [(1,(1,(.t 9)))]),aQ 5 (.new [(.bool false),(.str []),.nil0,.nil0]),gg (.store 4 (.t 5) (.t 10))] (aM [MR 11 0,aQ 12 (.call b5 [(.t 11)]),ep 13 5 2,gg (.store 1 (.t 13) (.t 12))] (.seq (aM [MR 14 0,aQ 15 (.dp (.t 14)),ep 16 15 1,fm 17 16,MR 18 17,gV 19 18 1,iR 20 18 (.bin .gtr (.t 19) (jS 8)),sj 21 18 20] (.cond (.t 21) (aM [MR 22 0,aQ 23 (.dp (.t 22)),ep 24 23 1,gg (.store 1 (.t 24) (me true))] (aM [gz 25 4 5,gg (.store 4 (.t 4) (.t 25))] .ret)) .skip)) (.seq (aM [MR 26 0,aQ 27 (.call aI [(.t 26),(.c (.str [47,62]))])] (.cond (.t 27) (aM [gz 28 4 5,gg (.store 4 (.t 4) (.t 28))] .ret) .skip)) (aM [MR 29 0,aQ 30 (.call aP [(.t 29),(.c (.str [62]))])] (aM [MR 31 0,MR 32 1,eY 33 .add 32 1,aQ 34 (.call cj [(.t 31),(.t 33)]),ep 35 5 3,gg (.store 1 (.t 35) (.t 34))] (aM [MR 36 0,aQ 37 (.call aP [(.t 36),(.c (.str [60,47]))])] (.seq (.seq (.fK [MR 38 0,aQ 39 (.call bb [(.t 38)]),ep 40 5 1,fm 41 40,et 42 .neq 39 41] [[],[0],[],[2],[1,3]] [.no,(.p_ [(.loc 5)]),.no,.rw [.loc 5] [],.no]) (.cond (.t 42) (.cq [MR 43 0,aQ 44 (.dp (.t 43)),ep 45 44 1,gg (.store 1 (.t 45) (me true))]) .skip)) (aM [MR 46 0,aQ 47 (.call bf [(.t 46)])] (aM [MR 48 0,aQ 49 (.call aP [(.t 48),(.c (.str [62]))])] (aM [gz 50 4 5,gg (.store 4 (.t 4) (.t 50))] .ret)))))))))))))
def yL {aW aP bb b5 aI cj bf:Nat} (hF:aw P G aW=some (51,[((some (some 4)),4)],(ek aP bb b5 aI cj bf).bare))
  (HK:∀(s:Bs) (b:Bool),s.length≤B→cR P G bf [.ptr (.par 0) 2 0 0] (cG s b) fun x cs=>x= .bool (decide ((s.dropWhile isSp).length<s.length))∧cs=cG (s.dropWhile isSp) b)
  (hN:∀(s:Bs) (b:Bool),s.length≤B→cR P G bb [.ptr (.par 0) 2 0 0] (cG s b) fun x cs=>x= .str (s.takeWhile bz)∧cs=cG (s.dropWhile bz) (b||(decide (s.takeWhile bz=[])||decide (8<(s.takeWhile bz).length))))
  (Cn:∀(s p:Bs) (b:Bool),cR P G aP [.ptr (.par 0) 2 0 0,.str p] (cG s b) fun x cs=>cs=cG (cZ p s) (b|| !p.isPrefixOf s))
  (Km:∀(s p:Bs) (b:Bool),cR P G aI [.ptr (.par 0) 2 0 0,.str p] (cG s b) fun x cs=>x= .bool (p.isPrefixOf s)∧cs=cG (cZ p s) b)
  (hA:∀(s:Bs) (b:Bool),s.length≤B→cR P G b5 [.ptr (.par 0) 2 0 0] (cG s b) (qw s b))
  (d:Nat) (hd:d≤9) (hK:∀d',d=d'+1→∀(s:Bs) (b:Bool),s.length≤B→cR P G cj [.ptr (.par 0) 2 0 0,.int .i64 (9 - d':Int)] (cG s b) (pF d' s b))
  (s:Bs) (hs:s.length≤B) (b:Bool) :
  cR P G aW [.ptr (.par 0) 2 0 0,.int .i64 (9 - d:Int)] (cG s b) (rR d s b):=by
 refine tz hF (by simp) (by simp[ah,AV.an]) (by simp[ah,AV.an]) ?_;have zo:B=1073741824:=rfl;unfold ek;simp only[↓aX,mX,seval,Oj];refine bj (l:= .par 0) (Cn s [60] b) (by simp[bu,bJ,ft]) (by simp[ae]) ?_;rintro x1 dF rfl _ _ _;have H5:=ic [60] s;have Jp:∀q,s=60::q→cZ [60] s=q:=by rintro q rfl;simp[cZ,List.isPrefixOf]
 have u6:=gU [60] s;generalize List.isPrefixOf [60] s=E7 at *;generalize cZ [60] s=r1 at *;simp only[↓aX,mX,seval];refine bj (l:= .par 0) (hN r1 (b|| !E7) (by omega)) (by simp[bu,bJ,ft]) (by simp[ae]) ?_;rintro x1 dF ⟨rfl,rfl⟩ _ _ _;have Cv:=jC bz r1;have B2:=oj r1;generalize r1.takeWhile bz=nm at *;generalize r1.dropWhile bz=r2 at *;generalize (decide (nm=[])||decide (8<nm.length))=bn at *;simp only[↓aX,mX,seval];refine bj (l:= .par 0) (hA r2 (b|| !E7||bn) (by omega)) (by simp[bu,bJ,ft]) (by simp[ae]) ?_;rintro x1 dF ⟨as,r3,b3,rfl,rfl,MI,HM,Kt⟩ _ _ _;simp only[↓aX,mX,seval];have yM:b=false→if b3 then kO s=none else ∃mZ,kO s=some (nm,mZ,r3)∧as.length=mZ.length∧(mZ.length≤20→as=cu mZ):=by
  intro hb;unfold kO;rw[u6];cases E7 with
  |false=>rw[HM (by simp[hb])];simp
  |true=>
  simp only[Vp,U7,B2];cases bn with
  |true=>rw[HM (by simp)];simp
  |false=>
  have h3:=Kt (by simp[hb]);cases HN:ea r2 with
  |none=>rw[HN] at h3;simp only at h3;rw[h3];simp[HN]
  |some y=>
  rw[HN] at h3;obtain⟨rfl,rfl,e3,e4⟩:=h3;simp[HN];exact⟨e3,e4⟩
 have GR:b=true→b3=true:=fun h=>HM (by simp[h]);clear Kt HM;have bI:∀q,s=60::q→nm.length+r2.length+1=s.length:=by
  intro q hq;rw[←Jp q hq] at hq;rw[hq];simp;omega
 have stop:(b=false→bG d s=none)→rR d s b (Tree.av (.mk false nm as [])) (cG r3 true):=by
  intro h2;refine⟨_,r3,true,rfl,rfl,?_,by omega,fun q hq=> ?_,fun _=>rfl,fun hb=>by rw[h2 hb]⟩
  ·simp only[Tree.wt,dE];omega
  have:=bI q hq;simp only[Tree.wt,dE];omega
 have LM:bG 0 s=none:=rfl;have GS:∀d',bG (d'+1) s=(kO s).bind fun x=>
  if [47,62].isPrefixOf x.2.2 then some (.mk false x.1 (cu x.2.1) [],x.2.2.drop 2)
  else(iA [62] x.2.2).bind fun r=>(dM (bG d') r).bind fun y=>(ka x.1 y.2).map fun q=>(.mk false x.1 (cu x.2.1) y.1,q):=fun _=>rfl
 cases b3 with
 |true=>
  simp only[↓aX,mX,seval,norm,fi,kj];exact⟨_,stop (fun hb=>by
   have h:=yM hb;simp only[Vp] at h;cases d with
   |zero=>rfl
   |succ d=>rw[GS,h];rfl),by simp[AV.an,ah],by simp[AV.an,ah],rfl,by simp[ae]⟩
 |false=>
 simp only[↓aX,mX,seval,Ve];cases d with
 |zero=>
  simp only[↓aX,mX,seval,norm,fi,kj,show((9:Int) - ((0:Nat):Int)>8)=True by simp,Xg];exact⟨_,stop (fun hb=>rfl),by simp[AV.an,ah],by simp[AV.an,ah],rfl,by simp[ae]⟩
 |succ d=>
 have hK:=hK d rfl;have hw:IntKind.i64.wrap ((9:Int) - ((d+1:Nat):Int)+1)=(9:Int) - (d:Int):=by rw[wrap64 (by omega) (by omega)];omega
 simp only[↓aX,mX,seval,show((9:Int) - ((d+1:Nat):Int)>8)=False by simp;omega,XG];refine bj (l:= .par 0) (Km r3 [47,62] false) (by simp[bu,bJ,ft]) (by simp[ae]) ?_;rintro x1 dF ⟨rfl,rfl⟩ _ _ _;have ke:∀mZ,kO s=some (nm,mZ,r3)→bG (d+1) s=if [47,62].isPrefixOf r3 then some (.mk false nm (cu mZ) [],r3.drop 2)
   else(iA [62] r3).bind fun r=>(dM (bG d) r).bind fun y=>(ka nm y.2).map fun q=>(.mk false nm (cu mZ) y.1,q):=by
  intro mZ h;rw[GS,h];rfl
 have j0:∀mZ:List Attr,as.length=mZ.length→(mZ.length≤20→as=cu mZ)→∀ks:List Tree,(Tree.mk false nm as ks= .mk false nm (cu mZ) ks)∨(∀k1 k2,(Tree.mk false nm as k1).v8=true∧(Tree.mk false nm (cu mZ) k2).v8=true):=by
  intro mZ h1 h2 ks;by_cases h:mZ.length≤20
  ·left;rw[h2 h]
  right;intro k1 k2;have h3:(cu mZ).length=mZ.length:=(pE mZ);simp only[Tree.v8,Wg,Vn];omega
 cases HO:[47,62].isPrefixOf r3 with
 |true=>
  have wJ:cZ [47,62] r3=r3.drop 2:=by unfold cZ;rw[HO];rfl
  rw[wJ];simp only[↓aX,mX,seval,norm,fi,kj];refine⟨cG (r3.drop 2) false,⟨.mk false nm as [],r3.drop 2,false,rfl,rfl,?_,by simp;omega,fun q hq=> ?_,GR,fun hb=> ?_⟩,by simp[AV.an,ah],by simp[AV.an,ah],rfl,by simp[ae]⟩
  ·simp only[Tree.wt,dE];omega
  ·have:=bI q hq;simp only[Tree.wt,dE,W_];omega
  have h:=yM hb;simp only[Vl,Vk] at h;obtain⟨mZ,h1,h2,h3⟩:=h;rw[ke mZ h1,HO];refine⟨rfl,rfl,?_⟩;rcases j0 mZ h2 h3 [] with h|h
  ·exact .inl h
  exact .inr (h [] [])
 |false=>
 have wJ:cZ [47,62] r3=r3:=by unfold cZ;rw[HO];rfl
 rw[wJ];simp only[↓aX,mX,seval];refine bj (l:= .par 0) (Cn r3 [62] false) (by simp[bu,bJ,ft]) (by simp[ae]) ?_;rintro x1 dF rfl _ _ _;have MJ:=ic [62] r3;have LN:=gU [62] r3;rw[Yd];generalize List.isPrefixOf [62] r3=Ku at *;generalize cZ [62] r3=r5 at *;simp only[↓aX,mX,seval,hw];refine bj (l:= .par 0) (hK r5 (!Ku) (by omega)) (by simp[bu,bJ,ft]) (by simp[ae]) ?_;rintro x1 dF ⟨ks,r6,b6,rfl,rfl,MK,LO,LP⟩ _ _ _;simp only[↓aX,mX,seval];refine bj (l:= .par 0) (Cn r6 [60,47] b6) (by simp[bu,bJ,ft]) (by simp[ae]) ?_;rintro x1 dF rfl _ _ _;have ML:=ic [60,47] r6;have LQ:=gU [60,47] r6;generalize List.isPrefixOf [60,47] r6=E8 at *;generalize cZ [60,47] r6=r7 at *;have MM:r6.length≤r5.length:=by have:=eZ ks;omega
 simp only[↓aX,mX,seval];refine⟨rfl,?_⟩;refine Bq (l:= .par 0) (hN r7 (b6|| !E8) (by omega)) (by simp[bu,bJ,ft]) (by simp[ae]) (by simp[pL]) ⟨rfl,rfl⟩ rfl (by simp[AV.an,ah]) rfl ?_;rintro x1 dF ⟨rfl,rfl⟩ _ _ _;have MN:=jC bz r7;have Jq:=oj r7;generalize r7.takeWhile bz=GU at *;generalize r7.dropWhile bz=r8 at *;generalize (decide (GU=[])||decide (8<GU.length))=GV at *;simp only[↓aX,mX,seval];have last:∀b9:Bool,b9=(b6|| !E8||GV|| !(GU==nm))→∀r9 GW:Bs,r9.length≤r8.length→GW.length≤r9.length→r9=r8.dropWhile isSp→GW=cZ [62] r9→rR (d+1) s b (Tree.av (.mk false nm as ks)) (cG GW (b9|| !List.isPrefixOf [62] r9)):=by
  rintro b9 h9 r9 GW g9 g10 e9 GX;refine⟨_,GW,_,rfl,rfl,?_,by omega,fun q hq=> ?_,fun hb=> ?_,fun hb=> ?_⟩
  ·simp only[Tree.wt];omega
  ·have:=bI q hq;simp only[Tree.wt];omega
  ·have:=GR hb;cases this
  have h:=yM hb;simp only[Vl,Vk] at h;obtain⟨mZ,h1,h2,h3⟩:=h;rw[ke mZ h1,HO];simp only[Vl,Vk];rw[LN];cases Ku with
  |false=>
   have:b9=true:=(by rw[h9,LO rfl];rfl);rw[this];rfl
  |true=>
  simp only[Vp,U7];have h6:=LP rfl;cases Kv:dM (bG d) r5 with
  |none=>
   rw[Kv] at h6;simp only at h6;have:b9=true:=(by rw[h9,h6];rfl);rw[this];rfl
  |some y=>
  rw[Kv] at h6;obtain⟨rfl,rfl,h7⟩:=h6;simp only[U7];unfold ka;rw[LQ];cases E8 with
  |false=>
   have:b9=true:=(by rw[h9];rfl);rw[this];rfl
  |true=>
  simp only[Vp,U7,Jq];cases GV with
  |true=>
   have:b9=true:=(by rw[h9];rfl);rw[this];rfl
  |false=>
  simp only[Vl,Vk,U7];by_cases wM:GU=nm
  ·rw[Vd wM,←e9,gU,←GX];have:b9=false:=(by rw[h9,wM];simp);rw[this];cases List.isPrefixOf [62] r9 with
   |false=>rfl
   |true=>
   simp only[Vp,Vf];refine⟨rfl,trivial,?_⟩;rcases j0 mZ h2 h3 ks with g|g
   ·rcases h7 with h7|⟨h7,h8⟩
    ·left;rw[←h7];exact g
    right;simp only[Tree.v8,h7,h8,Bool.or_true,and_self]
   exact .inr (g ks y.1)
  rw[U8 wM];have:b9=true:=by rw[h9];simp[wM]
  rw[this];rfl
 cases wM:(GU==nm) with
 |true=>
  simp only[↓aX,mX,seval];refine bj (l:= .par 0) (HK r8 (b6|| !E8||GV) (by omega)) (by simp[bu,bJ,ft]) (by simp[ae]) ?_;rintro x1 dF ⟨rfl,rfl⟩ _ _ _;have Jr:=jf isSp r8;simp only[↓aX,mX,seval];refine bj (l:= .par 0) (Cn (r8.dropWhile isSp) [62] (b6|| !E8||GV)) (by simp[bu,bJ,ft]) (by simp[ae]) ?_;rintro x1 dF rfl _ _ _;have Ep:=ic [62] (r8.dropWhile isSp);simp only[↓aX,mX,seval,norm,fi,kj];refine⟨_,last (b6|| !E8||GV) (by rw[wM];simp) _ _ Jr Ep rfl rfl,by simp[AV.an,ah],by simp[AV.an,ah],rfl,by simp[ae]⟩
 |false=>
 simp only[↓aX,mX,seval];refine bj (l:= .par 0) (HK r8 true (by omega)) (by simp[bu,bJ,ft]) (by simp[ae]) ?_;rintro x1 dF ⟨rfl,rfl⟩ _ _ _;have Jr:=jf isSp r8;simp only[↓aX,mX,seval];refine bj (l:= .par 0) (Cn (r8.dropWhile isSp) [62] true) (by simp[bu,bJ,ft]) (by simp[ae]) ?_;rintro x1 dF rfl _ _ _;have Ep:=ic [62] (r8.dropWhile isSp);simp only[↓aX,mX,seval,norm,fi,kj];refine⟨_,last true (by rw[wM];simp) _ _ Jr Ep rfl rfl,by simp[AV.an,ah],by simp[AV.an,ah],rfl,by simp[ae]⟩
end

def Js (d:Nat) (s:Bs) (b:Bool) (q:Bs×List Tree×Bool):Prop:=dE q.2.1+3*q.1.length≤3*s.length+(if q.2.2 then 1 else 0)∧(b=true→q.2.2=true) ∧
 (b=false→∃l0,(q.2.1=l0∨(jR q.2.1=true∧jR l0=true))∧if q.2.2 then dM (bG d) s=none else dM (bG d) s=(dM (bG d) q.1).map fun y=>(l0++y.1,y.2))
def iP {c:UInt8} {q t r:Bs} (hc:c≠60) (h:bm false (c::q)=some (t,r)):r.length<(c::q).length:=by
 have hl:=mC _ _ _ _ (Va _) h;have ht:t≠[]:=by
  rw[bm,U8 (by simp[hc])] at h;split at h
  ·split at h
   ·obtain⟨y,_,h2⟩:=oA.1 h;simp only[U6] at h2;rw[←h2.1];simp
   cases h
  split at h
  ·cases h
  obtain⟨y,_,h2⟩:=oA.1 h;simp only[U6] at h2;rw[←h2.1];simp
 have:0<t.length:=Wz.2 ht;omega
section
variable {P:Program} {G:Nat→Option (List IV)}
def fc (b7 aW bo:Nat):AC:=
(aM [zi 4] (aM [zi 5] (.gh (.own 5 4) (.seq (.block 0 (.loop (.seq (aM [MR 6 0,aQ 7 (.dp (.t 6)),ep 8 7 0,fm 9 8,aQ 10 (.bin .neq (.t 9) (.c (.str []))),MR 11 10,cU 12 11 0,dW 13 11 (.dp (.t 12)),jn 14 11 13 1,jm 15 11 14,dW 16 11 (.not (.t 15)),jT 17 11 16,MR 18 17,cU 19 18 0,dW 20 18 (.dp (.t 19)),jn 21 18 20 0,jm 22 18 21,dW 23 18 (.call b7 [(.t 22),(.c (.str [60,47]))]),dW 24 18 (.not (.t 23)),jT 25 18 24] (.cond (.t 25) .skip (.exit 0))) (.block 1 (aM [MR 26 0,aQ 27 (.dp (.t 26)),ep 28 27 0,fm 29 28,aQ 30 (.lj (.t 29) (jS 0)),aQ 31 (.bin .eql (.t 30) (.c (.int .u8 60)))] (.cond (.t 31) (.cq [MR 32 5,MR 33 0,MR 34 1,aQ 35 (.call aW [(.t 33),(.t 34)]),aQ 36 (.lits 1 4 [(.bool false),(.str []),.nil0,.nil0] [(0,(.t 35))]),aQ 37 (.app (.t 32) (.t 36) 4 72),MR 5 37]) (.cq [MR 38 5,MR 39 0,aQ 40 (.call bo [(.t 39),(me false)]),aQ 41 (.sg [(.bool false),(.str []),.nil0,.nil0] [(0,(1,(me true))),(1,(1,(.t 40)))]),aQ 42 (.lits 1 4 [(.bool false),(.str []),.nil0,.nil0] [(0,(.t 41))]),aQ 43 (.app (.t 38) (.t 42) 4 72),MR 5 43]))))))) (.gh (.zS (.loc 5) 5) (aM [MR 44 5,MR 4 44] .ret))))))
def Er {cj b7 aW bo:Nat} (hF:aw P G cj=some (45,[(none,4)],(fc b7 aW bo).bare))
  (hP:∀s t:Bs,au P G b7 [.str s,.str t] (.bool (t.isPrefixOf s)))
  (hT:∀(v:Bool) (s:Bs) (b:Bool),s.length≤B→cR P G bo [.ptr (.par 0) 2 0 0,.bool v] (cG s b) (rO v s b))
  (d:Nat) (hE:∀(s:Bs) (b:Bool),s.length≤B→cR P G aW [.ptr (.par 0) 2 0 0,.int .i64 (9 - d:Int)] (cG s b) (rR d s b))
  (s:Bs) (hs:s.length≤B) (b:Bool) :
  cR P G cj [.ptr (.par 0) 2 0 0,.int .i64 (9 - d:Int)] (cG s b) (pF d s b):=by
 refine dw hF (by simp) (by simp[ah,AV.an]) (by simp[ah,AV.an]) ?_;have zo:B=1073741824:=rfl;unfold fc;simp only[↓aX,mX,seval,Oj];refine gb (σ:={q:Bs×List Tree×Bool // Js d s b q}) (fun _=>[.par 0,.loc 5]) (fun _ _=>false)
  (fun q=>[(0,.ptr (.par 0) 2 0 0),(1,.int .i64 (9 - d:Int)),(5,.sl (.loc 5) 4 0 q.1.2.1.length)])
  (fun q=>[(.par 0,⟨2,[cG q.1.1 q.1.2.2]⟩),(.loc 5,⟨4,aB (dq q.1.2.1)⟩)]) (fun q=>2*q.1.1.length+(if q.1.2.2 then 0 else 1)) ⟨(s,[],b),by simp[dE],fun h=>h,fun h=>⟨[],.inl rfl,?_⟩⟩ (fun _=>rfl) (fun q=>by simp[ah,AV.an]) ?_ ⟨[],?_⟩ ?_
 ·simp only[h,Vl,Vk];cases dM (bG d) s<;>simp
 ·intro q w hw cs jB z hz;simp only[Vg,VN,Vy] at hw;rcases hw with rfl|rfl
  ·simp only[Vm] at jB;subst jB;simp[ah,AV.an] at hz
  rw[bU jB] at hz;simp at hz
 ·refine⟨?_,?_,?_,by simp[dn],by simp[dn]⟩
  ·intro l hf hu;left;cases l<;>simp[Lb.entry] at hf;rename_i n;by_cases e:n=0
   ·subst e;simp
   exfalso;apply hu;simp[ae,Hp.none,e]
  ·simp[k_,dn,bJ,put,jP]
  simp[tc,dn,ae,dO,bu,bJ,dq,aB]
 rintro⟨⟨r,l,bad⟩,hlen,qE,nL⟩;simp only at hlen qE nL;have Ij:=eZ l;have Ly:l.length≤3*s.length+1:=by split at hlen<;>omega
 have Jt:r.length≤s.length:=by split at hlen<;>omega
 have hU:∀d,d≠5→ie (fun _=>false) [(Lb.par 0,⟨2,[cG r bad]⟩),(Lb.loc 5,⟨4,aB (dq l)⟩)] (.loc d)= .unused:=fun d hd=>by rw[fE (by simp[hd])];rfl
 have nk:∀d,d≠0→ie (fun _=>false) [(Lb.par 0,⟨2,[cG r bad]⟩),(Lb.loc 5,⟨4,aB (dq l)⟩)] (.par d)= .unused:=fun d hd=>by rw[fE (by simp[hd])];rfl
 have ij:ie (fun _=>false) [(Lb.par 0,⟨2,[cG r bad]⟩),(Lb.loc 5,⟨4,aB (dq l)⟩)] (.par 0)= .live ⟨2,[cG r bad]⟩:=cL.2 (by simp[kl,ae]);have oB:ie (fun _=>false) [(Lb.par 0,⟨2,[cG r bad]⟩),(Lb.loc 5,⟨4,aB (dq l)⟩)] (.loc 5)= .live ⟨4,aB (dq l)⟩:=cL.2 (by simp[kl,ae]);simp only;generalize ie (fun _=>false) [(Lb.par 0,⟨2,[cG r bad]⟩),(Lb.loc 5,⟨4,aB (dq l)⟩)]=H0 at *;have fin:(bad=false→dM (bG d) r=some ([],r))→pF d s b (.list (dq l)) (cG r bad):=by
  intro h4;refine⟨l,r,bad,rfl,rfl,by split at hlen<;>omega,qE,fun hb=> ?_⟩;obtain⟨l0,h1,h2⟩:=nL hb;cases bad with
  |true=>simp only[Vp] at h2;rw[h2]
  |false=>
  simp only[Vl,Vk,h4 rfl,Vf,V5] at h2;rw[h2];exact⟨rfl,rfl,h1⟩
 simp only[↓aX,mX,seval,ij]
 match r,hlen,nL,ij,fin,Jt with
 |[],hlen,nL,ij,fin,Jt=>
  simp only[↓aX,mX,seval,show(([]:Bs)==[])=true from rfl,Vh];refine⟨4,dq l,0,l.length,rfl,oB,by rw[bF];omega,pa l,?_⟩;rw[VU,Vq (by rw[bF];exact Va _)];exact⟨_,fin (fun _=>by rw[dM]),rfl,by simp[ah,AV.an],rfl,by simp[ae,ij]⟩
 |c::q,hlen,nL,ij,fin,Jt=>
  simp only[↓aX,mX,seval,show((c::q:Bs)==[])=false from rfl,Ve,ij];cases bad with
  |true=>
   simp only[↓aX,mX,seval,Vh];refine⟨4,dq l,0,l.length,rfl,oB,by rw[bF];omega,pa l,?_⟩;rw[VU,Vq (by rw[bF];exact Va _)];exact⟨_,fin (fun h=>by cases h),rfl,by simp[ah,AV.an],rfl,by simp[ae,ij]⟩
  |false=>
  have Cm:b=false:=by cases b with|true=>exact absurd (qE rfl) (by simp)|false=>rfl
  obtain⟨l0,LR,ke⟩:=nL Cm;simp only[Vl,Vk] at ke hlen;simp only[↓aX,mX,seval,Ve,ij];refine ay (hP (c::q) [60,47]) ?_;cases yN:List.isPrefixOf [60,47] (c::q) with
  |true=>
   simp only[↓aX,mX,seval,Vh];refine⟨4,dq l,0,l.length,rfl,oB,by rw[bF];omega,pa l,?_⟩;rw[VU,Vq (by rw[bF];exact Va _)];exact⟨_,fin (fun _=>by rw[dM,Vd yN]),rfl,by simp[ah,AV.an],rfl,by simp[ae,ij]⟩
  |false=>
  have GL:((c.toNat:Int)==60)=(c==60):=cI c 60 (by decide);have HP:¬List.isPrefixOf [60,47] (c::q)=true:=by rw[yN];simp
  simp only[↓aX,mX,seval,Ve,ij,show((0:Int)).toNat=0 from rfl,VQ,GL];have cX:∀(t t0:Tree),(t=t0∨(t.v8=true∧t0.v8=true))→(l++[t]=l0++[t0]∨(jR (l++[t])=true∧jR (l0++[t0])=true)):=by
   intro t t0 h;simp only[rQ,jR,Bool.or_false];rcases LR with h1|⟨h1,h2⟩
   ·rcases h with h|⟨h3,h4⟩
    ·left;rw[h1,h]
    right;rw[h3,h4];simp
   right;rw[h1,h2];simp
  by_cases tv:c=60
  ·rw[show(c==60)=true by simp[tv]];simp only[↓aX,mX,seval];refine bj (l:= .par 0) (hE (c::q) false (by omega)) (by simp[bu,bJ,ft]) (by simp[ij]) ?_;rintro x1 dF ⟨t,r',b',rfl,rfl,zO,pU,wB,_,ky⟩ _ _ _;obtain⟨Es,HQ⟩:=wB q (by rw[tv]);have ky:=ky rfl;simp only[↓aX,mX,seval,Tree.av];rw[qg 4 72 37 5 (dq l) (.agg [.bool t.text,.str t.s,.list (cD t.attrs),.list (dq t.kids)]) (by simp[ae,oB]) (bF l) rfl (by intro z hz cs;simp only[IV.cells,Vg,VN,Vy] at hz;rcases hz with rfl|rfl|rfl|rfl<;>simp) (by omega) (by decide) (by decide) (by simp[ae,hU 37 (by decide)])];simp only[↓aX,mX,seval];refine⟨⟨(r',l++[t],b'),?_,fun(h:b=true)=>(by rw[Cm] at h;cases h),fun _=> ?_⟩,?_,[(.loc 5,.loc 37)],?_,?_,?_,by simp[dn],?_⟩
   ·simp only[kn,dE];split<;>omega
   ·cases ll:bG d (c::q) with
    |none=>
     rw[ll] at ky;refine⟨l0++[t],cX t t (.inl rfl),?_⟩;simp only[ky,Vp];rw[ke,dM,U8 HP,Vd tv,ll];rfl
    |some y=>
     rw[ll] at ky;obtain⟨rfl,rfl,h7⟩:=ky;refine⟨l0++[y.1],cX t y.1 h7,?_⟩;simp only[Vl,Vk];rw[ke]
     conv=>lhs;rw[dM,U8 HP,Vd tv,ll]
     simp only;rw[XM HQ];cases dM (bG d) y.2 with
     |none=>rfl
     |some z=>simp only[Vf,VP,Ww]
   ·simp only;cases b'<;>simp at HQ ⊢<;>omega
   ·intro z hf hu;left;cases z<;>simp[Lb.entry] at hf;rename_i n;by_cases e0:n=0
    ·subst e0;simp
    exfalso;apply hu;simp[ae,e0,nk n e0]
   ·simp[k_,bJ,dn,put]
   ·refine⟨by simp[dn,dO,bu,bJ,ae],by simp[dn,dy,ae,ix,Tree.o_,Tree.cs,Tree.text,Tree.s,Tree.attrs,Tree.kids,cD,dq],trivial⟩
   intro z hz;simp only[Vg,VN,Vy] at hz;rcases hz with rfl|rfl
   ·simp[dn]
   simp[dn,Lb.fresh,Lb.entry]
  rw[show(c==60)=false by simp[tv]];simp only[↓aX,mX,seval];refine bj (l:= .par 0) (hT false (c::q) false (by omega)) (by simp[bu,bJ,ft]) (by simp[ij]) ?_;rintro x1 dF ⟨t,r',b',rfl,rfl,zO,_,ky⟩ _ _ _;have ky:=ky rfl;simp only[↓aX,mX,seval];rw[qg 4 72 43 5 (dq l) (.agg [.bool true,.str t,.list [],.list []]) (by simp[ae,oB]) (bF l) rfl (by intro z hz cs;simp only[IV.cells,Vg,VN,Vy] at hz;rcases hz with rfl|rfl|rfl|rfl<;>simp) (by omega) (by decide) (by decide) (by simp[ae,hU 43 (by decide)])];simp only[↓aX,mX,seval];refine⟨⟨(r',l++[(Tree.mk true t [] [])],b'),?_,fun(h:b=true)=>(by rw[Cm] at h;cases h),fun _=> ?_⟩,?_,[(.loc 5,.loc 43)],?_,?_,?_,by simp[dn],?_⟩
  ·simp only[kn,dE,Tree.wt,dX];cases v_:bm false (c::q) with
   |none=>rw[v_] at ky;rw[ky];simp only[Vp];omega
   |some y=>
   rw[v_] at ky;obtain⟨rfl,rfl⟩:=ky;have:=iP tv v_;simp only[Vl,Vk];omega
  ·cases v_:bm false (c::q) with
   |none=>
    rw[v_] at ky;refine⟨l0++[.mk true t [] []],cX _ _ (.inl rfl),?_⟩;simp only at ky;simp only[ky,Vp];rw[ke,dM,U8 HP,U8 tv,v_];rfl
   |some y=>
    rw[v_] at ky;obtain⟨rfl,rfl⟩:=ky;refine⟨l0++[.mk true t [] []],cX _ _ (.inl rfl),?_⟩;simp only[Vl,Vk];rw[ke]
    conv=>lhs;rw[dM,U8 HP,U8 tv,v_]
    simp only[Vf];rw[XM (iP tv v_)];cases dM (bG d) r' with
    |none=>rfl
    |some z=>simp only[Vf,VP,Ww]
  ·show 2*r'.length+(if b'=true then 0 else 1)<2*(c::q).length+1;cases v_:bm false (c::q) with
   |none=>rw[v_] at ky;simp only at ky;simp only[ky,Vp];omega
   |some y=>
   rw[v_] at ky;obtain⟨rfl,rfl⟩:=ky;have:=iP tv v_;simp only[Vl,Vk];omega
  ·intro z hf hu;left;cases z<;>simp[Lb.entry] at hf;rename_i n;by_cases e0:n=0
   ·subst e0;simp
   exfalso;apply hu;simp[ae,e0,nk n e0]
  ·simp[k_,bJ,dn,put]
  ·refine⟨by simp[dn,dO,bu,bJ,ae],by simp[dn,dy,ae,ix,Tree.o_,Tree.cs,Tree.text,Tree.s,Tree.attrs,Tree.kids,cD,dq],trivial⟩
  intro z hz;simp only[Vg,VN,Vy] at hz;rcases hz with rfl|rfl
  ·simp[dn]
  simp[dn,Lb.fresh,Lb.entry]
end

def om (a b:Attr):Int:=Lib.compareBytes a.name b.name
def Attr.yO (a:Attr):AV:= .agg [.str a.name,.str a.val]
section
variable {P:Program} {G:Nat→Option (List IV)}
def cB (bq:Nat):AC:=
(aM [gH 4 0] (aM [MR 5 0,MR 6 1,aQ 7 (.kE bq [(.t 5),(.t 6)]),MR 4 7] .ret))
def tC {a6 bq:Nat} (hF:aw P G a6=some (8,[(none,4)],(cB bq).bare))
  (hX:∀(N:Nat) (s t:Bs) (H:Hp),sZ ⟨P,G,N⟩ bq [.str s,.str t] H (.int .i64 (Lib.compareBytes s t))) (s t:Bs) :
  au P G a6 [.str s,.str t] (.int .i64 (Lib.compareBytes s t)):=by
 refine aR hF (by simp) (by simp[ah,AV.an]) (by simp[AV.an]) ?_;unfold cB;simp only[↓aX,mX,seval];refine DZ (hX _ _ _ _) ?_;simp only[↓aX,mX,seval]
def fI (a6:Nat):AC:=
(aM [gH 4 0] (aM [MR 5 0,MR 6 1,aQ 7 (.call a6 [(.t 5),(.t 6)]),MR 4 7] .ret))
def yP {cC a6:Nat} (hF:aw P G cC=some (8,[(none,4)],(fI a6).bare)) (s t:Bs) (hC:au P G a6 [.str s,.str t] (.int .i64 (Lib.compareBytes s t))) :
  au P G cC [.str s,.str t] (.int .i64 (Lib.compareBytes s t)):=by
 refine aR hF (by simp) (by simp[ah,AV.an]) (by simp[AV.an]) ?_;unfold fI;simp only[↓aX,mX,seval];refine ay hC ?_;simp only[↓aX,mX,seval]
def NG (cC:Nat):AC:=
(aM [sC 2 0,sC 3 1,gH 4 0] (aM [ep 5 2 0,fm 6 5,ep 7 3 0,fm 8 7,aQ 9 (.call cC [(.t 6),(.t 8)]),MR 4 9] .ret))
def GY {bO cC:Nat} (hF:aw P G bO=some (10,[(none,4)],(NG cC).bare)) (a b:Attr) (hC:au P G cC [.str a.name,.str b.name] (.int .i64 (Lib.compareBytes a.name b.name))) :
  au P G bO [a.yO,b.yO] (.int .i64 (om a b)):=by
 refine aR hF (by simp) (by simp[ah,AV.an,Attr.yO]) (by simp[AV.an]) ?_;unfold NG;simp only[↓aX,mX,seval,Attr.yO];refine ay hC ?_;simp only[↓aX,mX,seval,om]
theorem rS:∀s t:Bs,decide (Lib.compareBytes s t<0)=Op.bytesLess s t
 |[],[]=>rfl
 |[],_::_=>rfl
 |_::_,[]=>rfl
 |a::as,b::bs=>by
  have ih:=rS as bs;simp only[Lib.compareBytes,Op.bytesLess];by_cases h1:a<b
  ·simp[h1]
  by_cases h2:b<a
  ·simp only[h1,h2,Vp,Vk];have:¬a=b:=fun e=>h1 (by rw[e] at h2;exact absurd h2 (mH _));simp_all
  have h3:a=b:=(yj a b).elim (fun h=>absurd h h1) (fun h=>h.elim id (fun h=>absurd h h2));subst h3;simp only[mH,Vk,ih]
  try simp
def yQ (a b:Attr):decide (om a b<0)=Op.bytesLess a.name b.name:=rS _ _
def swap_perm {L:List Attr} {i j:Nat} {x y:Attr} (hi:L[i]?=some x) (hj:L[j]?=some y):((L.set i y).set j x).Perm L:=by
 obtain⟨h1,e1⟩:=U9.1 hi;obtain⟨h2,e2⟩:=U9.1 hj;subst e1;subst e2;exact List.set_set_perm h1 h2
def qx:List Attr→Prop
 |[]=>True
 |x::r=>(∀y∈r,Op.bytesLess y.name x.name=false)∧qx r
def yR {l:List Attr} {a x:Attr}:x∈gF l a↔x=a∨x∈l:=by
 induction l with
 |nil=>simp[gF]
 |cons b r ih=>
 unfold gF;split
 ·simp
 simp[ih];constructor<;>(rintro(h|h|h)<;>simp[h])
def yS {l:List Attr} (a:Attr) (h:qx l):qx (gF l a):=by
 induction l with
 |nil=>simp[gF,qx]
 |cons b r ih=>
 unfold gF;split
 ·rename_i bI;refine⟨fun y hy=> ?_,h⟩;rcases Vg.1 hy with rfl|hy
  ·exact ny bI
  have:=h.1 y hy;cases hc:Op.bytesLess y.name a.name with
  |false=>rfl
  |true=>have:=rG hc bI;simp_all
 rename_i bI;refine⟨fun y hy=> ?_,ih h.2⟩;rcases yR.1 hy with rfl|hy
 ·simpa using bI
 exact h.1 y hy
def wa (l:List Attr):qx (cu l):=by
 have key:∀(l acc:List Attr),qx acc→qx (l.foldl gF acc):=by
  intro l;induction l with
  |nil=>intro acc h;exact h
  |cons a r ih=>intro acc h;exact ih _ (yS a h)
 exact key l [] trivial
def rT {p q:List Attr} (h:qx (p++q)):qx p∧∀x∈p,∀y∈q,Op.bytesLess y.name x.name=false:=by
 induction p with
 |nil=>exact⟨trivial,by simp⟩
 |cons a r ih=>
 obtain⟨h1,h2⟩:=h;obtain⟨h3,h4⟩:=ih h2;refine⟨⟨fun y hy=>h1 y (by simp[hy]),h3⟩,fun x hx y hy=> ?_⟩;rcases Vg.1 hx with rfl|hx
 ·exact h1 y (by simp[hy])
 exact h4 x hx y hy
theorem uX {x:Attr}:∀{pre suf:List Attr},(∀y∈pre,Op.bytesLess x.name y.name=false)→(∀y∈suf,Op.bytesLess x.name y.name=true)→gF (pre++suf) x=pre++x::suf
 |[],[],_,_=>rfl
 |[],b::r,_,h=>by simp only[VH,gF,h b (by simp),Vp]
 |a::p,suf,h1,h2=>by
  have:=uX (pre:=p) (suf:=suf) (x:=x) (fun y hy=>h1 y (by simp[hy])) h2;simp only[Vb,gF,h1 a (by simp),Vl,Vk,this]
def tE (l:List Attr) (x:Attr):cu (l++[x])=gF (cu l) x:=by unfold cu;rw[List.foldl_append];rfl
def ik {L:List Attr} {i:Nat} {x:Attr} (h:L[i]?=some x):(aB (cD L))[i]?=some [.str x.name,.str x.val]:=by
 rw[xT,lS,h];rfl
def m_ (L:List Attr) (i:Nat) (x:Attr):(aB (cD L)).set i [.str x.name,.str x.val]=aB (cD (L.set i x)):=by
 have:=xU (cD L) i x.iv;rw[show(aB (cD L)).set i [.str x.name,.str x.val]=(aB (cD L)).set i (x.iv.cells.map IV.dQ) from rfl,this];congr 1;simp[cD,List.map_set]
def cm:AC:=
(aM [MR 10 1,eY 11 .add 10 1,MR 8 11] (.block 0 (.loop (.seq (aM [MR 12 8,MR 13 2,et 14 .lss 12 13] (.cond (.t 14) .skip (.exit 0))) (.seq (.block 1 (aM [MR 17 8,MR 9 17] (.block 2 (.loop (.seq (.seq (.fK [MR 18 9,MR 19 1,et 20 .gtr 18 19,MR 21 20,cU 22 21 3,cU 23 21 0,cU 24 21 9,dW 25 21 (.tR (.t 23) (.t 24) 2),dW 26 21 (.load (some 2) (.t 25)),cU 27 21 0,cU 28 21 9,dW 29 21 (.bin .sub (.t 28) (jS 1)),dW 30 21 (.tR (.t 27) (.t 29) 2),dW 31 21 (.load (some 2) (.t 30)),dW 32 21 (.fM (.t 22) [(.t 26),(.t 31)]),dW 33 21 (.bin .lss (.t 32) (jS 0)),jT 34 21 33] [[],[],[0,1],[2],[3],[3],[3],[5,6,3],[7,3],[3],[3],[10,3],[9,11,3],[12,3],[4,8,13,3,3],[14,3],[3,15]] [.no,.no,.no,.no,.no,.no,.no,.no,(.rw [(.par 0)] []),.no,.no,.no,.no,(.rw [(.par 0)] []),.no,.no,.no]) (.cond (.t 34) .skip (.exit 2))) (.seq (.block 3 (.fK [MR 37 0,MR 38 9,MR 39 0,MR 40 9,eY 41 .sub 40 1,MR 42 0,MR 43 9,eY 44 .sub 43 1,jL 45 42 44 2,gz 46 2 45,MR 47 0,MR 48 9,jL 49 47 48 2,gz 50 2 49,jL 51 37 38 2,gg (.store 2 (.t 51) (.t 46)),jL 52 39 41 2,gg (.store 2 (.t 52) (.t 50))] [[],[],[],[],[3],[],[],[6],[5,7],[8],[],[],[10,11],[12],[0,1,0,1,5,6,7,8,9,13],[14,9,0,1,5,6,7,8,9,13],[2,4,0,1,2,3,4,5,6,7,8,9,10,11,12,13,14,15],[16,13,15,0,1,2,3,4,5,6,7,8,9,10,11,12,13,14,15]] [.no,.no,.no,.no,.no,.no,.no,.no,.no,(.rw [(.par 0)] []),.no,.no,.no,(.rw [(.par 0)] []),.no,(.rw [] [(.par 0)]),.no,(.rw [] [(.par 0)])])) (.cq [MR 35 9,eY 36 .sub 35 1,MR 9 36]))))))) (.cq [MR 15 8,eY 16 .add 15 1,MR 8 16]))))))
def Br {aL dC:Nat} (hF:aw P G aL=some (53,[],cm.bare)) (hB:fU P dC=true) (hC:∀a b:Attr,au P G dC [a.yO,b.yO] (.int .i64 (om a b)))
  (l:List Attr) (hl:l.length≤B) (a b:Nat) (MO:a≤b) (hb:b≤l.length) :
  ig P G aL [.sl (.par 0) 2 0 l.length,.int .i64 a,.int .i64 b,.fn dC [] []] 2 (cD l) fun x ys=>∃zs:List Attr,ys=cD zs∧zs.Perm l∧(a=0→zs=cu (l.take b)++l.drop b)∧(a=b→zs=l):=by
 refine gS hF (by simp) (by simp[ah,AV.an]) ?_;have zo:B=1073741824:=rfl;unfold cm;simp only[↓aX,mX,seval,df];have Ef:IntKind.i64.wrap ((a:Int)+1)=((a+1:Nat):Int):=wrap64 (by omega) (by omega);rw[Ef];clear Ef;refine ca (σ:={q:Nat×List Attr // a+1≤q.1∧q.1≤max b (a+1)∧q.2.Perm l∧(a=0→q.2=cu (l.take q.1)++l.drop q.1)∧(q.1=a+1→q.2=l)}) [.par 0]
  (fun q=>[(0,.sl (.par 0) 2 0 l.length),(1,.int .i64 a),(2,.int .i64 b),(3,.fn dC [] []),(8,.int .i64 q.1.1)]) (fun q=>[(.par 0,⟨2,aB (cD q.1.2)⟩)]) (fun q=>b+1 - q.1.1)
  ⟨(a+1,l),Va _,by simp only;omega,.refl _,fun h=> ?_,fun _=>rfl⟩ (fun _=>rfl) (by decide) (by simp[ah,AV.an]) ?_ ?_ ?_
 ·subst h;cases l with
  |nil=>rfl
  |cons x r=>simp[cu,gF]
 ·intro q w hw cs bV z hz;simp only[Vm] at hw;subst hw;rw[bU bV] at hz;simp at hz
 ·refine eL ?_ (by repeat' constructor) (by repeat' constructor);intro z hz hu;by_cases e:z= .par 0
  ·subst e;simp
  exfalso;apply hu;simp[ae,e,Hp.none]
 rintro⟨⟨i,L⟩,LS,A2,hp,hs,j0⟩;simp only at LS A2 hp hs j0;have LU:L.length=l.length:=hp.length_eq;simp only[↓aX,mX,seval,cF,bW];by_cases bI:i<b
 ·rw[show decide (((i:Nat):Int)<((b:Nat):Int))=true by simpa using bI];have E9:IntKind.i64.wrap ((i:Int)+1)=((i+1:Nat):Int):=wrap64 (by omega) (by omega);simp only[↓aX,mX,seval];refine ca (σ:={q:Nat×List Attr // a≤q.1∧q.1≤i∧q.2.Perm l∧(a=0→∃pre suf x,l[i]?=some x∧pre++suf=cu (l.take i)∧q.2=pre++x::(suf++l.drop (i+1))∧pre.length=q.1∧∀y∈suf,Op.bytesLess x.name y.name=true)}) [.par 0]
   (fun q=>[(0,.sl (.par 0) 2 0 l.length),(1,.int .i64 a),(2,.int .i64 b),(3,.fn dC [] []),(8,.int .i64 i),(9,.int .i64 q.1.1)]) (fun q=>[(.par 0,⟨2,aB (cD q.1.2)⟩)]) (fun q=>q.1.1)
   ⟨(i,L),by simp only;omega,Va _,hp,fun h=> ?_⟩ (fun _=>rfl) (by decide) (by simp[ah,AV.an]) ?_ ?_ ?_
  ·obtain⟨x,hx⟩:∃x,l[i]?=some x:=⟨_,U' (by omega)⟩;refine⟨cu (l.take i),[],x,hx,by simp,?_,?_,by simp⟩
   ·simp only;rw[hs h,Wi (show i<l.length by omega),(U9.1 hx).2,VH]
   rw[pE,V0];simp only;omega
  ·intro q w hw cs bV z hz;simp only[Vm] at hw;subst hw;rw[bU bV] at hz;simp at hz
  ·refine eL ?_ (by repeat' constructor) (by repeat' constructor);intro z hz hu;by_cases e:z= .par 0
   ·subst e;simp
   exfalso;apply hu;simp[ae,e,Hp.none]
  rintro⟨⟨j,M⟩,Ig,FE,hM,HR⟩;simp only at Ig FE hM HR;have rU:M.length=l.length:=hM.length_eq;simp only[↓aX,mX,seval,cF,bW];refine⟨by decide +kernel,?_⟩;have done:∀pre suf x,l[i]?=some x→pre++suf=cu (l.take i)→M=pre++x::(suf++l.drop (i+1))→(∀y∈suf,Op.bytesLess x.name y.name=true)→(∀y∈pre,Op.bytesLess x.name y.name=false)→M=cu (l.take (i+1))++l.drop (i+1):=by
   intro pre suf x h1 h2 h3 h4 h5;rw[V2,h1,XP,tE,←h2,uX h5 h4,h3];simp
  by_cases Kw:a<j
  ·rw[show decide (((j:Nat):Int)>((a:Nat):Int))=true by simpa using Kw];have Ju:IntKind.i64.wrap ((j:Int) - 1)=((j - 1:Nat):Int):=(by rw[wrap64 (by omega) (by omega)];omega);obtain⟨x,hx⟩:∃x,M[j]?=some x:=⟨_,U' (by omega)⟩;obtain⟨y,hy⟩:∃y,M[j - 1]?=some y:=⟨_,U' (by omega)⟩;have GZ:=hC x y;simp only[Attr.yO] at GZ;simp only[↓aX,mX,seval,Ju,VG,VJ,VT,ik hx,ik hy,show j<l.length by omega,show j - 1<l.length by omega,kc,oi];refine⟨hB,jw GZ ?_⟩;simp only[↓aX,mX,seval,yQ];have G0:a=0→∀{pre suf:List Attr} {z:Attr},l[i]?=some z→pre++suf=cu (l.take i)→M=pre++z::(suf++l.drop (i+1))→pre.length=j→Op.bytesLess x.name y.name=false→∀w∈pre,Op.bytesLess z.name w.name=false:=by
    intro h pre suf z h1 h2 h3 h4 nn w hw;have hz:z=x:=by
     rw[h3,Vz (by omega),h4] at hx;simpa using hx
    subst hz;obtain⟨qy,y',rfl⟩:∃qy y',pre=qy++[y']:=by
     rcases X' pre with h|⟨p',y',h⟩
     ·subst h;simp at h4;omega
     exact⟨p',y',by simpa using h⟩
    have BS:qy.length=j - 1:=(by simp at h4;omega);have Jv:y'=y:=by
     rw[h3,VP,Vz (by omega),BS,WJ] at hy;simpa using hy
    subst Jv;have Ky:=wa (l.take i);rw[←h2] at Ky;have LV:=(rT (rT Ky).1).2;rcases Vi.1 hw with hw|hw
    ·have h6:=LV w hw y' (by simp);cases hc:Op.bytesLess z.name w.name with
     |false=>rfl
     |true=>
     rcases tl y'.name w.name with h7|h7|h7
     ·rw[h7] at h6;cases h6
     ·rw[h7,hc] at nn;cases nn
     rw[rG hc h7] at nn;cases nn
    simp only[Vm] at hw;subst hw;exact nn
   cases nn:Op.bytesLess x.name y.name with
   |true=>
    simp only[↓aX,mX,seval];refine⟨by decide +kernel,?_⟩;simp only[↓aX,mX,seval,Ju,VG,VJ,VT,ik hx,ik hy,show j<l.length by omega,show j - 1<l.length by omega,eP];have D1:(M.set j y)[j - 1]?=some y:=(by rw[WK (by omega)];exact hy);rw[m_ M j y];simp only[↓aX,mX,seval,ik D1,Ju];refine⟨⟨(j - 1,(M.set j y).set (j - 1) x),by simp only;omega,by simp only;omega,(swap_perm hx hy).trans hM,fun h=> ?_⟩,by simp only;omega,eL ?_ (by repeat' constructor) ⟨by simp only[ae,Vp];rw[m_],trivial⟩⟩
    ·obtain⟨pre,suf,z,h1,h2,h3,h4,h5⟩:=HR h;have hz:z=x:=by
      rw[h3,Vz (by omega),h4] at hx;simpa using hx
     subst hz;obtain⟨qy,y',rfl⟩:∃qy y',pre=qy++[y']:=by
      rcases X' pre with h|⟨p',y',h⟩
      ·subst h;simp at h4;omega
      exact⟨p',y',by simpa using h⟩
     have BS:qy.length=j - 1:=(by simp at h4;omega);have Jv:y'=y:=by
      rw[h3,VP,Vz (by omega),BS,WJ] at hy;simpa using hy
     subst Jv;refine⟨qy,y'::suf,z,h1,by rw[←h2];simp,?_,BS,fun w hw=> ?_⟩
     ·simp only;rw[h3];have zk:j=qy.length+1:=(by omega);subst zk;simp[WZ]
     rcases Vg.1 hw with rfl|hw
     ·exact nn
     exact h5 w hw
    intro z hz hu;by_cases e:z= .par 0
    ·subst e;simp
    exfalso;apply hu;simp[ae,e,Hp.none]
   |false=>
   simp only[↓aX,mX,seval,E9];refine⟨⟨(i+1,M),by simp only;omega,Wf bI (YF _ _),hM,fun h=> ?_,fun h=>absurd h (by simp only;omega)⟩,by simp only;omega,eL ?_ (by repeat' constructor) (by repeat' constructor)⟩
   ·obtain⟨pre,suf,z,h1,h2,h3,h4,h5⟩:=HR h;exact done pre suf z h1 h2 h3 h5 (G0 h h1 h2 h3 h4 nn)
   intro z hz hu;by_cases e:z= .par 0
   ·subst e;simp
   exfalso;apply hu;simp[ae,e,Hp.none]
  rw[show decide (((j:Nat):Int)>((a:Nat):Int))=false by simpa using Kw];simp only[↓aX,mX,seval,E9];refine⟨⟨(i+1,M),by simp only;omega,Wf bI (YF _ _),hM,fun h=> ?_,fun h=>absurd h (by simp only;omega)⟩,by simp only;omega,eL ?_ (by repeat' constructor) (by repeat' constructor)⟩
  ·obtain⟨pre,suf,z,h1,h2,h3,h4,h5⟩:=HR h;exact done pre suf z h1 h2 h3 h5 (by have:pre=[]:=VA (by omega);rw[this];simp)
  intro z hz hu;by_cases e:z= .par 0
  ·subst e;simp
  exfalso;apply hu;simp[ae,e,Hp.none]
 rw[show decide (((i:Nat):Int)<((b:Nat):Int))=false by simpa using bI];simp only[↓aX,mX,seval,lM,ef,gD];refine⟨_,rfl,cD L,⟨L,rfl,hp,fun h=> ?_,fun h=>j0 (by omega)⟩,by simp[AV.an,ah],by rw[bp,bp,LU],by simp[ae]⟩;rw[hs h];by_cases LW:i=b
 ·rw[LW]
 have oK:b=0:=by omega
 have Jw:i=1:=by omega
 subst oK;subst Jw;cases l with
 |nil=>rfl
 |cons x r=>simp[cu,gF]
end
end Go.Am
