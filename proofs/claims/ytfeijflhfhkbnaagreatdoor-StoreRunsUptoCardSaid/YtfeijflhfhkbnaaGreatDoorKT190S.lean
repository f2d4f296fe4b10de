import Derived.Test.YtfeijflhfhkbnaaGreatDoorKAc0S
import Derived.Test.YtfeijflhfhkbnaaGreatDoorKAm53S
import Derived.Test.YtfeijflhfhkbnaaGreatDoorKT67S
import Derived.Lib.Replace
import Derived.Lib.IndexBytes
import Derived.Shelf.Strings.Replace
import Derived.Test.YtfeijflhfhkbnaaGreatDoorKT21S
import Derived.Test.YtfeijflhfhkbnaaGreatDoorKT87S
import Derived.Test.YtfeijflhfhkbnaaGreatDoorKT102S
import Derived.Test.YtfeijflhfhkbnaaGreatDoorKT91S
import Derived.Test.YtfeijflhfhkbnaaGreatDoorKT150S
set_option linter.all false
/- The reference's store. -/
namespace Go.Am
open Go Go.RowKit
section
variable {P:Program} {G:Nat->Option (List IV)} [KN P G]
def afk (c:Int):aj P G 36 [.int .i64 c] (oV c):=by
 refine au (cw 36 []) ajL ajO (by simp[AV.aq,ai,oV]) ?_;simp only[↓aX,mX,seval,oV]
def V_:Rl P G 12 [] 2 [.list (GW.map Node.iv),.int .i64 0]:=by
 refine CT (cw 12 []) ajL rfl ?_;simp only[↓aX,mX,seval];exact⟨.loc 5,rfl,by simp[IV.dw,ae];rfl⟩
def afl (d:Doc) (hd:bQ d=true) (bY:Int) (h0:0<=bY) (h1:bY<=100) (a:de) (pf:a.lines.length<=B) (hB:dE P 36=true)
  (hP:∀s∈a.lines,aj P G 37 [.str s] (.bq [(cj s).1.av,.int .i64 (cj s).2]))
  (hM:∀s∈a.lines,aj P G 38 [(cj s).1.av] (.bq [Doc.av (c_ (cj s).1).1,.int .i64 (c_ (cj s).1).2]))
  (hT:aj P G 40 [Doc.av d,.int .i64 0] (cY d 0).1.av)
  (hPr:aj P G 39 [(cY d 0).1.av] (.bq [.str (dI (cY d 0).1).1,.int .i64 (dI (cY d 0).1).2]))
  (hL:∀s∈a.lines,aj P G 7 [.str s] (kA s)) (hLb:∀s∈a.lines,opB (bM s).1)
  (hS:∀s∈a.lines,(bM s).2.2=0->aj P G 41 [Doc.av d,.list ((bM s).2.1.map Step.iv)] (.bq [.list ((dr d (bM s).2.1).1.map aC),.int .i64 (dr d (bM s).2.1).2]))
  (hA:∀l:List Op,Ud l->aj P G 42 [Doc.av d,.list (l.map Op.iv)] (.bq [Doc.av (cq d l).1,.int .i64 (cq d l).2])) :
  cM P G 14 [.ptr (.par 0) 2 0 0,a.av] (cx d bY) (λx cs=>x=(v_ d bY a).2.av/\cs=cx (v_ d bY a).1.1 (v_ d bY a).1.2):=by
 refine dk (cw 14 [.a 10 (.own 10 5),.b 159 (.tj (.loc 10) 10)]) ajL (by simp[ai,AV.aq,de.av]) aj2 ?_;have gV:B=1073741824:=rfl;have no:∀c,aj P G 36 [.int .i64 c] (.agg [.int .i64 c,.int .i64 0,.str []]):=afk;simp only[↓aX,mX,seval,jK,cx,de.av,JH];by_cases Vm:bY=100
 ·have x6:v_ d bY a=((d,bY),⟨7,0,[]⟩):=by unfold v_;rw[agc ajK]
  simp only[↓aX,mX,seval,show(bY==100)=true by simpa using Vm,aU,bD,List.nil_append,agb];refine⟨hB,ah (no 7) ?_⟩;simp only[↓aX,mX,seval];exact⟨cx d bY,⟨akX,akX⟩,ajU,aj2,rfl,alb⟩
 have x6:v_ d bY a=(((fY d a).1,bY+1),(fY d a).2):=by unfold v_;rw[af8 ajK]
 have hw:IntKind.i64.wrap (bY+1)=bY+1:=wrap64 ajK ajK;simp only[↓aX,mX,seval,show(bY==100)=false by simpa using Vm,hw];rw[x6];by_cases k1:a.kind=1
 ·simp only[↓aX,mX,seval,show(a.kind==1)=true by simp[k1],eD];by_cases hl:∃s,a.lines=[s]
  ·obtain⟨s,hl⟩:=hl;have hPs:=hP s ame;have hMs:=hM s ame;simp only[Tree.av] at hPs hMs;have j5:dV 1 [IV.str s]:=al2;have eJ:fY d a=if(cj s).2=0 then((c_ (cj s).1).1,⟨0,(c_ (cj s).1).1.length,[]⟩) else(d,⟨(cj s).2,0,[]⟩):=alC;simp only[↓aX,mX,seval,hl,agd,agx,agh,show(((1:Nat):Int) !=1)=false from rfl,agC,ag6,agF,j5,IV.cells,show(0:Int).toNat=0 from rfl];refine ah hPs ?_;by_cases he:(cj s).2=0
   ·rw[agc he] at eJ;simp only[↓aX,mX,seval,he,show((0:Int) !=0)=false from rfl];refine ah hMs ?_;simp only[↓aX,mX,seval,Doc.av,eD];exact⟨cx (fY d a).1 (bY+1),⟨amh,rfl⟩,ajU,aj2,rfl,akl⟩
   rw[af8 he] at eJ;simp only[↓aX,mX,seval,show((cj s).2 !=0)=true by simpa using he,aU,bD,List.nil_append,agb];refine⟨hB,ah (no _) ?_⟩;simp only[↓aX,mX,seval];exact⟨cx (fY d a).1 (bY+1),⟨amh,rfl⟩,ajU,aj2,rfl,akl⟩
  have eJ:fY d a=(d,⟨1,0,[]⟩):=by
   unfold fY;rw[agc k1];split
   ·exact absurd ⟨_,amT⟩ hl
   rfl
  have cf:((a.lines.length:Int) !=1)=true:=by
   simp only[ajv,ne_eq];intro h;have h:a.lines.length=1:=ajK;exact hl (List.length_eq_one_iff.1 h)
  simp only[↓aX,mX,seval,cf,aU,bD,List.nil_append,agb];refine⟨hB,ah (no 1) ?_⟩;simp only[↓aX,mX,seval];exact⟨cx (fY d a).1 (bY+1),⟨amh,rfl⟩,ajU,aj2,rfl,akl⟩
 simp only[↓aX,mX,seval,show(a.kind==1)=false by simp[k1]];by_cases k3:a.kind=3
 ·have eJ:fY d a=if(dI (cY d 0).1).2=0 then(d,⟨0,d.length,(dI (cY d 0).1).1⟩) else(d,⟨(dI (cY d 0).1).2,0,[]⟩):=by unfold fY;rw[af8 k1,af8 ajK,agc k3]
  simp only[Tree.av,Doc.av] at hT hPr;simp only[↓aX,mX,seval,show(a.kind==3)=true by simp[k3]];refine ah hT ?_;simp only[↓aX,mX,seval];refine ah hPr ?_;by_cases he:(dI (cY d 0).1).2=0
  ·rw[agc he] at eJ;simp only[↓aX,mX,seval,he,show((0:Int) !=0)=false from rfl,eD];exact⟨cx (fY d a).1 (bY+1),⟨amh,rfl⟩,ajU,aj2,rfl,akl⟩
  rw[af8 he] at eJ;simp only[↓aX,mX,seval,show((dI (cY d 0).1).2 !=0)=true by simpa using he,aU,bD,List.nil_append,agb];refine⟨hB,ah (no _) ?_⟩;simp only[↓aX,mX,seval];exact⟨cx (fY d a).1 (bY+1),⟨amh,rfl⟩,ajU,aj2,rfl,akl⟩
 simp only[↓aX,mX,seval,show(a.kind==3)=false by simp[k3]];by_cases k2:¬a.kind=2
 ·have eJ:fY d a=(d,⟨4,0,[]⟩):=by unfold fY;rw[af8 k1,af8 k2,af8 k3]
  simp only[↓aX,mX,seval,show(a.kind==2)=false by simpa using k2,aU,bD,List.nil_append,agb];refine⟨hB,ah (no 4) ?_⟩;simp only[↓aX,mX,seval];exact⟨cx (fY d a).1 (bY+1),⟨amh,rfl⟩,ajU,aj2,rfl,akl⟩
 have k2:a.kind=2:=ajK
 have eJ:fY d a=eI d a.lines:=by unfold fY;rw[af8 k1,agc k2]
 simp only[↓aX,mX,seval,show(a.kind==2)=true by simp[k2],eD];rw[eJ];rcases ajD 6 a.lines.length with h6|h6
 ·have hc:eI d a.lines=(d,⟨2,0,[]⟩):=by unfold eI;rw[agc h6]
  simp only[↓aX,mX,seval,show decide ((a.lines.length:Int)>6)=true by simp;omega,aU,bD,List.nil_append,agb,hc];refine⟨hB,ah (no 2) ?_⟩;simp only[↓aX,mX,seval];exact⟨cx d (bY+1),⟨by rw[hc];rfl,by rw[hc];rfl⟩,ajU,aj2,rfl,alb⟩
 have qg:eI d a.lines=(match jF d [] a.lines with
  | .error e=>(d,⟨e,0,[]⟩)
  | .ok l=>if(cq d l).2=0 then((cq d l).1,⟨0,l.length,[]⟩) else(d,⟨(cq d l).2,0,[]⟩)):=by unfold eI;rw[af8 ajK];rfl
 have xD:d.length<=80:=by
  obtain⟨t,ht,rfl⟩:=dm.1 hd;have:=(fg t).1 ht;rw[eR];omega
 simp only[↓aX,mX,seval,show decide ((a.lines.length:Int)>6)=false by simp;omega,eD];refine fi (σ:=LsS d a.lines) (λ_=>[.par 0,.loc 4,.loc 10]) (λ_ _=>false)
  (λq=>[(0,.ptr (.par 0) 2 0 0),(4,.ptr (.loc 4) 3 0 0),(5,.fn 36 [] []),(10,.sl (.loc 10) 5 0 q.ops.length),(109,.list (a.lines.map IV.str)),(110,.int .i64 a.lines.length),(111,.int .i64 q.i)])
  (λq=>[(.par 0,⟨2,[cx d (bY+1)]⟩),(.loc 4,⟨3,[[.int .i64 0,.int .i64 0,.str []]]⟩),(.loc 10,⟨5,ak (q.ops.map Op.iv)⟩)]) (λq=>a.lines.length - q.i) ⟨0,[],ajK,ajL,ajL,ajL⟩ (λ_=>rfl) (λq=>by simp[ai,AV.aq]) ?_ ⟨[],?_⟩ ?_
 ·exact aba
 ·refine⟨?_,?_,?_,ajS,ajS⟩
  ·exact O4
  ·simp[dp,aD,aH,put,fH,aA]
  simp[eL,aD,ae,aP,aA,aH,ak,cx]
 rintro⟨i,ops,hi,hn,hb,h⟩;simp only;obtain⟨uo,my⟩:∃uo,uo=[(Lb.par 0,(⟨2,[cx d (bY+1)]⟩:Row)),(Lb.loc 4,⟨3,[[.int .i64 0,.int .i64 0,.str []]]⟩),(Lb.loc 10,⟨5,ak (ops.map Op.iv)⟩)]:=⟨_,rfl⟩;rw[<-my];have hU:∀d,d≠4->d≠10->cU (λ_=>false) uo (.loc d)= .unused:=λd h4 h5=>by rw[my,eF (by simp[h4,h5])];rfl
 have Bi:∀d,d≠0->cU (λ_=>false) uo (.par d)= .unused:=λd hd=>by rw[my,eF alc];rfl
 have j8:cU (λ_=>false) uo (.par 0)= .live ⟨2,[cx d (bY+1)]⟩:=bg.2 akO;have Sd:cU (λ_=>false) uo (.loc 4)= .live ⟨3,[[.int .i64 0,.int .i64 0,.str []]]⟩:=bg.2 akO;have BD:cU (λ_=>false) uo (.loc 10)= .live ⟨5,ak (ops.map Op.iv)⟩:=bg.2 akO;generalize cU (λ_=>false) uo=H0 at *;clear my uo;by_cases aF:i<a.lines.length
 ·obtain⟨s,hs⟩:=gE aF;have TK:=af3 hs;have gz:=w1 i;have hse:(a.lines.map IV.str)[i]?=some (.str s):=by simp[hs]
  have j5:dV 1 (a.lines.map IV.str):=akn
  have Rk:a.lines.drop i=s::a.lines.drop (i+1):=amt
  rw[Rk] at h;obtain⟨o,so,e,hle⟩:∃o so e,bM s=(o,so,e):=⟨_,_,_,rfl⟩;have Zd:=hL s TK;have V0:=hS s TK;have hob:=hLb s TK;simp only[kA,hle,Op.av] at Zd;simp only[hle,Doc.av] at V0 hob;simp only[jF,hle] at h;simp only[↓aX,mX,seval,dT aF,hse,j5,IV.cells,af5,af0];refine ah Zd ?_;simp only[↓aX,mX,seval,hU 13 ajN ajN];by_cases he:e=0
  ·rw[agc he] at h;simp only[↓aX,mX,seval,he,show((0:Int) !=0)=false from rfl,j8,cx];refine ah (V0 he) ?_;obtain⟨ns,Bc⟩:∃ns,(dr d so).1=ns:=⟨_,rfl⟩;rw[Bc] at h;simp only[↓aX,mX,seval,Bc,eD];have xy:ns.length<=80:=by
    rw[<-Bc];unfold dr;split
    ·rename_i hc;have:=(yV hd (show so≠[] by intro e;subst e;simp[bm] at hc)).1;simp only;omega
    simp
   by_cases ov:ns=[]
   ·rw[agc ov] at h;rw[h] at qg;simp only at qg;simp only[↓aX,mX,seval,show(((ns.length:Nat):Int)==0)=true by simp[ov],aU,bD,List.nil_append,agb];refine⟨hB,ah (no 3) ?_⟩;simp only[↓aX,mX,seval,Sd];exact⟨cx d (bY+1),⟨ako,ako⟩,ajU,aj2,rfl,akt⟩
   rw[af8 ov] at h;simp only[↓aX,mX,seval,show(((ns.length:Nat):Int)==0)=false by simpa using ov,eD];have yk:∀j,j<=ns.length->(ops++kO o (ns.take j)).length=ops.length+j:=λj hj=>(by simp[kO,ahK hj]);refine fi (σ:=CiS d o ns) (λ_=>[.par 0,.loc 4,.loc 10,.loc 13]) (λ_ _=>false)
    (λq=>[(0,.ptr (.par 0) 2 0 0),(4,.ptr (.loc 4) 3 0 0),(5,.fn 36 [] []),(10,.sl (.loc 10) 5 0 (ops.length+q.j)),(13,.ptr (.loc 13) 5 0 0),(109,.list (a.lines.map IV.str)),(110,.int .i64 a.lines.length),(111,.int .i64 i),(140,.list (ns.map aC)),(141,.int .i64 ns.length),(142,.int .i64 q.j)])
    (λq=>[(.par 0,⟨2,[cx d (bY+1)]⟩),(.loc 4,⟨3,[[.int .i64 0,.int .i64 0,.str []]]⟩),(.loc 10,⟨5,ak ((ops++kO o (ns.take q.j)).map Op.iv)⟩),(.loc 13,⟨5,[[.int .i64 o.kind,.int .i64 q.t,.list (aM o.content),.str o.name,.str o.s]]⟩)])
    (λq=>ns.length - q.j) ⟨0,o.target,ajK⟩ (λ_=>rfl) (λq=>by simp[ai,AV.aq]) ?_ ⟨[],?_⟩ ?_
   ·exact aa'
   ·refine⟨?_,?_,?_,ajS,ajS⟩
    ·exact abl
    ·simp[dp,aD,aH,put,fH,aA]
    exact aa8
   rintro⟨j,tg,hj⟩;simp only;obtain⟨BP,rk⟩:∃BP,BP=[(Lb.par 0,(⟨2,[cx d (bY+1)]⟩:Row)),(Lb.loc 4,⟨3,[[.int .i64 0,.int .i64 0,.str []]]⟩),(Lb.loc 10,⟨5,ak ((ops++kO o (ns.take j)).map Op.iv)⟩),(Lb.loc 13,⟨5,[[.int .i64 o.kind,.int .i64 tg,.list (aM o.content),.str o.name,.str o.s]]⟩)]:=⟨_,rfl⟩;rw[<-rk];have kUp:∀d,d≠0->cU (λ_=>false) BP (.par d)= .unused:=λd hd=>(by rw[rk,eF alc];rfl);have kU:∀d,d≠4->d≠10->d≠13->cU (λ_=>false) BP (.loc d)= .unused:=λd h4 h5 h8=>(by rw[rk,eF (by simp[h4,h5,h8])];rfl);have k0:cU (λ_=>false) BP (.par 0)= .live ⟨2,[cx d (bY+1)]⟩:=bg.2 ak8;have k4:cU (λ_=>false) BP (.loc 4)= .live ⟨3,[[.int .i64 0,.int .i64 0,.str []]]⟩:=bg.2 ak8;have k5:cU (λ_=>false) BP (.loc 10)= .live ⟨5,ak ((ops++kO o (ns.take j)).map Op.iv)⟩:=bg.2 ak8;have k8:cU (λ_=>false) BP (.loc 13)= .live ⟨5,[[.int .i64 o.kind,.int .i64 tg,.list (aM o.content),.str o.name,.str o.s]]⟩:=bg.2 ak8;generalize cU (λ_=>false) BP=H1 at *;clear rk BP;have Vr:∀(ρ:Lb->Lb) (xs:List IV),aP ρ ⟨5,ak xs⟩=⟨5,ak xs⟩:=λρ xs=>aK _ _ _;by_cases kE:j<ns.length
   ·obtain⟨n,hn⟩:=gE kE;have ml:=w1 j;have fG:ops++kO o (ns.take (j+1))=(ops++kO o (ns.take j))++[{o with target:=n}]:=(by rw[agz,hn];simp[kO]);simp only[↓aX,mX,seval,dT kE,pz,hn,mi,af9,qS,af5,af0,k8];rw[bX 5 72 151 10 ((ops++kO o (ns.take j)).map Op.iv) (.agg [.int .i64 o.kind,.int .i64 n,.list (aM o.content),.str o.name,.str o.s]) (by simp[ae,k5]) (by rw[eD];exact yk j hj) rfl akG ajK ajN ajK (by simp[ae,kU])];simp only[↓aX,mX,seval,ml];refine⟨⟨j+1,n,kE⟩,ajM,[(.loc 10,.loc 151)],?_,?_,?_,ajS,?_⟩
    ·exact abm
    ·simp[dp,aD,aH,put,aA];omega
    ·simp only[eL,fG,Vr,ag2];simp[aD,ae,aP,aA,aH,cx,k0,k4,Op.iv,Op.cs]
    exact XD
   have yO:j=ns.length:=ajK;subst yO;simp only[↓aX,mX,seval,show decide ((ns.length:Int)<(ns.length:Int))=false by simp,gz];rw[agu] at k5;refine⟨⟨i+1,ops++kO o ns,aF,by simp only[age,kO,eD];omega,λo' ho=> ?_,h⟩,ajM,[],?_,?_,?_,ajS,ajS⟩
   ·exact abt
   ·exact abn
   ·simp[dp,aD,aH,put,kO,aA]
   simp only[eL,Vr];simp[aD,aP,aA,aH,cx,k0,k4,k5]
  rw[af8 he] at h;rw[h] at qg;simp only at qg;simp only[↓aX,mX,seval,show(e !=0)=true by simpa using he,aU,bD,List.nil_append,agb];refine⟨hB,ah (no _) ?_⟩;simp only[↓aX,mX,seval,Sd];exact⟨cx d (bY+1),⟨ako,ako⟩,ajU,aj2,rfl,akt⟩
 have qe:i=a.lines.length:=ajK
 subst qe;rw[aic] at h;simp only[jF] at h;rw[h] at qg;simp only at qg;simp only[↓aX,mX,seval,show decide ((a.lines.length:Int)<(a.lines.length:Int))=false by simp];have ig:List.take ops.length (ops.map Op.iv)=ops.map Op.iv:=af2 ajL;refine⟨5,ops.map Op.iv,0,ops.length,rfl,BD,ajL,QB ops,?_⟩;simp only[↓aX,mX,seval,agj,ig,ae,j8,cx];have hAp:=hA ops ⟨ajK,hb⟩;simp only[Doc.av] at hAp;refine ah hAp ?_;by_cases he:(cq d ops).2=0
 ·rw[agc he] at qg;simp only[↓aX,mX,seval,hU 20 ajN ajN,he,show((0:Int) !=0)=false from rfl,j8,Sd,cx,ig,eD];exact⟨cx (cq d ops).1 (bY+1),⟨ako,ako⟩,ajU,aj2,rfl,amS⟩
 rw[af8 he] at qg;simp only[↓aX,mX,seval,hU 20 ajN ajN,show((cq d ops).2 !=0)=true by simpa using he,aU,bD,List.nil_append,agb];refine⟨hB,ah (no _) ?_⟩;simp only[↓aX,mX,seval,Sd];exact⟨cx d (bY+1),⟨ako,ako⟩,ajU,aj2,rfl,amS⟩
end

theorem rz (c:UInt8):∀s:Bs,((bF c s).map λw=>c::w).flatten=c::s/\∀w∈bF c s,c∉w
 |[]=>by simp[bF]
 |b::r=>by
  obtain⟨h1,h2⟩:=rz c r
  grind [bF]
def pd (c:UInt8) (n:Bs) (s:Bs):Bs:=s.flatMap λb=>if b=c then n else [b]
theorem En {c:UInt8} {n:Bs}:∀{s:Bs},c∉s->pd c n s=s
 |[],_=>rfl
 |b::r,h=>by
  have hb:b≠c:=λe=>h ajV;have ih:=En (c:=c) (n:=n) (s:=r) (λm=>h (ah9 _ m));unfold pd at ih ⊢
  grind
theorem vV {c:UInt8} {n:Bs}:∀(k:Nat) (s:Bs),s.count c=k->Lib.replaceK [c] n k s=pd c n s
 |0,s,h=>by rw[En (List.count_eq_zero.1 h)];rfl
 |k+1,s,h=>by
  obtain⟨a,b,rfl,ha,hi⟩:∃a b,s=a++c::b/\c∉a/\Lib.index s [c]=(a.length:Int):=by
   rw[Lib.index_one];rcases eT c s with⟨_,h2,_⟩|⟨m,h1,hm,_,h3⟩
   ·omega
   obtain⟨g1,g2⟩:((bF c s).map λw=>c::w).flatten=c::s/\∀w∈bF c s,c∉w:=rz c s
   grind [rz]
  have hc:b.count c=k:=by
   grind
  rw[Lib.replaceK_hit [c] n k _ a.length hi,ahl,ah5 rfl,show(a++c::b).drop (a.length+1)=b by rw[<-ahJ,ain rfl];rfl,vV k b hc];have:pd c n (a++c::b)=pd c n a++(n++pd c n b):=by grind [pd]
  grind [En,agM]
def A9 {c:UInt8} {n s:Bs} (h:[c]≠n):Lib.replaceAll s [c] n=pd c n s:=by
 unfold Lib.replaceAll Lib.replace;rw[af8 ajV];have:Lib.replaceNum s [c] (-1)=s.count c:=by unfold Lib.replaceNum;rw[agc (.inl ajN),Lib.count_one]
 grind [vV]
def Lp (v:Bool) (s:Bs):(if v then pd 34 jU (pd 62 Bl (pd 60 Bj (pd 38 nL s))) else pd 62 Bl (pd 60 Bj (pd 38 nL s)))=pB v s:=by
 unfold pB pd;cases v with
 |false=>
  simp only[agl,agk,ajH];congr 1;funext c;unfold wI;by_cases h1:c=60
  ·subst h1;decide
  by_cases h2:c=62
  ·subst h2;decide
  by_cases h3:c=38
  ·subst h3;decide
  simp[h1,h2,h3]
 |true=>
 simp only[agn,ajH];congr 1;funext c;unfold wI;by_cases h1:c=60
 ·subst h1;decide
 by_cases h2:c=62
 ·subst h2;decide
 by_cases h3:c=38
 ·subst h3;decide
 by_cases h4:c=34
 ·subst h4;decide
 simp[h1,h2,h3,h4]
end Go.Am

namespace Go.Am
open Go Go.RowKit Go.Shelf Go.Proofs
section
variable {P:Program} {G:Nat->Option (List IV)} [KN P G] {ρ:Ren}
abbrev ZC (P:Program) (G:Nat->Option (List IV)) (f:Nat):Prop:=∀(c:UInt8) (n s:Bs),[c]≠n->s.length<=2^24->n.length<=8->aj P G f [.str s,.str [c],.str n] (.str (pd c n s))
def RU (L:Lays.n155 P ρ) (X:Builder.Extra P ρ) {m:Int} (h1:G (ρ.g 1)=some [.int .i64 m]):ZC P G (ρ.f 155):=by
 intro c n s cf hs hn
 refine dU ajO ajP λw I vs hG hv=> ?_
 simp only[bA,RV] at hv
 obtain⟨v1,u1,rfl,rfl,v2,u2,rfl,rfl,v3,u3,rfl,rfl,rfl⟩:=hv
 have hm:w.cell? ⟨ρ.g 1,0,none⟩=some (.int .i64 m):=by
   obtain⟨⟨⟨v,e1,e2⟩,_⟩,_⟩:=hG _ _ h1
   simp only[iM] at e2
   rw[e1,e2]
 have j9:∀s:Bs,(⟨s.toArray⟩:ByteArray).size=s.length:=λs=>by simp[ByteArray.size]
 have xD:∀s:Bs,(⟨s.toArray⟩:ByteArray).data.toList=s:=λs=>by simp
 refine(Any.strings_ReplaceAll L X ⟨s.toArray⟩ ⟨[c].toArray⟩ ⟨n.toArray⟩ m w anl hm (by rw[j9];simp) ?_).mono ?_
 · have e:Lib.countB ⟨s.toArray⟩ ⟨[c].toArray⟩=s.count c:=by
     have:=Lib.count_one c s
     simpa[Lib.countB] using this
   rw[j9,j9,e]
   have h1:=aju (aiW (a:=c) (l:=s)) hn
   omega
 rintro e w' ⟨rfl,hb⟩
 refine⟨_,rfl,hb,λI'=> ?_⟩
 rw[xD,xD,xD,A9 cf]
 simp[RV]
end
section
variable {P:Program} {G:Nat->Option (List IV)} [KN P G]
def ZD (hR:ZC P G 161) (s:Bs) (hs:s.length<=2^16) (v:Bool):aj P G 119 [.str s,.bool v] (.str (pB v s)):=by
 have l1:∀(c:UInt8) (n s:Bs) (k:Nat),n.length<=6->s.length<=k->(pd c n s).length<=6*k:=by
  intro c n s k hn hk;have:(pd c n s).length<=6*s.length:=by
   unfold pd;induction s with
   |nil=>simp
   |cons b r ih=>
   have:=ih (by simp at hk;omega);simp only[ah7,age,agd];split
   ·omega
   simp only[ahl];omega
  omega
 have g1:=l1 38 nL s _ ajN hs;have g2:=l1 60 Bj _ _ ajN g1;have g3:=l1 62 Bl _ _ ajN g2;refine au (cw 119 []) ajL ajO ajP ?_;simp only[↓aX,mX,seval];refine ah (hR 38 nL s ajN ajK ajN) ?_;simp only[↓aX,mX,seval];refine ah (hR 60 Bj _ ajN ajK ajN) ?_;simp only[↓aX,mX,seval];refine ah (hR 62 Bl _ ajN ajK ajN) ?_;simp only[↓aX,mX,seval];cases v with
 |false=>
  have e:=Lp false s;simp only[agl,agk] at e;simp only[↓aX,mX,seval,e]
 |true=>
 have e:=Lp true s;simp only[agn] at e;simp only[↓aX,mX,seval];refine ah (hR 34 jU _ ajN ajK ajN) ?_;simp only[↓aX,mX,seval,e]
set_option maxHeartbeats 1600000 in
def ZE (hT:∀(s:Bs),s.length<=2^16->∀v:Bool,aj P G 119 [.str s,.bool v] (.str (pB v s))) (x:Tree) (hx:x.wt<=2^15)
  (hS:∀k∈x.kids,aj P G 76 [k.av] (.str k.sh)):aj P G 76 [x.av] (.str x.sh):=by
 have h2:=nZ x;have h3:=oS x;have h4:=fS x.attrs;have h5:=bO x.kids;have h6:=x.dL;have Zd:(∀a:Attr,a∈x.attrs->a.name.length<=fm x.attrs/\a.val.length<=fm x.attrs):=λa ha=>by
  have:∀l:List Attr,a∈l->a.name.length<=fm l/\a.val.length<=fm l:=by
   intro l;induction l with
   |nil=>intro h;simp at h
   |cons b l ih=>
   intro h;simp only[fm,Attr.wt];rcases List.mem_cons.1 h with rfl|h
   ·constructor<;>omega
   have:=ih h;constructor<;>omega
  exact this _ ha
 refine au (cw 76 [.f 23 2 (.rw [.loc 5] []),.f 23 6 (.rw [.loc 5] [])]) ajL akb ajP ?_;simp only[↓aX,mX,seval,Tree.av];cases ht:x.text with
 |true=>
  simp only[↓aX,mX,seval,ht];refine ah (hT x.s ajK false) ?_;simp only[↓aX,mX,seval,Tree.Tt x ht]
 |false=>
 have Hq:∀a b:Bs,a.length<=2^40->b.length<=2^40->a.length+b.length<=9223372036854775807:=λa b h1 h2=>by omega
 have hA:∀l:List Attr,(cT l).length<=7*fm l:=by
  intro l;induction l with
  |nil=>simp[cT]
  |cons a l ih=>
  have:=n_ true a.val;have e:cT (a::l)=qQ a++cT l:=by simp[cT]
  rw[e,List.length_append];simp only[qQ,fm,Attr.wt,List.length_append,List.length_cons,List.length_nil];omega
 simp only[↓aX,mX,seval,ht,aE,show 1+x.s.length<=9223372036854775807 by omega];refine br (σ:={i:Nat // i<=x.attrs.length}) (λ_=>[.loc 1]) (λ_ _=>false)
  (λq=>[(1,.ptr (.loc 1) 4 0 0),(3,.str (60::x.s++cT (x.attrs.take q.1))),(17,.list (aQ x.attrs)),(18,.int .i64 x.attrs.length),(19,.int .i64 q.1)])
  (λ_=>[(.loc 1,⟨4,[[.bool false,.str x.s,.list (aQ x.attrs),.list (aM x.kids)]]⟩)]) (λq=>x.attrs.length - q.1) ⟨0,ajK⟩ (λ_=>rfl) (λq=>by simp[ai,AV.aq]) ?_ ⟨[],?_⟩ ?_
 ·exact abr
 ·refine⟨?_,?_,?_,ajS,λl _=>⟨id,λ_=>rfl⟩⟩
  ·exact ow
  ·simp[dp,aD,aH,aA,put,fH,cT]
  simp[eL,aD,ae,aP,aA,aH,ht]
 rintro⟨i,hi⟩;rw[dq];simp only[↓aX,mX,seval,aR,aI];by_cases aF:i<x.attrs.length
 ·obtain⟨a,ha⟩:∃a,x.attrs[i]?=some a:=⟨_,List.getElem?_eq_getElem aF⟩;have ham:=Zd a (List.mem_of_getElem? ha);have hw:=w1 i;simp only[↓aX,mX,seval,dT aF,Int.natCast_nonneg,Int.toNat_natCast,show(aQ x.attrs)[i]?=some a.iv by simp[aQ,ha],show dV 2 (aQ x.attrs) fromλy hy=>by
   simp only[aQ,List.mem_map] at hy;obtain⟨b,_,rfl⟩:=hy;rfl,Attr.iv,Attr.cs,IV.cells]
  have he:=n_ true a.val;have hB1:=hA (x.attrs.take i);have s4:fm (x.attrs.take i)<=fm x.attrs:=by
   have:∀(l:List Attr) (i:Nat),fm (l.take i)<=fm l:=by
    intro l;induction l with
    |nil=>intro i;simp
    |cons b l ih=>
    intro i;cases i with
    |zero=>simp[fm]
    |succ i=>have:=ih i;simp only[List.take_succ_cons,fm];omega
   exact this _ _
  refine⟨rfl,?_⟩;simp only[↓aX,mX,seval,List.length_append,List.length_cons,List.length_nil,show 1+a.name.length<=9223372036854775807 by omega];rw[if_pos (by(try simp only[List.length_append,List.length_cons,List.length_nil,List.length_singleton]);omega)]
  simp only[↓aX,mX,seval];refine dG (hT a.val ajK true) ?_;simp only[↓aX,mX,seval];rw[if_pos (by(try simp only[List.length_append,List.length_cons,List.length_nil,List.length_singleton]);omega)]
  simp only[↓aX,mX,seval];rw[if_pos (by(try simp only[List.length_append,List.length_cons,List.length_nil,List.length_singleton]);omega)]
  simp only[↓aX,mX,seval];rw[if_pos (by(try simp only[List.length_append,List.length_cons,List.length_nil,List.length_singleton]);omega)]
  simp only[↓aX,mX,seval,hw];have za:cT (x.attrs.take (i+1))=cT (x.attrs.take i)++qQ a:=by rw[List.take_add_one,ha];simp[cT]
  refine⟨⟨i+1,aF⟩,ajM,[],?_⟩;refine⟨?_,?_,?_,ajS,λl _=>⟨id,λ_=>rfl⟩⟩
  ·exact ow
  ·simp[dp,aD,aH,aA,put,za,qQ]
  exact LX
 have je:i=x.attrs.length:=ajK
 simp only[↓aX,mX,seval,dF aF];subst je;have hB1:=hA x.attrs;have yk:x.attrs.take x.attrs.length=x.attrs:=List.take_length;cases hk:x.kids with
 |nil=>
  simp only[↓aX,mX,seval,yk,hk,aM,List.map_nil,List.length_nil,show(((0:Nat):Int)==0)=true from rfl];rw[if_pos (by(try simp only[List.length_append,List.length_cons,List.length_nil,List.length_singleton]);omega)]
  simp only[↓aX,mX,seval];rw[Tree.Tu x ht,hk];simp[Dy]
 |cons k0 kr=>
 obtain⟨ks,JN⟩:∃ks,x.kids=ks:=⟨_,rfl⟩;have cf:ks≠[]:=by rw[<-JN,hk];simp
 have xx:(((aM ks).length:Int)==0)=false:=by
  have:=List.length_pos_iff.2 cf;simp only[ar];rw[beq_eq_false_iff_ne];omega
 rw[<-hk,JN];clear hk;rw[JN] at h2 h5 hS;have Mv:=si;have FQ:∀i,(uk (ks.take i)).length<=7*bH ks:=λi=>by
  have h1:=si (ks.take i);have h2:=ey ks i;omega
 simp only[↓aX,mX,seval,yk,xx];rw[if_pos (by(try simp only[List.length_append,List.length_cons,List.length_nil,List.length_singleton]);omega)]
 simp only[↓aX,mX,seval];refine br (σ:={i:Nat // i<=ks.length}) (λ_=>[.loc 1]) (λ_ _=>false)
  (λq=>[(1,.ptr (.loc 1) 4 0 0),(3,.str (60::x.s++cT x.attrs++[62]++uk (ks.take q.1))),(44,.list (aM ks)),(45,.int .i64 ks.length),(46,.int .i64 q.1)])
  (λ_=>[(.loc 1,⟨4,[[.bool false,.str x.s,.list (aQ x.attrs),.list (aM ks)]]⟩)]) (λq=>ks.length - q.1) ⟨0,ajK⟩ (λ_=>rfl) (λq=>by simp[ai,AV.aq]) ?_ ⟨[],?_⟩ ?_
 ·exact abr
 ·refine⟨?_,?_,?_,ajS,λl _=>⟨id,λ_=>rfl⟩⟩
  ·exact ow
  ·simp[dp,aD,aH,aA,put,uk,yk,ar]
  exact LX
 rintro⟨i,hi⟩;rw[dq];simp only[↓aX,mX,seval,aR,aI];by_cases aF:i<ks.length
 ·obtain⟨a,ha⟩:=gE aF;have ham:=List.mem_of_getElem? ha;have hw:=w1 i;have NP:=FQ i;have hs1:=Qn a;have P6:=kP ham;simp only[↓aX,mX,seval,dT aF,Int.natCast_nonneg,Int.toNat_natCast,dc,ha,fa,Option.map_some,Tree.ax,Tree.cs];refine ah (hS a ham) ?_;simp only[↓aX,mX,seval];rw[if_pos (by(try simp only[List.length_append,List.length_cons,List.length_nil,List.length_singleton]);omega)]
  simp only[↓aX,mX,seval,hw];have za:uk (ks.take (i+1))=uk (ks.take i)++a.sh:=by
   rw[List.take_add_one,ha];have:∀(l:List Tree) (a:Tree),uk (l++[a])=uk l++a.sh:=by
    intro l a;induction l with
    |nil=>simp[uk]
    |cons b l ih=>simp[uk,ih]
   exact this _ _
  refine⟨⟨i+1,aF⟩,ajM,[],?_⟩;refine⟨?_,?_,?_,ajS,λl _=>⟨id,λ_=>rfl⟩⟩
  ·exact ow
  ·simp[dp,aD,aH,aA,put,za]
  exact LX
 have je:i=ks.length:=ajK
 simp only[↓aX,mX,seval,dF aF];have NP:=FQ ks.length;have ig:ks.take ks.length=ks:=List.take_length;rw[ig] at NP;subst je;simp only[ig];rw[if_pos (by(try simp only[List.length_append,List.length_cons,List.length_nil,List.length_singleton]);omega)]
 simp only[↓aX,mX,seval];rw[if_pos (by(try simp only[List.length_append,List.length_cons,List.length_nil,List.length_singleton]);omega)]
 simp only[↓aX,mX,seval];rw[if_pos (by(try simp only[List.length_append,List.length_cons,List.length_nil,List.length_singleton]);omega)]
 simp only[↓aX,mX,seval];rw[Tree.Tu x ht,JN,Kq _ cf];simp
end
end Go.Am

namespace Go.Am
open Go Go.RowKit
section
variable {P:Program} {G:Nat->Option (List IV)} [KN P G]
def UZ {d:Doc} (hi:bQ d=true):(cY d 0).1=ky d 0:=by
 obtain⟨t,ht,rfl⟩:=dm.1 hi;unfold cY;rw[agc hi,agc ⟨ajL,by have:=Ag (t:=t);omega⟩];rfl
def U0 (d:Doc) (hd:mr d<=B):∀(k n:Nat),d.length - n<=k->n<d.length->aj P G 40 [Doc.av d,.int .i64 (n:Int)] (ky d n).av:=by
 intro k;induction k with
 |zero=>intro n h1 h2;omega
 |succ k ih=>exactλn h1 h2=>Tz d hd n h2 λm hm hm2=>ih m ajK hm2
def ZF (d:Doc) (hi:bQ d=true) (hT:aj P G 40 [Doc.av d,.int .i64 0] (cY d 0).1.av)
  (hM:aj P G 38 [(cY d 0).1.av] (.bq [Doc.av (c_ (cY d 0).1).1,.int .i64 (c_ (cY d 0).1).2])) (hS:aj P G 15 [Doc.av d,Doc.av d] (.bool (Fb d d))):aj P G 77 [Doc.av d] (.bool (bQ d)):=by
 have hB:B=1073741824:=rfl;refine au (cw 77 []) ajL aka ajP ?_;rw[hi];obtain⟨t,ht,e⟩:=dm.1 hi;rw[show(cY d 0).1=t by rw[e,show(0:Int)=((0:Nat):Int) from rfl,zM ht (Sub.self 0 (-1) t)]] at hT hM;rw[show c_ t=(d,0) by rw[e];unfold c_;rw[agc ht]] at hM;rw[show Fb d d=true by simp[Fb]] at hS;have h8:1<=d.length/\d.length<=80:=by rw[e,eR];have:=(fg t).1 ht;exact⟨t.ca,ajK⟩
 have hp:∀{i:Nat} {x:Node},d[i]?=some x->(i=0/\x.parent= -1)\/(0<i/\0<=x.parent/\x.parent<(i:Int)):=λh=>tM (t:=t) (by rw[<-e];exact h);simp only[Doc.av] at hT hM hS;obtain⟨x0,SA⟩:∃x,d[0]?=some x:=⟨_,af7 ajK⟩;have Z9:x0.parent= -1:=by rcases hp SA with h|h<;>omega
 simp only[↓aX,mX,seval,Doc.av,eD,show(((d.length:Nat):Int)==0)=false by simp;intro h;rw[h] at h8;simp at h8,show decide (((d.length:Nat):Int)>80)=false by simp;omega,Doc.iE SA,iY,Node.ax,Node.cs,Z9,show((-1:Int) != -1)=false from rfl];refine b_ (σ:={i:Nat // i<=d.length}) [.loc 1] (λq=>[(1,.ptr (.loc 1) 1 0 0),(26,.list (d.map Node.iv)),(27,.int .i64 d.length),(28,.int .i64 q.1)])
  (λ_=>[(.loc 1,⟨1,[[.list (d.map Node.iv)]]⟩)]) (λq=>d.length - q.1) ⟨0,ajL⟩ (λ_=>rfl) ajN ajO ajO ?_ ?_
 ·exact eu ak1 ajT ajT
 rintro⟨i,hi⟩;simp only[↓aX,mX,seval,aR,aI,eD];by_cases aF:i<d.length
 ·obtain⟨x,hx⟩:=gE aF;have hw:=w1 i ajK;simp only[↓aX,mX,seval,dT aF,Doc.iE hx,iY,Node.ax,Node.cs];by_cases hi0:i=0
  ·subst hi0;simp only[↓aX,mX,reduceCtorEq,Int.reduceLT,Nat.reduceEqDiff,Int.reduceLE,Nat.reduceLT,Nat.reduceLeDiff,Nat.reduceAdd,Nat.reduceMul,Int.reduceToNat,show decide (((0:Nat):Int)>0)=false from rfl,hw];refine⟨⟨1,ajK⟩,ajM,eu ?_ ⟨rfl,rfl,rfl,rfl,trivial⟩ ⟨rfl,trivial⟩⟩;intro l uj hu;by_cases e0:l= .loc 1
   ·subst e0;simp
   exact Dq
  have hpx:0<=x.parent/\x.parent<i:=by rcases hp hx with h|h<;>omega
  simp only[↓aX,mX,seval,show decide ((i:Int)>0)=true by simp;omega,show decide (x.parent<0)=false by simp;omega,show decide (x.parent>=(i:Int))=false by simp;omega,hw];refine⟨⟨i+1,ajK⟩,ajM,eu ?_ ⟨rfl,rfl,rfl,rfl,trivial⟩ ⟨rfl,trivial⟩⟩;intro l uj hu;by_cases e0:l= .loc 1
  ·subst e0;simp
  exact Dq
 have je:i=d.length:=ajK
 subst je;simp only[↓aX,mX,seval,show decide ((d.length:Int)<(d.length:Int))=false by simp];refine ah hT ?_;simp only[↓aX,mX,seval];refine ah hM ?_;simp only[↓aX,mX,seval];refine ah hS ?_;simp only[↓aX,mX,seval]
def Jw (x:Tree) (hI:aj P G 75 [x.av] (.bool x.cA)) (hS:x.cA=true->aj P G 76 [x.av] (.str x.sh)) :
  aj P G 39 [x.av] (.bq [.str (dI x).1,.int .i64 (dI x).2]):=by
 refine au (cw 39 []) ajL akb ajU ?_;simp only[Tree.av] at hI hS;simp only[↓aX,mX,seval,Tree.av];refine ah hI ?_;cases hg:x.cA with
 |false=>simp only[↓aX,mX,seval,hg,af1,↓a_,dI,agl]
 |true=>
 simp only[↓aX,mX,seval,hg,af4];refine ah (hS hg) ?_;by_cases hl:x.sh.length<=2500
 ·simp only[↓aX,mX,seval,show decide ((x.sh.length:Int)>2500)=false by simp;omega,↓a_,dI,hg,Nat.not_lt.2 hl]
 simp only[↓aX,mX,seval,show decide ((x.sh.length:Int)>2500)=true by simp;omega,↓a_,dI,hg,show 2500<x.sh.length by omega]
end
end Go.Am

set_option maxRecDepth 20000
namespace Go.Am
open Go Go.RowKit
def kl (k:Int):Bs:=(([(1,[99]),(2,[99]),(3,[99]),(4,[99]),(5,[]),(6,[99]),(7,[116]),(8,[110]),(9,[110,116]),(10,[110])]:List (Int×Bs)).lookup k).getD []
def U1 (k:Int):(([(1,[99]),(2,[99]),(3,[99]),(4,[99]),(5,[]),(6,[99]),(7,[116]),(8,[110]),(9,[110,116]),(10,[110])]:List (Int×List UInt8)).lookup k).getD []=kl k:=rfl
def hasB (m c:Bs):Bool:=decide (Lib.index m c>=0)
def adr {k:Int} (h1:1<=k) (h2:k<=10):hasB (kl k) [99]=kC k/\hasB (kl k) [110]=kN k/\hasB (kl k) [116]=kT k/\(kl k).length<=2:=by
 have:k=1\/k=2\/k=3\/k=4\/k=5\/k=6\/k=7\/k=8\/k=9\/k=10:=ajK
 rcases this with rfl|rfl|rfl|rfl|rfl|rfl|rfl|rfl|rfl|rfl<;>decide
def U2 {d:Doc} (h:bQ d=true) {n:Nat} {x:Node} (hx:d[n]?=some x):decide (x.parent<0)=(n==0):=by
 obtain⟨t,hg,rfl⟩:=dm.1 h;rcases tM hx with⟨rfl,h⟩|⟨h1,h2,_⟩
 ·rw[h];rfl
 have h3:¬x.parent<0:=ajK
 simp[h3];omega
def afm {p q r:Bool} (h:((p||q)||r)=true) (X:Int):(if p=true then(1:Int) else if q=true then 1 else if r=true then 1 else X)=1:=amm
def afn {p q r:Bool} (h:((p||q)||r)=false) (X:Int):(if p=true then(1:Int) else if q=true then 1 else if r=true then 1 else X)=X:=amm
section
variable {P:Program} {G:Nat->Option (List IV)} [KN P G]
def U3 (s t:Bs) (h:aj P G 96 [.str s,.str t] (.int .i64 (Lib.index s t))):aj P G 163 [.str s,.str t] (.bool (hasB s t)):=by
 refine au (cw 163 []) ajL ajO ajP ?_;simp only[↓aX,mX,seval];refine ah h ?_;simp only[↓aX,mX,seval];rfl
def ZG (s t:Bs) (h:aj P G 163 [.str s,.str t] (.bool (hasB s t))):aj P G 162 [.str t,.lptr [.str s]] (.bool (hasB s t)):=by
 refine au (cw 162 []) ajL ajO ajP ?_;simp only[↓aX,mX,seval];refine ah h ?_;simp only[↓aX,mX,seval]
def ZH (a:Nat) (l:List bd):List bd:=l.takeWhile λi=>i.d !=some a
def RW (a:Nat) (l:List bd):List bd:=l.dropWhile λi=>i.d !=some a
def afo:Option AC->List bd
 |some (.nD l)=>l
 |_=>[]
noncomputable def ZI:List bd:=afo ((Ds 121 [.b 34 .jf]).Se fun| .nD l=>l.any λi=>i.d==some 35|_=>false)
noncomputable def o_T:List bd:=RW 74 ZI
noncomputable def ads (T:List bd):List bd:=ZH 74 (RW 54 ZI)++T
noncomputable def adt (N:List bd):List bd:=ZH 54 (RW 35 ZI)++N
noncomputable def o_Y:AC:=(Ds 121 [.b 34 .jf]).NS 107
noncomputable def adu (Y:AC):AC:=(Ds 121 [.b 34 .jf,.t 107 (.gh .jf Y)]).NS 94
def afp:=BI o_T
def afq T:=BI (ads T)
def afr N:=BI (adt N)
def afs:=BI o_Y
def aft Y:=BI (adu Y)
def afu (C:List bd) X:=XW 121 [.b 34 .jf,.t 94 (.gh .jf X)] λx=>(x.fst (fun| .nD l=>l.any λi=>i.d==some 35|_=>false) (fun| .nD l=> .nD (ZH 35 l++C)|x=>x)).1
noncomputable def o_N:List bd:=ads o_T
noncomputable def o_C:List bd:=adt o_N
noncomputable def o_X:AC:=adu o_Y
def StO (f1:Nat) (d:Doc) (o:Op) (env:Env) (H:Hp):Prop:=env 2= .ptr (.loc 2) 1 0 0/\env 3= .ptr (.loc 3) 5 0 0/\env 6= .fn f1 [] [.lptr [.str (kl o.kind)]] /\
 H (.loc 2)= .live ⟨1,[[.list (d.map Node.iv)]]⟩/\H (.loc 3)= .live ⟨5,[[.int .i64 o.kind,.int .i64 o.target,.list (aM o.content),.str o.name,.str o.s]]⟩
def ZJ {f1:Nat} {K:Env->Hp->Prop} (d:Doc) (o:Op) (a:Bool) (e:Bool) {env:Env} {H:Hp} (hs:StO f1 d o env H) (hi:env 73= .bool a)
  (hB:dE P f1=true) (hH:aj P G f1 [.str [116],.lptr [.str (kl o.kind)]] (.bool e)) (hP:aj P G 62 [.str o.s] (.bool (plain o.s)))
  (hk:∀bJ,StO f1 d o bJ H->bJ 93= .bool (a||(if e then !plain o.s else !(o.s==[])))->K bJ H):AO ⟨P,G,124⟩ o_T env H K:=by
 obtain⟨e2,e3,e6,r2,r3⟩:=hs;rw[afp];cases a with
 |true=>
  simp only[aU,bD,↓aX,mX,seval,List.nil_append,agb,tQ,af4,af1,e2,e3,e6,r2,r3,hi];refine hk _ ⟨akR,akw,akS,r2,r3⟩ ?_;simp[put]
 |false=>
 simp only[aU,bD,↓aX,mX,seval,List.nil_append,agb,tQ,af4,af1,e2,e3,e6,r2,r3,hi];refine⟨hB,ah hH ?_⟩;cases e with
 |true=>
  simp only[aU,bD,↓aX,mX,seval,List.nil_append,agb,tQ,af4,af1,e2,e3,e6,r2,r3];refine ah hP ?_;cases hv:plain o.s with
  |false=>
   simp only[aU,bD,↓aX,mX,seval,List.nil_append,agb,tQ,af4,af1,e2,e3,e6,r2,r3];refine hk _ ⟨akR,akw,akS,r2,r3⟩ ?_;simp[put,hv]
  |true=>
  simp only[aU,bD,↓aX,mX,seval,List.nil_append,agb,tQ,af4,af1,e2,e3,e6,r2,r3];refine⟨hB,ah hH ?_⟩;simp only[aU,bD,↓aX,mX,seval,List.nil_append,agb,tQ,af4,af1,e2,e3,e6,r2,r3];refine hk _ ⟨akR,akw,akS,r2,r3⟩ ?_;simp[put,hv]
 |false=>
 simp only[aU,bD,↓aX,mX,seval,List.nil_append,agb,tQ,af4,af1,e2,e3,e6,r2,r3];refine⟨hB,ah hH ?_⟩;simp only[aU,bD,↓aX,mX,seval,List.nil_append,agb,tQ,af4,af1,e2,e3,e6,r2,r3];refine hk _ ⟨akR,akw,akS,r2,r3⟩ ?_;simp[put]
def ZK {f1:Nat} {K:Env->Hp->Prop} (d:Doc) (o:Op) (a:Bool) (e:Bool) {env:Env} {H:Hp} (hs:StO f1 d o env H) (hi:env 53= .bool a)
  (hB:dE P f1=true) (hH:aj P G f1 [.str [110],.lptr [.str (kl o.kind)]] (.bool e)) (hP:aj P G 97 [.str o.name] (.bool (named o.name)))
  (hk:∀bJ,StO f1 d o bJ H->bJ 73= .bool (a||(if e then !named o.name else !(o.name==[])))->AO ⟨P,G,124⟩ o_T bJ H K):AO ⟨P,G,124⟩ o_N env H K:=by
 obtain⟨e2,e3,e6,r2,r3⟩:=hs;rw[o_N,afq];cases a with
 |true=>
  simp only[aU,bD,↓aX,mX,seval,List.nil_append,agb,tQ,af4,af1,e2,e3,e6,r2,r3,hi];refine hk _ ⟨akR,akw,akS,r2,r3⟩ ?_;simp[put]
 |false=>
 simp only[aU,bD,↓aX,mX,seval,List.nil_append,agb,tQ,af4,af1,e2,e3,e6,r2,r3,hi];refine⟨hB,ah hH ?_⟩;cases e with
 |true=>
  simp only[aU,bD,↓aX,mX,seval,List.nil_append,agb,tQ,af4,af1,e2,e3,e6,r2,r3];refine ah hP ?_;cases hv:named o.name with
  |false=>
   simp only[aU,bD,↓aX,mX,seval,List.nil_append,agb,tQ,af4,af1,e2,e3,e6,r2,r3];refine hk _ ⟨akR,akw,akS,r2,r3⟩ ?_;simp[put,hv]
  |true=>
  simp only[aU,bD,↓aX,mX,seval,List.nil_append,agb,tQ,af4,af1,e2,e3,e6,r2,r3];refine⟨hB,ah hH ?_⟩;simp only[aU,bD,↓aX,mX,seval,List.nil_append,agb,tQ,af4,af1,e2,e3,e6,r2,r3];refine hk _ ⟨akR,akw,akS,r2,r3⟩ ?_;simp[put,hv]
 |false=>
 simp only[aU,bD,↓aX,mX,seval,List.nil_append,agb,tQ,af4,af1,e2,e3,e6,r2,r3];refine⟨hB,ah hH ?_⟩;simp only[aU,bD,↓aX,mX,seval,List.nil_append,agb,tQ,af4,af1,e2,e3,e6,r2,r3];refine hk _ ⟨akR,akw,akS,r2,r3⟩ ?_;simp[put]
def ZL {f1:Nat} {K:Env->Hp->Prop} (d:Doc) (o:Op) (e:Bool) {env:Env} {H:Hp} (hs:StO f1 d o env H)
  (hB:dE P f1=true) (hH:aj P G f1 [.str [99],.lptr [.str (kl o.kind)]] (.bool e)) (hP:aj P G 65 [.list (aM o.content)] (.bool (content o.content)))
  (hk:∀bJ,StO f1 d o bJ H->bJ 53= .bool (if e then !content o.content else((o.content.length:Int) !=0))->AO ⟨P,G,124⟩ o_N bJ H K):AO ⟨P,G,124⟩ o_C env H K:=by
 obtain⟨e2,e3,e6,r2,r3⟩:=hs;rw[o_C,afr];simp only[aU,bD,↓aX,mX,seval,List.nil_append,agb,tQ,af4,af1,e2,e3,e6,r2,r3];refine⟨hB,ah hH ?_⟩;cases e with
 |true=>
  simp only[aU,bD,↓aX,mX,seval,List.nil_append,agb,tQ,af4,af1,e2,e3,e6,r2,r3];refine ah hP ?_;cases hv:content o.content with
  |false=>
   simp only[aU,bD,↓aX,mX,seval,List.nil_append,agb,tQ,af4,af1,e2,e3,e6,r2,r3];refine hk _ ⟨akR,akw,akS,r2,r3⟩ ?_;simp[put,hv]
  |true=>
  simp only[aU,bD,↓aX,mX,seval,List.nil_append,agb,tQ,af4,af1,e2,e3,e6,r2,r3];refine⟨hB,ah hH ?_⟩;simp only[aU,bD,↓aX,mX,seval,List.nil_append,agb,tQ,af4,af1,e2,e3,e6,r2,r3];refine hk _ ⟨akR,akw,akS,r2,r3⟩ ?_;simp[put,hv]
 |false=>
 simp only[aU,bD,↓aX,mX,seval,List.nil_append,agb,tQ,af4,af1,e2,e3,e6,r2,r3];refine⟨hB,ah hH ?_⟩;simp only[aU,bD,↓aX,mX,seval,List.nil_append,agb,tQ,af4,af1,e2,e3,e6,r2,r3];refine hk _ ⟨akR,akw,akS,r2,r3⟩ ?_;simp[put]
def Hc:List (Nat×AV):=[(2,.ptr (.loc 2) 1 0 0),(3,.ptr (.loc 3) 5 0 0)]
def s7 (d:Doc) (o:Op):List (Lb×Row):=[(.loc 2,⟨1,[[.list (d.map Node.iv)]]⟩),(.loc 3,⟨5,[[.int .i64 o.kind,.int .i64 o.target,.list (aM o.content),.str o.name,.str o.s]]⟩)]
def C3 (d:Doc) (o:Op):∀r∈s7 d o,∀cs∈r.2.els,∀z∈ai cs,z∈[Lb.loc 2,.loc 3]:=by
 intro r hr cs aZ z hz;simp only[s7,aga,agf,agI] at hr;rcases hr with rfl|rfl<;>simp only[af'] at aZ<;>subst aZ<;>simp[ai,AV.aq] at hz
def ZM (d:Doc) (o:Op) (x:Node) (hx:d[o.target.toNat]?=some x) (h0:0<=o.target) :
  go ⟨P,G,124⟩ (eZ [(none,4)] λy _=>y= .int .i64 (if(x.text&&(decide (o.kind<3)||decide (7<o.kind)))=true then 4 else 0)) [.code o_Y] (iX Hc) (cU (λ_=>false) (s7 d o)):=by
 have QR:(d.map Node.iv)[o.target.toNat]?=some x.iv:=anY
 rw[dq];rw[afs];unfold Hc s7;simp only[↓aX,mX,seval,aR,aI,h0,QR,iY,Node.ax,Node.cs,tQ];cases x.text with
 |false=>simp only[↓aX,mX,seval,tQ,aha]
 |true=>
 simp only[↓aX,mX,seval,tQ,ag7];cases decide (o.kind<3) with
 |true=>simp only[↓aX,mX,seval,tQ,ajk]
 |false=>
 simp only[↓aX,mX,seval,tQ,aih];cases decide (7<o.kind) with
 |true=>simp only[↓aX,mX,seval,tQ,aih]
 |false=>simp only[↓aX,mX,seval,tQ,ah6]
def ZN (d:Doc) (o:Op) (x:Node) (hx:d[o.target.toNat]?=some x) (h0:0<=o.target) :
  go ⟨P,G,124⟩ (eZ [(none,4)] λy _=>y= .int .i64 (if((o.target==0)&&decide (3<=o.kind)&&decide (o.kind<=6))=true then 6 else if(x.text&&(decide (o.kind<3)||decide (7<o.kind)))=true then 4 else 0)) [.code o_X] (iX Hc) (cU (λ_=>false) (s7 d o)):=by
 have hY:=ZM (P:=P) (G:=G) d o x hx h0;have fin:∀env,env 2= .ptr (.loc 2) 1 0 0->env 3= .ptr (.loc 3) 5 0 0->go ⟨P,G,124⟩ (eZ [(none,4)] λy _=>y= .int .i64 (if(x.text&&(decide (o.kind<3)||decide (7<o.kind)))=true then 4 else 0)) [.code (.gh .jf o_Y)] env (cU (λ_=>false) (s7 d o)):=λenv e2 e3=>
  ib [.loc 2,.loc 3] (λ_=>false) _ _ rfl (by simp[ai,AV.aq,Hc]) (C3 d o) ⟨[],by
   rw[dq];intro l' hf hu;refine absurd ?_ hu;simp[s7,aI,aR,O3,hf,Lb.fresh,Hp.none],by simp[dp,aD,aH,Hc,e2,e3],by rw[dq];simp[eL,s7,aI,aD,ae,aP,aA,aH],ajS,λl _=>⟨id,λ_=>rfl⟩⟩ hY
 rw[dq] at fin ⊢;rw[o_X,aft];unfold Hc;unfold s7 at fin ⊢;simp only[↓aX,mX,seval,aR,aI,tQ] at fin ⊢;cases (o.target==0) with
 |false=>
  simp only[↓aX,mX,seval,tQ,aha];exact fin _ ak0 ak0
 |true=>
 simp only[↓aX,mX,seval,tQ,ag7];cases decide (3<=o.kind) with
 |false=>
  simp only[↓aX,mX,seval,tQ,aha];exact fin _ ak0 ak0
 |true=>
 simp only[↓aX,mX,seval,tQ,ag7];cases decide (o.kind<=6) with
 |true=>simp only[↓aX,mX,seval,tQ]
 |false=>
 simp only[↓aX,mX,seval,tQ];exact fin _ ak0 ak0
def adv (d:Doc) (o:Op) (hD:aj P G 77 [Doc.av d] (.bool (bQ d)))
  (hB:dE P 162=true) (hH:∀m c:Bs,m.length<=2->aj P G 162 [.str c,.lptr [.str m]] (.bool (hasB m c)))
  (hC:aj P G 65 [.list (aM o.content)] (.bool (content o.content))) (hN:aj P G 97 [.str o.name] (.bool (named o.name))) (hP:aj P G 62 [.str o.s] (.bool (plain o.s))) :
  aj P G 121 [Doc.av d,o.av] (.int .i64 (db d o)):=by
 refine au (XX (afu o_C o_X)) ajL alh ajP ?_;simp only[↓aX,mX,seval,Op.av,Doc.av];refine ah hD ?_;cases hd:bQ d with
 |false=>
  simp only[↓aX,mX,seval,af1];unfold db;rw[af8 (by rw[hd];decide)]
 |true=>
 simp only[↓aX,mX,seval,af4,Op.av,Doc.av];cases h1:decide (o.kind<1) with
 |true=>
  simp only[↓aX,mX,seval,h1,Op.av,Doc.av];have:o.kind<1:=aj8
  unfold db;simp[hd,this]
 |false=>
 simp only[↓aX,mX,seval,h1,Op.av,Doc.av,aiF];cases h2:decide (10<o.kind) with
 |true=>
  simp only[↓aX,mX,seval,h1,h2,Op.av,Doc.av];have:10<o.kind:=akN
  unfold db;simp[hd,this]
 |false=>
 simp only[↓aX,mX,seval,h1,h2,Op.av,Doc.av];have k1:¬o.kind<1:=aj8
 have k2:¬10<o.kind:=akN
 cases h3:decide (o.target<0) with
 |true=>
  simp only[↓aX,mX,seval,h1,h2,h3,Op.av,Doc.av];have:o.target<0:=ak6
  unfold db;simp[hd,k1,k2,this]
 |false=>
 simp only[↓aX,mX,seval,h1,h2,h3,Op.av,Doc.av,ah1,eD];have k3:¬o.target<0:=ak6
 cases h4:decide ((d.length:Int)<=o.target) with
 |true=>
  simp only[↓aX,mX,seval,h1,h2,h3,h4,Op.av,Doc.av];have:(d.length:Int)<=o.target:=amR
  unfold db;simp[hd,k1,k2,k3,this]
 |false=>
 have k4:¬(d.length:Int)<=o.target:=amR
 obtain⟨x,hx⟩:∃x,d[o.target.toNat]?=some x:=⟨_,af7 ajK⟩;have QR:(d.map Node.iv)[o.target.toNat]?=some x.iv:=anY
 have k5:0<=o.target:=ajK
 obtain⟨m1,m2,m3,m4⟩:=adr (k:=o.kind) ajK ajK;have Ub:=U2 hd hx;have adw:decide (x.parent<0)=(o.target==0):=by
  rw[Ub];by_cases h:o.target=0
  ·simp[h]
  have:o.target.toNat≠0:=ajK
  rw[agZ.2 h,agZ.2 this]
 have hlen:decide ((o.content.length:Int)>0)=((o.content.length:Int) !=0):=by
  by_cases h:o.content.length=0
  ·simp[h]
  have h1:(o.content.length:Int)>0:=ajK
  have h2:(o.content.length:Int)≠0:=ajK
  simp only[h1,ag3,ajv.2 h2]
 have Bg:(kB o.kind&&(o.target==0))=((o.target==0)&&decide (3<=o.kind)&&decide (o.kind<=6)):=by unfold kB;cases (o.target==0)<;>simp
 have pr:(!kB o.kind&&o.kind !=7)=(decide (o.kind<3)||decide (7<o.kind)):=by
  rw[agP];simp[kB];omega
 have yE:db d o=(if(if hasB (kl o.kind) [99]=true then !content o.content else((o.content.length:Int) !=0))=true then 1
  else if(if hasB (kl o.kind) [110]=true then !named o.name else !(o.name==[]))=true then 1
  else if(if hasB (kl o.kind) [116]=true then !plain o.s else !(o.s==[]))=true then 1
  else if((o.target==0)&&decide (3<=o.kind)&&decide (o.kind<=6))=true then 6 else if(x.text&&(decide (o.kind<3)||decide (7<o.kind)))=true then 4 else 0):=by
  unfold db;rw[m1,m2,m3,agc hd,af8 ajK,af8 ajK,hx];simp only[om,adw,hlen,Bg,pr];rfl
 clear m1 m2 m3;have hHc:=hH (kl o.kind) [99] m4;have hHn:=hH (kl o.kind) [110] m4;have hHt:=hH (kl o.kind) [116] m4;generalize hasB (kl o.kind) [99]=a at *;generalize hasB (kl o.kind) [110]=b at *;generalize hasB (kl o.kind) [116]=e at *;simp only[↓aX,mX,seval,h1,h2,h3,h4,Op.av,Doc.av,k5,QR,iY,Node.ax,Node.cs,U1,ec];refine⟨_,_,rh (d:=5) (l:= .loc 5) (sz:=1) (y:= .str (kl o.kind)) ak0 (by simp[ae];rfl) rfl alq,?_⟩;simp only[↓aX,mX,seval,IV.cells,List.nil_append];clear hD hH;refine ZL d o a ⟨ak0,ak0,ak0,ajR,ajR⟩ hB hHc hC λafW s1 h53=> ?_;refine ZK d o _ b s1 h53 hB hHn hN λenv2 s2 h73=> ?_;refine ZJ d o _ e s2 h73 hB hHt hP λYg s3 UE=> ?_;obtain⟨e2,e3,_,r2,r3⟩:=s3;rw[yE];cases hv:(((if a then !content o.content else((o.content.length:Int) !=0))||(if b then !named o.name else !(o.name==[])))||(if e then !plain o.s else !(o.s==[]))) with
 |true=>
  rw[hv] at UE;rw[afm hv];simp only[↓aX,mX,seval,UE]
 |false=>
 rw[hv] at UE;rw[afn hv];simp only[↓aX,mX,seval,UE];refine ib [.loc 2,.loc 3] (λ_=>false) _ _ rfl (by simp[ai,AV.aq,Hc]) (C3 d o) ⟨[],?_,?_,?_,ajS,λl _=>⟨id,λ_=>rfl⟩⟩ (ZN (P:=P) (G:=G) d o x hx k5)
 ·exact BG
 ·simp[dp,aD,aH,Hc,e2,e3]
 simp[eL,s7,aD,ae,aP,aA,aH]
end

def Wa {t:Tree} {l:List Op} (xA:∀o∈l,D5 t o) {n:Nat} {q:Int} {y:Tree} (hs:Sub 0 (-1) t n q y) {k:Int} (h:bZ l k n=true) :
  (kB k=true->0<=q)/\(y.text=true->kB k=true\/k=7):=by
 obtain⟨o,ho,hk,ht⟩:=AH.1 h;obtain⟨n',q',y',h1,h2,h3⟩:=(xA o ho).ex;have:n'=n:=by rw[ht] at h2;omega
 subst this;have e1:=(h1.vc (ay t) ⟨[],akJ⟩).node;have e2:=(hs.vc (ay t) ⟨[],akJ⟩).node;rw[e1] at e2;have e:y'.node n' q'=y.node n' q:=ah4 e2;obtain⟨_,_,_,_,_,_,h4,h5⟩:=tZ h3;rw[e,hk] at h4 h5;exact⟨h4,h5⟩
def NH {t:Tree} {l:List Op} (xA:∀o∈l,D5 t o):t.iH l 0=[t.bG l 0]:=by
 have no:∀k:Int,kB k=true->bZ l k 0=false:=by
  intro k hk;cases h:bZ l k 0 with
  |false=>rfl
  |true=>
  have:=(Wa xA (.self 0 (-1) t) h).1 hk;omega
 rw[Tree.jI,tW (no 3 rfl),tW (no 4 rfl),no 6 rfl,no 5 rfl];simp
def yf {t:Tree} (ht:t.cA=true) {l:List Op} (xA:∀o∈l,D5 t o) (hl:l.length<=20) :
  nF l<=386000/\(ay t).length<=80/\∀n q y,Sub 0 (-1) t n q y->n<=B/\y.wt+y.cC*(8*nF l+2)<=B/\(y.text=true->bZ l 8 n=false)/\gA y.attrs=true:=by
 obtain⟨DP,abJ,Iw,K8⟩:=(fg t).1 ht;have hw:nF l<=386000:=by
  have h1:=I4 λo ho=>(xA o ho).small;have h2:l.length*19300<=20*19300:=agy _ hl;omega
 refine⟨hw,by rw[eR];exact Iw,λn q y hs=> ?_⟩;have hrg:=hs.Ig;have Sn:=hs.iu K8;have hyw:=D4 y Sn;have hm:y.cC*(8*nF l+2)<=80*(8*386000+2):=aju ajK ajK;refine⟨akh,akh,λhT=> ?_,?_⟩
 ·cases h:bZ l 8 n with
  |false=>rfl
  |true=>
   rcases (Wa xA hs h).2 hT with h|h
   ·exact absurd h ajN
   exact absurd h ajN
 cases hT:y.text with
 |true=>rw[(Tree.rN Sn hT).2.1];rfl
 |false=>
 rw[Tree.tu y hT] at Sn;simp only[agm] at Sn;exact((lr y.attrs).1 Sn.2.1).2.1
def He {x:Tree} (h:x.text=false):cP [x]=[.mk x.text x.s x.attrs (cP x.kids)]:=by
 cases x with|mk tx s az ks=>
 simp only[Tree.text] at h;subst h;simp only[cP,dB];rw[Tree.Fe];simp[push,Tree.text,Tree.s,Tree.attrs,Tree.kids,cP]
section
variable {P:Program} {G:Nat->Option (List IV)} [KN P G]
def Jx
  (hC:∀l:List Tree,bH l<=B->aj P G 164 [.list (aM l)] (.list (aM l)))
  (hJ:∀l:List Tree,bH l<=B->aj P G 80 [.list (aM l)] (.list (aM (cP l))))
  (hM:∀x:Tree,x.wt<=B->aj P G 38 [x.av] (.bq [Doc.av (c_ x).1,.int .i64 (c_ x).2]))
  (d:Doc) (l:List Op) (hK:aj P G 79 [Doc.av d,.list (l.map Op.iv)] (.int .i64 (dn d l))) :
  aj P G 42 [Doc.av d,.list (l.map Op.iv)] (.bq [Doc.av (cq d l).1,.int .i64 (cq d l).2]):=by
 have gV:B=1073741824:=rfl;have key:∀t,t.cA=true->d=ay t->dn d l=0->(∀o∈l,D5 t o)/\l.length<=20/\(t.bG l 0).wt<=B/\t.text=false:=by
  rintro t ht rfl hc;obtain⟨xA,I0,_⟩:=(AS ht).1 hc;obtain⟨h1,_,h2⟩:=yf ht xA I0;obtain⟨DP,_,Iw,_⟩:=(fg t).1 ht;have h3:=GL l t 0;have h4:=(h2 0 (-1) t (.self _ _ _)).2.1;exact⟨xA,I0,ajK,DP⟩
 refine NG d l hK (λt ht hd hc=> ?_) (λt ht hd hc=> ?_) (λt ht hd hc=> ?_)
 ·obtain⟨xA,I0,_,_⟩:=key t ht hd hc;obtain⟨h1,h2,h3⟩:=yf ht xA I0;rw[<-NH xA];refine Ll t l ajK ajK ajK (λo ho=>(xA o ho).Hr) (λk n hn=>oOf l k n ajK ajK hn λo ho=>hC _ ?_) h3 t.cC 0 (-1) t (af6 _) (.self _ _ _);have:=(xA o ho).small;unfold Bo at this;omega
 ·obtain⟨xA,I0,hw,hx⟩:=key t ht hd hc;have:=hJ [t.bG l 0] (by simp only[bH];omega);rw[He (show(t.bG l 0).text=false from hx)] at this;exact this
 obtain⟨xA,I0,hw,_⟩:=key t ht hd hc;refine hM _ ?_;have:=(t.bG l 0).dL;have:=zC (t.bG l 0).kids;unfold ki;simp only[Tree.wt];omega
end

def A_ (xs:List Tree) (i:Nat):Env:=
 put (put (put (put Env.any 3 (.sl (.loc 3) 4 0 i)) 6 (.list (aM xs))) 7 (.int .i64 xs.length)) 8 (.int .i64 i)
section
variable {P:Program} {G:Nat->Option (List IV)} [KN P G]
def NI (x:Tree) (hx:x.wt<=B)
  (hg:aj P G 164 [.list (aM x.kids)] (.list (aM x.kids))):aj P G 193 [x.av] x.av:=by
 refine au (cw 193 [.f 3 1 (.rw [.loc 1] []),.f 3 2 (.rw [] [.loc 5]),.f 3 4 (.rw [.loc 1] []),.f 3 7 (.rw [] [.loc 1]),.f 3 9 (.rw [] [.loc 1]),.r (.uJ (.loc 5) (.loc 2) 2)]) ajL akb ale ?_;have hA:(aQ x.attrs).length<=B:=by rw[aE];have:=fS x.attrs;have:=x.dL;omega
 have hA2:(aQ x.attrs).length*32<=140737488355328:=by unfold B at hA;omega
 simp only[↓lP,lK,lX,List.take,List.drop,seval,Tree.av];refine⟨le_max ajN,le_max ajN,rfl,?_⟩;rw[J2 (kx _) (gn _) hA2 ajN ajX];simp only[↓lP,lK,lX,List.take,List.drop,seval];refine dG hg ?_;simp only[↓lP,lK,lX,List.take,List.drop,seval];refine⟨2,aQ x.attrs,0,_,[_,_,_,_],rfl,rfl,rfl,ajL,ajK,gn _,?_⟩;simp only[↓lP,lK,lX,List.take,List.drop,seval,agu]
def Ba (xs:List Tree) (hx:bH xs<=B)
  (hg:∀x∈xs,aj P G 193 [x.av] x.av):aj P G 164 [.list (aM xs)] (.list (aM xs)):=by
 refine au (cw 164 [.a 3 (.own 3 4),.r (.tj (.loc 3) 2)]) ajL ajO ajP ?_;have hl:xs.length<=B:=ag' (bO xs) hx;simp only[↓lP,lK,lX,List.take,List.drop,seval,ar];refine jJ (σ:={i:Nat // i<=xs.length}) (λs=>A_ xs s.1) (λs=>aS Hp.none (.loc 3) (.live ⟨4,ak (aM (xs.take s.1))⟩)) (λs=>xs.length - s.1) ⟨0,ajL⟩ (λ_=> .loc 3) ?_ ?_
 ·refine .one ?_ ?_ (by simp[ae,ak,aM]) rfl rfl (gj mn)
  ·exact Ta
  exact O2
 rintro⟨i,hi⟩;simp only[↓lP,lK,lX,List.take,List.drop,seval,A_];by_cases aF:i<xs.length
 ·rw[dT aF];obtain⟨x,nE⟩:=gE aF;have hw:=w1 i (by unfold B at hl;omega);simp only[↓lP,lK,lX,List.take,List.drop,seval,dc,nE,fa,Tree.ax,Tree.cs];refine⟨le_max ajN,ah (hg x (af3 nE)) ?_⟩;simp only[↓lP,lK,lX,List.take,List.drop,seval,Tree.av];have P0:(aM (xs.take i)).length=i:=by rw[ar,agA];omega
  rw[Dk (l:= .loc 3) (els:=ak (aM (xs.take i))) ajR (by simp[ak,P0]) (xs:=[.agg [.bool x.text,.str x.s,.list (aQ x.attrs),.list (aM x.kids)]]) alE
   alq (by simp only[agd,agx];unfold B at hl;omega) ajN aj3 (by simp[ae,Lb.app,Lb.fresh,Hp.none])]
  simp only[↓lP,lK,lX,List.take,List.drop,seval,hw];refine⟨⟨i+1,aF⟩,ajM,λ_=> .loc 16,.one ?_ ?_ ?_ rfl rfl ?_⟩
  ·exact Ta
  ·exact O2
  ·have h1:xs.take (i+1)=xs.take i++[x]:=(by rw[agz,nE];rfl);have h2:(ak (aM (xs.take i))).take i=ak (aM (xs.take i)):=af2 (by simp[ak,P0]);simp only[ae,agn,h2];rw[h1,ed];simp[ak,aM,Tree.mY,Tree.cs]
  exact gj (gj (gj (gj (gj mn))))
 rw[dF aF];have P0:i=xs.length:=ajK
 subst P0;simp only[↓lP,lK,lX,List.take,List.drop,seval];refine⟨4,aM xs,0,xs.length,rfl,ajL,anz,gd _,?_⟩;rw[agj,af2 anz]
def adx:∀(n:Nat) (xs:List Tree),bH xs<=n->bH xs<=B->aj P G 164 [.list (aM xs)] (.list (aM xs)):=by
 intro n;induction n with
 |zero=>
  intro xs hn hB;refine Ba xs hB λx hx=> ?_;obtain⟨i,hi⟩:=agE hx;have:=iS xs i x hi;have:=x.dL;omega
 |succ n ih=>
 intro xs hn hB;refine Ba xs hB λx hx=> ?_;obtain⟨i,hi⟩:=agE hx;have h1:=iS xs i x hi;have h2:=x.dL;exact NI x ajK (ih _ ajK ajK)
end
end Go.Am
