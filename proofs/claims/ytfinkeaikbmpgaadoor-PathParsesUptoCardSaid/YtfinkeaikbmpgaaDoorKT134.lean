import Derived.Test.YtfinkeaikbmpgaaDoorT133
import Derived.Test.YtfinkeaikbmpgaaDoorKD1
import Derived.Test.YtfinkeaikbmpgaaDoorKP1
import Derived.Test.YtfinkeaikbmpgaaDoorKAm53
import Derived.Test.YtfinkeaikbmpgaaDoorKT21
import Derived.Test.YtfinkeaikbmpgaaDoorKAm25
import Derived.Test.YtfinkeaikbmpgaaDoorKAm48
set_option linter.unusedSimpArgs false
set_option linter.unusedVariables false
set_option linter.unnecessarySimpa false
set_option linter.defProp false
/- topiaryref.ParsePath, walked: the rest. -/
namespace Go.Am
open Go Go.RowKit
def eR (r:Bs):Option (List Step):=jh r.length r
def qE:∀(n:Nat) (r:Bs),r.length≤n→jh n r=eR r:=by
 intro n;induction n using Nat.strongRecOn with
 |_ n ih=>
 intro r hr
 match n,r,hr,ih with
 |n,[],_,_=>cases n<;>rfl
 |n+1,c::r,hr,ih=>
  simp only[FW] at hr;unfold eR;simp only[FW,jh];split
  ·cases hx:di r with
   |none=>rfl
   |some x=>
    simp only[Fy];cases hy:cr x.2 with
    |none=>rfl
    |some y=>
    simp only[Fy];have hl:y.2.length≤r.length:=((ml hy).trans (kD hx)).length_le;rw[ih n (by omega) y.2 (by omega),ih r.length (by omega) y.2 hl]
  rfl
def aW (r:Bs):eR (47::r)=(di r).bind fun x=>(cr x.2).bind fun y=>(eR y.2).map fun l=>⟨x.1,y.1⟩::l:=by
 unfold eR;simp only[FW,jh,Gv];cases hx:di r with
 |none=>rfl
 |some x=>
 simp only[Fy];cases hy:cr x.2 with
 |none=>rfl
 |some y=>
 simp only[Fy];rw[qE r.length y.2 ((ml hy).trans (kD hx)).length_le];rfl
def s_ {c:UInt8} (r:Bs) (h:c≠47):eR (c::r)=none:=by
 unfold eR;simp only[FW,jh,FU h]
def px {c:UInt8} (r:Bs) (h1:c≠42) (h2:c≠35):di (c::r)=if(c::r).takeWhile hU=[] then none else some ((c::r).takeWhile hU,(c::r).dropWhile hU):=by
 unfold di;split
 ·rename_i h;cases h;exact absurd rfl h1
 ·rename_i h;cases h;exact absurd rfl h2
 rfl
def jZ {c:UInt8}:hU c=true↔97≤c.toNat∧c.toNat≤122:=by simp[hU]
def kU (s:Bs):AV:=match mj s with
 |some l=> .dG [.list (l.map Step.iv),.int .i64 0]
 |none=> .dG [.nil0,.int .i64 1]
def qF (s:Bs):kU s=eu s:=by unfold kU eu;rw[qC];rfl
section
variable {P:Program} {G:Nat→Option (List IV)}
def cw:AC:=
(aK [py 0,iK 1 0] (aK [py 0,iK 1 1] .ret))
def y8 {az:Nat} (hF:aM P G az=some (2,[(none,0),(none,1)],cw.bare)):aw P G az [] (.dG [.nil0,.int .i64 1]):=by
 refine aG hF (by simp) (by simp[af]) (by simp[AV.ax,af]) ?_;unfold cw;simp only[↓aX,mX,seval,↓ba]
set_option maxHeartbeats 4000000 in
def oO {a6 az bm:Nat} (hF:aM P G a6=some (173,[(none,2),(none,3)],(cJ az bm).bare)) (s:Bs) (hs:s.length≤B) (hB:fC P az=true) (hZ:aw P G az [] (.dG [.nil0,.int .i64 1]))
  (EX:∀l:List Step,l.length≤2500→(∀x∈l,x.name.length≤2500)→aw P G bm [.list (l.map Step.iv)] (.bool (aV l))):aw P G a6 [.str s] (kU s):=by
 have wD:B=1073741824:=rfl;refine aG hF (by simp) (by simp[af,AV.ax]) (by unfold kU;cases mj s<;>simp[AV.ax,af]) ?_;unfold cJ;simp only[↓aX,mX,seval];have fail:(mj s=none)→kU s= .dG [.nil0,.int .i64 1]:=fun h=>by unfold kU;rw[h]
 by_cases tp:s.length≤2500
 ·simp only[↓aX,mX,seval,show decide ((s.length:Int)>2500)=false by simp;omega];cases Dz:(s==[]) with
  |true=>
   have oW:s=[]:=(by simpa using Dz);simp only[bf,b_,↓aX,mX,seval,List.nil_append,List.append_nil];refine⟨hB,ae hZ ?_⟩;simp only[↓aX,mX,seval,↓ba,fail (by rw[oW];rfl)]
  |false=>
  have oW:s≠[]:=by simpa using Dz
  have CU:mj s=(eR s).bind fun l=>if aV l then some l else none:=by unfold mj eR;rw[if_pos ⟨tp,oW⟩]
  simp only[↓aX,mX,seval];refine fB (σ:={q:Nat×List Step // q.1≤s.length∧q.2.length≤q.1∧(∀x∈q.2,x.name.length≤2500)∧eR s=(eR (s.drop q.1)).map fun m=>q.2++m}) (fun _=>[.loc 5]) (fun _ _=>false)
   (fun q=>[(0,.str s),(4,.fn az [] []),(5,.sl (.loc 5) 2 0 q.1.2.length),(6,.int .i64 q.1.1)]) (fun q=>[(.loc 5,⟨2,bK (q.1.2.map Step.iv)⟩)]) (fun q=>s.length - q.1.1)
   ⟨(0,[]),Nat.zero_le _,Nat.le_refl _,by simp,by simp⟩ (fun _=>rfl) (fun q=>by simp[af,AV.ax]) ?_ ⟨[],?_⟩ ?_
  ·intro q w hw cs bt z hz;simp only[List.mem_singleton] at hw;subst hw;rw[dX bt] at hz;simp at hz
  ·refine⟨?_,?_,?_,by simp[cP],fun l _=>⟨id,fun _=>rfl⟩⟩
   ·intro l hf hu;exfalso;apply hu;cases l<;>simp_all[Lb.fresh,al,Hp.none]
   ·simp[iZ,cP,bw,bo,put,kO]
   simp[jR,cP,al,cC,bo,bw,bK]
  rintro⟨⟨i,l⟩,hi,CV,j_,kE⟩;rw[nk];obtain⟨ll,tj⟩:∃ll,ll=l.length:=⟨_,rfl⟩;simp only at hi CV j_ kE;have jr:eR (s.drop i)=none→kU s= .dG [.nil0,.int .i64 1]:=fun h=>fail (by rw[CU,kE,h];rfl);simp only[↓aX,mX,seval,dJ,cY];by_cases cD:i<s.length
  ·obtain⟨c,hc⟩:∃c,s[i]?=some c:=⟨_,List.getElem?_eq_getElem cD⟩;have hd:=drop_at hc;simp only[↓aX,mX,seval,show decide ((i:Int)<(s.length:Int))=true by simpa using cD,Int.natCast_nonneg,Int.toNat_natCast,hc,Option.map_some,show((c.toNat:Int) !=47)= !(c==47) by rw[bne,show((c.toNat:Int)==47)=(c==47) from eY c 47 (by decide)]];by_cases CW:c=47
   ·subst CW;obtain⟨f,hf⟩:∃f,f=i+1:=⟨_,rfl⟩;have kG:s.drop i=47::s.drop f:=(by rw[hd,hf]);have CT:IntKind.i64.wrap ((i:Int)+1)=((f:Nat):Int):=(by rw[hf];exact wrap64 (by omega) (by omega));simp only[↓aX,mX,seval,beq_self_eq_true,Bool.not_true,CT];by_cases rj:f<s.length
    ·obtain⟨a,ha⟩:∃a,s[f]?=some a:=⟨_,List.getElem?_eq_getElem rj⟩;have DA:=drop_at ha;have DB:IntKind.i64.wrap ((f:Int)+1)=((f+1:Nat):Int):=wrap64 (by omega) (by omega);have vQ:decide ((f:Int)<(s.length:Int))=true:=(by simpa using rj);simp only[↓aX,mX,seval,vQ,Int.natCast_nonneg,Int.toNat_natCast,ha,Option.map_some,show((a.toNat:Int)==42)=(a==42) from eY a 42 (by decide),show((a.toNat:Int)==35)=(a==35) from eY a 35 (by decide)];by_cases Bb:a=42
     ·have tn:di (s.drop f)=some ([42],s.drop (f+1)):=(by rw[DA,Bb];rfl);simp only[↓aX,mX,seval,vQ,show(a==42)=true by simpa using Bb,DB,ha,Int.natCast_nonneg,Int.toNat_natCast,Option.map_some,show((a.toNat:Int)==42)=(a==42) from eY a 42 (by decide)];refine eZ (S:=⟨P,G,173⟩) (nm:=[42]) (i1:=f+1) (l:=l) ?_ tp (by omega) (by omega) hB hZ ?_ ?_ ?_ ?_ ?_ ?_ ?_ (fun q hq=> ?_) ?_ (fun hn E H' e2 e3=> ?_) (fun n i2 hn h1 h2 E H' e0 e4 e5 e6 g1 gE=> ?_)
      ·rfl
      ·rfl
      ·rfl
      ·rfl
      ·rfl
      ·rfl
      ·simp[al,true_and]
      ·simp[al]
      ·cases q<;>simp_all[Lb.fresh,al,Hp.none]
      ·simp[al,Hp.none]
      ·simp only[↓aX,mX,seval,↓ba,e2,e3];exact(jr (by rw[kG,aW,tn];simp only[Option.bind_some,hn,Option.bind_none])).symm
      simp only[↓aX,mX,seval];refine⟨⟨(i2,l++[(⟨[42],(n:Int)⟩:Step)]),h2,by simp only[List.length_append,List.length_singleton];omega,fun x hx=> ?_,?_⟩,by simp only;omega,[(.loc 5,.loc 164)],?_⟩
      ·rcases List.mem_append.1 hx with hx|hx
       ·exact j_ x hx
       rw[List.mem_singleton.1 hx];exact(by simp)
      ·rw[kE,kG,aW,tn];simp only[Option.bind_some,hn];cases eR (s.drop i2)<;>simp
      refine⟨fun q hq hu=>absurd (gE q hq) hu,?_,?_,by simp[cP],?_⟩
      ·simp[iZ,cP,bw,bo,e0,e4,e5,e6]
      ·simp only[jR,bI];simp[cP,g1]
      intro l hl;simp only[List.mem_singleton] at hl;subst hl;exact⟨fun _=>rfl,fun h=>by simp[Lb.fresh] at h⟩
     by_cases BI:a=35
     ·have tn:di (s.drop f)=some ([],s.drop (f+1)):=(by rw[DA,BI];rfl);simp only[↓aX,mX,seval,vQ,show(a==42)=false by simpa using Bb,show((a.toNat:Int)==35)=(a==35) from eY a 35 (by decide),show(a==35)=true by simpa using BI,DB,ha,Int.natCast_nonneg,Int.toNat_natCast,Option.map_some,show((a.toNat:Int)==42)=(a==42) from eY a 42 (by decide)];refine eZ (S:=⟨P,G,173⟩) (nm:=[]) (i1:=f+1) (l:=l) ?_ tp (by omega) (by omega) hB hZ ?_ ?_ ?_ ?_ ?_ ?_ ?_ (fun q hq=> ?_) ?_ (fun hn E H' e2 e3=> ?_) (fun n i2 hn h1 h2 E H' e0 e4 e5 e6 g1 gE=> ?_)
      ·rfl
      ·rfl
      ·rfl
      ·rfl
      ·rfl
      ·rfl
      ·simp[al,true_and]
      ·simp[al]
      ·cases q<;>simp_all[Lb.fresh,al,Hp.none]
      ·simp[al,Hp.none]
      ·simp only[↓aX,mX,seval,↓ba,e2,e3];exact(jr (by rw[kG,aW,tn];simp only[Option.bind_some,hn,Option.bind_none])).symm
      simp only[↓aX,mX,seval];refine⟨⟨(i2,l++[(⟨[],(n:Int)⟩:Step)]),h2,by simp only[List.length_append,List.length_singleton];omega,fun x hx=> ?_,?_⟩,by simp only;omega,[(.loc 5,.loc 164)],?_⟩
      ·rcases List.mem_append.1 hx with hx|hx
       ·exact j_ x hx
       rw[List.mem_singleton.1 hx];exact(by simp)
      ·rw[kE,kG,aW,tn];simp only[Option.bind_some,hn];cases eR (s.drop i2)<;>simp
      refine⟨fun q hq hu=>absurd (gE q hq) hu,?_,?_,by simp[cP],?_⟩
      ·simp[iZ,cP,bw,bo,e0,e4,e5,e6]
      ·simp only[jR,bI];simp[cP,g1]
      intro l hl;simp only[List.mem_singleton] at hl;subst hl;exact⟨fun _=>rfl,fun h=>by simp[Lb.fresh] at h⟩
     simp only[↓aX,mX,seval,vQ,show(a==42)=false by simpa using Bb,ha,Option.map_some,Int.natCast_nonneg,Int.toNat_natCast,show((a.toNat:Int)==35)=(a==35) from eY a 35 (by decide),show(a==35)=false by simpa using BI];have hb:∀c,s[f]?=some c→c≠42∧c≠35:=fun c h=>(by rw[ha] at h;cases h;exact⟨Bb,BI⟩);have dz:di (s.drop f)=if(s.drop f).takeWhile hU=[] then none else some ((s.drop f).takeWhile hU,(s.drop f).dropWhile hU):=by
      cases CX:s.drop f with
      |nil=>rfl
      |cons b r=>
      have iQ:s[f]?=some b:=by
       have:=congrArg List.head? CX;rw[List.head?_drop] at this;simpa using this
      exact px r (hb b iQ).1 (hb b iQ).2
     refine fB (σ:={j:Nat // f≤j∧j≤s.length∧∀c∈(s.drop f).take (j - f),hU c=true}) (fun _=>[.loc 7,.loc 5]) (fun _ _=>false)
      (fun q=>[(0,.str s),(4,.fn az [] []),(5,.sl (.loc 5) 2 0 l.length),(6,.int .i64 q.1),(7,.ptr (.loc 7) 2 0 0)])
      (fun q=>[(.loc 7,⟨2,[[.str ((s.drop f).take (q.1 - f)),.int .i64 0]]⟩),(.loc 5,⟨2,bK (l.map Step.iv)⟩)]) (fun q=>s.length - q.1) ⟨f,Nat.le_refl _,by omega,by simp⟩ (fun _=>rfl) (fun q=>by simp[af,AV.ax]) ?_ ⟨[],?_⟩ ?_
     ·intro q w hw cs bt z hz;simp only[List.mem_cons,List.not_mem_nil,or_false] at hw;rcases hw with rfl|rfl
      ·simp only[List.mem_singleton] at bt;subst bt;simp[af,AV.ax] at hz
      rw[dX bt] at hz;simp at hz
     ·refine⟨?_,?_,?_,by simp[cP],fun l _=>⟨id,fun _=>rfl⟩⟩
      ·intro l hf hu;exfalso;apply hu;cases l<;>simp_all[Lb.fresh,al,Hp.none]
      ·simp[iZ,cP,bw,bo,put]
      simp only[jR,bI];simp[cP,al,cC,bo,bw]
     rintro⟨j,pG,t_,bG⟩;rw[nk];obtain⟨t,ht⟩:∃t,(s.drop f).take (j - f)=t:=⟨_,rfl⟩;rw[ht] at bG;simp only[↓aX,mX,seval,dJ,cY,ht];by_cases hj:j<s.length
     ·obtain⟨b,k9⟩:∃b,s[j]?=some b:=⟨_,List.getElem?_eq_getElem hj⟩;have hw:IntKind.i64.wrap ((j:Int)+1)=((j+1:Nat):Int):=wrap64 (by omega) (by omega);cases nH:hU b with
      |true=>
       obtain⟨b1,b2⟩:=jZ.1 nH;simp only[↓aX,mX,seval,ht,show decide ((j:Int)<(s.length:Int))=true by simpa using hj,k9,Option.map_some,Int.natCast_nonneg,Int.toNat_natCast,show decide ((b.toNat:Int)≥97)=true by simp;omega,show decide ((b.toNat:Int)≤122)=true by simp;omega];refine⟨by decide +kernel,?_⟩;have cx:=take_one pG k9;rw[ht] at cx;have zx:List.drop j (List.take (j+1) s)=[b]:=by
        rw[List.take_add_one,k9,List.drop_append_of_le_length (by simp;omega),List.drop_of_length_le (by simp;omega)];rfl
       have Aa:t.length≤s.length:=(by rw[←ht];simp;omega);have y9:j+1≤s.length:=hj;simp only[↓aX,mX,seval,ht,k9,Option.map_some,Int.natCast_nonneg,Int.toNat_natCast,hw,gR,yl,y9,Nat.le_refl,Nat.zero_le,true_and,and_self,Option.bind_some,show j≤j+1 by omega,zx,List.length_singleton,show t.length+1≤9223372036854775807 by omega,show t.length≤9223372036854775806 by omega];refine⟨⟨j+1,by omega,hj,fun c hc=> ?_⟩,by simp only;omega,[],?_⟩
       ·rw[cx] at hc;rcases List.mem_append.1 hc with hc|hc
        ·exact bG c hc
        rw[List.mem_singleton.1 hc];exact nH
       refine⟨?_,?_,?_,by simp[cP],fun l _=>⟨id,fun _=>rfl⟩⟩
       ·intro l hf hu;exfalso;apply hu;cases l<;>simp_all[Lb.fresh,al,Hp.none]
       ·simp[iZ,cP,bw,bo,put]
       simp only[jR,bI,cx];simp[cP,al,cC,bo,bw,ht]
      |false=>
      have cL:=jj pG t_ (by rw[ht];exact bG) (fun c hc=>by rw[k9] at hc;cases hc;exact nH);rw[ht] at cL;have e2:(decide ((b.toNat:Int)≥97)=false)∨(decide ((b.toNat:Int)≥97)=true∧decide ((b.toNat:Int)≤122)=false):=by
       have:¬(97≤b.toNat∧b.toNat≤122):=fun h=>(by rw[jZ.2 h] at nH;cases nH);simp only[decide_eq_false_iff_not,decide_eq_true_eq];omega
      rcases e2 with e2|⟨e2,e3⟩
      ·simp only[↓aX,mX,seval,ht,show decide ((j:Int)<(s.length:Int))=true by simpa using hj,k9,Option.map_some,Int.natCast_nonneg,Int.toNat_natCast,e2];by_cases iI:t=[]
       ·simp only[↓aX,mX,seval,ht,show(t==[])=true by simp[iI]];rw[cL.1,if_pos iI] at dz;simp only[bf,b_,↓aX,mX,seval,List.nil_append,List.append_nil];refine⟨hB,ae hZ ?_⟩;simp only[↓aX,mX,seval,↓ba,jr (by rw[kG,aW,dz];rfl)]
       simp only[↓aX,mX,seval,ht,show(t==[])=false by simpa using iI];rw[cL.1,cL.2,if_neg iI] at dz;refine eZ (S:=⟨P,G,173⟩) (nm:=t) (i1:=j) (l:=l) ?_ tp (by omega) (by omega) hB hZ ?_ ?_ ?_ ?_ ?_ ?_ ?_ (fun q hq=> ?_) ?_ (fun hn E H' e2 e3=> ?_) (fun n i2 hn h1 h2 E H' e0 e4 e5 e6 g1 gE=> ?_)
       ·rfl
       ·rfl
       ·rfl
       ·rfl
       ·rfl
       ·rfl
       ·simp[al,ht]
       ·simp[al]
       ·cases q<;>simp_all[Lb.fresh,al,Hp.none]
       ·simp[al,Hp.none]
       ·simp only[↓aX,mX,seval,↓ba,e2,e3];exact(jr (by rw[kG,aW,dz];simp only[Option.bind_some,hn,Option.bind_none])).symm
       simp only[↓aX,mX,seval];refine⟨⟨(i2,l++[(⟨t,(n:Int)⟩:Step)]),h2,by simp only[List.length_append,List.length_singleton];omega,fun x hx=> ?_,?_⟩,by simp only;omega,[(.loc 5,.loc 164)],?_⟩
       ·rcases List.mem_append.1 hx with hx|hx
        ·exact j_ x hx
        rw[List.mem_singleton.1 hx];exact(by rw[←ht];simp;omega)
       ·rw[kE,kG,aW,dz];simp only[Option.bind_some,hn];cases eR (s.drop i2)<;>simp
       refine⟨fun q hq hu=>absurd (gE q hq) hu,?_,?_,by simp[cP],?_⟩
       ·simp[iZ,cP,bw,bo,e0,e4,e5,e6]
       ·simp only[jR,bI];simp[cP,g1]
       intro l hl;simp only[List.mem_singleton] at hl;subst hl;exact⟨fun _=>rfl,fun h=>by simp[Lb.fresh] at h⟩
      simp only[↓aX,mX,seval,ht,show decide ((j:Int)<(s.length:Int))=true by simpa using hj,k9,Option.map_some,Int.natCast_nonneg,Int.toNat_natCast,e2,e3];by_cases iI:t=[]
      ·simp only[↓aX,mX,seval,ht,show(t==[])=true by simp[iI]];rw[cL.1,if_pos iI] at dz;simp only[bf,b_,↓aX,mX,seval,List.nil_append,List.append_nil];refine⟨hB,ae hZ ?_⟩;simp only[↓aX,mX,seval,↓ba,jr (by rw[kG,aW,dz];rfl)]
      simp only[↓aX,mX,seval,ht,show(t==[])=false by simpa using iI];rw[cL.1,cL.2,if_neg iI] at dz;refine eZ (S:=⟨P,G,173⟩) (nm:=t) (i1:=j) (l:=l) ?_ tp (by omega) (by omega) hB hZ ?_ ?_ ?_ ?_ ?_ ?_ ?_ (fun q hq=> ?_) ?_ (fun hn E H' e2 e3=> ?_) (fun n i2 hn h1 h2 E H' e0 e4 e5 e6 g1 gE=> ?_)
      ·rfl
      ·rfl
      ·rfl
      ·rfl
      ·rfl
      ·rfl
      ·simp[al,ht]
      ·simp[al]
      ·cases q<;>simp_all[Lb.fresh,al,Hp.none]
      ·simp[al,Hp.none]
      ·simp only[↓aX,mX,seval,↓ba,e2,e3];exact(jr (by rw[kG,aW,dz];simp only[Option.bind_some,hn,Option.bind_none])).symm
      simp only[↓aX,mX,seval];refine⟨⟨(i2,l++[(⟨t,(n:Int)⟩:Step)]),h2,by simp only[List.length_append,List.length_singleton];omega,fun x hx=> ?_,?_⟩,by simp only;omega,[(.loc 5,.loc 164)],?_⟩
      ·rcases List.mem_append.1 hx with hx|hx
       ·exact j_ x hx
       rw[List.mem_singleton.1 hx];exact(by rw[←ht];simp;omega)
      ·rw[kE,kG,aW,dz];simp only[Option.bind_some,hn];cases eR (s.drop i2)<;>simp
      refine⟨fun q hq hu=>absurd (gE q hq) hu,?_,?_,by simp[cP],?_⟩
      ·simp[iZ,cP,bw,bo,e0,e4,e5,e6]
      ·simp only[jR,bI];simp[cP,g1]
      intro l hl;simp only[List.mem_singleton] at hl;subst hl;exact⟨fun _=>rfl,fun h=>by simp[Lb.fresh] at h⟩
     have cL:=jj pG t_ (by rw[ht];exact bG) (fun c hc=>by
      have:=(List.getElem?_eq_some_iff.1 hc).1;omega)
     rw[ht] at cL;simp only[↓aX,mX,seval,ht,show decide ((j:Int)<(s.length:Int))=false by simpa using hj];by_cases iI:t=[]
     ·simp only[↓aX,mX,seval,ht,show(t==[])=true by simp[iI]];rw[cL.1,if_pos iI] at dz;simp only[bf,b_,↓aX,mX,seval,List.nil_append,List.append_nil];refine⟨hB,ae hZ ?_⟩;simp only[↓aX,mX,seval,↓ba,jr (by rw[kG,aW,dz];rfl)]
     simp only[↓aX,mX,seval,ht,show(t==[])=false by simpa using iI];rw[cL.1,cL.2,if_neg iI] at dz;refine eZ (S:=⟨P,G,173⟩) (nm:=t) (i1:=j) (l:=l) ?_ tp (by omega) (by omega) hB hZ ?_ ?_ ?_ ?_ ?_ ?_ ?_ (fun q hq=> ?_) ?_ (fun hn E H' e2 e3=> ?_) (fun n i2 hn h1 h2 E H' e0 e4 e5 e6 g1 gE=> ?_)
     ·rfl
     ·rfl
     ·rfl
     ·rfl
     ·rfl
     ·rfl
     ·simp[al,ht]
     ·simp[al]
     ·cases q<;>simp_all[Lb.fresh,al,Hp.none]
     ·simp[al,Hp.none]
     ·simp only[↓aX,mX,seval,↓ba,e2,e3];exact(jr (by rw[kG,aW,dz];simp only[Option.bind_some,hn,Option.bind_none])).symm
     simp only[↓aX,mX,seval];refine⟨⟨(i2,l++[(⟨t,(n:Int)⟩:Step)]),h2,by simp only[List.length_append,List.length_singleton];omega,fun x hx=> ?_,?_⟩,by simp only;omega,[(.loc 5,.loc 164)],?_⟩
     ·rcases List.mem_append.1 hx with hx|hx
      ·exact j_ x hx
      rw[List.mem_singleton.1 hx];exact(by rw[←ht];simp;omega)
     ·rw[kE,kG,aW,dz];simp only[Option.bind_some,hn];cases eR (s.drop i2)<;>simp
     refine⟨fun q hq hu=>absurd (gE q hq) hu,?_,?_,by simp[cP],?_⟩
     ·simp[iZ,cP,bw,bo,e0,e4,e5,e6]
     ·simp only[jR,bI];simp[cP,g1]
     intro l hl;simp only[List.mem_singleton] at hl;subst hl;exact⟨fun _=>rfl,fun h=>by simp[Lb.fresh] at h⟩
    simp only[↓aX,mX,seval,show decide ((f:Int)<(s.length:Int))=false by simpa using rj];have hb:∀c,s[f]?=some c→c≠42∧c≠35:=fun c h=>(by have:=(List.getElem?_eq_some_iff.1 h).1;omega);have dz:di (s.drop f)=if(s.drop f).takeWhile hU=[] then none else some ((s.drop f).takeWhile hU,(s.drop f).dropWhile hU):=by
     cases CX:s.drop f with
     |nil=>rfl
     |cons b r=>
     have iQ:s[f]?=some b:=by
      have:=congrArg List.head? CX;rw[List.head?_drop] at this;simpa using this
     exact px r (hb b iQ).1 (hb b iQ).2
    refine fB (σ:={j:Nat // f≤j∧j≤s.length∧∀c∈(s.drop f).take (j - f),hU c=true}) (fun _=>[.loc 7,.loc 5]) (fun _ _=>false)
     (fun q=>[(0,.str s),(4,.fn az [] []),(5,.sl (.loc 5) 2 0 l.length),(6,.int .i64 q.1),(7,.ptr (.loc 7) 2 0 0)])
     (fun q=>[(.loc 7,⟨2,[[.str ((s.drop f).take (q.1 - f)),.int .i64 0]]⟩),(.loc 5,⟨2,bK (l.map Step.iv)⟩)]) (fun q=>s.length - q.1) ⟨f,Nat.le_refl _,by omega,by simp⟩ (fun _=>rfl) (fun q=>by simp[af,AV.ax]) ?_ ⟨[],?_⟩ ?_
    ·intro q w hw cs bt z hz;simp only[List.mem_cons,List.not_mem_nil,or_false] at hw;rcases hw with rfl|rfl
     ·simp only[List.mem_singleton] at bt;subst bt;simp[af,AV.ax] at hz
     rw[dX bt] at hz;simp at hz
    ·refine⟨?_,?_,?_,by simp[cP],fun l _=>⟨id,fun _=>rfl⟩⟩
     ·intro l hf hu;exfalso;apply hu;cases l<;>simp_all[Lb.fresh,al,Hp.none]
     ·simp[iZ,cP,bw,bo,put]
     simp only[jR,bI];simp[cP,al,cC,bo,bw]
    rintro⟨j,pG,t_,bG⟩;rw[nk];obtain⟨t,ht⟩:∃t,(s.drop f).take (j - f)=t:=⟨_,rfl⟩;rw[ht] at bG;simp only[↓aX,mX,seval,dJ,cY,ht];by_cases hj:j<s.length
    ·obtain⟨b,k9⟩:∃b,s[j]?=some b:=⟨_,List.getElem?_eq_getElem hj⟩;have hw:IntKind.i64.wrap ((j:Int)+1)=((j+1:Nat):Int):=wrap64 (by omega) (by omega);cases nH:hU b with
     |true=>
      obtain⟨b1,b2⟩:=jZ.1 nH;simp only[↓aX,mX,seval,ht,show decide ((j:Int)<(s.length:Int))=true by simpa using hj,k9,Option.map_some,Int.natCast_nonneg,Int.toNat_natCast,show decide ((b.toNat:Int)≥97)=true by simp;omega,show decide ((b.toNat:Int)≤122)=true by simp;omega];refine⟨by decide +kernel,?_⟩;have cx:=take_one pG k9;rw[ht] at cx;have zx:List.drop j (List.take (j+1) s)=[b]:=by
       rw[List.take_add_one,k9,List.drop_append_of_le_length (by simp;omega),List.drop_of_length_le (by simp;omega)];rfl
      have Aa:t.length≤s.length:=(by rw[←ht];simp;omega);have y9:j+1≤s.length:=hj;simp only[↓aX,mX,seval,ht,k9,Option.map_some,Int.natCast_nonneg,Int.toNat_natCast,hw,gR,yl,y9,Nat.le_refl,Nat.zero_le,true_and,and_self,Option.bind_some,show j≤j+1 by omega,zx,List.length_singleton,show t.length+1≤9223372036854775807 by omega,show t.length≤9223372036854775806 by omega];refine⟨⟨j+1,by omega,hj,fun c hc=> ?_⟩,by simp only;omega,[],?_⟩
      ·rw[cx] at hc;rcases List.mem_append.1 hc with hc|hc
       ·exact bG c hc
       rw[List.mem_singleton.1 hc];exact nH
      refine⟨?_,?_,?_,by simp[cP],fun l _=>⟨id,fun _=>rfl⟩⟩
      ·intro l hf hu;exfalso;apply hu;cases l<;>simp_all[Lb.fresh,al,Hp.none]
      ·simp[iZ,cP,bw,bo,put]
      simp only[jR,bI,cx];simp[cP,al,cC,bo,bw,ht]
     |false=>
     have cL:=jj pG t_ (by rw[ht];exact bG) (fun c hc=>by rw[k9] at hc;cases hc;exact nH);rw[ht] at cL;have e2:(decide ((b.toNat:Int)≥97)=false)∨(decide ((b.toNat:Int)≥97)=true∧decide ((b.toNat:Int)≤122)=false):=by
      have:¬(97≤b.toNat∧b.toNat≤122):=fun h=>(by rw[jZ.2 h] at nH;cases nH);simp only[decide_eq_false_iff_not,decide_eq_true_eq];omega
     rcases e2 with e2|⟨e2,e3⟩
     ·simp only[↓aX,mX,seval,ht,show decide ((j:Int)<(s.length:Int))=true by simpa using hj,k9,Option.map_some,Int.natCast_nonneg,Int.toNat_natCast,e2];by_cases iI:t=[]
      ·simp only[↓aX,mX,seval,ht,show(t==[])=true by simp[iI]];rw[cL.1,if_pos iI] at dz;simp only[bf,b_,↓aX,mX,seval,List.nil_append,List.append_nil];refine⟨hB,ae hZ ?_⟩;simp only[↓aX,mX,seval,↓ba,jr (by rw[kG,aW,dz];rfl)]
      simp only[↓aX,mX,seval,ht,show(t==[])=false by simpa using iI];rw[cL.1,cL.2,if_neg iI] at dz;refine eZ (S:=⟨P,G,173⟩) (nm:=t) (i1:=j) (l:=l) ?_ tp (by omega) (by omega) hB hZ ?_ ?_ ?_ ?_ ?_ ?_ ?_ (fun q hq=> ?_) ?_ (fun hn E H' e2 e3=> ?_) (fun n i2 hn h1 h2 E H' e0 e4 e5 e6 g1 gE=> ?_)
      ·rfl
      ·rfl
      ·rfl
      ·rfl
      ·rfl
      ·rfl
      ·simp[al,ht]
      ·simp[al]
      ·cases q<;>simp_all[Lb.fresh,al,Hp.none]
      ·simp[al,Hp.none]
      ·simp only[↓aX,mX,seval,↓ba,e2,e3];exact(jr (by rw[kG,aW,dz];simp only[Option.bind_some,hn,Option.bind_none])).symm
      simp only[↓aX,mX,seval];refine⟨⟨(i2,l++[(⟨t,(n:Int)⟩:Step)]),h2,by simp only[List.length_append,List.length_singleton];omega,fun x hx=> ?_,?_⟩,by simp only;omega,[(.loc 5,.loc 164)],?_⟩
      ·rcases List.mem_append.1 hx with hx|hx
       ·exact j_ x hx
       rw[List.mem_singleton.1 hx];exact(by rw[←ht];simp;omega)
      ·rw[kE,kG,aW,dz];simp only[Option.bind_some,hn];cases eR (s.drop i2)<;>simp
      refine⟨fun q hq hu=>absurd (gE q hq) hu,?_,?_,by simp[cP],?_⟩
      ·simp[iZ,cP,bw,bo,e0,e4,e5,e6]
      ·simp only[jR,bI];simp[cP,g1]
      intro l hl;simp only[List.mem_singleton] at hl;subst hl;exact⟨fun _=>rfl,fun h=>by simp[Lb.fresh] at h⟩
     simp only[↓aX,mX,seval,ht,show decide ((j:Int)<(s.length:Int))=true by simpa using hj,k9,Option.map_some,Int.natCast_nonneg,Int.toNat_natCast,e2,e3];by_cases iI:t=[]
     ·simp only[↓aX,mX,seval,ht,show(t==[])=true by simp[iI]];rw[cL.1,if_pos iI] at dz;simp only[bf,b_,↓aX,mX,seval,List.nil_append,List.append_nil];refine⟨hB,ae hZ ?_⟩;simp only[↓aX,mX,seval,↓ba,jr (by rw[kG,aW,dz];rfl)]
     simp only[↓aX,mX,seval,ht,show(t==[])=false by simpa using iI];rw[cL.1,cL.2,if_neg iI] at dz;refine eZ (S:=⟨P,G,173⟩) (nm:=t) (i1:=j) (l:=l) ?_ tp (by omega) (by omega) hB hZ ?_ ?_ ?_ ?_ ?_ ?_ ?_ (fun q hq=> ?_) ?_ (fun hn E H' e2 e3=> ?_) (fun n i2 hn h1 h2 E H' e0 e4 e5 e6 g1 gE=> ?_)
     ·rfl
     ·rfl
     ·rfl
     ·rfl
     ·rfl
     ·rfl
     ·simp[al,ht]
     ·simp[al]
     ·cases q<;>simp_all[Lb.fresh,al,Hp.none]
     ·simp[al,Hp.none]
     ·simp only[↓aX,mX,seval,↓ba,e2,e3];exact(jr (by rw[kG,aW,dz];simp only[Option.bind_some,hn,Option.bind_none])).symm
     simp only[↓aX,mX,seval];refine⟨⟨(i2,l++[(⟨t,(n:Int)⟩:Step)]),h2,by simp only[List.length_append,List.length_singleton];omega,fun x hx=> ?_,?_⟩,by simp only;omega,[(.loc 5,.loc 164)],?_⟩
     ·rcases List.mem_append.1 hx with hx|hx
      ·exact j_ x hx
      rw[List.mem_singleton.1 hx];exact(by rw[←ht];simp;omega)
     ·rw[kE,kG,aW,dz];simp only[Option.bind_some,hn];cases eR (s.drop i2)<;>simp
     refine⟨fun q hq hu=>absurd (gE q hq) hu,?_,?_,by simp[cP],?_⟩
     ·simp[iZ,cP,bw,bo,e0,e4,e5,e6]
     ·simp only[jR,bI];simp[cP,g1]
     intro l hl;simp only[List.mem_singleton] at hl;subst hl;exact⟨fun _=>rfl,fun h=>by simp[Lb.fresh] at h⟩
    have cL:=jj pG t_ (by rw[ht];exact bG) (fun c hc=>by
     have:=(List.getElem?_eq_some_iff.1 hc).1;omega)
    rw[ht] at cL;simp only[↓aX,mX,seval,ht,show decide ((j:Int)<(s.length:Int))=false by simpa using hj];by_cases iI:t=[]
    ·simp only[↓aX,mX,seval,ht,show(t==[])=true by simp[iI]];rw[cL.1,if_pos iI] at dz;simp only[bf,b_,↓aX,mX,seval,List.nil_append,List.append_nil];refine⟨hB,ae hZ ?_⟩;simp only[↓aX,mX,seval,↓ba,jr (by rw[kG,aW,dz];rfl)]
    simp only[↓aX,mX,seval,ht,show(t==[])=false by simpa using iI];rw[cL.1,cL.2,if_neg iI] at dz;refine eZ (S:=⟨P,G,173⟩) (nm:=t) (i1:=j) (l:=l) ?_ tp (by omega) (by omega) hB hZ ?_ ?_ ?_ ?_ ?_ ?_ ?_ (fun q hq=> ?_) ?_ (fun hn E H' e2 e3=> ?_) (fun n i2 hn h1 h2 E H' e0 e4 e5 e6 g1 gE=> ?_)
    ·rfl
    ·rfl
    ·rfl
    ·rfl
    ·rfl
    ·rfl
    ·simp[al,ht]
    ·simp[al]
    ·cases q<;>simp_all[Lb.fresh,al,Hp.none]
    ·simp[al,Hp.none]
    ·simp only[↓aX,mX,seval,↓ba,e2,e3];exact(jr (by rw[kG,aW,dz];simp only[Option.bind_some,hn,Option.bind_none])).symm
    simp only[↓aX,mX,seval];refine⟨⟨(i2,l++[(⟨t,(n:Int)⟩:Step)]),h2,by simp only[List.length_append,List.length_singleton];omega,fun x hx=> ?_,?_⟩,by simp only;omega,[(.loc 5,.loc 164)],?_⟩
    ·rcases List.mem_append.1 hx with hx|hx
     ·exact j_ x hx
     rw[List.mem_singleton.1 hx];exact(by rw[←ht];simp;omega)
    ·rw[kE,kG,aW,dz];simp only[Option.bind_some,hn];cases eR (s.drop i2)<;>simp
    refine⟨fun q hq hu=>absurd (gE q hq) hu,?_,?_,by simp[cP],?_⟩
    ·simp[iZ,cP,bw,bo,e0,e4,e5,e6]
    ·simp only[jR,bI];simp[cP,g1]
    intro l hl;simp only[List.mem_singleton] at hl;subst hl;exact⟨fun _=>rfl,fun h=>by simp[Lb.fresh] at h⟩
   simp only[show(c==47)=false by simpa using CW,Bool.not_false,↓aX,mX,seval];simp only[bf,b_,↓aX,mX,seval,List.nil_append,List.append_nil];refine⟨hB,ae hZ ?_⟩;simp only[↓aX,mX,seval,↓ba,jr (by rw[hd];exact s_ _ CW)]
  have qZ:i=s.length:=by omega
  simp only[↓aX,mX,seval,show decide ((i:Int)<(s.length:Int))=false by simpa using cD];have Bc:eR s=some l:=by rw[kE,qZ,List.drop_length];simp[eR,jh]
  have rj:Flat (l.map Step.iv):=sQ l;have vF:(l.map Step.iv).take l.length=l.map Step.iv:=List.take_of_length_le (by simp);refine⟨2,l.map Step.iv,0,l.length,rfl,rfl,by simp,rj,?_⟩;simp only[↓aX,mX,seval,List.drop_zero,vF];refine ae (EX l (by omega) j_) ?_;cases hg:aV l with
  |true=>simp only[↓aX,mX,seval,Bool.not_true,↓ba,vF,show kU s= .dG [.list (l.map Step.iv),.int .i64 0] by unfold kU;rw[CU,Bc,Option.bind_some,if_pos hg]]
  |false=>
  simp only[bf,b_,↓aX,mX,seval,Bool.not_false,List.nil_append,List.append_nil];refine⟨hB,ae hZ ?_⟩;simp only[↓aX,mX,seval,↓ba,fail (by rw[CU,Bc,Option.bind_some,if_neg (by rw[hg];decide)])]
 simp only[↓aX,mX,seval,show decide ((s.length:Int)>2500)=true by simp;omega];simp only[bf,b_,↓aX,mX,seval,List.nil_append,List.append_nil];refine⟨hB,ae hZ ?_⟩;simp only[↓aX,mX,seval,↓ba,fail (by unfold mj;rw[if_neg fun h=>tp h.1])]
end

def CY (sz:Nat) (xs:List IV):Hp:=bb Hp.none (.par 0) (.live ⟨sz,bK xs⟩)
def y_ (P:Program) (G:Nat→Option (List IV)) (f:Nat) (args:List AV) (sz:Nat) (xs:List IV) (R:AV→List IV→Prop):Prop:=
 (∀l∈af args,l= .par 0)∧dT P G f args (CY sz xs) fun x H'=>∃Av,R x Av∧x.ax=[]∧Av.length=xs.length∧H' (.par 0)= .live ⟨sz,bK Av⟩
def y_.mono {P:Program} {G:Nat→Option (List IV)} {f:Nat} {args:List AV} {sz:Nat} {xs:List IV} {R R':AV→List IV→Prop} (h:y_ P G f args sz xs R) (hq:∀x c,R x c→R' x c):y_ P G f args sz xs R':=
 ⟨h.1,h.2.mono fun x H ⟨c,h1,h2⟩=>⟨c,hq _ _ h1,h2⟩⟩

section
variable {P:Program} {G:Nat→Option (List IV)}
def Bd:eu [47,97,47,42,91,50,93,47,35]= .dG [.list ([⟨[97],0⟩,⟨[42],2⟩,⟨[],0⟩].map Step.iv),.int .i64 0]:=by
 have h:gn [47,97,47,42,91,50,93,47,35]=some [⟨[97],0⟩,⟨[42],2⟩,⟨[],0⟩]:=by
  have hn:jf [50]=some 2:=by simp[jf,show Lib.atoiAll [50]= .ok 2 from rfl,Lib.itoa,Lib.decDigits]
  have h2:cj [42,91,50,93]=some ⟨[42],2⟩:=by
   have:fY [42,91,50,93]=some 2:=hn;simp only[cj,this,Fy];rfl
  have h3:bH [[97],[42,91,50,93],[35]]=some [⟨[97],0⟩,⟨[42],2⟩,⟨[],0⟩]:=by
   simp only[bH,h2];rfl
  show(bH [[97],[42,91,50,93],[35]]).bind _=_;rw[h3];rfl
 simp only[eu,h]
def dA (bp:Nat):AC:=
(aK [gQ 0 false] (aK [bg 4 (.call bp [(.c (.str [47,97,47,42,91,50,93,47,35]))]),ah 3 4,gp 5 3 0,gp 6 3 1,ah 1 5,ah 2 6] (aK [ah 7 2,ew 8 .eql 7 0,ah 9 8,cm 10 9 1,dC 11 9 (.len (.t 10)),dC 12 9 (.bin .eql (.t 11) (iJ 3)),jk 13 9 12,ah 14 13,cm 15 14 1,dC 16 14 (.qK (.t 15) (iJ 1) 2),dC 17 14 (.load (some 2) (.t 16)),dC 18 14 (.qL [(.str []),(.int .i64 0)] [(0,(1,(.c (.str [42])))),(1,(1,(iJ 2)))]),dC 19 14 (.jI false [.s,.i] (.t 17) (.t 18)),jk 20 14 19,ah 21 20,cm 22 21 1,dC 23 21 (.qK (.t 22) (iJ 2) 2),dC 24 21 (.load (some 2) (.t 23)),dC 25 21 (.qL [(.str []),(.int .i64 0)] []),dC 26 21 (.jI false [.s,.i] (.t 24) (.t 25)),jk 27 21 26,ah 0 27] .ret)))
def qG {br bp:Nat} (hF:aM P G br=some (28,[(none,0)],(dA bp).bare)) (hX:aw P G bp [.str [47,97,47,42,91,50,93,47,35]] (eu [47,97,47,42,91,50,93,47,35])) :
  aw P G br [] (.bool true):=by
 rw[Bd] at hX;refine aG hF (by simp) (by simp[af]) (by simp[AV.ax]) ?_;unfold dA;have jM:jK 2 (kC.map Step.iv):=pr _;simp only[↓aX,mX,seval];refine ae hX ?_;simp only[↓aX,mX,seval,show(kC.map Step.iv).length=3 from rfl,show(((3:Nat):Int)==3)=true from rfl,jM,show(0:Int)≤1 by decide,show(0:Int)≤2 by decide,show(1:Int).toNat=1 from rfl,show(2:Int).toNat=2 from rfl,
  show(kC.map Step.iv)[1]?=some (.agg [.str [42],.int .i64 2]) from rfl,show(kC.map Step.iv)[2]?=some (.agg [.str [],.int .i64 0]) from rfl,IV.cells,eqs,Bi,show([⟨[97],0⟩,⟨[42],2⟩,⟨[],0⟩]:List Step)=kC from rfl]

def cB (bp a6 aQ br:Nat):AC:=
(aK [gQ 2 false] (aK [ah 8 0,bg 9 (.call bp [(.t 8)]),ah 7 9,gp 10 7 0,gp 11 7 1,ah 3 10,ah 4 11] (aK [ah 13 0,bg 14 (.call a6 [(.t 13)]),ah 12 14,gp 15 12 0,gp 16 12 1,ah 5 15,ah 6 16] (aK [ah 17 3,ah 18 5,bg 19 (.call aQ [(.t 17),(.t 18)]),ah 20 19,cm 21 20 4,cm 22 20 6,dC 23 20 (.bin .eql (.t 21) (.t 22)),jk 24 20 23,ah 25 24,dC 26 25 (.call br []),jk 27 25 26,ah 2 27] .ret))))
def nI {dF bp a6 aQ br:Nat} (hF:aM P G dF=some (28,[(none,2)],(cB bp a6 aQ br).bare)) (s:Bs)
   (h1:aw P G bp [.str s] (eu s)) (h2:aw P G a6 [.str s] (kU s))
   (h3:∀l:List Step,l.length≤5→aw P G aQ [.list (l.map Step.iv),.list (l.map Step.iv)] (.bool true)) (h4:aw P G br [] (.bool true)) :
   aw P G dF [.str s] (.bool true):=by
 rw[qF] at h2
 have h0:aw P G aQ [.nil0,.nil0] (.bool true):=qj (h3 [] (by simp)) (by simp[af,AV.ax]) fun w β H I vs h=>by
   simp only[aI] at h ⊢
   obtain⟨v1,u1,rfl,g1,v2,u2,rfl,g2,rfl⟩:=h
   exact⟨v1,_,rfl,by have:=nr g1;simpa using this,v2,_,rfl,by have:=nr g2;simpa using this,rfl⟩
 refine aG hF (by simp) (by simp[af,AV.ax]) (by simp[AV.ax]) ?_
 unfold cB
 simp only[↓aX,mX,seval]
 unfold eu at h1 h2
 cases hp:gn s with
 |none=>
   rw[hp] at h1 h2
   refine ae h1 ?_
   simp only[↓aX,mX,seval]
   refine ae h2 ?_
   simp only[↓aX,mX,seval]
   refine ae h0 ?_
   simp only[↓aX,mX,seval,show((1:Int)==1)=true from rfl]
   refine ae h4 ?_
   simp only[↓aX,mX,seval]
 |some l=>
 rw[hp] at h1 h2
 refine ae h1 ?_
 simp only[↓aX,mX,seval]
 refine ae h2 ?_
 simp only[↓aX,mX,seval]
 refine ae (h3 l ?_) ?_
 · have:aV l=true:=by
     unfold gn at hp
     split at hp
     · simp only[Fv] at hp
       obtain⟨m,_,h⟩:=hp
       split at h
       · cases h;assumption
       cases h
     cases hp
   simp only[aV,FE,FV] at this
   exact this.2.2
 simp only[↓aX,mX,seval,show((0:Int)==0)=true from rfl]
 refine ae h4 ?_
 simp only[↓aX,mX,seval]
end
end Go.Am
