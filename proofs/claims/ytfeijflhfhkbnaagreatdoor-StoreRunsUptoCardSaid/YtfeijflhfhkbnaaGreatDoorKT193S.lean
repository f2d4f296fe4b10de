import Derived.Test.YtfeijflhfhkbnaaGreatDoorKAc0S
import Derived.Test.YtfeijflhfhkbnaaGreatDoorKT190S
import Derived.Test.YtfeijflhfhkbnaaGreatDoorKT60S
import Derived.Test.YtfeijflhfhkbnaaGreatDoorKAm53S
set_option linter.all false
/- What acts make of a store; the law StorePlays. -/
namespace Go.Am
open Go Go.RowKit
def NJ {d:Doc} (hd:bQ d=true) (l:List Op):bQ (cq d l).1=true:=by
 unfold cq;split
 ·simp only;split
  ·rename_i h;exact m_ h
  exact hd
 exact hd
def Jz {d:Doc} (hd:bQ d=true) (ls:List Bs):bQ (eI d ls).1=true:=by
 unfold eI;split
 ·exact hd
 split
 ·exact hd
 split
 ·exact NJ hd _
 exact hd
def U6 {d:Doc} (hd:bQ d=true) (a:de):bQ (fY d a).1=true:=by
 unfold fY;split
 ·split
  ·split
   ·rename_i h;have hg:=AX h;unfold c_;rw[agc hg];exact m_ hg
   exact hd
  exact hd
 split
 ·exact Jz hd _
 split
 ·split<;>exact hd
 exact hd
def ZQ {q:Doc×Int} (a:de) (h:bQ q.1=true/\0<=q.2/\q.2<=100):bQ (v_ q.1 q.2 a).1.1=true/\0<=(v_ q.1 q.2 a).1.2/\(v_ q.1 q.2 a).1.2<=100:=by
 unfold v_;split
 ·exact h
 exact⟨U6 h.1 a,ajM,ajM⟩
def U7:bQ GW=true:=m_ xf
def vW (l:List de):dV 2 (l.map de.iv):=by
 intro y hy;simp only[agp] at hy;obtain⟨a,_,rfl⟩:=hy;rfl
def Eo (l:List de) (i:Nat):(l.map de.iv)[i]?=(l[i]?).map de.iv:=ago ..
structure Ez where
 d:Doc
 n:Int
 h:bQ d=true/\0<=n/\n<=100
noncomputable def Ez.act (s:Ez) (a:de):Ez:=⟨_,_,ZQ (q:=(s.d,s.n)) a s.h⟩
abbrev Ez.cs (s:Ez):List AV:=cx s.d s.n
noncomputable def Bb:Ez:=⟨GW,0,U7,ajN,ajN⟩
section
variable {P:Program} {G:Nat->Option (List IV)} [KN P G]
abbrev U8 (P:Program) (G:Nat->Option (List IV)) (f:Nat) (a:de):Prop:=∀s:Ez,cM P G f [.ptr (.par 0) 2 0 0,a.av] s.cs (λx cs=>x=(v_ s.d s.n a).2.av/\cs=(s.act a).cs)
abbrev Hf (P:Program) (G:Nat->Option (List IV)) (f:Nat):Prop:=Rl P G f [] 2 [.list (GW.map Node.iv),.int .i64 0]
set_option maxRecDepth 100000 in
def Hg (l:List de) (hl:l.length<=B) (h1:Hf P G 11) (h2:Hf P G 12) (hP:∀a∈l,U8 P G 13 a) (hR:∀a∈l,U8 P G 14 a)
  (hD:∀s:Ez,cM P G 16 [.ptr (.par 0) 2 0 0] s.cs (λx cs=>x=Doc.av s.d/\cs=s.cs))
  (hS:∀s:Ez,aj P G 15 [Doc.av s.d,Doc.av s.d] (.bool true)):aj P G 4 [.list (l.map de.iv)] (.bool true):=by
 refine au (cw 4 [.f 20 5 (.v7 [.loc 601]),.f 20 11 .all,.f 20 15 (.v7 [.loc 601]),.f 20 19 (.rw [.loc 601] [])]) ajL ajO ajP ?_;have gV:B=1073741824:=rfl;simp only[↓aX,mX,seval,List.length_map];refine sw 6 h1 rfl (λl=>by simp[NW,Hp.none]) λq=> ?_;simp only[↓aX,mX,seval];refine sw 7 h2 rfl (λl=>by simp[NW,Hp.none,ae]) λq2=> ?_;simp only[↓aX,mX,seval,JH];refine br (σ:={q:Nat×Ez // q.1<=l.length/\q.1<=50}) (λ_=>[.loc 600,.loc 601]) (λ_ _=>false)
  (λq=>[(0,.list (l.map de.iv)),(3,.ptr (.loc 600) 2 0 0),(4,.ptr (.loc 601) 2 0 0),(5,.int .i64 q.1.1)])
  (λq=>[(.loc 600,⟨2,[q.1.2.cs]⟩),(.loc 601,⟨2,[q.1.2.cs]⟩)]) (λq=>50 - q.1.1) ⟨(0,Bb),ajL⟩ (λ_=>rfl) (λq=>by simp[ai,AV.aq]) ?_ ⟨[(.loc 600,NW 6 q),(.loc 601,NW 7 q2)],?_⟩ ?_
 ·intro q w hw cs aZ z hz;simp only[List.mem_cons,List.not_mem_nil,or_false] at hw;rcases hw with rfl|rfl<;>(simp only[List.mem_singleton] at aZ;subst aZ;simp[ai,AV.aq,cx] at hz)
 ·refine⟨?_,?_,?_,by simp[aD,NW],?_⟩
  ·intro l hf hu;exfalso;apply hu;rw[an _ _ amE,an _ _ amE];rfl
  ·simp[dp,aD,aH,aA,put,fH]
  ·simp[eL,aD,ae,aP,aA,aH,cx,Bb,IV.dw,NW]
  intro l hl;simp only[List.mem_cons,List.not_mem_nil,or_false] at hl;rcases hl with rfl|rfl
  ·exact XK
  exact XK
 rintro⟨⟨i,s⟩,hi,hi5⟩;rw[dq];simp only[↓aX,mX,seval,aR,aI,List.length_map];by_cases aF:i<l.length
 ·simp only[↓aX,mX,seval,dT aF];by_cases h50:i<50
  ·obtain⟨a,ha⟩:=gE aF;have hm:=List.mem_of_getElem? ha;have hw:=w1 i;simp only[↓aX,mX,seval,show decide ((i:Int)<50)=true by simp;omega,Eo,ha,vW,Option.map_some,de.ax,de.cs,Int.natCast_nonneg,Int.toNat_natCast];refine⟨rfl,DS (l:= .loc 600) (hP a hm s) alX alb alg ⟨rfl,rfl⟩ (by simp[pb.av,AV.aq,ai]) aj2 rfl ?_⟩;rintro x1 cs1 ⟨rfl,rfl⟩ _ _ _;simp only[↓aX,mX,seval,pb.av,Eo,ha,vW,Option.map_some,de.ax,de.cs,Int.natCast_nonneg,Int.toNat_natCast];refine ba (l:= .loc 601) (hR a hm s) alX alb ?_;rintro x2 cs2 ⟨rfl,rfl⟩ _ _ _;simp only[↓aX,mX,seval,pb.av,eqs,eq1,beq_self_eq_true,Bool.and_self,Option.bind_some,Option.map_some];refine DS (l:= .loc 600) (hD (s.act a)) aj1 alb alg ⟨rfl,rfl⟩ (by simp[Doc.av,AV.aq,ai]) aj2 rfl ?_;rintro x3 cs3 ⟨rfl,rfl⟩ _ _ _;have V0:=hS (s.act a);simp only[Doc.av] at V0;simp only[↓aX,mX,seval,Doc.av,Ez.cs,cx,List.length_cons,List.length_nil];refine dG V0 ?_;simp only[↓aX,mX,seval,Bool.not_true,hw];refine⟨⟨(i+1,s.act a),aF,h50⟩,ajM,[],?_,?_,?_,ajS,λl _=>⟨id,λ_=>rfl⟩⟩
   ·exact ow
   ·simp[dp,aD,aH,aA,put]
   simp[eL,aD,ae,aP,aA,aH,cx,Ez.cs]
  simp only[↓aX,mX,seval,show decide ((i:Int)<50)=false by simp;omega]
 simp only[↓aX,mX,seval,dF aF]
end

def pb.cs (r:pb):List IV:=[.int .i64 r.code,.int .i64 r.n,.str r.text]
def pb.iv (r:pb):IV:= .agg r.cs
def pb.ax (r:pb):r.iv.cells=r.cs:=rfl
def U9 (l:List pb):dV 3 (l.map pb.iv):=by
 intro y hy;simp only[agp] at hy;obtain⟨a,_,rfl⟩:=hy;rfl
def U' (l:List pb):Flat (l.map pb.iv):=by
 intro y hy z hz cs e;simp only[agp] at hy;obtain⟨r,_,rfl⟩:=hy;simp only[pb.ax,pb.cs,aga,agf,agI] at hz;rcases hz with rfl|rfl|rfl<;>cases e
def ZR (l:List pb) (i:Nat):(l.map pb.iv)[i]?=(l[i]?).map pb.iv:=ago ..
noncomputable def vX:Ez->List de->List pb
 |_,[]=>[]
 |s,a::r=>(v_ s.d s.n a).2::vX (s.act a) r
theorem vY:∀(l:List de) (s:Ez),(vX s l).length=l.length
 |[],_=>rfl
 |a::r,s=>by simp only[vX,agd,vY r]
structure RnS (l:List de) where
 i:Nat
 s:Ez
 out:List pb
 hi:i<=l.length
 hn:out.length=i
 h:vX Bb l=out++vX s (l.drop i)
section
variable {P:Program} {G:Nat->Option (List IV)} [KN P G]
def ZS (l:List de) (hl:l.length<=B) (h1:Hf P G 11) (hP:∀a∈l,U8 P G 13 a) :
  aj P G 17 [.list (l.map de.iv)] (if 100<l.length then .bq [.nil0,.int .i64 7] else .bq [.list ((vX Bb l).map pb.iv),.int .i64 0]):=by
 have gV:B=1073741824:=rfl;refine au (cw 17 [.a 5 (.own 5 3),.r (.tj (.loc 5) 2)]) ajL ajO (by split<;>simp[AV.aq,ai]) ?_;by_cases hB:100<l.length
 ·simp only[↓aX,mX,seval,eD,show decide ((l.length:Int)>100)=true by simp;omega,hB,↓a_]
 simp only[↓aX,mX,seval,eD,show decide ((l.length:Int)>100)=false by simp;omega,hB];refine sw 11 h1 rfl (λl=>by simp[NW,Hp.none]) λq=> ?_;have hn:∀k,(Lb.loc k=NW 11 q)=False:=λk=>by simp[NW]
 have hn':∀k,(NW 11 q=Lb.loc k)=False:=λk=>by simp[NW]
 simp only[↓aX,mX,seval,hn,Hp.none,eD];have hr:∀(ρ:Lb->Lb) (n:Nat) (xs:List IV),aP ρ ⟨n,ak xs⟩=⟨n,ak xs⟩:=λρ n xs=>aK _ _ _;refine br (σ:=RnS l) (λ_=>[.loc 600,.loc 5]) (λ_ _=>false)
  (λq=>[(4,.ptr (.loc 600) 2 0 0),(5,.sl (.loc 5) 3 0 q.i),(12,.list (l.map de.iv)),(13,.int .i64 l.length),(14,.int .i64 q.i)])
  (λq=>[(.loc 600,⟨2,[q.s.cs]⟩),(.loc 5,⟨3,ak (q.out.map pb.iv)⟩)]) (λq=>l.length - q.i) ⟨0,Bb,[],ajK,rfl,rfl⟩ (λ_=>rfl) (λq=>by simp[ai,AV.aq]) ?_ ⟨[(.loc 600,NW 11 q)],?_⟩ ?_
 ·intro q w hw cs aZ z hz;simp only[aga,agf,agI] at hw;rcases hw with rfl|rfl
  ·simp only[af'] at aZ;subst aZ;simp[ai,AV.aq,cx] at hz
  exact Bp
 ·refine⟨?_,?_,?_,by simp[aD,hn'],?_⟩
  ·intro l hf hu;exfalso;apply hu;cases l<;>simp_all[Lb.fresh,ae,Hp.none,NW,Lb.entry]
  ·simp[dp,aD,aH,aA,put,fH]
  ·simp only[eL,hr];simp[aD,ae,aP,aA,aH,cx,Bb,IV.dw,hn,hn',ak]
  intro l hl;simp only[aga,agf,agI] at hl;rcases hl with rfl|rfl
  ·exact XK
  exact⟨λ_=>by simp[aD,Lb.fresh],λh=>by simp[aD]⟩
 rintro⟨i,s,out,hi,hn,h⟩;rw[dq];simp only[↓aX,mX,seval,aR,aI];by_cases aF:i<l.length
 ·obtain⟨a,ha⟩:=gE aF;have hw:=w1 i;have hdr:l.drop i=a::l.drop (i+1):=by rw[ag1 aF];congr 1;exact(afY.1 ha).2
  rw[hdr] at h;simp only[↓aX,mX,seval,dT aF,Eo,ha,vW,af9,de.ax,de.cs,af5,af0,eD];refine ba (l:= .loc 600) (hP a (af3 ha) s) alX alb ?_;rintro x2 cs2 ⟨rfl,rfl⟩ _ _ _;simp only[vX] at h;generalize (v_ s.d s.n a).2=r at h ⊢;simp only[↓aX,mX,seval,pb.av];rw[bX 3 32 23 5 (out.map pb.iv) (.agg [.int .i64 r.code,.int .i64 r.n,.str r.text]) ajR aly rfl aj0 ajK ajK ajK ajX];simp only[↓aX,mX,seval,hw];refine⟨⟨i+1,s.act a,out++[r],aF,by simp[hn],by rw[h];simp⟩,ajM,[(.loc 5,.loc 23)],?_⟩;refine⟨?_,?_,?_,ajS,?_⟩
  ·exact ow
  ·simp[dp,aD,aH,aA,put]
  ·simp only[eL,hr];simp[aD,ae,aP,aA,aH,cx,pb.iv,pb.cs,Ez.cs]
  intro l hl;simp only[aga,agf,agI] at hl;rcases hl with rfl|rfl
  ·exact⟨λ_=>rfl,λh=>by simp[Lb.fresh] at h⟩
  exact⟨λ_=>rfl,λh=>by simp[Lb.fresh] at h⟩
 have je:i=l.length:=ajK
 subst je;rw[aic] at h;simp only[vX,agb] at h;simp only[↓aX,mX,seval,show decide ((l.length:Int)<(l.length:Int))=false by simp];refine⟨3,out.map pb.iv,0,l.length,rfl,rfl,by simp[hn],U' _,?_⟩;simp only[↓aX,mX,seval,↓a_,agj,af2 (show(out.map pb.iv).length<=l.length by simp[hn]),h,hB]
def JA (l:List de) (hl:l.length<=B) (h2:Hf P G 12) (hR:∀a∈l,U8 P G 14 a)
  (hX:∀l':List de,l'=l\/l'=[⟨99,[]⟩]->aj P G 17 [.list (l'.map de.iv)] (if 100<l'.length then .bq [.nil0,.int .i64 7] else .bq [.list ((vX Bb l').map pb.iv),.int .i64 0])):aj P G 5 [.list (l.map de.iv)] (.bool true):=by
 have gV:B=1073741824:=rfl;refine au (cw 5 [.p 11,.f 57 9 .all]) ajL ajO ajP ?_;have fl:Flt (l.map de.iv):=λy hy z hz cs e=>by
  simp only[agp] at hy;obtain⟨a,_,rfl⟩:=hy;simp only[de.ax,de.cs,aga,agf,agI] at hz;rcases hz with rfl|rfl<;>cases e
 have h1:=hX l (.inl rfl);have h9:aj P G 17 [.list [.agg [.int .i64 99,.list []]]] (.bq [.list ((vX Bb [⟨99,[]⟩]).map pb.iv),.int .i64 0]):=hX _ (.inr rfl);simp only[↓aX,mX,seval,eD,vW,fl,show l.length*32<=140737488355328 by omega];refine ah h1 ?_;by_cases ady:100<l.length
 ·simp only[↓aX,mX,seval,ady];refine ah h9 ?_;simp only[↓aX,mX,seval,eD,vY,agd,agx,show decide ((l.length:Int)>100)=true by simp;omega,show((7:Int)==7)=true from rfl,show((0:Int)==0)=true from rfl,show(((0+1:Nat):Int)==1)=true from rfl]
 simp only[↓aX,mX,seval,ady];refine ah h9 ?_;simp only[↓aX,mX,seval,eD,show decide ((l.length:Int)>100)=false by simp;omega];refine sw 36 h2 rfl (λl=>by simp[NW,Hp.none]) λq=> ?_;obtain⟨rs,pg⟩:∃rs,vX Bb l=rs:=⟨_,rfl⟩;have hlr:rs.length=l.length:=by rw[<-pg,vY]
 simp only[↓aX,mX,seval,eD,vY,pg,hlr,agd,agx,show((0:Int) !=0)=false from rfl,show ∀n:Nat,(((n:Nat):Int) !=((n:Nat):Int))=false fromλn=>by simp,show(((0+1:Nat):Int) !=1)=false from rfl];refine br (σ:={q:Nat×Ez // q.1<=l.length/\rs.drop q.1=vX q.2 (l.drop q.1)}) (λ_=>[.loc 600]) (λ_ _=>false)
  (λq=>[(0,.list (l.map de.iv)),(3,.list (rs.map pb.iv)),(7,.ptr (.loc 600) 2 0 0),(8,.int .i64 q.1.1)])
  (λq=>[(.loc 600,⟨2,[q.1.2.cs]⟩)]) (λq=>l.length - q.1.1) ⟨(0,Bb),by simp[pg]⟩ (λ_=>rfl) (λq=>by simp[ai,AV.aq]) ?_ ⟨[(.loc 600,NW 36 q)],?_⟩ ?_
 ·intro q w hw cs aZ z hz;simp only[af'] at hw;subst hw;simp only[af'] at aZ;subst aZ;simp[ai,AV.aq,cx] at hz
 ·refine⟨?_,?_,?_,ajS,?_⟩
  ·intro l hf hu;exfalso;apply hu;cases l<;>simp_all[Lb.fresh,ae,Hp.none,NW,Lb.entry]
  ·simp[dp,aD,aH,aA,put,fH]
  ·simp[eL,aD,ae,aP,aA,aH,cx,Bb,IV.dw]
  intro l hl;simp only[af'] at hl;subst hl;exact⟨λ_=>by simp[aD,NW,Lb.fresh],λh=>by simp[Lb.fresh] at h⟩
 rintro⟨⟨i,s⟩,hi,h⟩;rw[dq];simp only[↓aX,mX,seval,aR,aI,eD];by_cases aF:i<l.length
 ·obtain⟨a,ha⟩:=gE aF;have hw:=w1 i;rw[ag1 aF,show l[i]=a from(afY.1 ha).2] at h;simp only[vX] at h;have hr:rs[i]?=some (v_ s.d s.n a).2:=by rw[<-aii,h];rfl
  have h':rs.drop (i+1)=vX (s.act a) (l.drop (i+1)):=by rw[<-List.tail_drop,h];rfl
  simp only[↓aX,mX,seval,dT aF,ZR,hr,U9,pb.ax,pb.cs,Eo,ha,vW,af9,de.ax,de.cs,af5,af0];refine⟨rfl,?_⟩;refine ba (l:= .loc 600) (hR a (af3 ha) s) alX alb ?_;rintro x2 cs2 ⟨rfl,rfl⟩ _ _ _;simp only[↓aX,mX,seval,pb.av,eqs,eq1,ai8,af_,af9,hw];refine⟨⟨(i+1,s.act a),aF,h'⟩,ajM,[],?_,?_,?_,ajS,λl _=>⟨id,λ_=>rfl⟩⟩
  ·exact ow
  ·simp[dp,aD,aH,aA,put]
  simp[eL,aD,ae,aP,aA,aH,cx,Ez.cs]
 simp only[↓aX,mX,seval,dF aF]
end
end Go.Am
