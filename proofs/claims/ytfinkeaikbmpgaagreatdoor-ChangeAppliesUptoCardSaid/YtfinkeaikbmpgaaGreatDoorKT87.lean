import Derived.Test.YtfinkeaikbmpgaaGreatDoorKAm46
import Derived.Test.YtfinkeaikbmpgaaGreatDoorKT9
set_option linter.unusedSimpArgs false
set_option linter.unusedVariables false
set_option linter.unnecessarySimpa false
set_option linter.defProp false
/- The bench: attributes set and dropped. -/
namespace Go.Am
open Go Go.RowKit
def TV (as:List Attr) (o:Op):List Attr:=
 if o.kind=10 then(if TU as o.name then as.take (RT as o.name)++as.drop (RT as o.name+1) else as)
 else if TU as o.name then as.set (RT as o.name) ⟨o.name,o.s⟩ else as.take (RT as o.name)++[⟨o.name,o.s⟩]++as.drop (RT as o.name)
def Bn.attr (b:Bn) (n:Nat) (o:Op):Bn:=match b.nodes[n]? with
 |some x=>b.set n {x with attrs:=TV x.attrs o}
 |none=>b
def ac1 (as:List Attr) (key:Bs):RT as key≤as.length:=by unfold RT;exact(List.takeWhile_sublist _).length_le
def aac {as:List Attr} {key:Bs} (h:TU as key=true):∃a,as[RT as key]?=some a∧a.name=key:=by
 unfold TU at h;split at h
 ·rename_i a ha;exact⟨a,ha,by simpa using h⟩
 cases h
def abC {α:Type} {l:List α} {n:Nat} {v:α} (h:l[n]?=some v):l.set n v=l:=by
 obtain⟨h1,rfl⟩:=aI.1 h;exact List.set_getElem_self h1
def aeL {as:List Attr} {i:Nat} {a:Attr} (h:as[i]?=some a):(aB (cD as))[i]?=some [.str a.name,.str a.val]:=by
 simp[aB,cD,h,Attr.iv,Attr.cs,IV.cells,IV.dQ]
def aeM (as:List Attr) (i:Nat) (a:Attr):(aB (cD as)).set i [.str a.name,.str a.val]=aB (cD (as.set i a)):=by
 simp[aB,cD,rH,Attr.iv,Attr.cs,IV.cells,IV.dQ]
def ahU (P:Program) (G:Nat→Option (List IV)) (f:Nat):Prop:=∀(xs vs:List Attr) (i:Nat),i≤xs.length→xs.length+vs.length≤B →
 tq P G 2 f [.sl (.par 0) 2 0 xs.length,.int .i64 i,.list (cD vs)] (cD xs) (cD (xs.take i++vs++xs.drop i))
def ahV (P:Program) (G:Nat→Option (List IV)) (f:Nat):Prop:=∀(xs:List Attr) (i:Nat),i<xs.length→xs.length≤B →
 tq P G 2 f [.sl (.par 0) 2 0 xs.length,.int .i64 i,.int .i64 ((i+1:Nat):Int)] (cD xs) (cD (xs.take i++xs.drop (i+1)))
section
variable {P:Program} {G:Nat→Option (List IV)}
def V7 (e9 r7 nb n2:Nat):AC:=
(aM [sC 3 1] (.seq (.VL [MR 7 0,aQ 8 (.dp (.t 7)),ep 9 8 0,fm 10 9,ep 11 3 1,fm 12 11,jL 13 10 12 5,MR 4 13] [[],[0],[1],[2],[],[4],[3,5],[6,0,1,2,3,4,5,6]] [.no,.no,.no,(.rw [(.par 0)] []),.no,.rw [.loc 3] [],.no,.no]) (.seq (.VL [MR 15 4,aQ 16 (.dp (.t 15)),ep 17 16 2,fm 18 17,ep 19 3 3,fm 20 19,aQ 21 (.call e9 [(.t 18),(.t 20),(.c (.fn r7 [] []))]),MR 14 21,ox 22 14 0,ox 23 14 1,MR 5 22,MR 6 23] [[],[0],[1],[2],[],[4],[3,5],[6],[7],[7],[8,6,0,1,2,3,4,5,6,7,8],[9,10,0,1,2,3,4,5,6,7,8,9,10]] [.no,.no,.no,(.rw [(.par 1)] []),.no,.rw [.loc 3] [],(.p_ []),.no,.no,.no,.no,.no]) (.block 0 (aM [ep 25 3 0,fm 26 25,eY 27 .eql 26 10,MR 28 27,cU 29 28 6,jT 30 28 29,MR 24 30] (.cond (.t 24) (.cq [MR 31 4,MR 32 4,aQ 33 (.dp (.t 32)),ep 34 33 2,fm 35 34,MR 36 5,MR 37 5,eY 38 .add 37 1,aQ 39 (.call nb [(.t 35),(.t 36),(.t 38)]),aQ 40 (.dp (.t 31)),ep 41 40 2,gg (.store 1 (.t 41) (.t 39))]) (aM [ep 43 3 0,fm 44 43,eY 45 .eql 44 9,MR 46 45,cU 47 46 6,jT 48 46 47,MR 42 48] (.cond (.t 42) (.VL [MR 49 4,aQ 50 (.dp (.t 49)),ep 51 50 2,fm 52 51,MR 53 5,ep 54 3 4,fm 55 54,jL 56 52 53 2,ep 57 56 1,gg (.store 1 (.t 57) (.t 55))] [[],[0],[1],[2],[],[],[5],[3,4,0,1,2,3,4,5,6],[7,0,1,2,3,4,5,6],[8,6,0,1,2,3,4,5,6]] [.no,.no,.no,(.rw [(.par 1)] []),.no,.no,.rw [.loc 3] [],.no,.no,.all]) (aM [ep 59 3 0,fm 60 59,eY 61 .eql 60 9,MR 58 61] (.cond (.t 58) (.VL [MR 62 4,MR 63 4,aQ 64 (.dp (.t 63)),ep 65 64 2,fm 66 65,MR 67 5,ep 68 3 3,fm 69 68,ep 70 3 4,fm 71 70,aQ 72 (.sg [(.str []),(.str [])] [(0,(1,(.t 69))),(1,(1,(.t 71)))]),aQ 73 (.lits 1 2 [(.str []),(.str [])] [(0,(.t 72))]),aQ 74 (.call n2 [(.t 66),(.t 67),(.t 73)]),aQ 75 (.dp (.t 62)),ep 76 75 2,gg (.store 1 (.t 76) (.t 74))] [[],[],[1],[2],[3],[],[],[6],[],[8],[7,9],[10],[4,5,11],[0,0,1,2,3,4,5,6,7,8,9,10,11,12],[13,0,1,2,3,4,5,6,7,8,9,10,11,12],[14,12,12,0,1,2,3,4,5,6,7,8,9,10,11,12]] [.no,.no,.no,.no,(.rw [(.par 1)] []),.no,.no,.rw [.loc 3] [],.no,.rw [.loc 3] [],.no,.no,(.p_ []),.no,.no,(.rw [] [(.par 1)])]) .skip))))))))))
set_option maxRecDepth 20000 in
def ahW {eF e9 r7 nb n2:Nat} (hF:aw P G eF=some (77,[],(V7 e9 r7 nb n2).bare)) (b:Bn) (n:Nat) (hp:n<b.n0) (x:Node) (hx:b.nodes[n]?=some x)
  (o:Op) (ht:o.target=n) (hk:o.kind=9∨o.kind=10) (hb:x.attrs.length+1≤B) (hS:au P G e9 [.list (cD x.attrs),.str o.name,.fn r7 [] []] (.gf [.int .i64 (RT x.attrs o.name),.bool (TU x.attrs o.name)]))
  (hI:ahU P G n2) (hD:ahV P G nb) :
  Jg P G eF [.ptr (.par 0) 3 0 0,o.av] (Ut b) (b.but (4+2*n)) fun X R2=>X=(fun _=> .gf [])∧R2=Ut (b.attr n o):=by
 refine VM hF (by simp) (by simp[ah,AV.an,OO,Op.av];omega) ?_;have VB:Oi Lb.par b (Lx (Ut b)):=Xv _;have hU:∀q:Lb,(∀p,p<4+2*b.n0→q≠ .par p)→Lx (Ut b) q= .unused:=fun q hq=>Qa _ fun p hp e=>hq p (OO.1 hp) e.symm;have h3:Lx (Ut b) (.loc 3)= .unused:=hU _ (by simp);have h39:Lx (Ut b) (.gen 39)= .unused:=hU _ (by simp);have h74:Lx (Ut b) (.gen 74)= .unused:=hU _ (by simp);have hlen:n<b.nodes.length:=(List.getElem?_eq_some_iff.1 hx).1;have zo:B=1073741824:=rfl;have hbn:=Va (n0:=b.n0) (lab:=Lb.par) (x:=x) hp;have jY:=VB.get hx;rw[hbn] at jY;have pT:=VB.at' hp hx;unfold V7;simp only[↓aX,mX,seval,Op.av,ht,h3,VB.s,VB.n,hlen,List.length_mapIdx,Int.natCast_nonneg,Int.toNat_natCast,and_self,true_and,Nat.zero_add,jY];refine⟨rfl,rfl,?_⟩;refine ad5 hS (.cons (aby (by rw[aq _ _ (by simp)];exact pT) (nW _) (by simp[bp])) (.cons (.same _) (.cons (.same _) .nil))) rfl ?_;have BS:=ac1 x.attrs o.name;have hw:IntKind.i64.wrap ((RT x.attrs o.name:Int)+1)=((RT x.attrs o.name+1:Nat):Int):=wrap64 (by omega) (by omega);have zO:IntKind.i64.wrap ((RT x.attrs o.name:Int)+1)=((RT x.attrs o.name+1:Nat):Int):=hw;simp only[↓aX,mX,seval,Op.av,ht,h3,VB.s,VB.n,hlen,List.length_mapIdx,Int.natCast_nonneg,Int.toNat_natCast,and_self,true_and,Nat.zero_add,jY];have aiB:b.attr n o=b.set n {x with attrs:=TV x.attrs o}:=by unfold Bn.attr;rw[hx]
 have HM:Oi Lb.par b (bD (Lx (Ut b)) (.loc 3) (.live ⟨5,[[.int .i64 o.kind,.int .i64 n,.list (dq o.content),.str o.name,.str o.s]]⟩)):=VB.Yr (by simp);have key:∀(N:Lb) (ys:List Attr),TV x.attrs o=ys→(N= .par (4+2*n)∨N= .gen 39∨N= .gen 74)→∀H2:Hp,H2 (.par 1)= .live ⟨5,(b.nodes.mapIdx (NI b.n0 Lb.par)).set n [.bool x.text,.str x.s,.sl N 2 0 ys.length,.int .i64 x.parent,.sl (.par (5+2*n)) 1 0 x.kids.length]⟩ →
   H2 N= .live ⟨2,aB (cD ys)⟩→(∀q,q≠ .par 1→q≠N→q≠ .par (4+2*n)→q≠ .loc 3→H2 q=Lx (Ut b) q) →
   ∃t:((Nat→Lb)→AV)×uR×(Nat→Lb),(t.1=(fun _=> .gf [])∧t.2.1=Ut (b.attr n o))∧(∀ρ,bJ ρ (t.1 t.2.2)=t.1 fun i=>ρ (t.2.2 i))∧(∀l∈(AV.gf []).an,∃p,t.2.1.ok p∧l=t.2.2 p)∧AV.gf []=t.1 t.2.2∧Ed t.2.2 t.2.1 H2∧∀p'∈b.but (4+2*n),t.2.2 p'= .par p':=by
  intro N ys sn hN H2 e1 e2 e3;refine⟨⟨fun _=> .gf [],Ut (b.attr n o),fun p'=>if p'=4+2*n then N else .par p'⟩,⟨rfl,rfl⟩,fun ρ=>by simp[bJ,bu],by simp[AV.an,ah],rfl,?_,?_⟩
  ·rw[aiB,sn];have hN3:∀p',(if p'=4+2*n then N else Lb.par p')≠ .loc 3:=by
    intro p';split
    ·rcases hN with rfl|rfl|rfl<;>simp
    simp
   have:=Oi.eh (H2:=fun q=>if q= .loc 3 then Lx (Ut b) q else H2 q) VB (N:=N) (ys:=ys) hp hx (by
    rcases hN with rfl|rfl|rfl
    ·exact .inl rfl
    ·exact .inr (by simp)
    ·exact .inr (by simp)) (by simp[e1]) (by rw[if_neg (by rcases hN with rfl|rfl|rfl<;>simp)];exact e2) (by
    intro q g1 g2 g3;by_cases g4:q= .loc 3
    ·simp[g4]
    simp only[g4,if_false];exact e3 q g1 g2 g3 g4)
   refine⟨fun q r hr=> ?_,this.inj⟩;have h1:=this.row q r hr;exact(if_neg (hN3 q)).symm.trans h1
  intro p' BT;exact if_neg (Wp.1 BT).2
 have h14:¬(1:Nat)=4+2*n:=by omega
 have aiC:∀P Q:List Attr,(if(9:Int)=10 then P else Q)=Q:=fun _ _=>if_neg (by decide);rcases hk with hk|hk
 ·simp only[↓aX,mX,seval,hk,Int.reduceBEq,ht,h3,VB.s,VB.n,hlen,List.length_mapIdx,Int.natCast_nonneg,Int.toNat_natCast,and_self,true_and,Nat.zero_add,jY];refine AU (fun h=> ?_) (fun h=> ?_)
  ·obtain⟨a,ha,hn⟩:=aac h;have MB:RT x.attrs o.name<x.attrs.length:=(List.getElem?_eq_some_iff.1 ha).1;simp only[↓aX,mX,seval,hk,h,Int.reduceBEq,ht,h3,VB.s,VB.n,hlen,List.length_mapIdx,Int.natCast_nonneg,Int.toNat_natCast,and_self,true_and,Nat.zero_add,jY];refine⟨rfl,?_⟩;have aiD:=aeL ha;simp only[↓aX,mX,seval,MB,h3,pT,aiD];rw[lM];refine⟨[],rfl,key (.par (4+2*n)) (x.attrs.set (RT x.attrs o.name) ⟨o.name,o.s⟩) ?_ (.inl rfl) _ ?_ ?_ ?_⟩
   ·simp only[TV,hk,aiC,h,if_true]
   ·rw[List.length_set,abC jY];simp[ae,VB.n,h14]
   ·rw[ae,if_pos rfl,←aeM,hn]
   intro q g1 g2 g3 g4;simp[ae,g3,g4]
  simp only[↓aX,mX,seval,hk,h,Int.reduceBEq,ht,h3,VB.s,VB.n,hlen,List.length_mapIdx,Int.natCast_nonneg,Int.toNat_natCast,and_self,true_and,Nat.zero_add,jY];refine⟨rfl,?_⟩;refine Bg (l:= .par (4+2*n)) (N:= .gen 74) (hI x.attrs [⟨o.name,o.s⟩] (RT x.attrs o.name) BS (by simp;omega)) rfl (by rw[aq _ _ (by simp)];exact pT) (by rw[aq _ _ (by simp)];exact h74) (by simp[Lb.fresh]) (by simp) (by simp) ?_ ?_
  ·simp only[↓aX,mX,seval,hk,h,Int.reduceBEq,ht,h3,VB.s,VB.n,hlen,List.length_mapIdx,Int.natCast_nonneg,Int.toNat_natCast,and_self,true_and,Nat.zero_add,jY,bp,h14];rw[lM];refine⟨[],rfl,key (.gen 74) (x.attrs.take (RT x.attrs o.name)++[⟨o.name,o.s⟩]++x.attrs.drop (RT x.attrs o.name)) ?_ (.inr (.inr rfl)) _ ?_ ?_ ?_⟩
   ·simp[TV,hk,h]
   ·simp[ae]
   ·simp[ae]
   intro q g1 g2 g3 g4;simp[ae,g1,g2,g3,g4]
  simp only[↓aX,mX,seval,hk,h,Int.reduceBEq,ht,h3,VB.s,VB.n,hlen,List.length_mapIdx,Int.natCast_nonneg,Int.toNat_natCast,and_self,true_and,Nat.zero_add,jY,bp,h14];rw[lM];refine⟨[],rfl,key (.par (4+2*n)) (x.attrs.take (RT x.attrs o.name)++[⟨o.name,o.s⟩]++x.attrs.drop (RT x.attrs o.name)) ?_ (.inl rfl) _ ?_ ?_ ?_⟩
  ·simp[TV,hk,h]
  ·simp[ae]
  ·simp[ae];omega
  intro q g1 g2 g3 g4;simp[ae,g1,g3,g4]
 simp only[↓aX,mX,seval,hk,Int.reduceBEq,ht,h3,VB.s,VB.n,hlen,List.length_mapIdx,Int.natCast_nonneg,Int.toNat_natCast,and_self,true_and,Nat.zero_add,jY];refine AU (fun h=> ?_) (fun h=> ?_)
 ·obtain⟨a,ha,hn⟩:=aac h;have MB:RT x.attrs o.name<x.attrs.length:=(List.getElem?_eq_some_iff.1 ha).1;simp only[↓aX,mX,seval,hw,h,Int.reduceBEq,ht,h3,VB.s,VB.n,hlen,List.length_mapIdx,Int.natCast_nonneg,Int.toNat_natCast,and_self,true_and,Nat.zero_add,jY];refine mI (l:= .par (4+2*n)) (N:= .gen 39) (hD x.attrs (RT x.attrs o.name) MB (by omega)) rfl (by rw[aq _ _ (by simp)];exact pT) (by rw[aq _ _ (by simp)];exact h39) (by simp[Lb.fresh]) ?_ ?_
  ·simp only[↓aX,mX,seval,hk,h,Int.reduceBEq,ht,h3,VB.s,VB.n,hlen,List.length_mapIdx,Int.natCast_nonneg,Int.toNat_natCast,and_self,true_and,Nat.zero_add,jY,bp,h14];rw[lM];refine⟨[],rfl,key (.gen 39) (x.attrs.take (RT x.attrs o.name)++x.attrs.drop (RT x.attrs o.name+1)) ?_ (.inr (.inl rfl)) _ ?_ ?_ ?_⟩
   ·simp[TV,hk,h]
   ·simp[ae]
   ·simp[ae]
   intro q g1 g2 g3 g4;simp[ae,g1,g2,g3,g4]
  simp only[↓aX,mX,seval,hk,h,Int.reduceBEq,ht,h3,VB.s,VB.n,hlen,List.length_mapIdx,Int.natCast_nonneg,Int.toNat_natCast,and_self,true_and,Nat.zero_add,jY,bp,h14];rw[lM];refine⟨[],rfl,key (.par (4+2*n)) (x.attrs.take (RT x.attrs o.name)++x.attrs.drop (RT x.attrs o.name+1)) ?_ (.inl rfl) _ ?_ ?_ ?_⟩
  ·simp[TV,hk,h]
  ·simp[ae]
  ·simp[ae];omega
  intro q g1 g2 g3 g4;simp[ae,g1,g3,g4]
 simp only[↓aX,mX,seval,hk,h,Int.reduceBEq,ht,h3,VB.s,VB.n,hlen,List.length_mapIdx,Int.natCast_nonneg,Int.toNat_natCast,and_self,true_and,Nat.zero_add,jY];rw[lM];refine⟨[],rfl,key (.par (4+2*n)) x.attrs ?_ (.inl rfl) _ ?_ ?_ ?_⟩
 ·simp[TV,hk,h]
 ·rw[abC jY];simp[ae,VB.n,h14]
 ·simp[ae,pT]
 intro q g1 g2 g3 g4;simp[ae,g4]
end

def afV (as:List Attr) (k v:Bs):List Attr:=as.filter (fun a=>Op.bytesLess a.name k)++⟨k,v⟩::as.filter (fun a=>Op.bytesLess k a.name)
def ac2 (as:List Attr) (k:Bs):List Attr:=as.filter (fun a=>Op.bytesLess a.name k)++as.filter (fun a=>Op.bytesLess k a.name)
theorem ZI:∀{as:List Attr},l_ as=true↔as.Pairwise fun a b=>Op.bytesLess a.name b.name=true
 |[]=>by simp[l_]
 |a::r=>by
  rw[mC];constructor
  ·intro h;exact⟨ZH h,ZI.1 (vS h)⟩
  rintro⟨h1,h2⟩;cases r with
  |nil=>rfl
  |cons b r=>simp only[l_,bw];exact⟨h1 b (by simp),ZI.2 h2⟩
theorem aaK {key:Bs}:∀{as:List Attr},l_ as=true→as.take (RT as key)=as.filter (fun a=>Op.bytesLess a.name key) ∧
  (TU as key=true→as.drop (RT as key+1)=as.filter (fun a=>Op.bytesLess key a.name))∧(TU as key=false→as.drop (RT as key)=as.filter (fun a=>Op.bytesLess key a.name))
 |[],_=>by simp[RT,TU]
 |a::r,h=>by
  have ht:=vS h;have bI:=ZH h;obtain⟨i1,i2,i3⟩:=aaK (key:=key) ht;cases h1:Op.bytesLess a.name key with
  |true=>
   have hp:RT (a::r) key=RT r key+1:=(by simp[RT,ou,h1]);have hh:TU (a::r) key=TU r key:=(by unfold TU;rw[hp];simp);rw[hp,hh];refine⟨by rw[lf,i1];simp[iO,h1],fun hq=> ?_,fun hq=> ?_⟩
   ·rw[iP,i2 hq,ld (by rw[ny h1];simp)]
   rw[iP,i3 hq,ld (by rw[ny h1];simp)]
  |false=>
  have hp:RT (a::r) key=0:=by simp[RT,ou,h1]
  have qS:∀b∈r,Op.bytesLess b.name key=false:=fun b hb=>by
   cases hq:Op.bytesLess b.name key with
   |false=>rfl
   |true=>rw[rG (bI b hb) hq] at h1;cases h1
  have PS:∀b∈r,Op.bytesLess key b.name=true:=fun b hb=>by
   rcases tl key a.name with h2|h2|h2
   ·exact rG h2 (bI b hb)
   ·rw[h2];exact bI b hb
   rw[h2] at h1;cases h1
  have B7:(a::r).filter (fun a=>Op.bytesLess a.name key)=[]:=by
   rw[mc];intro b hb;rcases bb.1 hb with rfl|hb
   ·rw[h1];simp
   rw[qS b hb];simp
  have FW:r.filter (fun a=>Op.bytesLess key a.name)=r:=List.filter_eq_self.2 PS;have hh:TU (a::r) key=(a.name==key):=by unfold TU;rw[hp];simp
  rw[hp,hh];refine⟨by rw[B7];rfl,fun hq=> ?_,fun hq=> ?_⟩
  ·have e:a.name=key:=(by simpa using hq);simp only[iO,e,qq,ic,fH,FW,iP,e_]
  have e:a.name≠key:=by simpa using hq
  have:Op.bytesLess key a.name=true:=by
   rcases tl key a.name with h2|h2|h2
   ·exact h2
   ·exact absurd h2.symm e
   rw[h2] at h1;cases h1
  simp only[iO,this,eT,FW,e_]
def aeN {as:List Attr} (h:l_ as=true) (o:Op):TV as o=if o.kind=10 then ac2 as o.name else afV as o.name o.s:=by
 obtain⟨i1,i2,i3⟩:=aaK (key:=o.name) h;unfold TV ac2 afV;cases hh:TU as o.name with
 |true=>
  obtain⟨a,ha,hn⟩:=aac hh;have bI:=(aI.1 ha).1;have vf:as.set (RT as o.name) ⟨o.name,o.s⟩=as.take (RT as o.name)++⟨o.name,o.s⟩::as.drop (RT as o.name+1):=mF.trans (bf bI);simp only[eT];rw[vf,i1,i2 hh]
 |false=>
 simp only[ic,fH];rw[i1,i3 hh];split
 ·rw[←i1,←i3 hh,dM]
 simp
def aeO {as:List Attr} (h:l_ as=true) (k v:Bs):l_ (afV as k v)=true:=by
 rw[ZI] at h ⊢;unfold afV;rw[jk,mC];refine⟨h.filter _,⟨fun b hb=> ?_,h.filter _⟩,fun a ha b hb=> ?_⟩
 ·exact(ga.1 hb).2
 have h1:=(ga.1 ha).2;rcases bb.1 hb with rfl|hb
 ·exact h1
 exact rG h1 (ga.1 hb).2
def adA {as:List Attr} (h:l_ as=true) (k:Bs):l_ (ac2 as k)=true:=by
 rw[ZI] at h ⊢;unfold ac2;rw[jk];exact⟨h.filter _,h.filter _,fun a ha b hb=>rG (ga.1 ha).2 (ga.1 hb).2⟩
def adB {as:List Attr} (h:l_ as=true) (o:Op):l_ (TV as o)=true:=by
 rw[aeN h];split
 ·exact adA h _
 exact aeO h _ _
def adC (as:List Attr) (o:Op):(TV as o).length≤as.length+1:=by
 have:=ac1 as o.name;unfold TV;split
 ·split
  ·simp;omega
  omega
 split
 ·simp
 simp;omega

def Pp {S:St} {env:Env} {H:Hp} {q N:Lb} {sq i j sz:Nat} {els:List (List AV)} {cs:List AV} (g1:H q= .live ⟨sq,els⟩) (g0:els[i]?=some cs) (g2:cs[j]?=some .nil0) (g3:H N= .unused) (g4:0<sz) :
  nQ S env H env (bD (bD H N (.live ⟨sz,[]⟩)) q (.live ⟨sq,els.set i (cs.set j (.sl N sz 0 0))⟩)):=by
 intro K β a w IJ hS hr;have hk:=hr.OI N g3 (r:=⟨sz,[]⟩) (Below.refl _ _) none (by simp) (by simp) ⟨g4,by simp,by simp⟩;have TF:q≠N:=by rintro rfl;rw[g1] at g3;cases g3
 have hq:bD H N (.live ⟨sz,[]⟩) q= .live ⟨sq,els⟩:=by rw[aq _ _ TF];exact g1
 have hlen:=(hr.rows q _ g1).2.1;have TG:bD β N none q=β q:=aq _ _ TF;have XV:i<els.length:=(aI.1 g0).1;cases hb:β q with
 |none=>
  have:=(hr.rows q _ g1).2.2;simp only[hb] at this;rw[this] at XV;simp at XV
 |some g=>
 obtain⟨cur,e0,cap,k1,k2,k3,k4,k5⟩:=(hk.rows q _ hq).block (TG.trans hb);have zk:j<cs.length:=(aI.1 g2).1;have vf:=hk.setRow q (r':=⟨sq,els.set i (cs.set j (.sl N sz 0 0))⟩) (cur':=cur) (cap:=cap) hq (TG.trans hb) k1 rfl rfl k2 k3 (by simpa using k4) (by
   intro ds ua;rcases gj ua with h|rfl
   ·exact hlen ds h
   simpa using hlen cs (aV g0))
  (by
   intro ds ua p hp;rcases gj ua with h|rfl
   ·exact hk.cH q _ hq ds h p hp
   obtain⟨y,hy,J'⟩:=Px hp;rcases gj hy with hy|rfl
   ·obtain⟨m,hm⟩:=c_ hy;exact hk.cH q _ hq cs (aV g0) p (cW _ _ _ hm p J')
   simp only[AV.an,aW] at J';subst J';simp)
  (by
   intro i' j' ds x0 ed iX;by_cases ei:i'=i
   ·subst ei;simp only at ed;rw[fk XV] at ed;cases ed;by_cases e:j'=j
    ·subst e;rw[fk zk] at iX;cases iX;obtain⟨v,q1,q2⟩:=k5 i' j' cs _ g0 g2;simp only[RV] at q2;obtain⟨ad,rfl⟩:=q2;refine⟨_,q1,?_⟩;simp only[RV];exact⟨ad,0,rfl,bm _,by simp[maxLen],by simp,fun _=> .inl rfl⟩
    rw[gy (dL e)] at iX;exact k5 i' j' cs x0 g0 iX
   simp only at ed;rw[gy (dL ei)] at ed;exact k5 i' j' ds x0 ed iX)
 have j0:w.setRow g cur=w:=setRow_self w g cur e0 (0,0) k1;rw[j0] at vf;exact⟨_,vf⟩

def UR (s:Bs):Tree:= .mk true s [] []
def acs (s:Bs):(UR s).wt=1+s.length:=by simp[UR,Tree.wt,dX,dE]
def Bn.value (b:Bn) (n:Nat) (s:Bs):Bn:=match b.nodes[n]? with
 |some x=>if x.text then b.set n {x with s:=s} else(b.set n {x with kids:=[]}).ins n 0 [UR s]
 |none=>b
def aau (P:Program) (G:Nat→Option (List IV)) (f:Nat):Prop:=∀(b:Bn),b.n0≤b.nodes.length→∀(p pl:Nat),p<b.n0→∀(x:Node),b.nodes[p]?=some x→pl≤x.kids.length →
 ∀(l:List Tree),b.nodes.length+dE l≤B→x.kids.length+l.length≤B →
 Jg P G f [.ptr (.par 0) 3 0 0,.int .i64 p,.int .i64 pl,.list (dq l)] (Ut b) (b.acr 1 (5+2*p)) fun X R2=>X=(fun _=> .gf [])∧R2=Ut (b.ins p pl l)
section
variable {P:Program} {G:Nat→Option (List IV)}
def V2 (bn:Nat):AC:=
(.seq (aM [MR 6 0,aQ 7 (.dp (.t 6)),ep 8 7 0,fm 9 8,MR 10 1,jL 11 9 10 5,ep 12 11 0,fm 13 12] (.cond (.t 13) (aM [MR 14 0,aQ 15 (.dp (.t 14)),ep 16 15 0,fm 17 16,MR 18 1,MR 19 2,jL 20 17 18 5,ep 21 20 1,gg (.store 1 (.t 21) (.t 19))] .ret) .skip)) (aM [MR 22 0,aQ 23 (.dp (.t 22)),ep 24 23 0,fm 25 24,MR 26 1,jL 27 25 26 5,ep 28 27 4,gg (.store 1 (.t 28) (.c .nil0))] (.gh .vk (.cq [MR 29 0,MR 30 1,MR 31 2,aQ 32 (.sg [(.bool false),(.str []),.nil0,.nil0] [(0,(1,(me true))),(1,(1,(.t 31)))]),aQ 33 (.lits 1 4 [(.bool false),(.str []),.nil0,.nil0] [(0,(.t 32))]),aQ 34 (.call bn [(.t 29),(.t 30),(jS 0),(.t 33)])]))))
def ag1 {en bn:Nat} (hF:aw P G en=some (35,[],(V2 bn).bare)) (b:Bn) (hn:b.n0≤b.nodes.length) (n:Nat) (hp:n<b.n0) (x:Node) (hx:b.nodes[n]?=some x) (s:Bs) (hb:b.nodes.length+1+s.length≤B)
  (hI:aau P G bn) :
  Jg P G en [.ptr (.par 0) 3 0 0,.int .i64 n,.str s] (Ut b) (b.acr 1 (5+2*n)) fun X R2=>X=(fun _=> .gf [])∧R2=Ut (b.value n s):=by
 refine VM hF (by simp) (by simp[ah,AV.an,OO,Tree.av];omega) ?_;have VB:Oi Lb.par b (Lx (Ut b)):=Xv _;have hU:∀q:Lb,(∀p,p<4+2*b.n0→q≠ .par p)→Lx (Ut b) q= .unused:=fun q hq=>Qa _ fun p hp e=>hq p (OO.1 hp) e.symm;have hg:Lx (Ut b) (.gen 77)= .unused:=hU _ (by simp);have hgN:∀l,Lx (Ut b) (NC 9 l)= .unused:=fun l=>hU _ (by simp[NC]);have hlen:n<b.nodes.length:=by omega
 have zo:B=1073741824:=rfl;have hbn:=Va (n0:=b.n0) (lab:=Lb.par) (x:=x) hp;have jY:=VB.get hx;rw[hbn] at jY;unfold V2;simp only[↓aX,mX,seval,VB.s,VB.n,hlen,cz,cj,a7,e8,dK,bM,jY];refine AU (fun h=> ?_) (fun h=> ?_)
 ·simp only[↓aX,mX,seval,VB.s,VB.n,hlen,cz,cj,a7,e8,dK,bM,jY];rw[B_];refine⟨[],rfl,⟨fun _=> .gf [],Ut (b.set n {x with s:=s}),Lb.par⟩,⟨rfl,by unfold Bn.value;rw[hx];simp only[h,eT]⟩,fun ρ=>by simp[bJ,bu],by simp[gD,AV.an,ah],rfl,?_,fun _ _=>rfl⟩;refine Oi.ahO VB hx ?_ (fun q hq=>by rw[aq _ _ hq]);rw[ae,bf rfl,Va hp]
 simp only[↓aX,mX,seval,VB.s,VB.n,hlen,cz,cj,a7,e8,dK,bM,jY,Ox];refine⟨_,_,Pp (q:= .par 1) (N:= .gen 77) (i:=n) (j:=4) (sz:=1) (by rw[ae,bf rfl]) (fk (by rw[cz];exact hlen)) rfl (by rw[aq _ _ (by simp)];exact hg) (by decide),?_⟩;simp only[↓aX,mX,seval];have vf:((b.nodes.mapIdx (NI b.n0 Lb.par)).set n [.bool x.text,.str x.s,.sl (.par (4+2*n)) 2 0 x.attrs.length,.int .i64 x.parent,.nil0]).set n [.bool x.text,.str x.s,.sl (.par (4+2*n)) 2 0 x.attrs.length,.int .i64 x.parent,.sl (.gen 77) 1 0 0] =
   (b.nodes.mapIdx (NI b.n0 Lb.par)).set n [.bool x.text,.str x.s,.sl (.par (4+2*n)) 2 0 x.attrs.length,.int .i64 x.parent,.sl (.gen 77) 1 0 0]:=List.set_set ..
 have hB:∀H2:Hp,H2 (.par 1)= .live ⟨5,(b.nodes.mapIdx (NI b.n0 Lb.par)).set n [.bool x.text,.str x.s,.sl (.par (4+2*n)) 2 0 x.attrs.length,.int .i64 x.parent,.sl (.gen 77) 1 0 0]⟩→H2 (.gen 77)= .live ⟨1,[]⟩ →
   (∀q,q≠ .par 1→q≠ .gen 77→q≠ .par (5+2*n)→H2 q=Lx (Ut b) q)→Oi (fun p=>if p=5+2*n then .gen 77 else Lb.par p) (b.set n {x with kids:=[]}) H2:=fun H2 e1 e2 e3=>
  Oi.afQ VB hp hx (.inr (by simp)) e1 (by rw[e2];rfl) e3
 refine WV (lab:=fun p=>if p=5+2*n then .gen 77 else Lb.par p) (N:=NC 9) (hI (b.set n {x with kids:=[]}) (by simp[Bn.set];exact hn) n 0 hp {x with kids:=[]} (by simp[Bn.set,hlen]) (by simp) [UR s] (by simp[Bn.set,dE,acs];omega) (by simp;omega)) ?_ ?_ ?_ (Yo 9) (fun l h=> .inl h) (fun p' BT=>OO.2 (ajq.1 BT).1) ?_
 ·have:¬0=5+2*n:=by omega
  simp[bu,bJ,S1,UR,dq,Tree.iv,cD,this]
 ·refine hB _ ?_ ?_ ?_
  ·simp[ae]
  ·simp[ae]
  intro q g1 g2 g3;simp[ae,g1,g2]
 ·intro l;simp[ae,NC];exact hgN l
 rintro X R2 U9 H2 ⟨rfl,rfl⟩ g1 g2 g3 g4 g5 g6;simp only[↓aX,mX,seval];rw[lM];refine⟨[],rfl,⟨fun _=> .gf [],_,U9⟩,⟨rfl,?_⟩,fun ρ=>by simp[bJ,bu],by simp[gD,AV.an,ah],rfl,g1,?_⟩
 ·have Vi:¬(x.text=true):=by rw[h];decide
  unfold Bn.value;rw[hx];show _=Ut (if x.text=true then _ else _);rw[a_ Vi];rfl
 intro p' BT;have h1:=ajq.1 BT;exact(g2 p' (ajq.2 h1)).trans (a_ h1.2.2)
end
end Go.Am

set_option maxRecDepth 20000
namespace Go.Am
open Go Go.RowKit
def uR.congr (R:uR) {lab Qi:Nat→Lb} (h:∀p,R.ok p→lab p=Qi p) (p:Nat):R.row lab p=R.row Qi p:=by
 have e1:R.row lab p=(R.row Lb.par p).map (dO (S1 lab)):=R.nat Lb.par (S1 lab) p;have e2:R.row Qi p=(R.row Lb.par p).map (dO (S1 Qi)):=R.nat Lb.par (S1 Qi) p;rw[e1,e2];cases hr:R.row Lb.par p with
 |none=>rfl
 |some r=>
 simp only[bT,dO,di,Row.mk.injEq,dK];refine dh fun cs bV=>NZ cs fun q hq=> ?_;obtain⟨p',BT,rfl⟩:=R.an Lb.par p r hr cs bV q hq;exact h p' BT
def Ed.congr {R:uR} {lab Qi:Nat→Lb} {H:Hp} (hs:Ed lab R H) (h:∀p,R.ok p→lab p=Qi p):Ed Qi R H:=by
 refine⟨fun p r hr=> ?_,fun p q hp hq e=>hs.inj p q hp hq (by rw[h p hp,h q hq,e])⟩;have hp:R.ok p:=(R.Ec Qi p).1 (by rw[hr];rfl);rw[←h p hp];exact hs.row p r (by rw[R.congr h];exact hr)
def Bn.del (b:Bn) (p k:Nat):Bn:=match b.nodes[p]? with
 |some x=>b.set p {x with kids:=x.kids.take k++x.kids.drop (k+1)}
 |none=>b
def Bn.name (b:Bn) (n:Nat) (s:Bs):Bn:=match b.nodes[n]? with
 |some x=>b.set n {x with s:=s}
 |none=>b
def X' (P:Program) (G:Nat→Option (List IV)) (f:Nat):Prop:=∀(b:Bn) (n p:Nat) (x y:Node),b.nodes[n]?=some x→x.parent=p→b.nodes[p]?=some y→p<b.n0→y.kids.length≤B →
 Jg P G f [.ptr (.par 0) 3 0 0,.int .i64 n] (Ut b) b.all fun X R2=>X=(fun _=> .gf [.int .i64 p,.int .i64 (Xw y.kids n)])∧R2=Ut b
def aa7 (P:Program) (G:Nat→Option (List IV)) (f:Nat):Prop:=∀(b:Bn),b.n0≤b.nodes.length→∀(n:Nat),n<b.n0→∀(x:Node),b.nodes[n]?=some x→∀(s:Bs),b.nodes.length+1+s.length≤B →
 Jg P G f [.ptr (.par 0) 3 0 0,.int .i64 n,.str s] (Ut b) (b.acr 1 (5+2*n)) fun X R2=>X=(fun _=> .gf [])∧R2=Ut (b.value n s)
def abD (P:Program) (G:Nat→Option (List IV)) (f:Nat):Prop:=∀(b:Bn) (n:Nat),n<b.n0→∀(x:Node),b.nodes[n]?=some x→∀(o:Op),o.target=n→(o.kind=9∨o.kind=10)→x.attrs.length+1≤B→l_ x.attrs=true →
 Jg P G f [.ptr (.par 0) 3 0 0,o.av] (Ut b) (b.but (4+2*n)) fun X R2=>X=(fun _=> .gf [])∧R2=Ut (b.attr n o)
def ZJ (xs:List Int) (i:Nat):(aB (xs.map xX))[i]?=(xs[i]?).map fun n=>[.int .i64 n]:=by
 simp[aB,xX,IV.cells,IV.dQ];cases xs[i]?<;>rfl
def abE (xs:List Int) (i:Nat) (n:Int):(aB (xs.map xX)).set i [.int .i64 n]=aB ((xs.set i n).map xX):=by
 simp[aB,xX,rH,IV.cells,IV.dQ]
def X_ (b:Bn) (p pl:Nat) (l:List Tree):(b.ins p pl l).fs=b.fs:=by unfold Bn.ins;split<;>rfl
def Ya (b:Bn) (p pl:Nat) (l:List Tree):(b.ins p pl l).as=b.as:=by unfold Bn.ins;split<;>rfl
def ag2 (b:Bn) (p pl:Nat) (l:List Tree):(b.ins p pl l).n0=b.n0:=by unfold Bn.ins;split<;>rfl
def XJ (b:Bn) (p k:Nat):(b.del p k).n0=b.n0:=by unfold Bn.del;split<;>rfl
section
variable {S:St} {b:Bn} {lab:Nat→Lb} {H:Hp} {k:AV→Hp→Prop} {u:Tw k}
def XA {f:Nat} {L0:Lb} (hI:aau S.P S.G f) (hB:Oi lab b H) (h0:lab 0=L0) (hn:b.n0≤b.nodes.length) {p pl:Nat} (hp:p<b.n0) {x:Node} (hx:b.nodes[p]?=some x) (BS:pl≤x.kids.length)
  {l:List Tree} (hb:b.nodes.length+dE l≤B) (UX:x.kids.length+l.length≤B) (c:Nat) (hN:∀l,H (NC c l)= .unused)
  (hk:∀U9 H2,Oi U9 (b.ins p pl l) H2→(∀p',p'<4+2*b.n0→p'≠1→p'≠5+2*p→U9 p'=lab p') →
   (∀q,(∀p',p'<4+2*b.n0→q≠lab p')→(∀l,q≠NC c l)→H2 q=H q)→(∀p',p'<4+2*b.n0→(∃p0,p0<4+2*b.n0∧U9 p'=lab p0)∨∃l,U9 p'=NC c l)→k (.gf []) H2) :
  C7 S f [.ptr L0 3 0 0,.int .i64 p,.int .i64 pl,.list (dq l)] H k u:=by
 subst h0;refine WV (lab:=lab) (N:=NC c) (hI b hn p pl hp x hx BS l hb UX) (by simp[bu,bJ,S1]) hB hN (Yo c) (fun l h=> .inl h) (fun p' BT=>OO.2 (ajq.1 BT).1) ?_;rintro X R2 U9 H2 ⟨rfl,rfl⟩ g1 g2 g3 g4 g5 g6;refine hk U9 H2 g1 (fun p' h1 h2 h3=>g2 p' (ajq.2 ⟨h1,h2,h3⟩)) (fun q h1 h2=>g4 q (fun p' BT=>h1 p' (OO.1 BT)) h2) fun p' BT=> ?_;rcases g3 p' (OO.2 (by rw[ag2];exact BT)) with⟨p0,h1,h2⟩|h
 ·exact .inl ⟨p0,OO.1 h1,h2⟩
 exact .inr h
def Xt {f:Nat} (hI:X' S.P S.G f) (hB:Oi lab b H) {n p:Nat} {x y:Node} (hx:b.nodes[n]?=some x) (hpp:x.parent=p) (hy:b.nodes[p]?=some y) (hp:p<b.n0) (FP:y.kids.length≤B) (c:Nat) (hN:∀l,H (NC c l)= .unused)
  (hk:∀H2,Oi lab b H2→(∀q,(∀p',p'<4+2*b.n0→q≠lab p')→(∀l,q≠NC c l)→H2 q=H q)→k (.gf [.int .i64 p,.int .i64 (Xw y.kids n)]) H2) :
  C7 S f [.ptr (lab 0) 3 0 0,.int .i64 n] H k u:=by
 refine WV (lab:=lab) (N:=NC c) (hI b n p x y hx hpp hy hp FP) (by simp[bu,bJ,S1]) hB hN (Yo c) (fun l h=> .inl h) (fun p' BT=>OO.2 (l9.1 BT)) ?_;rintro X R2 U9 H2 ⟨rfl,rfl⟩ g1 g2 g3 g4 g5 g6;exact hk H2 (g1.congr fun p' BT=>g2 p' (l9.2 (OO.1 BT))) fun q h1 h2=>g4 q (fun p' BT=>h1 p' (OO.1 BT)) h2
end
def XK {b:Bn} {n:Nat} {x:Node} (hx:b.nodes[n]?=some x):Oi Lb.par b (Lx (Ut b))∧(∀q:Lb,(∀p,p<4+2*b.n0→q≠ .par p)→Lx (Ut b) q= .unused)∧Lx (Ut b) (.loc 3)= .unused∧(∀c l,Lx (Ut b) (NC c l)= .unused)∧n<b.nodes.length ∧
  ∀cs,Oi Lb.par b (bD (Lx (Ut b)) (.loc 3) cs):=by
 have VB:Oi Lb.par b (Lx (Ut b)):=Xv _;have hU:∀q:Lb,(∀p,p<4+2*b.n0→q≠ .par p)→Lx (Ut b) q= .unused:=fun q hq=>Qa _ fun p hp e=>hq p (OO.1 hp) e.symm;exact⟨VB,hU,hU _ (by simp),fun c l=>hU _ (by simp[NC]),(aI.1 hx).1,fun cs=>VB.Yr (by simp)⟩
section
variable {P:Program} {G:Nat→Option (List IV)}
def gk (bn b9 b6 en eF:Nat):AC:=
(aM [sC 3 1] (aM [ep 13 3 1,fm 14 13,MR 4 14] (aM [ep 15 3 0,fm 16 15] (.block 0 (aM [eY 18 .eql 16 1,MR 17 18] (.cond (.t 17) (.seq (.VL [MR 19 0,MR 20 4,MR 21 0,aQ 22 (.dp (.t 21)),ep 23 22 1,fm 24 23,MR 25 4,jL 26 24 25 1,fm 27 26,ep 28 3 2,fm 29 28,aQ 30 (.call bn [(.t 19),(.t 20),(.t 27),(.t 29)])] [[],[],[],[2],[3],[4],[],[5,6],[7],[],[9],[0,1,8,10]] [.no,.no,.no,.no,.no,(.rw [(.par 0)] []),.no,.no,(.rw [(.par 2)] []),.no,.rw [.loc 3] [],.all]) (.VL [MR 31 0,aQ 32 (.dp (.t 31)),ep 33 32 1,fm 34 33,MR 35 4,jL 36 34 35 1,fm 37 36,ep 38 3 2,fm 39 38,oy 40 39,et 41 .add 37 40,jL 42 34 35 1,gg (.store 1 (.t 42) (.t 41))] [[],[0],[1],[2],[],[3,4],[5],[],[7],[8],[6,9],[3,4,0,1,2,3,4,5,6,7,8,9,10],[11,10,0,1,2,3,4,5,6,7,8,9,10]] [.no,.no,.no,(.rw [(.par 0)] []),.no,.no,(.rw [(.par 2)] []),.no,.rw [.loc 3] [],.no,.no,.no,(.rw [] [(.par 2)])])) (aM [eY 44 .eql 16 2,MR 43 44] (.cond (.t 43) (.VL [MR 45 0,MR 46 4,MR 47 0,aQ 48 (.dp (.t 47)),ep 49 48 0,fm 50 49,MR 51 4,jL 52 50 51 5,ep 53 52 4,fm 54 53,oy 55 54,ep 56 3 2,fm 57 56,aQ 58 (.call bn [(.t 45),(.t 46),(.t 55),(.t 57)])] [[],[],[],[2],[3],[4],[],[5,6],[7],[8],[9],[],[11],[0,1,10,12]] [.no,.no,.no,.no,.no,(.rw [(.par 0)] []),.no,.no,.no,(.rw [(.par 1)] []),.no,.no,.rw [.loc 3] [],.all]) (aM [eY 60 .eql 16 3,MR 59 60] (.cond (.t 59) (aM [MR 62 0,MR 63 4,aQ 64 (.call b9 [(.t 62),(.t 63)]),MR 61 64,ox 65 61 0,ox 66 61 1,MR 5 65,MR 6 66] (.cq [MR 67 0,MR 68 5,MR 69 6,ep 70 3 2,fm 71 70,aQ 72 (.call bn [(.t 67),(.t 68),(.t 69),(.t 71)])])) (aM [eY 74 .eql 16 4,MR 73 74] (.cond (.t 73) (aM [MR 76 0,MR 77 4,aQ 78 (.call b9 [(.t 76),(.t 77)]),MR 75 78,ox 79 75 0,ox 80 75 1,MR 7 79,MR 8 80] (.seq (.VL [MR 81 0,MR 82 7,MR 83 8,eY 84 .add 83 1,MR 85 0,aQ 86 (.dp (.t 85)),ep 87 86 2,fm 88 87,MR 89 4,jL 90 88 89 1,fm 91 90,et 92 .add 84 91,ep 93 3 2,fm 94 93,aQ 95 (.call bn [(.t 81),(.t 82),(.t 92),(.t 94)])] [[],[],[],[2],[],[4],[5],[6],[],[7,8],[9],[3,10],[],[12],[0,1,11,13]] [.no,.no,.no,.no,.no,.no,.no,(.rw [(.par 0)] []),.no,.no,(.rw [(.par 3)] []),.no,.no,.rw [.loc 3] [],.all]) (.VL [MR 96 0,aQ 97 (.dp (.t 96)),ep 98 97 2,fm 99 98,MR 100 4,jL 101 99 100 1,fm 102 101,ep 103 3 2,fm 104 103,oy 105 104,et 106 .add 102 105,jL 107 99 100 1,gg (.store 1 (.t 107) (.t 106))] [[],[0],[1],[2],[],[3,4],[5],[],[7],[8],[6,9],[3,4,0,1,2,3,4,5,6,7,8,9,10],[11,10,0,1,2,3,4,5,6,7,8,9,10]] [.no,.no,.no,(.rw [(.par 0)] []),.no,.no,(.rw [(.par 3)] []),.no,.rw [.loc 3] [],.no,.no,.no,(.rw [] [(.par 3)])]))) (aM [eY 109 .eql 16 5,MR 108 109] (.cond (.t 108) (aM [MR 111 0,MR 112 4,aQ 113 (.call b9 [(.t 111),(.t 112)]),MR 110 113,ox 114 110 0,ox 115 110 1,MR 9 114,MR 10 115] (aM [MR 116 10,eY 117 .geq 116 0] (.cond (.t 117) (.VL [MR 118 0,aQ 119 (.dp (.t 118)),ep 120 119 0,fm 121 120,MR 122 9,MR 123 0,aQ 124 (.dp (.t 123)),ep 125 124 0,fm 126 125,MR 127 9,jL 128 126 127 5,ep 129 128 4,fm 130 129,MR 131 10,MR 132 10,eY 133 .add 132 1,aQ 134 (.call b6 [(.t 130),(.t 131),(.t 133)]),jL 135 121 122 5,ep 136 135 4,gg (.store 1 (.t 136) (.t 134))] [[],[0],[1],[2],[],[],[5],[6],[7],[],[8,9],[10],[11],[],[],[14],[12,13,15],[3,4,0,1,2,3,4,5,6,7,8,9,10,11,12,13,14,15,16],[17,0,1,2,3,4,5,6,7,8,9,10,11,12,13,14,15,16],[18,16,16,0,1,2,3,4,5,6,7,8,9,10,11,12,13,14,15,16]] [.no,.no,.no,(.rw [(.par 0)] []),.no,.no,.no,.no,(.rw [(.par 0)] []),.no,.no,.no,(.rw [(.par 1)] []),.no,.no,.no,(.p_ [(.par 0)]),.no,.no,(.rw [] [(.par 1)])]) .skip))) (aM [eY 138 .eql 16 6,MR 137 138] (.cond (.t 137) (aM [MR 140 0,MR 141 4,aQ 142 (.call b9 [(.t 140),(.t 141)]),MR 139 142,ox 143 139 0,ox 144 139 1,MR 11 143,MR 12 144] (.seq (.VL [MR 145 0,aQ 146 (.dp (.t 145)),ep 147 146 0,fm 148 147,MR 149 11,MR 150 0,aQ 151 (.dp (.t 150)),ep 152 151 0,fm 153 152,MR 154 11,jL 155 153 154 5,ep 156 155 4,fm 157 156,MR 158 12,MR 159 12,eY 160 .add 159 1,aQ 161 (.call b6 [(.t 157),(.t 158),(.t 160)]),jL 162 148 149 5,ep 163 162 4,gg (.store 1 (.t 163) (.t 161))] [[],[0],[1],[2],[],[],[5],[6],[7],[],[8,9],[10],[11],[],[],[14],[12,13,15],[3,4,0,1,2,3,4,5,6,7,8,9,10,11,12,13,14,15,16],[17,0,1,2,3,4,5,6,7,8,9,10,11,12,13,14,15,16],[18,16,16,0,1,2,3,4,5,6,7,8,9,10,11,12,13,14,15,16]] [.no,.no,.no,(.rw [(.par 0)] []),.no,.no,.no,.no,(.rw [(.par 0)] []),.no,.no,.no,(.rw [(.par 1)] []),.no,.no,.no,(.p_ [(.par 0)]),.no,.no,(.rw [] [(.par 1)])]) (.cq [MR 164 0,MR 165 11,MR 166 12,ep 167 3 2,fm 168 167,aQ 169 (.call bn [(.t 164),(.t 165),(.t 166),(.t 168)])]))) (aM [eY 171 .eql 16 7,MR 170 171] (.cond (.t 170) (.cq [MR 172 0,MR 173 4,ep 174 3 4,fm 175 174,aQ 176 (.call en [(.t 172),(.t 173),(.t 175)])]) (aM [eY 178 .eql 16 8,MR 177 178] (.cond (.t 177) (.VL [MR 179 0,aQ 180 (.dp (.t 179)),ep 181 180 0,fm 182 181,MR 183 4,ep 184 3 3,fm 185 184,jL 186 182 183 5,ep 187 186 1,gg (.store 1 (.t 187) (.t 185))] [[],[0],[1],[2],[],[],[5],[3,4,0,1,2,3,4,5,6],[7,0,1,2,3,4,5,6],[8,6,0,1,2,3,4,5,6]] [.no,.no,.no,(.rw [(.par 0)] []),.no,.no,.rw [.loc 3] [],.no,.no,(.rw [] [(.par 1)])]) (.seq (aM [eY 189 .eql 16 9,MR 188 189] (.cond (.t 188) .skip (.cq [eY 190 .eql 16 10,MR 188 190]))) (.cond (.t 188) (.cq [MR 191 0,gz 192 5 3,aQ 193 (.call eF [(.t 191),(.t 192)])]) .skip))))))))))))))))))))))
def aiE {cI bn b9 b6 en eF:Nat} (hF:aw P G cI=some (194,[],(gk bn b9 b6 en eF).bare)) (b:Bn) (hn:b.n0≤b.nodes.length) (n:Nat) (hp:n<b.n0) (x:Node) (hx:b.nodes[n]?=some x)
  (co:List Tree) (na st:Bs) (f:Nat) (hf:b.fs[n]?=some (f:Int)) (hfk:f≤x.kids.length) (hb:b.nodes.length+dE co≤B) (UX:x.kids.length+co.length≤B) (hI:aau P G bn) :
  Jg P G cI [.ptr (.par 0) 3 0 0,(⟨1,n,co,na,st⟩:Op).av] (Ut b) [0,2,3] fun X R2=>X=(fun _=> .gf [])∧R2=Ut ({b.ins n f co with fs:=b.fs.set n ((f+co.length:Nat):Int)}):=by
 refine VM hF (by simp) (by simp[ah,AV.an,OO,Op.av];omega) ?_;obtain⟨VB,hU,h3,hN,hlen,hA3⟩:=XK (b:=b) hx;have zo:B=1073741824:=rfl;have jY:=VB.get hx;rw[Va (n0:=b.n0) (lab:=Lb.par) (x:=x) hp] at jY;unfold gk;simp only[↓aX,mX,seval,Op.av,h3,Int.reduceBEq];have FO:n<b.fs.length:=(aI.1 hf).1;simp only[↓aX,mX,seval,Op.av,h3,VB.s,VB.n,VB.f,VB.a,hlen,cz,cj,a7,e8,dK,bM,jY,bF,ax,ZJ,hf,FO,bT];refine⟨rfl,?_⟩;refine XA hI (hA3 _) rfl hn hp hx hfk hb UX 9 (fun l=>by rw[aq _ _ (by simp[NC])];exact hN 9 l) ?_;intro U9 H2 g1 g2 g4 g5;have Em:=g4 (.loc 3) (by simp) (by simp[NC]);rw[ae,bf rfl] at Em;have e0:U9 0= .par 0:=g2 0 (by omega) (by omega) (by omega);have e2:U9 2= .par 2:=g2 2 (by omega) (by omega) (by omega);have e3:U9 3= .par 3:=g2 3 (by omega) (by omega) (by omega);have LV:=g1.s;have FW:=g1.f;rw[e0,e2,e3] at LV;rw[e2] at FW;rw[X_,Ya] at LV;rw[X_] at FW;have hw:IntKind.i64.wrap ((f:Int)+(co.length:Int))=((f+co.length:Nat):Int):=wrap64 (by omega) (by omega);simp only[↓aX,mX,seval,Em,LV,FW,cj,a7,e8,dK,bM,ax,ZJ,hf,FO,bT,bF,hw];refine⟨rfl,?_⟩;rw[lM];refine⟨[],rfl,⟨fun _=> .gf [],_,U9⟩,⟨rfl,rfl⟩,fun ρ=>by simp[bJ,bu],by simp[gD,AV.an,ah],rfl,?_,?_⟩
 ·have:=g1.aix (fs:=b.fs.set n ((f+co.length:Nat):Int)) (H2:=bD H2 (.par 2) (.live ⟨1,(aB (b.fs.map xX)).set n [.int .i64 ((f+co.length:Nat):Int)]⟩)) (by rw[rR,X_]) (by rw[e2,ae,bf rfl,abE]) (fun q hq=>by rw[e2] at hq;rw[aq _ _ hq]);exact this
 rintro p' (rfl|rfl|rfl)
 ·exact e0
 ·exact e2
 exact e3
def aiF {cI bn b9 b6 en eF:Nat} (hF:aw P G cI=some (194,[],(gk bn b9 b6 en eF).bare)) (b:Bn) (hn:b.n0≤b.nodes.length) (n:Nat) (hp:n<b.n0) (x:Node) (hx:b.nodes[n]?=some x)
  (co:List Tree) (na st:Bs) (hb:b.nodes.length+dE co≤B) (UX:x.kids.length+co.length≤B) (hI:aau P G bn) :
  Jg P G cI [.ptr (.par 0) 3 0 0,(⟨2,n,co,na,st⟩:Op).av] (Ut b) [0,2,3] fun X R2=>X=(fun _=> .gf [])∧R2=Ut (b.ins n x.kids.length co):=by
 refine VM hF (by simp) (by simp[ah,AV.an,OO,Op.av];omega) ?_;obtain⟨VB,hU,h3,hN,hlen,hA3⟩:=XK (b:=b) hx;have zo:B=1073741824:=rfl;have jY:=VB.get hx;rw[Va (n0:=b.n0) (lab:=Lb.par) (x:=x) hp] at jY;unfold gk;simp only[↓aX,mX,seval,Op.av,h3,Int.reduceBEq]
 try simp only[↓aX,mX,seval,Op.av,h3,VB.s,VB.n,VB.f,VB.a,hlen,cz,cj,a7,e8,dK,bM,jY,bF]
 refine⟨rfl,?_⟩;refine XA hI (hA3 _) rfl hn hp hx (bm _) hb UX 9 (fun l=>by rw[aq _ _ (by simp[NC])];exact hN 9 l) ?_;intro U9 H2 g1 g2 g4 g5;simp only[↓aX,mX,seval];rw[lM];refine⟨[],rfl,⟨fun _=> .gf [],_,U9⟩,⟨rfl,rfl⟩,fun ρ=>by simp[bJ,bu],by simp[gD,AV.an,ah],rfl,g1,?_⟩;rintro p' (rfl|rfl|rfl)
 ·exact g2 0 (by omega) (by omega) (by omega)
 ·exact g2 2 (by omega) (by omega) (by omega)
 exact g2 3 (by omega) (by omega) (by omega)
def aiG {cI bn b9 b6 en eF:Nat} (hF:aw P G cI=some (194,[],(gk bn b9 b6 en eF).bare)) (b:Bn) (hn:b.n0≤b.nodes.length) (n:Nat) (hp:n<b.n0) (x:Node) (hx:b.nodes[n]?=some x)
  (co:List Tree) (na st:Bs) (p:Nat) (hpp:x.parent=p) (Yl:p<b.n0) (y:Node) (hy:b.nodes[p]?=some y) (hyB:y.kids.length≤B) (hPl:X' P G b9) (k:Nat) (hk:Xw y.kids n=(k:Int)) (Hm:k≤y.kids.length) (hb:b.nodes.length+dE co≤B) (FP:y.kids.length+co.length≤B) (hI:aau P G bn) :
  Jg P G cI [.ptr (.par 0) 3 0 0,(⟨3,n,co,na,st⟩:Op).av] (Ut b) [0,2,3] fun X R2=>X=(fun _=> .gf [])∧R2=Ut (b.ins p k co):=by
 refine VM hF (by simp) (by simp[ah,AV.an,OO,Op.av];omega) ?_;obtain⟨VB,hU,h3,hN,hlen,hA3⟩:=XK (b:=b) hx;have zo:B=1073741824:=rfl;have jY:=VB.get hx;rw[Va (n0:=b.n0) (lab:=Lb.par) (x:=x) hp] at jY;unfold gk;simp only[↓aX,mX,seval,Op.av,h3,Int.reduceBEq]
 try simp only[↓aX,mX,seval,Op.av,h3,VB.s,VB.n,VB.f,VB.a,hlen,cz,cj,a7,e8,dK,bM,jY,bF]
 refine Xt (lab:=Lb.par) hPl (hA3 _) hx hpp hy Yl hyB 9 (fun l=>by rw[aq _ _ (by simp[NC])];exact hN 9 l) ?_;intro H2 MQ LV;have Em:=LV (.loc 3) (by simp) (by simp[NC]);rw[ae,bf rfl] at Em;have hN2:∀c l,c≠9→H2 (NC c l)= .unused:=fun c l hc=>by
  rw[LV _ (by simp[NC]) (by intro l' e;simp[NC] at e;exact hc e.2),aq _ _ (by simp[NC])];exact hN c l
 have hg2:∀q,H2 (.gen q)= .unused:=fun q=>by
  rw[LV _ (by simp) (by simp[NC]),aq _ _ (by simp)];exact hU _ (by simp)
 rw[hk];simp only[↓aX,mX,seval,Em];refine XA hI MQ rfl hn Yl hy Hm hb FP 10 (fun l=>hN2 10 l (by decide)) ?_;intro U9 H3 g1 g2 g4 g5;simp only[↓aX,mX,seval];rw[lM];refine⟨[],rfl,⟨fun _=> .gf [],_,U9⟩,⟨rfl,rfl⟩,fun ρ=>by simp[bJ,bu],by simp[gD,AV.an,ah],rfl,g1,?_⟩;rintro p' (rfl|rfl|rfl)
 ·exact g2 0 (by omega) (by omega) (by omega)
 ·exact g2 2 (by omega) (by omega) (by omega)
 exact g2 3 (by omega) (by omega) (by omega)
def aiH {cI bn b9 b6 en eF:Nat} (hF:aw P G cI=some (194,[],(gk bn b9 b6 en eF).bare)) (b:Bn) (hn:b.n0≤b.nodes.length) (n:Nat) (hp:n<b.n0) (x:Node) (hx:b.nodes[n]?=some x)
  (co:List Tree) (na st:Bs) (p:Nat) (hpp:x.parent=p) (Yl:p<b.n0) (y:Node) (hy:b.nodes[p]?=some y) (hyB:y.kids.length≤B) (hPl:X' P G b9) (k:Nat) (hk:Xw y.kids n=(k:Int)) (f:Nat) (hf:b.as[n]?=some (f:Int)) (Hm:k+1+f≤y.kids.length) (hb:b.nodes.length+dE co≤B) (FP:y.kids.length+co.length≤B) (hI:aau P G bn) :
  Jg P G cI [.ptr (.par 0) 3 0 0,(⟨4,n,co,na,st⟩:Op).av] (Ut b) [0,2,3] fun X R2=>X=(fun _=> .gf [])∧R2=Ut ({b.ins p (k+1+f) co with as:=b.as.set n ((f+co.length:Nat):Int)}):=by
 refine VM hF (by simp) (by simp[ah,AV.an,OO,Op.av];omega) ?_;obtain⟨VB,hU,h3,hN,hlen,hA3⟩:=XK (b:=b) hx;have zo:B=1073741824:=rfl;have jY:=VB.get hx;rw[Va (n0:=b.n0) (lab:=Lb.par) (x:=x) hp] at jY;unfold gk;simp only[↓aX,mX,seval,Op.av,h3,Int.reduceBEq]
 try simp only[↓aX,mX,seval,Op.av,h3,VB.s,VB.n,VB.f,VB.a,hlen,cz,cj,a7,e8,dK,bM,jY,bF]
 refine Xt (lab:=Lb.par) hPl (hA3 _) hx hpp hy Yl hyB 9 (fun l=>by rw[aq _ _ (by simp[NC])];exact hN 9 l) ?_;intro H2 MQ LV;have Em:=LV (.loc 3) (by simp) (by simp[NC]);rw[ae,bf rfl] at Em;have hN2:∀c l,c≠9→H2 (NC c l)= .unused:=fun c l hc=>by
  rw[LV _ (by simp[NC]) (by intro l' e;simp[NC] at e;exact hc e.2),aq _ _ (by simp[NC])];exact hN c l
 have hg2:∀q,H2 (.gen q)= .unused:=fun q=>by
  rw[LV _ (by simp) (by simp[NC]),aq _ _ (by simp)];exact hU _ (by simp)
 rw[hk];have FO:n<b.as.length:=(aI.1 hf).1;have pU:IntKind.i64.wrap ((k:Int)+1)=((k+1:Nat):Int):=wrap64 (by omega) (by omega);have wB:IntKind.i64.wrap (((k+1:Nat):Int)+(f:Int))=((k+1+f:Nat):Int):=wrap64 (by omega) (by omega);simp only[↓aX,mX,seval,Em,MQ.s,MQ.a,cj,a7,e8,dK,bM,ax,ZJ,hf,FO,bT,bF,pU,wB];refine⟨rfl,?_⟩;refine XA hI MQ rfl hn Yl hy Hm hb FP 10 (fun l=>hN2 10 l (by decide)) ?_;intro U9 H3 g1 g2 g4 g5;have h33:=g4 (.loc 3) (by simp) (by simp[NC]);rw[Em] at h33;have e0:U9 0= .par 0:=g2 0 (by omega) (by omega) (by omega);have e2:U9 2= .par 2:=g2 2 (by omega) (by omega) (by omega);have e3:U9 3= .par 3:=g2 3 (by omega) (by omega) (by omega);have LV:=g1.s;have FW:=g1.a;rw[e0,e2,e3] at LV;rw[e3] at FW;rw[X_,Ya] at LV;rw[Ya] at FW;have hw:IntKind.i64.wrap ((f:Int)+(co.length:Int))=((f+co.length:Nat):Int):=wrap64 (by omega) (by omega);simp only[↓aX,mX,seval,h33,LV,FW,cj,a7,e8,dK,bM,ax,ZJ,hf,FO,bT,bF,hw];refine⟨rfl,?_⟩;have:=g1.ahP (as:=b.as.set n ((f+co.length:Nat):Int)) (H2:=bD H3 (.par 3) (.live ⟨1,(aB (b.as.map xX)).set n [.int .i64 ((f+co.length:Nat):Int)]⟩)) (by rw[rR,Ya]) (by rw[e3,ae,bf rfl,abE]) (fun q hq=>by rw[e3] at hq;rw[aq _ _ hq]);rw[lM];refine⟨[],rfl,⟨fun _=> .gf [],_,U9⟩,⟨rfl,rfl⟩,fun ρ=>by simp[bJ,bu],by simp[gD,AV.an,ah],rfl,this,?_⟩;rintro p' (rfl|rfl|rfl)
 ·exact e0
 ·exact e2
 exact e3
def aiI {cI bn b9 b6 en eF:Nat} (hF:aw P G cI=some (194,[],(gk bn b9 b6 en eF).bare)) (b:Bn) (hn:b.n0≤b.nodes.length) (n:Nat) (hp:n<b.n0) (x:Node) (hx:b.nodes[n]?=some x)
  (co:List Tree) (na st:Bs) (p:Nat) (hpp:x.parent=p) (Yl:p<b.n0) (y:Node) (hy:b.nodes[p]?=some y) (hyB:y.kids.length≤B) (hPl:X' P G b9) (k:Nat) (hk:Xw y.kids n=(k:Int)) (Hm:k<y.kids.length) (hD:aeK P G b6) :
  Jg P G cI [.ptr (.par 0) 3 0 0,(⟨5,n,co,na,st⟩:Op).av] (Ut b) [0,2,3] fun X R2=>X=(fun _=> .gf [])∧R2=Ut (b.del p k):=by
 refine VM hF (by simp) (by simp[ah,AV.an,OO,Op.av];omega) ?_;obtain⟨VB,hU,h3,hN,hlen,hA3⟩:=XK (b:=b) hx;have zo:B=1073741824:=rfl;have jY:=VB.get hx;rw[Va (n0:=b.n0) (lab:=Lb.par) (x:=x) hp] at jY;unfold gk;simp only[↓aX,mX,seval,Op.av,h3,Int.reduceBEq]
 try simp only[↓aX,mX,seval,Op.av,h3,VB.s,VB.n,VB.f,VB.a,hlen,cz,cj,a7,e8,dK,bM,jY,bF]
 refine Xt (lab:=Lb.par) hPl (hA3 _) hx hpp hy Yl hyB 9 (fun l=>by rw[aq _ _ (by simp[NC])];exact hN 9 l) ?_;intro H2 MQ LV;have Em:=LV (.loc 3) (by simp) (by simp[NC]);rw[ae,bf rfl] at Em;have hN2:∀c l,c≠9→H2 (NC c l)= .unused:=fun c l hc=>by
  rw[LV _ (by simp[NC]) (by intro l' e;simp[NC] at e;exact hc e.2),aq _ _ (by simp[NC])];exact hN c l
 have hg2:∀q,H2 (.gen q)= .unused:=fun q=>by
  rw[LV _ (by simp) (by simp[NC]),aq _ _ (by simp)];exact hU _ (by simp)
 rw[hk];have Yd:p<b.nodes.length:=(aI.1 hy).1;have Y':=MQ.get hy;rw[Va Yl] at Y';have aeP:=MQ.kd Yl hy;have pU:IntKind.i64.wrap ((k:Int)+1)=((k+1:Nat):Int):=wrap64 (by omega) (by omega);have aeQ:b.del p k=b.set p {y with kids:=y.kids.take k++y.kids.drop (k+1)}:=by unfold Bn.del;rw[hy]
 have h15:¬(1:Nat)=5+2*p:=by omega
 have key:∀(N:Lb),(N= .par (5+2*p)∨N= .gen 134)→∀H3:Hp,H3 (.par 1)= .live ⟨5,(b.nodes.mapIdx (NI b.n0 Lb.par)).set p [.bool y.text,.str y.s,.sl (.par (4+2*p)) 2 0 y.attrs.length,.int .i64 y.parent,.sl N 1 0 (y.kids.take k++y.kids.drop (k+1)).length]⟩ →
   H3 N= .live ⟨1,aB ((y.kids.take k++y.kids.drop (k+1)).map xX)⟩→(∀q,q≠ .par 1→q≠N→q≠ .par (5+2*p)→H3 q=H2 q)→Oi (fun p'=>if p'=5+2*p then N else Lb.par p') (b.del p k) H3:=by
  intro N hN H3 e1 e2 e3;rw[aeQ];refine Oi.afQ MQ Yl hy ?_ e1 e2 e3;rcases hN with rfl|rfl
  ·exact .inl rfl
  exact .inr (by simp)
 simp only[↓aX,mX,seval,Em,MQ.s,MQ.n,Yd,cz,cj,a7,e8,dK,bM,Y',pU,ax,h15,rU,rW];refine⟨rfl,?_⟩;refine Bg (l:= .par (5+2*p)) (N:= .gen 134) (hD y.kids k Hm hyB) rfl aeP (hg2 _) (by simp[Lb.fresh]) (by simp[Lb.iQ]) (by simp[Lb.iQ]) ?_ ?_
 ·simp only[↓aX,mX,seval,Em,MQ.s,MQ.n,Yd,cz,cj,a7,e8,dK,bM,Y',pU,ax,h15];have hB3:=key (.gen 134) (.inr rfl) (bD (bD (bD H2 (.par (5+2*p)) .dead) (.gen 134) (.live ⟨1,aB ((y.kids.take k++y.kids.drop (k+1)).map xX)⟩)) (.par 1) (.live ⟨5,(b.nodes.mapIdx (NI b.n0 Lb.par)).set p [.bool y.text,.str y.s,.sl (.par (4+2*p)) 2 0 y.attrs.length,.int .i64 y.parent,.sl (.gen 134) 1 0 (y.kids.take k++y.kids.drop (k+1)).length]⟩)) (by simp[ae]) (by simp[ae]) (by intro q g1 g2 g3;simp[ae,g1,g2,g3]);rw[lM];refine⟨[],rfl,⟨fun _=> .gf [],_,fun p'=>if p'=5+2*p then Lb.gen 134 else Lb.par p'⟩,⟨rfl,rfl⟩,fun ρ=>by simp[bJ,bu],by simp[gD,AV.an,ah],rfl,hB3,?_⟩;rintro p' (rfl|rfl|rfl)
  ·exact a_ (by omega)
  ·exact a_ (by omega)
  exact a_ (by omega)
 simp only[↓aX,mX,seval,Em,MQ.s,MQ.n,Yd,cz,cj,a7,e8,dK,bM,Y',pU,ax,h15];have hB3:=key (.par (5+2*p)) (.inl rfl) (bD (bD (bD H2 (.par (5+2*p)) .dead) (.par (5+2*p)) (.live ⟨1,aB ((y.kids.take k++y.kids.drop (k+1)).map xX)⟩)) (.par 1) (.live ⟨5,(b.nodes.mapIdx (NI b.n0 Lb.par)).set p [.bool y.text,.str y.s,.sl (.par (4+2*p)) 2 0 y.attrs.length,.int .i64 y.parent,.sl (.par (5+2*p)) 1 0 (y.kids.take k++y.kids.drop (k+1)).length]⟩)) (by simp[ae]) (by simp[ae];omega) (by intro q g1 g2 g3;simp[ae,g1,g2,g3]);rw[lM];refine⟨[],rfl,⟨fun _=> .gf [],_,fun p'=>if p'=5+2*p then(.par (5+2*p)) else Lb.par p'⟩,⟨rfl,rfl⟩,fun ρ=>by simp[bJ,bu],by simp[gD,AV.an,ah],rfl,hB3,?_⟩;rintro p' (rfl|rfl|rfl)
 ·exact a_ (by omega)
 ·exact a_ (by omega)
 exact a_ (by omega)
def ahX {cI bn b9 b6 en eF:Nat} (hF:aw P G cI=some (194,[],(gk bn b9 b6 en eF).bare)) (b:Bn) (hn:b.n0≤b.nodes.length) (n:Nat) (hp:n<b.n0) (x:Node) (hx:b.nodes[n]?=some x)
  (co:List Tree) (na st:Bs) (p:Nat) (hpp:x.parent=p) (Yl:p<b.n0) (y:Node) (hy:b.nodes[p]?=some y) (hyB:y.kids.length≤B) (hPl:X' P G b9) (hk:Xw y.kids n= -1) :
  Jg P G cI [.ptr (.par 0) 3 0 0,(⟨5,n,co,na,st⟩:Op).av] (Ut b) [0,2,3] fun X R2=>X=(fun _=> .gf [])∧R2=Ut (b):=by
 refine VM hF (by simp) (by simp[ah,AV.an,OO,Op.av];omega) ?_;obtain⟨VB,hU,h3,hN,hlen,hA3⟩:=XK (b:=b) hx;have zo:B=1073741824:=rfl;have jY:=VB.get hx;rw[Va (n0:=b.n0) (lab:=Lb.par) (x:=x) hp] at jY;unfold gk;simp only[↓aX,mX,seval,Op.av,h3,Int.reduceBEq]
 try simp only[↓aX,mX,seval,Op.av,h3,VB.s,VB.n,VB.f,VB.a,hlen,cz,cj,a7,e8,dK,bM,jY,bF]
 refine Xt (lab:=Lb.par) hPl (hA3 _) hx hpp hy Yl hyB 9 (fun l=>by rw[aq _ _ (by simp[NC])];exact hN 9 l) ?_;intro H2 MQ LV;have Em:=LV (.loc 3) (by simp) (by simp[NC]);rw[ae,bf rfl] at Em;have hN2:∀c l,c≠9→H2 (NC c l)= .unused:=fun c l hc=>by
  rw[LV _ (by simp[NC]) (by intro l' e;simp[NC] at e;exact hc e.2),aq _ _ (by simp[NC])];exact hN c l
 have hg2:∀q,H2 (.gen q)= .unused:=fun q=>by
  rw[LV _ (by simp) (by simp[NC]),aq _ _ (by simp)];exact hU _ (by simp)
 rw[hk];simp only[↓aX,mX,seval,Em,rU,show decide ((0:Int)≤ -1)=false by decide,decide_false];rw[lM];refine⟨[],rfl,⟨fun _=> .gf [],_,Lb.par⟩,⟨rfl,rfl⟩,fun ρ=>by simp[bJ,bu],by simp[gD,AV.an,ah],rfl,MQ,?_⟩;rintro p' (rfl|rfl|rfl)
 ·exact rfl
 ·exact rfl
 exact rfl
def aiJ {cI bn b9 b6 en eF:Nat} (hF:aw P G cI=some (194,[],(gk bn b9 b6 en eF).bare)) (b:Bn) (hn:b.n0≤b.nodes.length) (n:Nat) (hp:n<b.n0) (x:Node) (hx:b.nodes[n]?=some x)
  (co:List Tree) (na st:Bs) (p:Nat) (hpp:x.parent=p) (Yl:p<b.n0) (y:Node) (hy:b.nodes[p]?=some y) (hyB:y.kids.length≤B) (hPl:X' P G b9) (k:Nat) (hk:Xw y.kids n=(k:Int)) (Hm:k<y.kids.length) (hD:aeK P G b6) (hb:b.nodes.length+dE co≤B) (FP:y.kids.length+co.length≤B) (hI:aau P G bn) :
  Jg P G cI [.ptr (.par 0) 3 0 0,(⟨6,n,co,na,st⟩:Op).av] (Ut b) [0,2,3] fun X R2=>X=(fun _=> .gf [])∧R2=Ut ((b.del p k).ins p k co):=by
 refine VM hF (by simp) (by simp[ah,AV.an,OO,Op.av];omega) ?_;obtain⟨VB,hU,h3,hN,hlen,hA3⟩:=XK (b:=b) hx;have zo:B=1073741824:=rfl;have jY:=VB.get hx;rw[Va (n0:=b.n0) (lab:=Lb.par) (x:=x) hp] at jY;unfold gk;simp only[↓aX,mX,seval,Op.av,h3,Int.reduceBEq]
 try simp only[↓aX,mX,seval,Op.av,h3,VB.s,VB.n,VB.f,VB.a,hlen,cz,cj,a7,e8,dK,bM,jY,bF]
 refine Xt (lab:=Lb.par) hPl (hA3 _) hx hpp hy Yl hyB 9 (fun l=>by rw[aq _ _ (by simp[NC])];exact hN 9 l) ?_;intro H2 MQ LV;have Em:=LV (.loc 3) (by simp) (by simp[NC]);rw[ae,bf rfl] at Em;have hN2:∀c l,c≠9→H2 (NC c l)= .unused:=fun c l hc=>by
  rw[LV _ (by simp[NC]) (by intro l' e;simp[NC] at e;exact hc e.2),aq _ _ (by simp[NC])];exact hN c l
 have hg2:∀q,H2 (.gen q)= .unused:=fun q=>by
  rw[LV _ (by simp) (by simp[NC]),aq _ _ (by simp)];exact hU _ (by simp)
 rw[hk];have Yd:p<b.nodes.length:=(aI.1 hy).1;have Y':=MQ.get hy;rw[Va Yl] at Y';have aeP:=MQ.kd Yl hy;have pU:IntKind.i64.wrap ((k:Int)+1)=((k+1:Nat):Int):=wrap64 (by omega) (by omega);have aeQ:b.del p k=b.set p {y with kids:=y.kids.take k++y.kids.drop (k+1)}:=by unfold Bn.del;rw[hy]
 have h15:¬(1:Nat)=5+2*p:=by omega
 have key:∀(N:Lb),(N= .par (5+2*p)∨N= .gen 161)→∀H3:Hp,H3 (.par 1)= .live ⟨5,(b.nodes.mapIdx (NI b.n0 Lb.par)).set p [.bool y.text,.str y.s,.sl (.par (4+2*p)) 2 0 y.attrs.length,.int .i64 y.parent,.sl N 1 0 (y.kids.take k++y.kids.drop (k+1)).length]⟩ →
   H3 N= .live ⟨1,aB ((y.kids.take k++y.kids.drop (k+1)).map xX)⟩→(∀q,q≠ .par 1→q≠N→q≠ .par (5+2*p)→H3 q=H2 q)→Oi (fun p'=>if p'=5+2*p then N else Lb.par p') (b.del p k) H3:=by
  intro N hN H3 e1 e2 e3;rw[aeQ];refine Oi.afQ MQ Yl hy ?_ e1 e2 e3;rcases hN with rfl|rfl
  ·exact .inl rfl
  exact .inr (by simp)
 have hdn:(b.del p k).nodes.length=b.nodes.length:=by rw[aeQ];simp[Bn.set]
 have hdy:(b.del p k).nodes[p]?=some {y with kids:=y.kids.take k++y.kids.drop (k+1)}:=by rw[aeQ];simp[Bn.set,Yd]
 simp only[↓aX,mX,seval,Em,MQ.s,MQ.n,Yd,cz,cj,a7,e8,dK,bM,Y',pU,ax,h15,rU,rW];refine⟨rfl,?_⟩;refine Bg (l:= .par (5+2*p)) (N:= .gen 161) (hD y.kids k Hm hyB) rfl aeP (hg2 _) (by simp[Lb.fresh]) (by simp[Lb.iQ]) (by simp[Lb.iQ]) ?_ ?_
 ·simp only[↓aX,mX,seval,Em,MQ.s,MQ.n,Yd,cz,cj,a7,e8,dK,bM,Y',pU,ax,h15];have hB3:=key (.gen 161) (.inr rfl) (bD (bD (bD H2 (.par (5+2*p)) .dead) (.gen 161) (.live ⟨1,aB ((y.kids.take k++y.kids.drop (k+1)).map xX)⟩)) (.par 1) (.live ⟨5,(b.nodes.mapIdx (NI b.n0 Lb.par)).set p [.bool y.text,.str y.s,.sl (.par (4+2*p)) 2 0 y.attrs.length,.int .i64 y.parent,.sl (.gen 161) 1 0 (y.kids.take k++y.kids.drop (k+1)).length]⟩)) (by simp[ae]) (by simp[ae]) (by intro q g1 g2 g3;simp[ae,g1,g2,g3]);refine XA hI hB3 (a_ (by omega)) (by rw[hdn,XJ];exact hn) (by rw[XJ];exact Yl) hdy (by simp;omega) (by rw[hdn];exact hb) (by simp;omega) 10 (fun l=>by simp[ae,NC];exact hN2 10 l (by decide)) ?_;intro U9 H3 g1 g2 g4 g5;simp only[↓aX,mX,seval];have e0:U9 0= .par 0:=(g2 0 (by rw[XJ];omega) (by omega) (by omega)).trans (a_ (by omega));have e2:U9 2= .par 2:=(g2 2 (by rw[XJ];omega) (by omega) (by omega)).trans (a_ (by omega));have e3:U9 3= .par 3:=(g2 3 (by rw[XJ];omega) (by omega) (by omega)).trans (a_ (by omega));rw[lM];refine⟨[],rfl,⟨fun _=> .gf [],_,U9⟩,⟨rfl,rfl⟩,fun ρ=>by simp[bJ,bu],by simp[gD,AV.an,ah],rfl,g1,?_⟩;rintro p' (rfl|rfl|rfl)
  ·exact e0
  ·exact e2
  exact e3
 simp only[↓aX,mX,seval,Em,MQ.s,MQ.n,Yd,cz,cj,a7,e8,dK,bM,Y',pU,ax,h15];have hB3:=key (.par (5+2*p)) (.inl rfl) (bD (bD (bD H2 (.par (5+2*p)) .dead) (.par (5+2*p)) (.live ⟨1,aB ((y.kids.take k++y.kids.drop (k+1)).map xX)⟩)) (.par 1) (.live ⟨5,(b.nodes.mapIdx (NI b.n0 Lb.par)).set p [.bool y.text,.str y.s,.sl (.par (4+2*p)) 2 0 y.attrs.length,.int .i64 y.parent,.sl (.par (5+2*p)) 1 0 (y.kids.take k++y.kids.drop (k+1)).length]⟩)) (by simp[ae]) (by simp[ae];omega) (by intro q g1 g2 g3;simp[ae,g1,g2,g3]);refine XA hI hB3 (a_ (by omega)) (by rw[hdn,XJ];exact hn) (by rw[XJ];exact Yl) hdy (by simp;omega) (by rw[hdn];exact hb) (by simp;omega) 10 (fun l=>by simp[ae,NC];exact hN2 10 l (by decide)) ?_;intro U9 H3 g1 g2 g4 g5;simp only[↓aX,mX,seval];have e0:U9 0= .par 0:=(g2 0 (by rw[XJ];omega) (by omega) (by omega)).trans (a_ (by omega));have e2:U9 2= .par 2:=(g2 2 (by rw[XJ];omega) (by omega) (by omega)).trans (a_ (by omega));have e3:U9 3= .par 3:=(g2 3 (by rw[XJ];omega) (by omega) (by omega)).trans (a_ (by omega));rw[lM];refine⟨[],rfl,⟨fun _=> .gf [],_,U9⟩,⟨rfl,rfl⟩,fun ρ=>by simp[bJ,bu],by simp[gD,AV.an,ah],rfl,g1,?_⟩;rintro p' (rfl|rfl|rfl)
 ·exact e0
 ·exact e2
 exact e3
def aiK {cI bn b9 b6 en eF:Nat} (hF:aw P G cI=some (194,[],(gk bn b9 b6 en eF).bare)) (b:Bn) (hn:b.n0≤b.nodes.length) (n:Nat) (hp:n<b.n0) (x:Node) (hx:b.nodes[n]?=some x)
  (co:List Tree) (na st:Bs) (hb:b.nodes.length+1+st.length≤B) (hV:aa7 P G en) :
  Jg P G cI [.ptr (.par 0) 3 0 0,(⟨7,n,co,na,st⟩:Op).av] (Ut b) [0,2,3] fun X R2=>X=(fun _=> .gf [])∧R2=Ut (b.value n st):=by
 refine VM hF (by simp) (by simp[ah,AV.an,OO,Op.av];omega) ?_;obtain⟨VB,hU,h3,hN,hlen,hA3⟩:=XK (b:=b) hx;have zo:B=1073741824:=rfl;have jY:=VB.get hx;rw[Va (n0:=b.n0) (lab:=Lb.par) (x:=x) hp] at jY;unfold gk;simp only[↓aX,mX,seval,Op.av,h3,Int.reduceBEq]
 try simp only[↓aX,mX,seval,Op.av,h3,VB.s,VB.n,VB.f,VB.a,hlen,cz,cj,a7,e8,dK,bM,jY,bF]
 refine WV (lab:=Lb.par) (N:=NC 9) (hV b hn n hp x hx st hb) (by simp[bu,bJ,S1]) (hA3 _) (fun l=>by rw[aq _ _ (by simp[NC])];exact hN 9 l) (Yo 9) (fun l h=> .inl h) (fun p' BT=>OO.2 (ajq.1 BT).1) ?_;rintro X R2 U9 H2 ⟨rfl,rfl⟩ g1 g2 g3 g4 g5 g6;simp only[↓aX,mX,seval];rw[lM];refine⟨[],rfl,⟨fun _=> .gf [],_,U9⟩,⟨rfl,rfl⟩,fun ρ=>by simp[bJ,bu],by simp[gD,AV.an,ah],rfl,g1,?_⟩;rintro p' (rfl|rfl|rfl)
 ·exact g2 0 (ajq.2 ⟨by omega,by omega,by omega⟩)
 ·exact g2 2 (ajq.2 ⟨by omega,by omega,by omega⟩)
 exact g2 3 (ajq.2 ⟨by omega,by omega,by omega⟩)
def aiL {cI bn b9 b6 en eF:Nat} (hF:aw P G cI=some (194,[],(gk bn b9 b6 en eF).bare)) (b:Bn) (hn:b.n0≤b.nodes.length) (n:Nat) (hp:n<b.n0) (x:Node) (hx:b.nodes[n]?=some x)
  (co:List Tree) (na st:Bs) :
  Jg P G cI [.ptr (.par 0) 3 0 0,(⟨8,n,co,na,st⟩:Op).av] (Ut b) [0,2,3] fun X R2=>X=(fun _=> .gf [])∧R2=Ut (b.name n na):=by
 refine VM hF (by simp) (by simp[ah,AV.an,OO,Op.av];omega) ?_;obtain⟨VB,hU,h3,hN,hlen,hA3⟩:=XK (b:=b) hx;have zo:B=1073741824:=rfl;have jY:=VB.get hx;rw[Va (n0:=b.n0) (lab:=Lb.par) (x:=x) hp] at jY;unfold gk;simp only[↓aX,mX,seval,Op.av,h3,Int.reduceBEq]
 try simp only[↓aX,mX,seval,Op.av,h3,VB.s,VB.n,VB.f,VB.a,hlen,cz,cj,a7,e8,dK,bM,jY,bF]
 refine⟨rfl,?_⟩;have QM:b.name n na=b.set n {x with s:=na}:=by unfold Bn.name;rw[hx]
 have:=Oi.ahO (s:=na) (H2:=bD (bD (Lx (Ut b)) (.loc 3) (.live ⟨5,[[.int .i64 8,.int .i64 n,.list (dq co),.str na,.str st]]⟩)) (.par 1) (.live ⟨5,(b.nodes.mapIdx (NI b.n0 Lb.par)).set n [.bool x.text,.str na,.sl (.par (4+2*n)) 2 0 x.attrs.length,.int .i64 x.parent,.sl (.par (5+2*n)) 1 0 x.kids.length]⟩)) (hA3 _) hx (by rw[ae,bf rfl,Va hp]) (fun q hq=>by rw[aq _ _ hq]);rw[←QM] at this;rw[lM];refine⟨[],rfl,⟨fun _=> .gf [],_,Lb.par⟩,⟨rfl,rfl⟩,fun ρ=>by simp[bJ,bu],by simp[gD,AV.an,ah],rfl,this,?_⟩;rintro p' (rfl|rfl|rfl)
 ·exact rfl
 ·exact rfl
 exact rfl
def aiM {cI bn b9 b6 en eF:Nat} (hF:aw P G cI=some (194,[],(gk bn b9 b6 en eF).bare)) (b:Bn) (hn:b.n0≤b.nodes.length) (n:Nat) (hp:n<b.n0) (x:Node) (hx:b.nodes[n]?=some x)
  (co:List Tree) (na st:Bs) (hb:x.attrs.length+1≤B) (hr:l_ x.attrs=true) (Km:abD P G eF) :
  Jg P G cI [.ptr (.par 0) 3 0 0,(⟨9,n,co,na,st⟩:Op).av] (Ut b) [0,2,3] fun X R2=>X=(fun _=> .gf [])∧R2=Ut (b.attr n ⟨9,n,co,na,st⟩):=by
 refine VM hF (by simp) (by simp[ah,AV.an,OO,Op.av];omega) ?_;obtain⟨VB,hU,h3,hN,hlen,hA3⟩:=XK (b:=b) hx;have zo:B=1073741824:=rfl;have jY:=VB.get hx;rw[Va (n0:=b.n0) (lab:=Lb.par) (x:=x) hp] at jY;unfold gk;simp only[↓aX,mX,seval,Op.av,h3,Int.reduceBEq]
 try simp only[↓aX,mX,seval,Op.av,h3,VB.s,VB.n,VB.f,VB.a,hlen,cz,cj,a7,e8,dK,bM,jY,bF]
 refine WV (lab:=Lb.par) (N:=NC 9) (Km b n hp x hx ⟨9,n,co,na,st⟩ rfl (by simp) hb hr) (by simp[bu,bJ,S1,Op.av]) (hA3 _) (fun l=>by rw[aq _ _ (by simp[NC])];exact hN 9 l) (Yo 9) (fun l h=> .inl h) (fun p' BT=>OO.2 (Wp.1 BT).1) ?_;rintro X R2 U9 H2 ⟨rfl,rfl⟩ g1 g2 g3 g4 g5 g6;simp only[↓aX,mX,seval];rw[lM];refine⟨[],rfl,⟨fun _=> .gf [],_,U9⟩,⟨rfl,rfl⟩,fun ρ=>by simp[bJ,bu],by simp[gD,AV.an,ah],rfl,g1,?_⟩;rintro p' (rfl|rfl|rfl)
 ·exact g2 0 (Wp.2 ⟨by omega,by omega⟩)
 ·exact g2 2 (Wp.2 ⟨by omega,by omega⟩)
 exact g2 3 (Wp.2 ⟨by omega,by omega⟩)
def ahY {cI bn b9 b6 en eF:Nat} (hF:aw P G cI=some (194,[],(gk bn b9 b6 en eF).bare)) (b:Bn) (hn:b.n0≤b.nodes.length) (n:Nat) (hp:n<b.n0) (x:Node) (hx:b.nodes[n]?=some x)
  (co:List Tree) (na st:Bs) (hb:x.attrs.length+1≤B) (hr:l_ x.attrs=true) (Km:abD P G eF) :
  Jg P G cI [.ptr (.par 0) 3 0 0,(⟨10,n,co,na,st⟩:Op).av] (Ut b) [0,2,3] fun X R2=>X=(fun _=> .gf [])∧R2=Ut (b.attr n ⟨10,n,co,na,st⟩):=by
 refine VM hF (by simp) (by simp[ah,AV.an,OO,Op.av];omega) ?_;obtain⟨VB,hU,h3,hN,hlen,hA3⟩:=XK (b:=b) hx;have zo:B=1073741824:=rfl;have jY:=VB.get hx;rw[Va (n0:=b.n0) (lab:=Lb.par) (x:=x) hp] at jY;unfold gk;simp only[↓aX,mX,seval,Op.av,h3,Int.reduceBEq]
 try simp only[↓aX,mX,seval,Op.av,h3,VB.s,VB.n,VB.f,VB.a,hlen,cz,cj,a7,e8,dK,bM,jY,bF]
 refine WV (lab:=Lb.par) (N:=NC 9) (Km b n hp x hx ⟨10,n,co,na,st⟩ rfl (by simp) hb hr) (by simp[bu,bJ,S1,Op.av]) (hA3 _) (fun l=>by rw[aq _ _ (by simp[NC])];exact hN 9 l) (Yo 9) (fun l h=> .inl h) (fun p' BT=>OO.2 (Wp.1 BT).1) ?_;rintro X R2 U9 H2 ⟨rfl,rfl⟩ g1 g2 g3 g4 g5 g6;simp only[↓aX,mX,seval];rw[lM];refine⟨[],rfl,⟨fun _=> .gf [],_,U9⟩,⟨rfl,rfl⟩,fun ρ=>by simp[bJ,bu],by simp[gD,AV.an,ah],rfl,g1,?_⟩;rintro p' (rfl|rfl|rfl)
 ·exact g2 0 (Wp.2 ⟨by omega,by omega⟩)
 ·exact g2 2 (Wp.2 ⟨by omega,by omega⟩)
 exact g2 3 (Wp.2 ⟨by omega,by omega⟩)
end
end Go.Am
