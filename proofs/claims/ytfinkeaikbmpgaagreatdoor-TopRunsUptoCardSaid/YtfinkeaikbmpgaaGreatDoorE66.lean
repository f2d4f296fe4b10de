import Derived.Test.YtfinkeaikbmpgaaGreatDoorE60
set_option linter.unusedSimpArgs false
set_option linter.unusedVariables false
set_option linter.unnecessarySimpa false
set_option linter.defProp false
/- store.Run; TopRuns. -/
namespace Go.Am
open Go Go.RowKit
def l9.cs (r:l9):List IV:=[.int .i64 r.code,.int .i64 r.n,.str r.text]
def l9.iv (r:l9):IV:= .agg r.cs
def l9.bw (r:l9):r.iv.cells=r.cs:=rfl
def Tn (l:List l9):ko 3 (l.map l9.iv):=by
 intro y hy;simp only[adY] at hy;obtain⟨a,_,rfl⟩:=hy;rfl
def To (l:List l9):Flat (l.map l9.iv):=by
 intro y hy z hz cs e;simp only[adY] at hy;obtain⟨r,_,rfl⟩:=hy;simp only[l9.bw,l9.cs,adz,adG,adO] at hz;rcases hz with rfl|rfl|rfl<;>cases e
def X7 (l:List l9) (i:Nat):(l.map l9.iv)[i]?=(l[i]?).map l9.iv:=adX ..
noncomputable def lT:Doc×Int→List bK→List l9
 |_,[]=>[]
 |q,a::r=>(mQ q.1 q.2 a).2::lT (mQ q.1 q.2 a).1 r
theorem pB:∀(l:List bK) (q:Doc×Int),(lT q l).length=l.length
 |[],_=>rfl
 |a::r,q=>by simp only[lT,adK,pB r]
theorem BC:∀(l:List bK) (q:Doc×Int) (a:bK),lT q (l++[a])=lT q l++[(mQ (xn q l).1 (xn q l).2 a).2]
 |[],q,a=>rfl
 |b::r,q,a=>by simp only[adR,lT,xn,BC r]
theorem BD:∀(l:List bK) (q:Doc×Int) (k:Nat),lT q (l.take k)=(lT q l).take k
 |[],q,k=>by simp[lT]
 |b::r,q,0=>rfl
 |b::r,q,k+1=>by simp only[aeF,lT,BD r]
section
variable {P:Program} {G:Nat→Option (List IV)}
abbrev X8 (P:Program) (G:Nat→Option (List IV)) (f:Nat) (l:List bK):Prop:=aw P G f [.list (l.map bK.iv)] (.dM [.list ((lT GN l).map l9.iv),.int .i64 0])
def uh (eg aF:Nat):AC:=
(ay [oQ 2,eX 3 0] (.seq (ay [af 8 0,ky 9 8,db 10 .gtr 9 100] (.cond (.t 10) (ay [oQ 2,eX 3 7] .ret) .skip)) (ay [aE 11 (.call eg []),af 4 11] (ay [oQ 5] (.gh (.own 5 3) (.seq (ay [af 12 0,ky 13 12,eX 14 0] (.block 0 (.loop (ay [eS 15 .lss 14 13] (.seq (.cond (.t 15) .skip (.exit 0)) (.seq (.block 1 (ay [ig 16 12 14 2,gd 17 2 16,aE 7 (.new [(.int .i64 0),.nil0]),dT (.store 2 (.t 7) (.t 17))] (.ec [af 18 5,af 19 4,gd 20 2 7,aE 21 (.call aF [(.t 19),(.t 20)]),aE 22 (.lits 1 3 [(.int .i64 0),(.int .i64 0),(.str [])] [(0,(.t 21))]),aE 23 (.app (.t 18) (.t 22) 3 32),af 5 23]))) (.ec [db 24 .add 14 1,af 14 24]))))))) (ay [af 25 5,af 2 25,eX 3 0] (.gh (.Ch (.loc 5) 2) .ret))))))))
set_option maxRecDepth 10000 in
def X9 {j8 eg aF:Nat} (hF:an P G j8=some (26,[(none,2),(none,3)],(uh eg aF).bare)) (l:List bK) (hl:l.length≤100) (P5:ID P G eg [] 2 [.list (rG.map Node.iv),.int .i64 0])
  (Bv:∀a∈l,UK P G aF a):X8 P G j8 l:=by
 refine aM hF (by simp) (by simp[ah,AV.aB]) (by simp[AV.aB,ah]) ?_;unfold uh;simp only[↓aX,mX,seval,List.length_map,show decide ((l.length:Int)>100)=false by simp;omega];refine yn 11 P5 rfl (fun l=>by simp[NW,Hp.none]) fun q=> ?_;have hn:∀k,(Lb.loc k=NW 11 q)=False:=fun k=>by simp[NW]
 have za:∀k,(NW 11 q=Lb.loc k)=False:=fun k=>by simp[NW]
 simp only[↓aX,mX,seval,hn,Hp.none,List.length_map];have hr:∀(ρ:Lb→Lb) (n:Nat) (xs:List IV),cV ρ ⟨n,ar xs⟩=⟨n,ar xs⟩:=fun ρ n xs=>b5 _ _ _;refine jj (σ:={i:Nat // i≤l.length}) (fun _=>[.loc 600,.loc 5]) (fun _ _=>false)
  (fun q=>[(4,.ptr (.loc 600) 2 0 0),(5,.sl (.loc 5) 3 0 q.1),(12,.list (l.map bK.iv)),(13,.int .i64 l.length),(14,.int .i64 q.1)])
  (fun q=>[(.loc 600,⟨2,[dL (gF l q.1).1 (gF l q.1).2]⟩),(.loc 5,⟨3,ar ((lT GN (l.take q.1)).map l9.iv)⟩)]) (fun q=>l.length - q.1) ⟨0,by omega⟩ (fun _=>rfl) (fun q=>by simp[ah,AV.aB]) ?_ ⟨[(.loc 600,NW 11 q)],?_⟩ ?_
 ·intro q w hw cs bS z hz;simp only[List.mem_cons,List.not_mem_nil,or_false] at hw;rcases hw with rfl|rfl
  ·simp only[List.mem_singleton] at bS;subst bS;simp[ah,AV.aB,dL] at hz
  rw[bT bS] at hz;simp at hz
 ·have XV:gF l 0=GN:=by simp[gF,xn]
  refine⟨?_,?_,?_,by simp[bZ,za],?_⟩
  ·intro l hf hu;cases l<;>simp_all[Lb.fresh,ae,Hp.none,NW,Lb.entry]
  ·simp[kv,bZ,ren,aY,put,lE]
  ·simp only[qe,hr];simp[bZ,ae,cV,aY,ren,dL,XV,GN,IV.gK,hn,za,lT,ar]
  intro l hl;simp only[List.mem_cons,List.not_mem_nil,or_false] at hl;rcases hl with rfl|rfl
  ·exact⟨fun _=>by simp[bZ,A7],fun h=>by simp[Lb.fresh] at h⟩
  exact⟨fun _=>by simp[bZ,Lb.fresh],fun h=>by simp[bZ]⟩
 rintro⟨i,hi⟩;rw[vt];simp only[↓aX,mX,seval,ed,dk];by_cases bO:i<l.length
 ·obtain⟨a,ha⟩:∃a,l[i]?=some a:=⟨_,List.getElem?_eq_getElem bO⟩;have hw:IntKind.i64.wrap ((i:Int)+1)=((i+1:Nat):Int):=wrap64 (by omega) (by omega);have hinv:=l6 l i;have hD:=Bv a (List.mem_of_getElem? ha) _ (gF l i).2 hinv.1 hinv.2.1 hinv.2.2;rw[←u0 ha] at hD;simp only[↓aX,mX,seval,show decide ((i:Int)<(l.length:Int))=true by simpa using bO,IE,ha,sG,Option.map_some,bK.bw,bK.cs,Int.natCast_nonneg,Int.toNat_natCast,List.length_map];refine a7 (l:= .loc 600) hD (by simp[aY,ren,iH,bK.av]) (by simp[ae,dL]) ?_;rintro x2 Ta ⟨rfl,rfl⟩ _ _ _;have Pk:lT GN (l.take (i+1))=lT GN (l.take i)++[(mQ (gF l i).1 (gF l i).2 a).2]:=by
   rw[List.take_add_one,ha,Option.toList_some,BC];rfl
  have FK:((lT GN (l.take i)).map l9.iv).length=i:=by rw[List.length_map,pB,List.length_take];omega
  generalize (mQ (gF l i).1 (gF l i).2 a).2=r at Pk ⊢;simp only[↓aX,mX,seval,l9.av];rw[gU 3 32 23 5 ((lT GN (l.take i)).map l9.iv) (.agg [.int .i64 r.code,.int .i64 r.n,.str r.text]) (by simp[ae]) FK rfl (by simp[IV.cells]) (by omega) (by omega) (by omega) (by simp[ae,Hp.none])];simp only[↓aX,mX,seval,hw];refine⟨⟨i+1,bO⟩,by simp only;omega,[(.loc 5,.loc 23)],?_⟩;refine⟨?_,?_,?_,by simp[bZ],?_⟩
  ·intro l hf hu;exfalso;apply hu;cases l<;>simp_all[Lb.fresh,ae,Hp.none]
  ·simp[kv,bZ,ren,aY,put]
  ·simp only[qe,hr,Pk];simp[bZ,ae,cV,aY,ren,dL,l9.iv,l9.cs]
  intro l hl;simp only[List.mem_cons,List.not_mem_nil,or_false] at hl;rcases hl with rfl|rfl
  ·exact⟨fun _=>rfl,fun h=>by simp[Lb.fresh] at h⟩
  exact⟨fun _=>rfl,fun h=>by simp[Lb.fresh] at h⟩
 have qV:i=l.length:=by omega
 subst qV;have FK:((lT GN l).map l9.iv).length=l.length:=by rw[List.length_map,pB]
 simp only[↓aX,mX,seval,show decide ((l.length:Int)<(l.length:Int))=false by simp,List.take_length];refine⟨3,(lT GN l).map l9.iv,0,l.length,rfl,rfl,by omega,To _,?_⟩;simp only[↓aX,mX,seval,↓eQ,List.drop_zero,List.take_of_length_le (Nat.le_of_eq FK)]
def lz (bB j8:Nat):AC:=
(ay [jK 4 false] (.seq (ay [aE 10 (.call bB []),uk 11 10,af 12 11,gj 13 12 0,hQ 14 12 (.len (.t 13)),hQ 15 12 (.bin .gtr (.t 14) (ij 50)),nC 16 12 15] (.cond (.t 16) (ay [aE 17 (.call bB []),af 4 17] .ret) .skip)) (ay [af 18 1,af 19 0,ky 20 19,db 21 .add 20 1,eS 22 .rem 18 21,af 23 0,ky 24 23,eS 25 .add 22 24,db 26 .add 25 1,af 27 0,ky 28 27,db 29 .add 28 1,eS 30 .rem 26 29,af 1 30] (ay [af 32 0,aE 33 (.xw (.c .nil0) (.t 32) 2 32),aE 34 (.call j8 [(.t 33)]),af 31 34,gQ 35 31 0,gQ 36 31 1,af 5 35,af 6 36] (ay [af 38 0,af 39 1,aE 40 (.qd (.t 38) none (some (.t 39)) none 2),aE 41 (.xw (.c .nil0) (.t 40) 2 32),aE 42 (.call j8 [(.t 41)]),af 37 42,gQ 43 37 0,gQ 44 37 1,af 7 43,af 8 44] (.seq (ay [af 45 6,db 46 .neq 45 0,af 47 46,gj 48 47 8,hQ 49 47 (.bin .neq (.t 48) (ij 0)),nC 50 47 49,af 51 50,gj 52 51 5,hQ 53 51 (.len (.t 52)),gj 54 51 0,hQ 55 51 (.len (.t 54)),hQ 56 51 (.bin .neq (.t 53) (.t 55)),nC 57 51 56,af 58 57,gj 59 58 7,hQ 60 58 (.len (.t 59)),gj 61 58 1,hQ 62 58 (.bin .neq (.t 60) (.t 61)),nC 63 58 62] (.cond (.t 63) (ay [jK 4 false] .ret) .skip)) (.seq (ay [eX 9 0] (.block 0 (.loop (.seq (ay [af 64 9,af 65 1,eS 66 .lss 64 65] (.cond (.t 66) .skip (.exit 0))) (.seq (.block 1 (.seq (.fg [af 69 5,af 70 9,ig 71 69 70 3,gd 72 3 71,af 73 7,af 74 9,ig 75 73 74 3,gd 76 3 75,aE 77 (.zc true [.i,.i,.s] (.t 72) (.t 76))] [[],[],[0,1],[2],[],[],[4,5],[6],[3,7]] [.no,.no,.no,.no,.no,.no,.no,.no,.no]) (.cond (.t 77) (ay [jK 4 false] .ret) .skip))) (.ec [af 67 9,db 68 .add 67 1,af 9 68])))))) (ay [jK 4 true] .ret))))))))
set_option maxRecDepth 10000 in
def Qk {oM bB j8:Nat} (hF:an P G oM=some (78,[(none,4)],(lz bB j8).bare)) (l:List bK) (hl:l.length≤B) (k:Int) (GI:aw P G bB [] (.bool true))
  (hR:∀j,j≤l.length→l.length≤50→X8 P G j8 (l.take j)) :
  aw P G oM [.list (l.map bK.iv),.int .i64 k] (.bool true):=by
 have nM:B=1073741824:=rfl;refine aM hF (by simp) (by simp[ah,AV.aB]) (by simp[AV.aB]) ?_;unfold lz;simp only[↓aX,mX,seval,List.length_map];refine aq GI ?_;by_cases YF:l.length≤50
 ·obtain⟨N,hN⟩:∃N:Int,N=(l.length:Int)+1:=⟨_,rfl⟩;have a1:=Int.tmod_lt_of_pos k (show 0<N by omega);have a2:=Int.lt_tmod_of_pos k (show 0<N by omega);have hwN:IntKind.i64.wrap ((l.length:Int)+1)=N:=by rw[hN];exact wrap64 (by omega) (by omega)
  have b1:=Int.tmod_lt_of_pos (k.tmod N+N) (show 0<N by omega);have b2:=Int.tmod_nonneg N (show 0≤k.tmod N+N by omega);obtain⟨j,hj⟩:=Int.eq_ofNat_of_zero_le b2;have wu:j≤l.length:=by omega
  have hwj:∀x:Int,x=((j:Nat):Int)→IntKind.i64.wrap x=((j:Nat):Int):=fun x e=>by rw[e];exact wrap64 (by omega) (by omega)
  simp only[↓aX,mX,seval,Bool.not_true,show decide ((l.length:Int)>50)=false by simp;omega,List.length_map,hwN];have w1:IntKind.i64.wrap (k.tmod N+(l.length:Int))=k.tmod N+(l.length:Int):=wrap64 (by omega) (by omega);have w2:IntKind.i64.wrap (k.tmod N+(l.length:Int)+1)=k.tmod N+N:=by rw[wrap64 (by omega) (by omega)];omega
  have el:ko 2 (l.map bK.iv):=sG l;have fl:∀m:List bK,Flt (m.map bK.iv):=fun m y hy z hz cs e=>by
   simp only[List.mem_map] at hy;obtain⟨a,_,rfl⟩:=hy;simp only[bK.bw,bK.cs,List.mem_cons,List.not_mem_nil,or_false] at hz;rcases hz with rfl|rfl<;>cases e
  have h1:=hR l.length (Nat.le_refl _) YF;rw[List.take_length] at h1;have h2:=hR j wu YF;unfold X8 at h2;rw[BD] at h2;have FK:((lT GN l).map l9.iv).length=l.length:=by rw[List.length_map,pB]
  have hrj:(((lT GN l).take j).map l9.iv).length=j:=by rw[List.length_map,List.length_take,pB];omega
  simp only[↓aX,mX,seval,show ¬N=0 by omega,List.length_map,hwN,w1,w2,hj,sG,fl,show l.length*32≤140737488355328 by omega];refine aq h1 ?_;have Ol:∀env:Env,env 39= .int .i64 j→nG env (.list (l.map bK.iv)) none (some (.t 39)) none 2=some (.list ((l.take j).map bK.iv)):=fun env he=>by
   have hjm:j≤(l.map bK.iv).length:=(by rw[List.length_map];exact wu);simp only[↓aX,mX,seval,nG,sG,rK,mW,xI,he,Int.natCast_nonneg,Int.toNat_natCast,true_and,Nat.le_refl,Nat.zero_le,Option.bind_some,Option.map_some,Option.isSome_none,hjm,List.drop_zero,List.map_take,List.length_map,wu]
  simp only[↓aX,mX,seval,Ol,sG,fl,List.length_map,List.length_take,show(min j l.length)*32≤140737488355328 by omega];refine aq h2 ?_;have z0:((0:Int) !=0)=false:=rfl;simp only[↓aX,mX,seval,z0,FK,hrj,List.length_map,show ∀n:Nat,(((n:Nat):Int) !=((n:Nat):Int))=false from fun n=>by simp,Bool.not_false];obtain⟨rs,uo⟩:∃rs,lT GN l=rs:=⟨_,rfl⟩;have hlr:rs.length=l.length:=by rw[←uo,pB]
  rw[uo];refine mK (σ:={i:Nat // i≤j}) (fun q=>[(1,.int .i64 j),(5,.list (rs.map l9.iv)),(7,.list ((rs.take j).map l9.iv)),(9,.int .i64 q.1)]) (fun q=>j - q.1) ⟨0,by omega⟩ (fun _=>rfl) ?_ ?_
  ·exact⟨by simp only[↓aX,mX,seval],by repeat' constructor⟩
  rintro⟨i,hi⟩;simp only[↓aX,mX,seval];by_cases bO:i<j
  ·have hw:IntKind.i64.wrap ((i:Int)+1)=((i+1:Nat):Int):=wrap64 (by omega) (by omega);obtain⟨r,hr⟩:∃r,rs[i]?=some r:=⟨_,List.getElem?_eq_getElem (by omega)⟩;have hr2:(rs.take j)[i]?=some r:=(by rw[List.getElem?_take,if_pos bO,hr]);simp only[↓aX,mX,seval,show decide ((i:Int)<(j:Int))=true by simpa using bO];refine⟨rfl,?_⟩;have he:∀x y:Int,∀z:Bs,eqs [.i,.i,.s] [.int .i64 x,.int .i64 y,.str z] [.int .i64 x,.int .i64 y,.str z]=some true:=fun x y z=>(by simp[eqs,eq1]);simp only[↓aX,mX,seval,X7,hr,hr2,Tn,Option.map_some,l9.bw,l9.cs,Int.natCast_nonneg,Int.toNat_natCast,he,Bool.not_true,hw];exact⟨⟨i+1,bO⟩,by simp only;omega,rfl⟩
  simp only[↓aX,mX,seval,show decide ((i:Int)<(j:Int))=false by simpa using bO]
 simp only[↓aX,mX,seval,Bool.not_true,show decide ((l.length:Int)>50)=true by simp;omega];refine aq GI ?_;simp only[↓aX,mX,seval]
end
end Go.Am
namespace Go.Proofs.YtfinkeaikbmpgaaGreatDoor
open Go Go.Am Go.ChangeShapes
variable {t1 t2:Nat}
def ac6:an Tryz.prog (gS t1 t2) 24=some (26,[(none,2),(none,3)],(uh 47 28).bare):=by kernel_rfl
def Ql:an Tryz.prog (gS t1 t2) 4=some (78,[(none,4)],(lz 23 24).bare):=by kernel_rfl
def Qm (l:List bK) (hl:l.length≤B) (hw:∀a∈l,qf a.lines≤2^20) (k:Int):aw Tryz.prog (gS t1 t2) 4 [.list (l.map bK.iv),.int .i64 k] (.bool true):=
 Qk Ql l hl k Eg (fun j hj h5=>X9 ac6 _ (by rw[adP];omega) Qc (fun a ha=>IJ a (hw a (ad4 ha))))
end Go.Proofs.YtfinkeaikbmpgaaGreatDoor
