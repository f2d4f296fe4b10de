import Derived.Test.YtfinkeaikbmpgaaKAm45
import Derived.Test.YtfinkeaikbmpgaaKAm33
set_option linter.unusedSimpArgs false
set_option linter.unusedVariables false
set_option linter.unnecessarySimpa false
set_option linter.defProp false
/- The bench: where a node stands; one tree more. -/
set_option pp.deepTerms false
set_option pp.deepTerms.threshold 5
namespace Go.Am
open Go Go.RowKit
theorem cU {n0 i:Nat} {lab:Nat→Lb} {x:Node} (h:i<n0):cx n0 lab i x=[.bool x.text,.str x.s,.sl (lab (4+2*i)) 2 0 x.attrs.length,.int .i64 x.parent,.sl (lab (5+2*i)) 1 0 x.kids.length]:=by simp[cx,h]
theorem r_ {n0 i:Nat} {lab:Nat→Lb} {x:Node} (h:n0≤i):cx n0 lab i x=[.bool x.text,.str x.s,.list (dY x.attrs),.int .i64 x.parent,.list (x.kids.map a6)]:=by simp[cx,Nat.not_lt.2 h]
def Bn.all (b:Bn):List Nat:=List.range (4+2*b.n0)
theorem wA {H:Hp} {l:Lb} {sz n:Nat} {xs:List IV} (h:H l= .live ⟨sz,ay xs⟩) (hf:Flat xs) (hn:n=xs.length):uw H (.sl l sz 0 n) (.list xs):=by
 subst hn;have:=uw.row l sz 0 xs.length xs h (by omega) hf;simpa using this
section
variable {P:Program} {G:Nat→Option (List IV)}
def eS (bP:Nat):AC:=
(.seq (.aM [⟨some 4,none,.ak (.c (.int .i64 0))⟩,⟨some 5,none,.ak (.c (.int .i64 0))⟩]) (.seq (.aM [⟨some 7,none,.ak (.t 0)⟩,⟨some 8,none,.ef (.t 7)⟩,⟨some 9,none,.bV (.t 8) 0⟩,⟨some 10,none,.load none (.t 9)⟩,⟨some 11,none,.ak (.t 1)⟩,⟨some 12,none,.fJ (.t 10) (.t 11) 5⟩,⟨some 13,none,.bV (.t 12) 3⟩,⟨some 14,none,.load none (.t 13)⟩,⟨some 6,none,.ak (.t 14)⟩]) (.seq (.aM [⟨some 15,none,.ak (.t 6)⟩,⟨some 16,none,.ak (.t 0)⟩,⟨some 17,none,.ef (.t 16)⟩,⟨some 18,none,.bV (.t 17) 0⟩,⟨some 19,none,.load none (.t 18)⟩,⟨some 20,none,.ak (.t 6)⟩,⟨some 21,none,.fJ (.t 19) (.t 20) 5⟩,⟨some 22,none,.bV (.t 21) 4⟩,⟨some 23,none,.load none (.t 22)⟩,⟨some 24,none,.ak (.t 1)⟩,⟨some 25,none,.call bP [(.t 23),(.t 24)]⟩,⟨some 4,none,.ak (.t 15)⟩,⟨some 5,none,.ak (.t 25)⟩]) .ret)))
theorem JO {an bP:Nat} (hF:aA P G an=some (26,[(none,4),(none,5)],(eS bP).bare)) (b:Bn) (n p:Nat) (x y:Node) (hx:b.nodes[n]?=some x) (hp:x.parent=p) (hy:b.nodes[p]?=some y) (nH:p<b.n0)
  (hI:az P G bP [.list (y.kids.map a6),.int .i64 n] (.int .i64 (jE y.kids n))) :
  n5 P G an [.ptr (.par 0) 3 0 0,.int .i64 n] (cz b) b.all fun X R2=>X=(fun _=> .dU [.int .i64 p,.int .i64 (jE y.kids n)])∧R2=cz b:=by
 refine dZ hF (by simp) (by simp[ax,AV.aI,a9];omega) ?_;have hA:bW Lb.par b (eC (cz b)):=eF _;obtain⟨GC,-⟩:=List.getElem?_eq_some_iff.1 hx;obtain⟨La,-⟩:=List.getElem?_eq_some_iff.1 hy;unfold eS
 simp only[↓aX,mX,reduceCtorEq,Nat.reduceEqDiff,Nat.reduceLT,Nat.reduceLeDiff,Nat.reduceAdd,Nat.reduceMul,Int.reduceToNat,Int.reduceLE,Int.reduceLT,hA.s,hA.n,Int.natCast_nonneg,Int.toNat_natCast,GC,La,and_self,true_and,Nat.zero_add,hA.get hx,hA.get hy,cU nH]
 simp only[↓aX,mX,reduceCtorEq,Nat.reduceEqDiff,Nat.reduceLT,Nat.reduceLeDiff,Nat.reduceAdd,Nat.reduceMul,Int.reduceToNat,Int.reduceLE,Int.reduceLT,cx,hA.s,hA.n,Int.natCast_nonneg,Int.toNat_natCast,GC,La,and_self,true_and,Nat.zero_add,hA.get hx,hA.get hy,cU nH,hp];rw[if_pos nH];refine xK hI (.cons (wA (hA.kd nH hy) (mb _) (by simp)) (.cons (.same _) .nil)) rfl ?_
 simp only[↓aX,mX,reduceCtorEq,Nat.reduceEqDiff,Nat.reduceLT,Nat.reduceLeDiff,Nat.reduceAdd,Nat.reduceMul,Int.reduceToNat,Int.reduceLE,Int.reduceLT,y8,jo,pj,Option.some.injEq,exists_eq_left',gQ];refine⟨⟨(fun _=> .dU [.int .i64 p,.int .i64 (jE y.kids n)]),cz b,Lb.par⟩,⟨rfl,rfl⟩,fun ρ=>by simp[cG,cn],by simp[AV.aI,ax],rfl,hA,fun _ _=>rfl⟩
def et (ah bg:Nat):AC:=
(.seq (.aM [⟨some 4,none,.box (.t 1)⟩,⟨some 6,none,.ak (.c (.int .i64 0))⟩]) (.seq (.aM [⟨some 11,none,.ak (.t 0)⟩,⟨some 12,none,.ef (.t 11)⟩,⟨some 13,none,.bV (.t 12) 0⟩,⟨some 14,none,.load none (.t 13)⟩,⟨some 15,none,.len (.t 14)⟩,⟨some 7,none,.ak (.t 15)⟩]) (.seq (.eY [⟨some 16,none,.ak (.t 0)⟩,⟨some 17,none,.ak (.t 0)⟩,⟨some 18,none,.ef (.t 17)⟩,⟨some 19,none,.bV (.t 18) 0⟩,⟨some 20,none,.load none (.t 19)⟩,⟨some 21,none,.bV (.t 4) 0⟩,⟨some 22,none,.load none (.t 21)⟩,⟨some 23,none,.bV (.t 4) 1⟩,⟨some 24,none,.load none (.t 23)⟩,⟨some 25,none,.bV (.t 4) 2⟩,⟨some 26,none,.load none (.t 25)⟩,⟨some 27,none,.call ah [(.t 26)]⟩,⟨some 28,none,.ak (.t 2)⟩,⟨some 29,none,.o7 [(.bool false),(.str []),.nil0,(.int .i64 0),.nil0] [(0,(1,(.t 22))),(1,(1,(.t 24))),(2,(1,(.t 27))),(3,(1,(.t 28)))]⟩,⟨some 30,none,.lits 1 5 [(.bool false),(.str []),.nil0,(.int .i64 0),.nil0] [(0,(.t 29))]⟩,⟨some 31,none,.app (.t 20) (.t 30) 5 80⟩,⟨some 32,none,.ef (.t 16)⟩,⟨some 33,none,.bV (.t 32) 0⟩,⟨none,none,.store 1 (.t 33) (.t 31)⟩] [[],[],[1],[2],[3],[],[5],[],[7],[],[9],[10],[],[6,8,11,12],[13],[4,14,11],[0,0,1,2,3,4,5,6,7,8,9,10,11,12,13,14,15],[16,0,1,2,3,4,5,6,7,8,9,10,11,12,13,14,15],[17,15,15,0,1,2,3,4,5,6,7,8,9,10,11,12,13,14,15]] [.no,.no,.no,.no,(.rw [(.par 0)] []),.no,.rw [.loc 4] [],.no,.rw [.loc 4] [],.no,.rw [.loc 4] [],.no,.no,.no,.no,(.rw [] [(.par 1),(.gen 31)]),.no,.no,(.rw [] [(.par 0)])]) (.seq (.aM [⟨some 8,none,.ak (.c .nil0)⟩]) (.gh (.own 8 1) (.seq (.seq (.aM [⟨some 34,none,.bV (.t 4) 3⟩,⟨some 35,none,.load none (.t 34)⟩,⟨some 36,none,.len (.t 35)⟩,⟨some 37,none,.ak (.c (.int .i64 0))⟩]) (.block 0 (.loop (.seq (.aM [⟨some 38,none,.bin .lss (.t 37) (.t 36)⟩]) (.seq (.cond (.t 38) .skip (.exit 0)) (.seq (.block 1 (.seq (.aM [⟨some 39,none,.fJ (.t 35) (.t 37) 4⟩,⟨some 40,none,.load (some 4) (.t 39)⟩,⟨some 10,none,.new [(.bool false),(.str []),.nil0,.nil0]⟩,⟨none,none,.store 4 (.t 10) (.t 40)⟩]) (.aM [⟨some 41,none,.ak (.t 8)⟩,⟨some 42,none,.ak (.t 0)⟩,⟨some 43,none,.load (some 4) (.t 10)⟩,⟨some 44,none,.ak (.t 7)⟩,⟨some 45,none,.call bg [(.t 42),(.t 43),(.t 44)]⟩,⟨some 46,none,.lits 1 1 [(.int .i64 0)] [(0,(.t 45))]⟩,⟨some 47,none,.app (.t 41) (.t 46) 1 8⟩,⟨some 8,none,.ak (.t 47)⟩]))) (.aM [⟨some 48,none,.bin .add (.t 37) (.c (.int .i64 1))⟩,⟨some 37,none,.ak (.t 48)⟩]))))))) (.gh (.Ez (.loc 8) 8) (.seq (.aM [⟨some 49,none,.ak (.t 0)⟩,⟨some 50,none,.ef (.t 49)⟩,⟨some 51,none,.bV (.t 50) 0⟩,⟨some 52,none,.load none (.t 51)⟩,⟨some 53,none,.ak (.t 7)⟩,⟨some 54,none,.ak (.t 8)⟩,⟨some 55,none,.fJ (.t 52) (.t 53) 5⟩,⟨some 56,none,.bV (.t 55) 4⟩,⟨none,none,.store 1 (.t 56) (.t 54)⟩]) (.seq (.aM [⟨some 57,none,.ak (.t 7)⟩,⟨some 6,none,.ak (.t 57)⟩]) .ret)))))))))
def Bn.add (b:Bn) (t:Tree) (p:Int):Bn:={b with nodes:=b.nodes++t.flat b.nodes.length p}
def Bn.gL (b:Bn) (t:Tree) (p:Int) (i:Nat):Bn:={b with nodes:=b.nodes++⟨t.text,t.s,t.attrs,p,[]⟩::cR (b.nodes.length+1) b.nodes.length (t.kids.take i)}
def Bn.Bt (b:Bn) (p:Nat):List Nat:=(List.range (4+2*b.n0)).filter (·≠p)
theorem fZ {b:Bn} {p q:Nat}:q∈b.Bt p↔q<4+2*b.n0∧q≠p:=by simp[Bn.Bt]
def bO (N:Lb):Nat→Lb:=fun p=>if p=1 then N else .par p
theorem jy {N:Lb} (h:∀p,p≠1→N≠ .par p) {p q:Nat} (e:bO N p=bO N q):p=q:=by
 unfold bO at e;split at e<;>split at e
 ·omega
 ·exact absurd e (h _ (by omega))
 ·exact absurd e.symm (h _ (by omega))
 ·simpa using e
structure FU (t:Tree) where
 i:Nat
 hi:i≤t.kids.length
def wB (b:Bn) (t:Tree) (q:FU t):List (Nat×AV):=
 [(0,.ptr (.par 0) 3 0 0),(7,.int .i64 b.nodes.length),(8,.sl (.loc 8) 1 0 q.i),(35,.list (dc t.kids)),(36,.int .i64 t.kids.length),(37,.int .i64 q.i)]
def mK (b:Bn) (t:Tree) (q:FU t):List (Lb×Row):=
 [(.loc 8,⟨1,ay ((aS (b.nodes.length+1) (t.kids.take q.i)).map a6)⟩)]
theorem jx.iW {lab:Nat→Lb} {R:kS} {H:Hp} (h:jx lab R H) {q:Lb} {s:Slot} (hq:∀p,R.ok p→lab p≠q):jx lab R (bG H q s):=
 ⟨fun p r hr=>by rw[aq _ _ (hq p ((R.ia lab p).1 (by rw[hr];rfl)))];exact h.row p r hr,h.inj⟩
theorem Mt {bg ah : Nat} (hF : aA P G bg = some (58,[(none,6)],(et ah bg).bare)) (b : Bn) (hn : b.n0 ≤ b.nodes.length) (t : Tree) (p : Int) (hb : b.nodes.length + t.wt ≤ B)
   (hC:az P G ah [.list (dY t.attrs)] (.list (dY t.attrs)))
   (hR:∀(b':Bn) (k:Tree),k∈t.kids→b'.n0=b.n0→b.n0≤b'.nodes.length→b'.nodes.length+k.wt≤B→n5 P G bg [.ptr (.par 0) 3 0 0,k.av,.int .i64 b.nodes.length] (cz b') (b.Bt 1) fun X R2=>X=(fun _=> .int .i64 b'.nodes.length)∧R2=cz (b'.add k b.nodes.length)) :
   n5 P G bg [.ptr (.par 0) 3 0 0,t.av,.int .i64 p] (cz b) (b.Bt 1) fun X R2=>X=(fun _=> .int .i64 b.nodes.length)∧R2=cz (b.add t p):=by
 refine dZ hF (by simp) (by simp[ax,AV.aI,a9,Tree.av];omega) ?_
 have hA:bW Lb.par b (eC (cz b)):=eF _
 have hU:∀q:Lb,(∀p,p<4+2*b.n0→q≠ .par p)→eC (cz b) q= .unused:=fun q hq=>dD _ fun p hp e=>hq p (a9.1 hp) e.symm
 have h4:eC (cz b) (.loc 4)= .unused:=hU _ (by simp)
 have h8:eC (cz b) (.loc 8)= .unused:=hU _ (by simp)
 have hg:eC (cz b) (.gen 31)= .unused:=hU _ (by simp)
 have P5:=t.iB
 have yU:=fu t.kids
 have pw:B=1073741824:=rfl
 unfold et
 simp only[↓aX,mX,reduceCtorEq,Nat.reduceEqDiff,Nat.reduceLT,Nat.reduceLeDiff,Nat.reduceAdd,Nat.reduceMul,Int.reduceToNat,Int.reduceLE,Int.reduceLT,Tree.av,hA.s,hA.n,h4,List.length_mapIdx]
 refine⟨rfl,?_⟩
 refine kb hC ?_
 simp only[↓aX,mX,reduceCtorEq,Nat.reduceEqDiff,Nat.reduceLT,Nat.reduceLeDiff,Nat.reduceAdd,Nat.reduceMul,Int.reduceToNat,Int.reduceLE,Int.reduceLT,Tree.av,hA.s,hA.n,h4]
 rw[Cf (l:= .par 1) (els:=b.nodes.mapIdx (cx b.n0 Lb.par)) (xs:=[.agg [.bool t.text,.str t.s,.list (dY t.attrs),.int .i64 p,.list []]]) (by simp[ai,hA.n]) (by simp) (by simp[iw,IV.cells]) (by simp[Flat,IV.cells]) (by simp;omega) (by decide) (by simp[Lb.app,Lb.fresh]) (by simp[Lb.app,Lb.fresh,ai,hg])]
 simp only[↓aX,mX,reduceCtorEq,Nat.reduceEqDiff,Nat.reduceLT,Nat.reduceLeDiff,Nat.reduceAdd,Nat.reduceMul,Int.reduceToNat,Int.reduceLE,Int.reduceLT,hA.s,h8,h4]
 refine⟨by rintro l (rfl|rfl)<;>simp[Lb.iJ],?_⟩
 have Mu:∀H2:Hp,H2 (.par 0)= .live ⟨3,[[.sl (.gen 31) 5 0 (b.nodes.length+1),.sl (.par 2) 1 0 b.fs.length,.sl (.par 3) 1 0 b.as.length]]⟩ →
     H2 (.gen 31)= .live ⟨5,b.nodes.mapIdx (cx b.n0 Lb.par)++[[.bool t.text,.str t.s,.list (dY t.attrs),.int .i64 p,.list []]]⟩→(∀q,q≠ .par 0→q≠ .par 1→q≠ .gen 31→q≠ .loc 4→q≠ .loc 8→H2 q=eC (cz b) q) →
     bW (bO (.gen 31)) (b.gL t p 0) H2:=by
   intro H2 e0 e1 e2
   have:=bW.push (H2:=fun q=>if q= .loc 4∨q= .loc 8 then eC (cz b) q else H2 q) hA (y:=⟨t.text,t.s,t.attrs,p,[]⟩) (N:= .gen 31) hn (.inr (by simp)) (by simp[e0]) (by simp[e1]) (by
     intro q g1 g2 g3
     by_cases g4:q= .loc 4∨q= .loc 8
     · simp[g4]
     · simp only[g4,if_false];exact e2 q g1 g2 g3 (fun e=>g4 (.inl e)) (fun e=>g4 (.inr e)))
   refine⟨fun q r hr=> ?_,this.inj⟩
   have h1:=this.row q r hr
   have h2:¬(bO (.gen 31) q= .loc 4∨bO (.gen 31) q= .loc 8):=by unfold bO;split<;>simp
   exact(if_neg h2).symm.trans h1
 have n9:∀q:FU t,∀p',(cz (b.gL t p q.i)).ok p'↔p'<4+2*b.n0:=fun q p'=>a9
 have FV:∀p',p'≠1→Lb.gen 0≠ .par p':=by simp
 refine oR (σ:=FU t) (bO (.gen 0)) (fun q=>cz (b.gL t p q.i)) [.loc 8] (fun l=>l== .par 1) (wB b t) (mK b t) (fun q=>t.kids.length - q.i) ⟨0,Nat.zero_le _⟩
   (fun q p1 p2 _ _ e=>jy FV e) (fun _=>rfl) (by simp[bO];intro _ p' _;split<;>simp) ?_ ?_ ?_ ?_
 · intro q l hl
   simp[ax,AV.aI,wB] at hl
   rcases hl with rfl|rfl
   · right;exact⟨0,(n9 _ _).2 (by omega),by simp[bO]⟩
   · left;simp
 · intro q z hz cs b5 l hl
   simp only[mK,List.mem_singleton] at hz
   subst hz
   rw[dK b5] at hl;simp at hl
 · refine ⟨bO (.gen 31),[],?_⟩
   have r0:iK (bO (.gen 0)) (bO (.gen 31)) (cz (b.gL t p 0)) [] (.par 0)= .par 0:=
     fG (labC:=bO (.gen 0)) (fun p1 p2 _ _ e=>jy FV e) (p:=0) (a9.2 (by omega))
   have r8:iK (bO (.gen 0)) (bO (.gen 31)) (cz (b.gL t p 0)) [] (.loc 8)= .loc 8:=eR (by intro p' _;simp[bO];split<;>simp)
   refine⟨Mu _ (by simp[ai]) (by simp[ai,ay,IV.cells,IV.cW,List.take_of_length_le]) (by intro q g1 g2 g3 g4 g5;simp[ai,g1,g2,g3,g4,g5]),?_,?_,?_,by simp[dS],?_,by simp[dS,Lb.fresh,Lb.entry],?_⟩
   · intro l he hu
     cases l with
     |par k=>
       by_cases h1:k=1
       · subst h1;right;right;rfl
       · left
         refine⟨k,a9.2 ?_,by simp[bO,h1]⟩
         refine Decidable.byContradiction fun hk=>hu ?_
         by_cases h0:k=0
         · subst h0;exact absurd (by simp[Bn.gL];omega) hk
         · simp only[ai,Lb.par.injEq,h0,h1,reduceCtorEq,if_false]
           exact hU _ fun p' ed e=>hk (by simp only[Lb.par.injEq] at e;subst e;exact ed)
     |_=>simp[Lb.entry] at he
   · simp[wB,nt,cG,put,b7,r0,r8,bb]
   · intro z hz
     simp only[mK,List.mem_singleton] at hz
     subst hz
     simp[dS,ai,de]
     simp[aS,ay]
   · intro l hl p' ed
     simp only[List.mem_singleton] at hl
     subst hl
     simp[dS,bO];split<;>simp
   · intro p' ed
     refine⟨by simp[bO];split<;>simp[Lb.fresh],?_⟩
     unfold bO;split<;>simp[Lb.entry]
 · intro q
   obtain⟨H0,pk⟩:∃H0,H0=sy (bO (.gen 0)) (cz (b.gL t p q.i)) (fM (fun l=>l== .par 1) (mK b t q)):=⟨_,rfl⟩
   rw[←pk]
   have hB:bW (bO (.gen 0)) (b.gL t p q.i) H0:=by rw[pk];exact jx.lM (fun p1 p2 _ _ e=>jy FV e) _
   have hO:∀l:Lb,(∀p',bO (.gen 0) p'≠l)→H0 l=fM (fun l=>l== .par 1) (mK b t q) l:=fun l hl=>by rw[pk];exact dD _ fun p' _=>hl p'
   have a8:H0 (.loc 8)= .live ⟨1,ay ((aS (b.nodes.length+1) (t.kids.take q.i)).map a6)⟩:=(hO _ (by intro p';simp[bO];split<;>simp)).trans (by simp[fM,mK,jD,bG])
   have JA:H0 (.loc 10)= .unused:=(hO _ (by intro p';simp[bO];split<;>simp)).trans (by simp[fM,mK,jD,bG,Hp.none])
   have L8:H0 (.loc 47)= .unused:=(hO _ (by intro p';simp[bO];split<;>simp)).trans (by simp[fM,mK,jD,bG,Hp.none])
   have aN:∀l,H0 (NC 9 l)= .unused:=fun l=>(hO _ (by intro p';simp[bO,NC];split<;>simp)).trans (by simp[fM,mK,jD,bG,Hp.none,NC])
   have JB:∀k,H0 (.par k)≠ .unused→k<4+2*b.n0:=by
     intro k hu
     refine Decidable.byContradiction fun hk=>hu ?_
     rw[pk,dD _ fun p' ed e=> ?_]
     · have:k≠1:=by omega
       simp[fM,mK,jD,bG,Hp.none,this]
     · have h2:=a9.1 ed
       unfold bO at e;split at e<;>simp at e
       subst e;exact hk h2
   clear pk hO
   have hi:=q.hi
   have sx:(aS (b.nodes.length+1) (t.kids.take q.i)).length=q.i:=by rw[ep,List.length_take];omega
   have OF:=jP (t.kids.take q.i)
   have OT:=gn t.kids q.i
   simp only[↓aX,mX,reduceCtorEq,Nat.reduceEqDiff,Nat.reduceLT,Nat.reduceLeDiff,Nat.reduceAdd,Nat.reduceMul,Int.reduceToNat,Int.reduceLE,Int.reduceLT,wB]
   refine nu (fun h=> ?_) (fun h=> ?_)
   · have cj:q.i<t.kids.length:=by simpa using h
     obtain⟨k,nE⟩:∃k,t.kids[q.i]?=some k:=⟨_,List.getElem?_eq_getElem cj⟩
     have hw:IntKind.i64.wrap ((q.i:Int)+1)=((q.i+1:Nat):Int):=wrap64 (by omega) (by omega)
     have o4:t.kids.take (q.i+1)=t.kids.take q.i++[k]:=eo nE
     have FL:di (t.kids.take q.i)+k.wt≤di t.kids:=by
       have:=gn t.kids (q.i+1)
       rw[o4,fW] at this
       simp only[di] at this;omega
     simp only[↓aX,mX,reduceCtorEq,Nat.reduceEqDiff,Nat.reduceLT,Nat.reduceLeDiff,Nat.reduceAdd,Nat.reduceMul,Int.reduceToNat,Int.reduceLE,Int.reduceLT,gC,nE,l9,Tree.bL,Tree.cs,JA]
     have u0:(b.gL t p q.i).nodes.length=b.nodes.length+1+bC (t.kids.take q.i):=by simp[Bn.gL,ik];omega
     refine gV (lab:=bO (.gen 0)) (N:=NC 9) (hR (b.gL t p q.i) k (List.mem_of_getElem? nE) rfl (by rw[u0];omega) (by rw[u0];omega)) ?_ ?_ ?_ (mG 9) (fun l h=> .inl h) (fun p' ed=>a9.2 (fZ.1 ed).1) ?_
     · simp[cn,cG,rW,bO,Tree.av]
     · exact(hB.iW (by intro p' _;simp[bO];split<;>simp)).iW (by intro p' _;simp[bO];split<;>simp)
     · intro l;rw[aq _ _ (by simp[NC]),aq _ _ (by simp[NC])];exact aN l
     · rintro X R2 cQ H2 ⟨rfl,rfl⟩ g1 g2 g3 g4 g5 g6
       have xH:∀n:Nat,n≠10→H2 (.loc n)=H0 (.loc n):=fun n hn=>by
         rw[g4 (.loc n) (by intro p' _;simp[bO];split<;>simp) (by simp[NC]),aq _ _ (by simpa using hn),aq _ _ (by simpa using hn)]
       have At:∀p':Nat,(cz ((b.gL t p q.i).add k b.nodes.length)).ok p'→∀n,cQ p'≠ .loc n:=by
         intro p' ed n
         rcases g3 p' ed with⟨p0,_,e⟩|⟨l,e⟩<;>rw[e]
         · simp[bO];split<;>simp
         · simp[NC]
       have Mv:∀p',p'<4+2*b.n0→p'≠1→cQ p'= .par p':=fun p' h1 h2=>by rw[g2 p' (fZ.2 ⟨h1,h2⟩)];simp[bO,h2]
       simp only[↓aX,mX,reduceCtorEq,Nat.reduceEqDiff,Nat.reduceLT,Nat.reduceLeDiff,Nat.reduceAdd,Nat.reduceMul,Int.reduceToNat,Int.reduceLE,Int.reduceLT]
       rw[jO 1 8 47 8 ((aS (b.nodes.length+1) (t.kids.take q.i)).map a6) (.int .i64 (b.gL t p q.i).nodes.length) (by rw[xH 8 (by decide),a8]) (by rw[List.length_map,sx]) rfl (by simp[IV.cells]) (by omega) (by decide) (by decide) (by rw[xH 47 (by decide),L8])]
       simp only[↓aX,mX,reduceCtorEq,Nat.reduceEqDiff,Nat.reduceLT,Nat.reduceLeDiff,Nat.reduceAdd,Nat.reduceMul,Int.reduceToNat,Int.reduceLE,Int.reduceLT,hw]
       have yb:aS (b.nodes.length+1) (t.kids.take (q.i+1))=aS (b.nodes.length+1) (t.kids.take q.i)++[((b.gL t p q.i).nodes.length:Int)]:=by
         rw[o4,hZ,u0];simp[aS]
       have nI:(b.gL t p q.i).add k b.nodes.length=b.gL t p (q.i+1):=by
         show({(b.gL t p q.i) with nodes:=(b.gL t p q.i).nodes++k.flat (b.gL t p q.i).nodes.length b.nodes.length}:Bn)=_
         rw[u0]
         simp[Bn.gL,o4,jY,cR]
       rw[nI] at g1 At
       refine⟨⟨q.i+1,cj⟩,by simp only;omega,cQ,[(.loc 8,.loc 47)],?_⟩
       have r0:iK (bO (.gen 0)) cQ (cz (b.gL t p (q.i+1))) [(.loc 8,.loc 47)] (.par 0)= .par 0:=
         (fG (labC:=bO (.gen 0)) (fun p1 p2 _ _ e=>jy FV e) (p:=0) (a9.2 (by omega))).trans (Mv 0 (by omega) (by decide))
       have r8:iK (bO (.gen 0)) cQ (cz (b.gL t p (q.i+1))) [(.loc 8,.loc 47)] (.loc 8)= .loc 47:=(eR (by intro p' _;simp[bO];split<;>simp)).trans (by simp[dS])
       refine⟨(g1.iW fun p' ed=>At p' ed 8).iW fun p' ed=>At p' ed 47,?_,?_,?_,by simp[dS],?_,by simp[dS,Lb.fresh,Lb.entry],?_⟩
       · intro l he hu
         cases l with
         |par k'=>
           by_cases h1:k'=1
           · subst h1;right;right;rfl
           · left
             refine⟨k',a9.2 ?_,by simp[bO,h1]⟩
             refine Decidable.byContradiction fun nV=>nV ?_
             refine JB k' ?_
             rw[aq _ _ (by simp),aq _ _ (by simp),g4 (.par k') ?_ (by simp[NC]),aq _ _ (by simp),aq _ _ (by simp)] at hu
             · exact hu
             · intro p' ed e
               simp only[bO] at e;split at e<;>simp at e
               subst e;exact nV ((a9 (b:=b.gL t p q.i)).1 ed)
         |_=>simp[Lb.entry] at he
       · simp[wB,nt,cG,put,kF,r0,r8]
       · intro z hz
         simp only[mK,List.mem_singleton] at hz
         subst hz
         simp[dS,ai,de]
         rw[yb];simp[ay,a6]
       · intro l hl p' ed
         simp only[List.mem_singleton] at hl
         subst hl
         simpa[dS] using At p' ed 47
       · intro p' ed
         refine⟨by simp[bO];split<;>simp[Lb.fresh],?_⟩
         unfold bO;split
         · simp[Lb.entry]
         · rename_i h1;intro _;exact Mv p' ((a9 (b:=b.gL t p (q.i+1))).1 ed) h1
   · have he:q.i=t.kids.length:=by simp at h;omega
     have hs:H0 (.par 0)= .live ⟨3,[[.sl (.gen 0) 5 0 (b.gL t p q.i).nodes.length,.sl (.par 2) 1 0 b.fs.length,.sl (.par 3) 1 0 b.as.length]]⟩:=hB.s
     have xW:H0 (.gen 0)= .live ⟨5,(b.gL t p q.i).nodes.mapIdx (cx b.n0 (bO (.gen 0)))⟩:=hB.n
     have o4:t.kids.take q.i=t.kids:=by rw[he];simp
     rw[o4] at a8 sx
     have hx:(b.gL t p q.i).nodes[b.nodes.length]?=some ⟨t.text,t.s,t.attrs,p,[]⟩:=by simp[Bn.gL]
     have hlen:b.nodes.length<(b.gL t p q.i).nodes.length:=(List.getElem?_eq_some_iff.1 hx).1
     simp only[↓aX,mX,reduceCtorEq,Nat.reduceEqDiff,Nat.reduceLT,Nat.reduceLeDiff,Nat.reduceAdd,Nat.reduceMul,Int.reduceToNat,Int.reduceLE,Int.reduceLT]
     refine⟨1,(aS (b.nodes.length+1) t.kids).map a6,0,q.i,rfl,a8,by rw[List.length_map,sx];omega,mb _,?_⟩
     simp only[↓aX,mX,reduceCtorEq,Nat.reduceEqDiff,Nat.reduceLT,Nat.reduceLeDiff,Nat.reduceAdd,Nat.reduceMul,Int.reduceToNat,Int.reduceLE,Int.reduceLT,hs,xW,List.length_mapIdx,hlen,Int.natCast_nonneg,Int.toNat_natCast,and_self,true_and,Nat.zero_add,hB.get hx,r_ hn]
     have cM:((b.gL t p q.i).nodes.mapIdx (cx b.n0 (bO (.gen 0))))[b.nodes.length]?=some [.bool t.text,.str t.s,.list (dY t.attrs),.int .i64 p,.list []]:=by
       have:=hB.get hx
       rw[show(b.gL t p q.i).n0=b.n0 from rfl,r_ hn] at this
       exact this
     have OU:((aS (b.nodes.length+1) t.kids).map a6).take q.i=(aS (b.nodes.length+1) t.kids).map a6:=List.take_of_length_le (by rw[List.length_map,sx];omega)
     simp only[↓aX,mX,reduceCtorEq,Nat.reduceEqDiff,Nat.reduceLT,Nat.reduceLeDiff,Nat.reduceAdd,Nat.reduceMul,Int.reduceToNat,Int.reduceLE,Int.reduceLT,cM,OU]
     have OV:(b.gL t p q.i).set b.nodes.length {(⟨t.text,t.s,t.attrs,p,[]⟩:Node) with kids:=aS (b.nodes.length+1) t.kids}=b.add t p:=by
       unfold Bn.set Bn.gL Bn.add
       simp only[o4,Tree.kG,Tree.node]
       rw[List.set_append_right _ _ (Nat.le_refl _)]
       simp
     refine⟨⟨fun _=> .int .i64 b.nodes.length,cz (b.add t p),bO (.gen 0)⟩,⟨rfl,rfl⟩,fun ρ=>rfl,by simp[AV.aI],rfl,?_,?_⟩
     · rw[←OV]
       refine bW.OP (H:=bG H0 (.loc 8) .dead) (hB.iW (by intro p' _;simp[bO];split<;>simp)) (i:=b.nodes.length) hn hx ?_ ?_
       · show bG _ _ _ (Lb.gen 0)=_
         simp[ai]
         rfl
       · intro l hl
         have:l≠ .gen 0:=hl
         simp[ai,this]
     · intro p' ed
       have:=(fZ.1 ed).2
       simp[bO,this]
theorem sa:∀{l:List Tree} {k:Tree},k∈l→k.dg≤bC l
 |x::r,k,h=>by
  rcases List.mem_cons.1 h with rfl|h
  ·simp only[bC];omega
  ·have:=sa h;simp only[bC];omega
def JP (P:Program) (G:Nat→Option (List IV)) (f:Nat):Prop:=∀xs:List Attr,xs.length≤B→az P G f [.list (dY xs)] (.list (dY xs))
theorem Mw {bg ah:Nat} (hF:aA P G bg=some (58,[(none,6)],(et ah bg).bare)) (hC:JP P G ah):∀(m:Nat) (t:Tree),t.dg≤m→∀(b:Bn),b.n0≤b.nodes.length→∀(p:Int),b.nodes.length+t.wt≤B →
  n5 P G bg [.ptr (.par 0) 3 0 0,t.av,.int .i64 p] (cz b) (b.Bt 1) fun X R2=>X=(fun _=> .int .i64 b.nodes.length)∧R2=cz (b.add t p)
 |0,t,h,_,_,_,_=>by have:=t.cu;omega
 |m+1,t,h,b,hn,p,hb=>by
  have hw:=t.iB;have hl:=jM t.attrs;refine Mt hF b hn t p hb (hC _ (by omega)) fun b' k hk h0 h1 h2=> ?_
  have h3:b'.Bt 1=b.Bt 1:=by unfold Bn.Bt;rw[h0]
  rw[←h3];obtain⟨i,hi⟩:=List.getElem?_of_mem hk;have:=sa hk;exact Mw hF hC m k (by rw[t.gm] at h;omega) b' (by omega) _ h2
end
end Go.Am

/- The bench: trees put in as kids. -/
set_option pp.deepTerms false
set_option pp.deepTerms.threshold 5
namespace Go.Am
open Go Go.RowKit
def Bn.ec (b:Bn) (p:Nat) (l:List Tree):Bn:={b with nodes:=b.nodes++cR b.nodes.length p l}
def Bn.ins (b:Bn) (p pl:Nat) (l:List Tree):Bn:=match b.nodes[p]? with
 |some x=>(b.ec p l).set p {x with kids:=x.kids.take pl++aS b.nodes.length l++x.kids.drop pl}
 |none=>b
def Bn.yq (b:Bn) (p q:Nat):List Nat:=(List.range (4+2*b.n0)).filter fun i=>i≠p∧i≠q
theorem gY {b:Bn} {p q i:Nat}:i∈b.yq p q↔i<4+2*b.n0∧i≠p∧i≠q:=by simp[Bn.yq]
def JQ (P:Program) (G:Nat→Option (List IV)) (f:Nat):Prop:=∀(xs vs:List Int) (i:Nat),i≤xs.length→xs.length+vs.length≤B →
 rV P G 1 f [.sl (.par 0) 1 0 xs.length,.int .i64 i,.list (vs.map a6)] (xs.map a6) ((xs.take i++vs++xs.drop i).map a6)
def CZ (P:Program) (G:Nat→Option (List IV)) (f:Nat):Prop:=∀(xs:List Int) (i:Nat),i<xs.length→xs.length≤B →
 rV P G 1 f [.sl (.par 0) 1 0 xs.length,.int .i64 i,.int .i64 ((i+1:Nat):Int)] (xs.map a6) ((xs.take i++xs.drop (i+1)).map a6)
def OW (P:Program) (G:Nat→Option (List IV)) (f:Nat):Prop:=∀(t:Tree) (b:Bn),b.n0≤b.nodes.length→∀(p:Int),b.nodes.length+t.wt≤B →
 n5 P G f [.ptr (.par 0) 3 0 0,t.av,.int .i64 p] (cz b) (b.Bt 1) fun X R2=>X=(fun _=> .int .i64 b.nodes.length)∧R2=cz (b.add t p)
section
variable {P:Program} {G:Nat→Option (List IV)}
def ez (bg bh:Nat):AC:=
(.seq (.aM [⟨some 8,none,.ak (.c .nil0)⟩]) (.gh (.own 8 1) (.seq (.seq (.aM [⟨some 11,none,.ak (.t 3)⟩,⟨some 12,none,.len (.t 11)⟩,⟨some 13,none,.ak (.c (.int .i64 0))⟩]) (.block 0 (.loop (.seq (.aM [⟨some 14,none,.bin .lss (.t 13) (.t 12)⟩]) (.seq (.cond (.t 14) .skip (.exit 0)) (.seq (.block 1 (.seq (.aM [⟨some 15,none,.fJ (.t 11) (.t 13) 4⟩,⟨some 16,none,.load (some 4) (.t 15)⟩,⟨some 10,none,.new [(.bool false),(.str []),.nil0,.nil0]⟩,⟨none,none,.store 4 (.t 10) (.t 16)⟩]) (.aM [⟨some 17,none,.ak (.t 8)⟩,⟨some 18,none,.ak (.t 0)⟩,⟨some 19,none,.load (some 4) (.t 10)⟩,⟨some 20,none,.ak (.t 1)⟩,⟨some 21,none,.call bg [(.t 18),(.t 19),(.t 20)]⟩,⟨some 22,none,.lits 1 1 [(.int .i64 0)] [(0,(.t 21))]⟩,⟨some 23,none,.app (.t 17) (.t 22) 1 8⟩,⟨some 8,none,.ak (.t 23)⟩]))) (.aM [⟨some 24,none,.bin .add (.t 13) (.c (.int .i64 1))⟩,⟨some 13,none,.ak (.t 24)⟩]))))))) (.gh (.Ez (.loc 8) 8) (.eY [⟨some 25,none,.ak (.t 0)⟩,⟨some 26,none,.ef (.t 25)⟩,⟨some 27,none,.bV (.t 26) 0⟩,⟨some 28,none,.load none (.t 27)⟩,⟨some 29,none,.ak (.t 1)⟩,⟨some 30,none,.ak (.t 0)⟩,⟨some 31,none,.ef (.t 30)⟩,⟨some 32,none,.bV (.t 31) 0⟩,⟨some 33,none,.load none (.t 32)⟩,⟨some 34,none,.ak (.t 1)⟩,⟨some 35,none,.fJ (.t 33) (.t 34) 5⟩,⟨some 36,none,.bV (.t 35) 4⟩,⟨some 37,none,.load none (.t 36)⟩,⟨some 38,none,.ak (.t 2)⟩,⟨some 39,none,.ak (.t 8)⟩,⟨some 40,none,.call bh [(.t 37),(.t 38),(.t 39)]⟩,⟨some 41,none,.fJ (.t 28) (.t 29) 5⟩,⟨some 42,none,.bV (.t 41) 4⟩,⟨none,none,.store 1 (.t 42) (.t 40)⟩] [[],[0],[1],[2],[],[],[5],[6],[7],[],[8,9],[10],[11],[],[],[12,13,14],[3,4,0,1,2,3,4,5,6,7,8,9,10,11,12,13,14,15],[16,0,1,2,3,4,5,6,7,8,9,10,11,12,13,14,15],[17,15,15,0,1,2,3,4,5,6,7,8,9,10,11,12,13,14,15]] [.no,.no,.no,(.rw [(.par 0)] []),.no,.no,.no,.no,(.rw [(.par 0)] []),.no,.no,.no,(.rw [(.gen 0)] []),.no,.no,(.qx [(.par 0)]),.no,.no,(.rw [] [(.gen 0)])])))))
structure FW (l:List Tree) where
 i:Nat
 hi:i≤l.length
def wC (b:Bn) (p pl:Nat) (l:List Tree) (q:FW l):List (Nat×AV):=
 [(0,.ptr (.par 0) 3 0 0),(1,.int .i64 p),(2,.int .i64 pl),(8,.sl (.loc 8) 1 0 q.i),(11,.list (dc l)),(12,.int .i64 l.length),(13,.int .i64 q.i)]
def mf (b:Bn) (l:List Tree) (q:FW l):List (Lb×Row):=
 [(.loc 8,⟨1,ay ((aS b.nodes.length (l.take q.i)).map a6)⟩)]
theorem FX {af bg bh : Nat} (hF : aA P G af = some (43,[],(ez bg bh).bare)) (b : Bn) (hn : b.n0 ≤ b.nodes.length) (p pl : Nat) (hp : p < b.n0) (x : Node) (hx : b.nodes[p]? = some x) (BD : pl ≤ x.kids.length)
   (l:List Tree) (hb:b.nodes.length+di l≤B) (CI:x.kids.length+l.length≤B) (hA:OW P G bg) (hI:JQ P G bh) :
   n5 P G af [.ptr (.par 0) 3 0 0,.int .i64 p,.int .i64 pl,.list (dc l)] (cz b) (b.yq 1 (5+2*p)) fun X R2=>X=(fun _=> .dU [])∧R2=cz (b.ins p pl l):=by
 refine dZ hF (by simp) (by simp[ax,AV.aI,a9,Tree.av];omega) ?_
 have dE:bW Lb.par b (eC (cz b)):=eF _
 have hU:∀q:Lb,(∀p,p<4+2*b.n0→q≠ .par p)→eC (cz b) q= .unused:=fun q hq=>dD _ fun p hp e=>hq p (a9.1 hp) e.symm
 have h8:eC (cz b) (.loc 8)= .unused:=hU _ (by simp)
 have yU:=fu l
 have pw:B=1073741824:=rfl
 have FV:∀p',p'≠1→Lb.gen 0≠ .par p':=by simp
 have SC:∀q:FW l,cz (b.ec p (l.take q.i))=cz (b.ec p (l.take q.i)):=fun _=>rfl
 unfold ez
 simp only[↓aX,mX,reduceCtorEq,Nat.reduceEqDiff,Nat.reduceLT,Nat.reduceLeDiff,Nat.reduceAdd,Nat.reduceMul,Int.reduceToNat,Int.reduceLE,Int.reduceLT,h8]
 refine oR (σ:=FW l) (bO (.gen 0)) (fun q=>cz (b.ec p (l.take q.i))) [.loc 8] (fun l=>l== .par 1) (wC b p pl l) (mf b l) (fun q=>l.length - q.i) ⟨0,Nat.zero_le _⟩
   (fun q p1 p2 _ _ e=>jy FV e) (fun _=>rfl) (by simp[bO];intro _ p' _;split<;>simp) ?_ ?_ ?_ ?_
 · intro q l' hl
   simp[ax,AV.aI,wC] at hl
   rcases hl with rfl|rfl
   · right;exact⟨0,a9.2 (by omega),by simp[bO]⟩
   · left;simp
 · intro q z hz cs b5 l' hl
   simp only[mf,List.mem_singleton] at hz
   subst hz
   rw[dK b5] at hl;simp at hl
 · have sH:b.ec p (l.take 0)=b:=by simp[Bn.ec,cR]
   refine⟨Lb.par,[],?_⟩
   have r0:iK (bO (.gen 0)) Lb.par (cz (b.ec p (l.take 0))) [] (.par 0)= .par 0:=
     fG (labC:=bO (.gen 0)) (fun p1 p2 _ _ e=>jy FV e) (p:=0) (a9.2 (by omega))
   have r8:iK (bO (.gen 0)) Lb.par (cz (b.ec p (l.take 0))) [] (.loc 8)= .loc 8:=eR (by intro p' _;simp[bO];split<;>simp)
   refine⟨?_,?_,?_,?_,by simp[dS],?_,by simp[dS,Lb.fresh,Lb.entry],?_⟩
   · simp only[sH];exact dE.iW (by simp)
   · intro l' he hu
     cases l' with
     |par k=>
       by_cases h1:k=1
       · subst h1;right;right;rfl
       · left
         refine⟨k,a9.2 ?_,by simp[bO,h1]⟩
         refine Decidable.byContradiction fun hk=>hu ?_
         simp only[ai,reduceCtorEq,if_false]
         exact hU _ fun p' ed e=>hk (by simp only[Lb.par.injEq] at e;subst e;exact ed)
     |_=>simp[Lb.entry] at he
   · simp[wC,nt,cG,put,b7,bb]
     exact⟨r0.symm,r8.symm⟩
   · intro z hz
     simp only[mf,List.mem_singleton] at hz
     subst hz
     simp[dS,ai,de]
     simp[aS,ay]
   · intro l' hl p' ed
     simp only[List.mem_singleton] at hl
     subst hl
     simp[dS]
   · intro p' ed
     refine⟨by simp[bO];split<;>simp[Lb.fresh],?_⟩
     unfold bO;split<;>simp[Lb.entry]
 · intro q
   obtain⟨H0,pk⟩:∃H0,H0=sy (bO (.gen 0)) (cz (b.ec p (l.take q.i))) (fM (fun l=>l== .par 1) (mf b l q)):=⟨_,rfl⟩
   rw[←pk]
   have hB:bW (bO (.gen 0)) (b.ec p (l.take q.i)) H0:=by rw[pk];exact jx.lM (fun p1 p2 _ _ e=>jy FV e) _
   have hO:∀l':Lb,(∀p',bO (.gen 0) p'≠l')→H0 l'=fM (fun l=>l== .par 1) (mf b l q) l':=fun l' hl=>by rw[pk];exact dD _ fun p' _=>hl p'
   have a8:H0 (.loc 8)= .live ⟨1,ay ((aS b.nodes.length (l.take q.i)).map a6)⟩:=(hO _ (by intro p';simp[bO];split<;>simp)).trans (by simp[fM,mf,jD,bG])
   have JA:H0 (.loc 10)= .unused:=(hO _ (by intro p';simp[bO];split<;>simp)).trans (by simp[fM,mf,jD,bG,Hp.none])
   have RA:H0 (.loc 23)= .unused:=(hO _ (by intro p';simp[bO];split<;>simp)).trans (by simp[fM,mf,jD,bG,Hp.none])
   have ag:H0 (.gen 40)= .unused:=(hO _ (by intro p';simp[bO];split<;>simp)).trans (by simp[fM,mf,jD,bG,Hp.none])
   have aN:∀l,H0 (NC 9 l)= .unused:=fun l'=>(hO _ (by intro p';simp[bO,NC];split<;>simp)).trans (by simp[fM,mf,jD,bG,Hp.none,NC])
   have JB:∀k,H0 (.par k)≠ .unused→k<4+2*b.n0:=by
     intro k hu
     refine Decidable.byContradiction fun hk=>hu ?_
     rw[pk,dD _ fun p' ed e=> ?_]
     · have:k≠1:=by omega
       simp[fM,mf,jD,bG,Hp.none,this]
     · have h2:=(a9 (b:=b.ec p (l.take q.i))).1 ed
       unfold bO at e;split at e<;>simp at e
       subst e;exact hk h2
   clear pk hO
   have hi:=q.hi
   have sx:(aS b.nodes.length (l.take q.i)).length=q.i:=by rw[ep,List.length_take];omega
   have OF:=jP (l.take q.i)
   have OT:=gn l q.i
   simp only[↓aX,mX,reduceCtorEq,Nat.reduceEqDiff,Nat.reduceLT,Nat.reduceLeDiff,Nat.reduceAdd,Nat.reduceMul,Int.reduceToNat,Int.reduceLE,Int.reduceLT,wC]
   refine nu (fun h=> ?_) (fun h=> ?_)
   · have cj:q.i<l.length:=by simpa using h
     obtain⟨k,nE⟩:∃k,l[q.i]?=some k:=⟨_,List.getElem?_eq_getElem cj⟩
     have hw:IntKind.i64.wrap ((q.i:Int)+1)=((q.i+1:Nat):Int):=wrap64 (by omega) (by omega)
     have o4:l.take (q.i+1)=l.take q.i++[k]:=eo nE
     have FL:di (l.take q.i)+k.wt≤di l:=by
       have:=gn l (q.i+1)
       rw[o4,fW] at this
       simp only[di] at this;omega
     simp only[↓aX,mX,reduceCtorEq,Nat.reduceEqDiff,Nat.reduceLT,Nat.reduceLeDiff,Nat.reduceAdd,Nat.reduceMul,Int.reduceToNat,Int.reduceLE,Int.reduceLT,gC,nE,l9,Tree.bL,Tree.cs,JA]
     have u0:(b.ec p (l.take q.i)).nodes.length=b.nodes.length+bC (l.take q.i):=by simp[Bn.ec,ik]
     refine gV (lab:=bO (.gen 0)) (N:=NC 9) (hA k (b.ec p (l.take q.i)) (by rw[u0];show b.n0≤_;omega) p (by rw[u0];omega)) ?_ ?_ ?_ (mG 9) (fun l h=> .inl h) (fun p' ed=>a9.2 (fZ.1 ed).1) ?_
     · simp[cn,cG,rW,bO,Tree.av]
     · exact(hB.iW (by intro p' _;simp[bO];split<;>simp)).iW (by intro p' _;simp[bO];split<;>simp)
     · intro l';rw[aq _ _ (by simp[NC]),aq _ _ (by simp[NC])];exact aN l'
     · rintro X R2 cQ H2 ⟨rfl,rfl⟩ g1 g2 g3 g4 g5 g6
       have xH:∀n:Nat,n≠10→H2 (.loc n)=H0 (.loc n):=fun n hn=>by
         rw[g4 (.loc n) (by intro p' _;simp[bO];split<;>simp) (by simp[NC]),aq _ _ (by simpa using hn),aq _ _ (by simpa using hn)]
       have At:∀p':Nat,(cz ((b.ec p (l.take q.i)).add k p)).ok p'→∀n,cQ p'≠ .loc n:=by
         intro p' ed n
         rcases g3 p' ed with⟨p0,_,e⟩|⟨l,e⟩<;>rw[e]
         · simp[bO];split<;>simp
         · simp[NC]
       have Mv:∀p',p'<4+2*b.n0→p'≠1→cQ p'= .par p':=fun p' h1 h2=>by rw[g2 p' (fZ.2 ⟨h1,h2⟩)];simp[bO,h2]
       simp only[↓aX,mX,reduceCtorEq,Nat.reduceEqDiff,Nat.reduceLT,Nat.reduceLeDiff,Nat.reduceAdd,Nat.reduceMul,Int.reduceToNat,Int.reduceLE,Int.reduceLT]
       rw[jO 1 8 23 8 ((aS b.nodes.length (l.take q.i)).map a6) (.int .i64 (b.ec p (l.take q.i)).nodes.length) (by rw[xH 8 (by decide),a8]) (by rw[List.length_map,sx]) rfl (by simp[IV.cells]) (by omega) (by decide) (by decide) (by rw[xH 23 (by decide),RA])]
       simp only[↓aX,mX,reduceCtorEq,Nat.reduceEqDiff,Nat.reduceLT,Nat.reduceLeDiff,Nat.reduceAdd,Nat.reduceMul,Int.reduceToNat,Int.reduceLE,Int.reduceLT,hw]
       have yb:aS b.nodes.length (l.take (q.i+1))=aS b.nodes.length (l.take q.i)++[((b.ec p (l.take q.i)).nodes.length:Int)]:=by
         rw[o4,hZ,u0];simp[aS]
       have nI:(b.ec p (l.take q.i)).add k p=b.ec p (l.take (q.i+1)):=by
         show({(b.ec p (l.take q.i)) with nodes:=(b.ec p (l.take q.i)).nodes++k.flat (b.ec p (l.take q.i)).nodes.length p}:Bn)=_
         rw[u0]
         simp[Bn.ec,o4,jY,cR]
       rw[nI] at g1 At
       refine⟨⟨q.i+1,cj⟩,by simp only;omega,cQ,[(.loc 8,.loc 23)],?_⟩
       have r0:iK (bO (.gen 0)) cQ (cz (b.ec p (l.take (q.i+1)))) [(.loc 8,.loc 23)] (.par 0)= .par 0:=
         (fG (labC:=bO (.gen 0)) (fun p1 p2 _ _ e=>jy FV e) (p:=0) (a9.2 (by omega))).trans (Mv 0 (by omega) (by decide))
       have r8:iK (bO (.gen 0)) cQ (cz (b.ec p (l.take (q.i+1)))) [(.loc 8,.loc 23)] (.loc 8)= .loc 23:=(eR (by intro p' _;simp[bO];split<;>simp)).trans (by simp[dS])
       refine⟨(g1.iW fun p' ed=>At p' ed 8).iW fun p' ed=>At p' ed 23,?_,?_,?_,by simp[dS],?_,by simp[dS,Lb.fresh,Lb.entry],?_⟩
       · intro l' he hu
         cases l' with
         |par k'=>
           by_cases h1:k'=1
           · subst h1;right;right;rfl
           · left
             refine⟨k',a9.2 ?_,by simp[bO,h1]⟩
             refine Decidable.byContradiction fun nV=>nV ?_
             refine JB k' ?_
             rw[aq _ _ (by simp),aq _ _ (by simp),g4 (.par k') ?_ (by simp[NC]),aq _ _ (by simp),aq _ _ (by simp)] at hu
             · exact hu
             · intro p' ed e
               simp only[bO] at e;split at e<;>simp at e
               subst e;exact nV ((a9 (b:=b.ec p (l.take q.i))).1 ed)
         |_=>simp[Lb.entry] at he
       · simp[wC,nt,cG,put,kF,r0,r8]
       · intro z hz
         simp only[mf,List.mem_singleton] at hz
         subst hz
         simp[dS,ai,de]
         rw[yb];simp[ay,a6]
       · intro l' hl p' ed
         simp only[List.mem_singleton] at hl
         subst hl
         simpa[dS] using At p' ed 23
       · intro p' ed
         refine⟨by simp[bO];split<;>simp[Lb.fresh],?_⟩
         unfold bO;split
         · simp[Lb.entry]
         · rename_i h1;intro _;exact Mv p' ((a9 (b:=b.ec p (l.take (q.i+1)))).1 ed) h1
   · have he:q.i=l.length:=by simp at h;omega
     have o4:l.take q.i=l:=by rw[he];simp
     rw[o4] at a8 sx hB
     have hs:H0 (.par 0)= .live ⟨3,[[.sl (.gen 0) 5 0 (b.ec p l).nodes.length,.sl (.par 2) 1 0 b.fs.length,.sl (.par 3) 1 0 b.as.length]]⟩:=hB.s
     have xW:H0 (.gen 0)= .live ⟨5,(b.ec p l).nodes.mapIdx (cx b.n0 (bO (.gen 0)))⟩:=hB.n
     have RB:p<b.nodes.length:=by omega
     have Hl:(b.ec p l).nodes[p]?=some x:=by simp only[Bn.ec];rw[List.getElem?_append_left RB];exact hx
     have hlen:p<(b.ec p l).nodes.length:=(List.getElem?_eq_some_iff.1 Hl).1
     have h5:¬5+2*p=1:=by omega
     have zB:H0 (.par (5+2*p))= .live ⟨1,ay (x.kids.map a6)⟩:=by
       have:=hB.kd hp Hl
       simpa[bO,h5] using this
     have cM:((b.ec p l).nodes.mapIdx (cx b.n0 (bO (.gen 0))))[p]?=some [.bool x.text,.str x.s,.sl (.par (4+2*p)) 2 0 x.attrs.length,.int .i64 x.parent,.sl (.par (5+2*p)) 1 0 x.kids.length]:=by
       have:=hB.get Hl
       rw[show(b.ec p l).n0=b.n0 from rfl,cU hp] at this
       rw[this]
       have h4:¬4+2*p=1:=by omega
       simp[bO,h4,h5]
     have OU:((aS b.nodes.length l).map a6).take q.i=(aS b.nodes.length l).map a6:=List.take_of_length_le (by rw[List.length_map,sx];omega)
     simp only[↓aX,mX,reduceCtorEq,Nat.reduceEqDiff,Nat.reduceLT,Nat.reduceLeDiff,Nat.reduceAdd,Nat.reduceMul,Int.reduceToNat,Int.reduceLE,Int.reduceLT]
     refine⟨1,(aS b.nodes.length l).map a6,0,q.i,rfl,a8,by rw[List.length_map,sx];omega,mb _,?_⟩
     simp only[↓aX,mX,reduceCtorEq,Nat.reduceEqDiff,Nat.reduceLT,Nat.reduceLeDiff,Nat.reduceAdd,Nat.reduceMul,Int.reduceToNat,Int.reduceLE,Int.reduceLT,hs,xW,List.length_mapIdx,hlen,Int.natCast_nonneg,Int.toNat_natCast,and_self,true_and,Nat.zero_add,cM,OU]
     refine⟨rfl,?_⟩
     have JR:(aS b.nodes.length l).length=l.length:=ep _ _
     have OX:b.ins p pl l=(b.ec p l).set p {x with kids:=x.kids.take pl++aS b.nodes.length l++x.kids.drop pl}:=by unfold Bn.ins;rw[hx]
     have OY:∀k,bO (.gen 0) k≠ .loc 8:=by intro p';simp[bO];split<;>simp
     have RC:bW (bO (.gen 0)) (b.ec p l) (bG H0 (.loc 8) .dead):=hB.iW fun p' _=>OY p'
     have key:∀N:Lb,(N= .par (5+2*p)∨N= .gen 40)→∀H2:Hp,H2 (.gen 0)= .live ⟨5,((b.ec p l).nodes.mapIdx (cx b.n0 (bO (.gen 0)))).set p [.bool x.text,.str x.s,.sl (.par (4+2*p)) 2 0 x.attrs.length,.int .i64 x.parent,.sl N 1 0 (x.kids.take pl++aS b.nodes.length l++x.kids.drop pl).length]⟩ →
         H2 N= .live ⟨1,ay ((x.kids.take pl++aS b.nodes.length l++x.kids.drop pl).map a6)⟩→(∀q,q≠ .gen 0→q≠N→q≠ .par (5+2*p)→H2 q=bG H0 (.loc 8) .dead q) →
         ∃t:((Nat→Lb)→AV)×kS×(Nat→Lb),(t.1=(fun _=> .dU [])∧t.2.1=cz (b.ins p pl l))∧(∀ρ,cG ρ (t.1 t.2.2)=t.1 fun i=>ρ (t.2.2 i))∧(∀l∈(AV.dU []).aI,∃p,t.2.1.ok p∧l=t.2.2 p)∧AV.dU []=t.1 t.2.2∧jx t.2.2 t.2.1 H2∧∀p'∈b.yq 1 (5+2*p),t.2.2 p'= .par p':=by
       intro N hN H2 e1 e2 e3
       refine⟨⟨fun _=> .dU [],cz (b.ins p pl l),fun p'=>if p'=5+2*p then N else bO (.gen 0) p'⟩,⟨rfl,rfl⟩,fun ρ=>by simp[cG,cn],by simp[AV.aI,ax],rfl,?_,?_⟩
       · rw[OX]
         have h4:¬4+2*p=1:=by omega
         refine bW.FP RC hp Hl ?_ (by rw[show bO (.gen 0) (4+2*p)= .par (4+2*p) by simp[bO,h4]];exact e1) e2 (fun q g1 g2 g3=>e3 q g1 g2 (by simpa[bO,h5] using g3))
         rcases hN with rfl|rfl
         · left;simp[bO,h5]
         · right;intro p' _;simp[bO];split<;>simp
       · intro p' ed
         obtain⟨_,q1,q2⟩:=gY.1 ed
         simp[q1,q2,bO]
     refine qE (l:= .par (5+2*p)) (N:= .gen 40) (hI x.kids (aS b.nodes.length l) pl BD (by rw[JR];exact CI)) rfl (by rw[aq _ _ (by simp)];exact zB) (by rw[aq _ _ (by simp)];exact ag) (by simp[Lb.fresh]) (by simp[Lb.iJ]) (by simp[Lb.iJ]) ?_ ?_
     · simp only[↓aX,mX,reduceCtorEq,Nat.reduceEqDiff,Nat.reduceLT,Nat.reduceLeDiff,Nat.reduceAdd,Nat.reduceMul,Int.reduceToNat,Int.reduceLE,Int.reduceLT,hs,xW,List.length_mapIdx,hlen,Int.natCast_nonneg,Int.toNat_natCast,and_self,true_and,Nat.zero_add,cM,List.length_map]
       rw[gJ]
       refine⟨[],rfl,key (.gen 40) (.inr rfl) _ (by simp[ai]) (by simp[ai]) ?_⟩
       intro q g1 g2 g3
       simp[ai,g1,g2,g3]
     · simp only[↓aX,mX,reduceCtorEq,Nat.reduceEqDiff,Nat.reduceLT,Nat.reduceLeDiff,Nat.reduceAdd,Nat.reduceMul,Int.reduceToNat,Int.reduceLE,Int.reduceLT,hs,xW,List.length_mapIdx,hlen,Int.natCast_nonneg,Int.toNat_natCast,and_self,true_and,Nat.zero_add,cM,List.length_map]
       rw[gJ]
       refine⟨[],rfl,key (.par (5+2*p)) (.inl rfl) _ (by simp[ai]) (by simp[ai]) ?_⟩
       intro q g1 g2 g3
       simp[ai,g1,g2,g3]
end
end Go.Am
