import Derived.Test.YtfeijflhfhkbnaaGreatDoorKT60
import Derived.Test.YtfeijflhfhkbnaaGreatDoorKAm34
import Derived.Test.YtfeijflhfhkbnaaGreatDoorKAm48
set_option linter.all false
/- Attributes sorted: merges. -/
namespace Go.Am
open Go Go.RowKit
section
variable {P:Program} {G:Nat->Option (List IV)}
def dL {σ:Type} {ps:σ->List (Nat×AV)} {rs:σ->List (Lb×Row)} {env:Env} {H:Hp} {s:σ} (h1:∀z,z≠ .par 0->H z= .unused) (h2:sv env (ps s)) (h3:Cb H (rs s)):WS [.par 0] ps rs env H s:=
 ⟨λz _ hu=>by
  by_cases e:z= .par 0
  ·subst e;simp
  exact absurd (h1 z e) hu,h2,h3⟩
def am0 {ys:List IV} {n:Nat} {ls:List Lb}:∀w∈[(Lb.par 0,(⟨n,aB ys⟩:Row))],∀cs∈w.2.els,∀l∈ah cs,l∈ls:=by
 intro w hw cs bV z hz;simp only[bY] at hw;subst hw;rw[bU bV] at hz;simp at hz
abbrev kP (l:List Attr):AV->List IV->Prop:=λ_ ys=>∃zs:List Attr,ys=cD zs/\zs.Perm l
def cO:AC:=
(aM [gH 10 0] (.block 0 (.loop (.seq (aM [MR 11 10,MR 12 3,et 13 .lss 11 12] (.cond (.t 13) .skip (.exit 0))) (.seq (.block 1 (.VL [MR 16 0,MR 17 1,MR 18 10,et 19 .add 17 18,MR 20 0,MR 21 2,MR 22 10,et 23 .add 21 22,MR 24 0,MR 25 2,MR 26 10,et 27 .add 25 26,jL 28 24 27 2,gz 29 2 28,MR 30 0,MR 31 1,MR 32 10,et 33 .add 31 32,jL 34 30 33 2,gz 35 2 34,jL 36 16 19 2,gg (.store 2 (.t 36) (.t 29)),jL 37 20 23 2,gg (.store 2 (.t 37) (.t 35))] [[],[],[],[1,2],[],[],[],[5,6],[],[],[],[9,10],[8,11],[12],[],[],[],[15,16],[14,17],[18],[0,3,0,1,2,3,8,9,10,11,12,13,19],[20,13,0,1,2,3,8,9,10,11,12,13,19],[4,7,0,1,2,3,4,5,6,7,8,9,10,11,12,13,14,15,16,17,18,19,20,21],[22,19,21,0,1,2,3,4,5,6,7,8,9,10,11,12,13,14,15,16,17,18,19,20,21]] [.no,.no,.no,.no,.no,.no,.no,.no,.no,.no,.no,.no,.no,(.rw [(.par 0)] []),.no,.no,.no,.no,.no,(.rw [(.par 0)] []),.no,(.rw [] [(.par 0)]),.no,(.rw [] [(.par 0)])])) (.cq [MR 14 10,eY 15 .add 14 1,MR 10 15]))))))
def tF {uO:Nat} (c:AV) (hc:c.an=[]) (hF:aw P G uO=some (38,[],cO.bare)) (l:List Attr) (hl:l.length<=B) (a b n:Nat) (ha:a+n<=l.length) (hb:b+n<=l.length) :
  ig P G uO [.sl (.par 0) 2 0 l.length,.int .i64 a,.int .i64 b,.int .i64 n,c] 2 (cD l) (kP l):=by
 refine al7 hF tM (by simp[ah,AV.an,hc]) ?_;have zo:B=1073741824:=rfl;unfold cO;simp only[↓aX,mX,seval,df];refine ca (σ:={q:Nat×List Attr // q.1<=n/\q.2.Perm l}) [.par 0] (λq=>[(0,.sl (.par 0) 2 0 l.length),(1,.int .i64 a),(2,.int .i64 b),(3,.int .i64 n),(10,.int .i64 q.1.1)]) (λq=>[(.par 0,⟨2,aB (cD q.1.2)⟩)]) (λq=>n - q.1.1)
  ⟨(0,l),zd _,.refl _⟩ (λ_=>rfl) M3 aae ?_ ?_ ?_
 ·exactλ_=>am0
 ·exact dL (λz e=>by simp[ae,e,Hp.none]) aah aah
 rintro⟨⟨i,M⟩,hi,hM⟩;simp only at hi hM;have rU:M.length=l.length:=hM.length_eq;simp only[↓aX,mX,seval,cF,bW];by_cases bI:i<n
 ·rw[show decide (((i:Nat):Int)<((n:Nat):Int))=true by simpa using bI];have hw:IntKind.i64.wrap ((i:Int)+1)=((i+1:Nat):Int):=wrap64 sf sf;have Ef:IntKind.i64.wrap ((a:Int)+(i:Int))=((a+i:Nat):Int):=wrap64 sf sf;have LX:IntKind.i64.wrap ((b:Int)+(i:Int))=((b+i:Nat):Int):=wrap64 sf sf;obtain⟨x,hx⟩:∃x,M[a+i]?=some x:=⟨_,rX sf⟩;obtain⟨y,hy⟩:∃y,M[b+i]?=some y:=⟨_,rX sf⟩;simp only[↓aX,mX,seval];refine⟨aax,?_⟩;simp only[↓aX,mX,seval,Ef,LX,QJ,Qj,bM,ik hx,ik hy,show a+i<l.length by omega,show b+i<l.length by omega,eP];rw[m_ M (a+i) y];obtain⟨y2,o8⟩:∃y2,(M.set (a+i) y)[b+i]?=some y2:=⟨_,rX (by rw[List.length_set];omega)⟩;simp only[↓aX,mX,seval,ik o8,hw];exact⟨⟨(i+1,(M.set (a+i) y).set (b+i) x),bI,(swap_perm hx hy).trans hM⟩,aac,by
   exact dL (λz e=>by simp[ae,e,Hp.none]) aah ⟨by simp only[ae,Rc];rw[m_],trivial⟩⟩
 rw[show decide (((i:Nat):Int)<((n:Nat):Int))=false by simpa using bI];simp only[↓aX,mX,seval,lM,ef,gD];exact⟨_,rfl,cD M,⟨M,rfl,hM⟩,aao,by rw[bp,bp,rU],aai⟩
def alo (uO:Nat):AC:=
(aM [MR 12 2,MR 13 1,et 14 .sub 12 13,MR 10 14] (aM [MR 15 3,MR 16 2,et 17 .sub 15 16,MR 11 17] (.seq (.block 0 (.loop (.seq (aM [MR 18 10,MR 19 11,et 20 .neq 18 19] (.cond (.t 20) .skip (.exit 0))) (.block 1 (aM [MR 21 10,MR 22 11,et 23 .gtr 21 22] (.cond (.t 23) (aM [MR 24 0,MR 25 2,MR 26 10,et 27 .sub 25 26,MR 28 2,MR 29 11,MR 30 4,aQ 31 (.call uO [(.t 24),(.t 27),(.t 28),(.t 29),(.t 30)])] (.cq [MR 32 10,MR 33 11,et 34 .sub 32 33,MR 10 34])) (aM [MR 35 0,MR 36 2,MR 37 10,et 38 .sub 36 37,MR 39 2,MR 40 11,et 41 .add 39 40,MR 42 10,et 43 .sub 41 42,MR 44 10,MR 45 4,aQ 46 (.call uO [(.t 35),(.t 38),(.t 43),(.t 44),(.t 45)])] (.cq [MR 47 11,MR 48 10,et 49 .sub 47 48,MR 11 49])))))))) (.cq [MR 50 0,MR 51 2,MR 52 10,et 53 .sub 51 52,MR 54 2,MR 55 10,MR 56 4,aQ 57 (.call uO [(.t 50),(.t 53),(.t 54),(.t 55),(.t 56)])]))))
def Bt {bw uO:Nat} (dC:Nat) (hF:aw P G bw=some (58,[],(alo uO).bare))
  (hS:∀(l:List Attr),l.length<=B->∀a b n:Nat,a+n<=l.length->b+n<=l.length->ig P G uO [.sl (.par 0) 2 0 l.length,.int .i64 a,.int .i64 b,.int .i64 n,.fn dC [] []] 2 (cD l) (kP l))
  (l:List Attr) (hl:l.length<=B) (a m b:Nat) (ha:a<m) (hm:m<b) (hb:b<=l.length) :
  ig P G bw [.sl (.par 0) 2 0 l.length,.int .i64 a,.int .i64 m,.int .i64 b,.fn dC [] []] 2 (cD l) (kP l):=by
 refine al7 hF tM aae ?_;have zo:B=1073741824:=rfl;have pU:IntKind.i64.wrap ((m:Int) - (a:Int))=((m - a:Nat):Int):=by rw[wrap64 sf sf];omega
 have wB:IntKind.i64.wrap ((b:Int) - (m:Int))=((b - m:Nat):Int):=by rw[wrap64 sf sf];omega
 unfold alo;simp only[↓aX,mX,seval,df,pU,wB];refine ca (σ:={q:Nat×Nat×List Attr // 0<q.1/\q.1<=m/\0<q.2.1/\m+q.2.1<=l.length/\q.2.2.Perm l}) [.par 0] (λq=>[(0,.sl (.par 0) 2 0 l.length),(2,.int .i64 m),(4,.fn dC [] []),(10,.int .i64 q.1.1),(11,.int .i64 q.1.2.1)]) (λq=>[(.par 0,⟨2,aB (cD q.1.2.2)⟩)]) (λq=>q.1.1+q.1.2.1)
  ⟨(m - a,b - m,l),aac,aac,aac,aac,.refl _⟩ (λ_=>rfl) M3 aae ?_ ?_ ?_
 ·exactλ_=>am0
 ·exact dL (λz e=>by simp[ae,e,Hp.none]) aah aah
 rintro⟨⟨i,j,M⟩,hi,A2,hj,FE,hM⟩;simp only at hi A2 hj FE hM;have rU:M.length=l.length:=hM.length_eq;have E9:IntKind.i64.wrap ((m:Int) - (i:Int))=((m - i:Nat):Int):=by rw[wrap64 sf sf];omega
 have hs:=hS M sf;rw[rU] at hs;simp only[↓aX,mX,seval,cF,bW];by_cases Vi:i=j
 ·rw[show(((i:Nat):Int) !=((j:Nat):Int))=false by simp[Vi]];simp only[↓aX,mX,seval,E9];refine cT (l:= .par 0) (hs (m - i) m i sf sf) aas aai ?_;rintro x1 ys ⟨zs,rfl,hz⟩ _ zL;simp only[↓aX,mX,seval,lM,ef,gD];exact⟨_,rfl,cD zs,⟨zs,rfl,hz.trans hM⟩,aao,by rw[bp,bp,(hz.trans hM).length_eq],aai⟩
 rw[show(((i:Nat):Int) !=((j:Nat):Int))=true by rw[sd];omega];simp only[↓aX,mX,seval];by_cases PS:j<i
 ·have Es:IntKind.i64.wrap ((i:Int) - (j:Int))=((i - j:Nat):Int):=by rw[wrap64 sf sf];omega
  rw[show decide (((i:Nat):Int)>((j:Nat):Int))=true by simpa using PS];simp only[↓aX,mX,seval,E9];refine cT (l:= .par 0) (hs (m - i) m j sf sf) aas aai ?_;rintro x1 ys ⟨zs,rfl,hz⟩ _ zL;simp only[↓aX,mX,seval,Es];exact⟨⟨(i - j,j,zs),aac,aac,hj,FE,hz.trans hM⟩,aac,by
   exact dL (λz e=>by simp[ae,e,Hp.none]) aah aah⟩
 have Es:IntKind.i64.wrap ((m:Int)+(j:Int))=((m+j:Nat):Int):=wrap64 sf sf;have HQ:IntKind.i64.wrap (((m+j:Nat):Int) - (i:Int))=((m+j - i:Nat):Int):=by rw[wrap64 sf sf];omega
 have LY:IntKind.i64.wrap ((j:Int) - (i:Int))=((j - i:Nat):Int):=by rw[wrap64 sf sf];omega
 rw[show decide (((i:Nat):Int)>((j:Nat):Int))=false by simpa using PS];simp only[↓aX,mX,seval,E9,Es,HQ];refine cT (l:= .par 0) (hs (m - i) (m+j - i) i sf sf) aas aai ?_;rintro x1 ys ⟨zs,rfl,hz⟩ _ zL;simp only[↓aX,mX,seval,LY];exact⟨⟨(i,j - i,zs),hi,A2,aac,aac,hz.trans hM⟩,aac,by
  exact dL (λz e=>by simp[ae,e,Hp.none]) aah aah⟩
def oo {x y:Nat} (h:x+y<=2^40):IntKind.i64.wrap (IntKind.u64.wrap (IntKind.i64.wrap ((x:Int)+(y:Int)))/2^min 1 IntKind.u64.bits)=(((x+y)/2:Nat):Int):=by
 have hb:(2:Nat)^40=1099511627776:=M3
 have h1:IntKind.i64.wrap ((x:Int)+(y:Int))=((x+y:Nat):Int):=wrap64 sf sf;have h2:IntKind.u64.wrap ((x+y:Nat):Int)=((x+y:Nat):Int):=by
  rw[IntKind.wrap_u64];omega
 have h3:min 1 IntKind.u64.bits=1:=M3
 rw[h1,h2,h3];have h4:((x+y:Nat):Int)/2^1=(((x+y)/2:Nat):Int):=sf
 rw[h4,wrap64 sf sf]
def gC (f x y z n:Nat):AC:= .seq (.cq [⟨some n,none,.iC (.t x)⟩,⟨some (n+1),none,.iC (.t y)⟩,⟨some (n+2),none,.bin .lss (.t n) (.t (n+1))⟩,⟨some (n+3),none,.iC (.t (n+2))⟩,⟨some (n+4),some (n+3,true),.iC (.t y)⟩,⟨some (n+5),some (n+3,true),.iC (.t z)⟩,⟨some (n+6),some (n+3,true),.bin .lss (.t (n+4)) (.t (n+5))⟩,⟨some (n+7),none,.pick (.t (n+3)) (.t (n+6)) (.c (.bool false))⟩])
 (.cond (.t (n+7)) (.cq [⟨some (n+8),none,.iC (.t 0)⟩,⟨some (n+9),none,.iC (.t x)⟩,⟨some (n+10),none,.iC (.t y)⟩,⟨some (n+11),none,.iC (.t z)⟩,⟨some (n+12),none,.iC (.t 4)⟩,⟨some (n+13),none,.call f [.t (n+8),.t (n+9),.t (n+10),.t (n+11),.t (n+12)]⟩]) .skip)
def pG {S:St} {Q:gI} {f g x y z n a m b:Nat} {k:List It} {l M:List Attr} {env:Env} {H:Hp} (hN:S.N=220) (hn:(x=20/\y=2/\z=24/\n=178)\/(x=1/\y=20/\z=18/\n=192)\/(x=18/\y=24/\z=3/\n=206)) (hM:M.Perm l)
  (h0:env 0= .sl (.par 0) 2 0 l.length) (h4:env 4= .fn g [] []) (hx:env x= .int .i64 a) (hy:env y= .int .i64 m) (hz:env z= .int .i64 b) (hH:H (.par 0)= .live ⟨2,aB (cD M)⟩)
  (hC:a<m->m<b->ig S.P S.G f [.sl (.par 0) 2 0 l.length,.int .i64 a,.int .i64 m,.int .i64 b,.fn g [] []] 2 (cD M) (kP M))
  (hk:∀M':List Attr,M'.Perm l->∀(E:Env) (H':Hp),(∀i,i<n->E i=env i)->H' (.par 0)= .live ⟨2,aB (cD M')⟩->go S Q k E H'):go S Q (.code (gC f x y z n)::k) env H:=by
 have he:∀{E:Env} {i j:Nat} {v:AV},i<n->n<=j->E i=env i->put E j v i=env i:=λ{E i j v} h1 h2 h=>by unfold put;rw[Ev sf];exact h
 unfold gC;by_cases q1:a<m
 ·by_cases q2:m<b
  ·rcases hn with⟨rfl,rfl,rfl,rfl⟩|⟨rfl,rfl,rfl,rfl⟩|⟨rfl,rfl,rfl,rfl⟩
   all_goals
    simp only[↓aX,mX,seval,hN,h0,h4,hx,hy,hz,show decide (((a:Nat):Int)<((m:Nat):Int))=true by simpa using q1,show decide (((m:Nat):Int)<((b:Nat):Int))=true by simpa using q2];refine cT (l:= .par 0) (hC q1 q2) aas hH ?_;rintro x1 ys ⟨M',rfl,LZ⟩ _ _;refine hk M' (LZ.trans hM) _ _ (λi hi=> ?_) aai
    repeat (refine he hi M3 ?_)
    rfl
  rcases hn with⟨rfl,rfl,rfl,rfl⟩|⟨rfl,rfl,rfl,rfl⟩|⟨rfl,rfl,rfl,rfl⟩
  all_goals
   simp only[↓aX,mX,seval,hN,h0,h4,hx,hy,hz,show decide (((a:Nat):Int)<((m:Nat):Int))=true by simpa using q1,show decide (((m:Nat):Int)<((b:Nat):Int))=false by simpa using q2];refine hk M hM _ _ (λi hi=> ?_) hH
   repeat (refine he hi M3 ?_)
   rfl
 rcases hn with⟨rfl,rfl,rfl,rfl⟩|⟨rfl,rfl,rfl,rfl⟩|⟨rfl,rfl,rfl,rfl⟩
 all_goals
  simp only[↓aX,mX,seval,hN,h0,h4,hx,hy,hz,show decide (((a:Nat):Int)<((m:Nat):Int))=false by simpa using q1];refine hk M hM _ _ (λi hi=> ?_) hH
  repeat (refine he hi M3 ?_)
  rfl
def cQ (bw aC:Nat):AC:=
(.seq (aM [MR 25 2,MR 26 1,et 27 .sub 25 26,eY 28 .eql 27 1] (.cond (.t 28) (aM [MR 29 2,MR 10 29] (aM [MR 30 3,MR 11 30] (.seq (.block 0 (.loop (.seq (aM [MR 31 10,MR 32 11,et 33 .lss 31 32] (.cond (.t 33) .skip (.exit 0))) (.block 1 (aM [MR 34 10,MR 35 11,et 36 .add 34 35,aQ 37 (.qK .u64 (.t 36)),aQ 38 (.bin .shr (.t 37) (.c (.int .u64 1))),aQ 39 (.qK .i64 (.t 38)),MR 12 39] (.seq (.VL [MR 40 4,MR 41 0,MR 42 12,jL 43 41 42 2,gz 44 2 43,MR 45 0,MR 46 1,jL 47 45 46 2,gz 48 2 47,aQ 49 (.fM (.t 40) [(.t 44),(.t 48)]),eY 50 .lss 49 0] [[],[],[],[1,2],[3],[],[],[5,6],[7],[0,4,8],[9]] [.no,.no,.no,.no,(.rw [(.par 0)] []),.no,.no,.no,(.rw [(.par 0)] []),.no,.no]) (.cond (.t 50) (.cq [MR 51 12,eY 52 .add 51 1,MR 10 52]) (.cq [MR 53 12,MR 11 53])))))))) (.seq (aM [MR 54 1,MR 13 54] (.block 2 (.loop (.seq (aM [MR 55 13,MR 56 10,eY 57 .sub 56 1,et 58 .lss 55 57] (.cond (.t 58) .skip (.exit 2))) (.seq (.block 3 (.VL [MR 61 0,MR 62 13,MR 63 0,MR 64 13,eY 65 .add 64 1,MR 66 0,MR 67 13,eY 68 .add 67 1,jL 69 66 68 2,gz 70 2 69,MR 71 0,MR 72 13,jL 73 71 72 2,gz 74 2 73,jL 75 61 62 2,gg (.store 2 (.t 75) (.t 70)),jL 76 63 65 2,gg (.store 2 (.t 76) (.t 74))] [[],[],[],[],[3],[],[],[6],[5,7],[8],[],[],[10,11],[12],[0,1,0,1,5,6,7,8,9,13],[14,9,0,1,5,6,7,8,9,13],[2,4,0,1,2,3,4,5,6,7,8,9,10,11,12,13,14,15],[16,13,15,0,1,2,3,4,5,6,7,8,9,10,11,12,13,14,15]] [.no,.no,.no,.no,.no,.no,.no,.no,.no,(.rw [(.par 0)] []),.no,.no,.no,(.rw [(.par 0)] []),.no,(.rw [] [(.par 0)]),.no,(.rw [] [(.par 0)])])) (.cq [MR 59 13,eY 60 .add 59 1,MR 13 60])))))) .ret)))) .skip)) (.seq (aM [MR 77 3,MR 78 2,et 79 .sub 77 78,eY 80 .eql 79 1] (.cond (.t 80) (aM [MR 81 1,MR 14 81] (aM [MR 82 2,MR 15 82] (.seq (.block 4 (.loop (.seq (aM [MR 83 14,MR 84 15,et 85 .lss 83 84] (.cond (.t 85) .skip (.exit 4))) (.block 5 (aM [MR 86 14,MR 87 15,et 88 .add 86 87,aQ 89 (.qK .u64 (.t 88)),aQ 90 (.bin .shr (.t 89) (.c (.int .u64 1))),aQ 91 (.qK .i64 (.t 90)),MR 16 91] (.seq (.VL [MR 92 4,MR 93 0,MR 94 2,jL 95 93 94 2,gz 96 2 95,MR 97 0,MR 98 16,jL 99 97 98 2,gz 100 2 99,aQ 101 (.fM (.t 92) [(.t 96),(.t 100)]),eY 102 .lss 101 0,sB 103 102] [[],[],[],[1,2],[3],[],[],[5,6],[7],[0,4,8],[9],[10]] [.no,.no,.no,.no,(.rw [(.par 0)] []),.no,.no,.no,(.rw [(.par 0)] []),.no,.no,.no]) (.cond (.t 103) (.cq [MR 104 16,eY 105 .add 104 1,MR 14 105]) (.cq [MR 106 16,MR 15 106])))))))) (.seq (aM [MR 107 2,MR 17 107] (.block 6 (.loop (.seq (aM [MR 108 17,MR 109 14,et 110 .gtr 108 109] (.cond (.t 110) .skip (.exit 6))) (.seq (.block 7 (.VL [MR 113 0,MR 114 17,MR 115 0,MR 116 17,eY 117 .sub 116 1,MR 118 0,MR 119 17,eY 120 .sub 119 1,jL 121 118 120 2,gz 122 2 121,MR 123 0,MR 124 17,jL 125 123 124 2,gz 126 2 125,jL 127 113 114 2,gg (.store 2 (.t 127) (.t 122)),jL 128 115 117 2,gg (.store 2 (.t 128) (.t 126))] [[],[],[],[],[3],[],[],[6],[5,7],[8],[],[],[10,11],[12],[0,1,0,1,5,6,7,8,9,13],[14,9,0,1,5,6,7,8,9,13],[2,4,0,1,2,3,4,5,6,7,8,9,10,11,12,13,14,15],[16,13,15,0,1,2,3,4,5,6,7,8,9,10,11,12,13,14,15]] [.no,.no,.no,.no,.no,.no,.no,.no,.no,(.rw [(.par 0)] []),.no,.no,.no,(.rw [(.par 0)] []),.no,(.rw [] [(.par 0)]),.no,(.rw [] [(.par 0)])])) (.cq [MR 111 17,eY 112 .sub 111 1,MR 17 112])))))) .ret)))) .skip)) (aM [MR 129 1,MR 130 3,et 131 .add 129 130,aQ 132 (.qK .u64 (.t 131)),aQ 133 (.bin .shr (.t 132) (.c (.int .u64 1))),aQ 134 (.qK .i64 (.t 133)),MR 18 134] (aM [MR 135 18,MR 136 2,et 137 .add 135 136,MR 19 137] (aM [gH 20 0,gH 21 0] (.seq (aM [MR 138 2,MR 139 18,et 140 .gtr 138 139] (.cond (.t 140) (aM [MR 141 19,MR 142 3,et 143 .sub 141 142,MR 20 143] (.cq [MR 144 18,MR 21 144])) (aM [MR 145 1,MR 20 145] (.cq [MR 146 2,MR 21 146])))) (aM [MR 147 19,eY 148 .sub 147 1,MR 22 148] (.seq (.block 8 (.loop (.seq (aM [MR 149 20,MR 150 21,et 151 .lss 149 150] (.cond (.t 151) .skip (.exit 8))) (.block 9 (aM [MR 152 20,MR 153 21,et 154 .add 152 153,aQ 155 (.qK .u64 (.t 154)),aQ 156 (.bin .shr (.t 155) (.c (.int .u64 1))),aQ 157 (.qK .i64 (.t 156)),MR 23 157] (.seq (.VL [MR 158 4,MR 159 0,MR 160 22,MR 161 23,et 162 .sub 160 161,jL 163 159 162 2,gz 164 2 163,MR 165 0,MR 166 23,jL 167 165 166 2,gz 168 2 167,aQ 169 (.fM (.t 158) [(.t 164),(.t 168)]),eY 170 .lss 169 0,sB 171 170] [[],[],[],[],[2,3],[1,4],[5],[],[],[7,8],[9],[0,6,10],[11],[12]] [.no,.no,.no,.no,.no,.no,(.rw [(.par 0)] []),.no,.no,.no,(.rw [(.par 0)] []),.no,.no,.no]) (.cond (.t 171) (.cq [MR 172 23,eY 173 .add 172 1,MR 20 173]) (.cq [MR 174 23,MR 21 174])))))))) (aM [MR 175 19,MR 176 20,et 177 .sub 175 176,MR 24 177] (.seq (gC bw 20 2 24 178) (.seq (gC aC 1 20 18 192) (gC aC 18 24 3 206))))))))))))
set_option maxHeartbeats 2000000 in
def wb {aC bw dC:Nat} (hF:aw P G aC=some (220,[],(cQ bw aC).bare)) (HS:fU P dC=true) (hC:∀a b:Attr,au P G dC [a.yO,b.yO] (.int .i64 (om a b)))
  (hR:∀(l:List Attr),l.length<=B->∀a m b:Nat,a<m->m<b->b<=l.length->ig P G bw [.sl (.par 0) 2 0 l.length,.int .i64 a,.int .i64 m,.int .i64 b,.fn dC [] []] 2 (cD l) (kP l)) :
  ∀(k:Nat) (l:List Attr),l.length<=B->∀a m b:Nat,a<m->m<b->b<=l.length->b - a<=k->ig P G aC [.sl (.par 0) 2 0 l.length,.int .i64 a,.int .i64 m,.int .i64 b,.fn dC [] []] 2 (cD l) (kP l):=by
 intro k;induction k with
 |zero=>intro l hl a m b h1 h2 h3 h4;omega
 |succ k ih=>
 intro l hl a m b HT JZ hb hk;refine al7 hF tM aae ?_;have zo:B=1073741824:=rfl;have Ko:(2:Nat)^40=1099511627776:=M3
 have HU:∀x y:Attr,au P G dC [.agg [.str x.name,.str x.val],.agg [.str y.name,.str y.val]] (.int .i64 (om x y)):=hC;have pU:IntKind.i64.wrap ((m:Int) - (a:Int))=((m - a:Nat):Int):=by rw[wrap64 sf sf];omega
 have wB:IntKind.i64.wrap ((b:Int) - (m:Int))=((b - m:Nat):Int):=by rw[wrap64 sf sf];omega
 unfold cQ;simp only[↓aX,mX,seval,df,pU];by_cases hma:m - a=1
 ·rw[show(((m - a:Nat):Int)==1)=true by simp[hma]];simp only[↓aX,mX,seval];refine ca (σ:={q:Nat×Nat // m<=q.1/\q.1<=q.2/\q.2<=b}) [.par 0] (λq=>[(0,.sl (.par 0) 2 0 l.length),(1,.int .i64 a),(2,.int .i64 m),(3,.int .i64 b),(4,.fn dC [] []),(10,.int .i64 q.1.1),(11,.int .i64 q.1.2)]) (λ_=>[(.par 0,⟨2,aB (cD l)⟩)]) (λq=>q.1.2 - q.1.1)
   ⟨(m,b),Nat.le_refl _,aac,Nat.le_refl _⟩ (λ_=>rfl) M3 aae ?_ ?_ ?_
  ·exactλ_=>am0
  ·exact dL (λz e=>by simp[ae,e,Hp.none]) aah aah
  rintro⟨⟨i,j⟩,hi,Et,hj⟩;simp only at hi Et hj;simp only[↓aX,mX,seval,cF,bW];by_cases bI:i<j
  ·rw[show decide (((i:Nat):Int)<((j:Nat):Int))=true by simpa using bI];obtain⟨h,hh⟩:∃h,h=(i+j)/2:=⟨_,rfl⟩;have qz:=oo (x:=i) (y:=j) sf;rw[<-hh] at qz;obtain⟨x,hx⟩:∃x,l[h]?=some x:=⟨_,List.getElem?_eq_getElem sf⟩;obtain⟨y,hy⟩:∃y,l[a]?=some y:=⟨_,List.getElem?_eq_getElem sf⟩;have yT:IntKind.i64.wrap ((h:Int)+1)=((h+1:Nat):Int):=wrap64 sf sf;simp only[↓aX,mX,seval];refine⟨aax,?_⟩;simp only[↓aX,mX,seval,qz,Int.natCast_nonneg,Int.toNat_natCast,Nat.zero_add,ik hx,ik hy,show h<l.length by omega,show a<l.length by omega,kc,oi];refine⟨HS,jw (HU x y) ?_⟩;simp only[↓aX,mX,seval];cases nn:decide (om x y<0) with
   |true=>
    simp only[↓aX,mX,seval,qz,yT];exact⟨⟨(h+1,j),aac,aac,aac⟩,aac,by
     exact dL (λz e=>by simp[ae,e,Hp.none]) aah aah⟩
   |false=>
   simp only[↓aX,mX,seval,qz,yT];exact⟨⟨(i,h),aac,aac,aac⟩,aac,by
    exact dL (λz e=>by simp[ae,e,Hp.none]) aah aah⟩
  rw[show decide (((i:Nat):Int)<((j:Nat):Int))=false by simpa using bI];have G1:IntKind.i64.wrap ((i:Int) - 1)=((i - 1:Nat):Int):=by rw[wrap64 sf sf];omega
  simp only[↓aX,mX,seval,G1];refine ca (σ:={q:Nat×List Attr // a<=q.1/\q.1<=i - 1/\q.2.Perm l}) [.par 0] (λq=>[(0,.sl (.par 0) 2 0 l.length),(10,.int .i64 i),(13,.int .i64 q.1.1)]) (λq=>[(.par 0,⟨2,aB (cD q.1.2)⟩)]) (λq=>i - q.1.1)
   ⟨(a,l),Nat.le_refl _,aac,.refl _⟩ (λ_=>rfl) M3 aae ?_ ?_ ?_
  ·exactλ_=>am0
  ·exact dL (λz e=>by simp[ae,e,Hp.none]) aah aah
  rintro⟨⟨p,M⟩,zQ,B1,hM⟩;simp only at zQ B1 hM;have rU:M.length=l.length:=hM.length_eq;simp only[↓aX,mX,seval,cF,bW,G1];by_cases iG:p<i - 1
  ·rw[show decide (((p:Nat):Int)<((i - 1:Nat):Int))=true by rw[decide_eq_true_eq];omega];have hw:IntKind.i64.wrap ((p:Int)+1)=((p+1:Nat):Int):=wrap64 sf sf;obtain⟨x,hx⟩:∃x,M[p]?=some x:=⟨_,List.getElem?_eq_getElem sf⟩;obtain⟨y,hy⟩:∃y,M[p+1]?=some y:=⟨_,List.getElem?_eq_getElem sf⟩;simp only[↓aX,mX,seval];refine⟨aax,?_⟩;simp only[↓aX,mX,seval,hw,Int.natCast_nonneg,Int.toNat_natCast,Nat.zero_add,ik hx,ik hy,show p<l.length by omega,show p+1<l.length by omega,eP];rw[m_ M p y];obtain⟨y2,o8⟩:∃y2,(M.set p y)[p+1]?=some y2:=⟨_,List.getElem?_eq_getElem (by rw[List.length_set];omega)⟩;simp only[↓aX,mX,seval,ik o8,hw];exact⟨⟨(p+1,(M.set p y).set (p+1) x),aac,aac,(swap_perm hx hy).trans hM⟩,aac,by
    exact dL (λz e=>by simp[ae,e,Hp.none]) aah ⟨by simp only[ae,if_true];rw[m_],trivial⟩⟩
  rw[show decide (((p:Nat):Int)<((i - 1:Nat):Int))=false by rw[decide_eq_false_iff_not];omega];simp only[↓aX,mX,seval,B_,ef,gD];exact⟨_,rfl,cD M,⟨M,rfl,hM⟩,aao,by rw[bp,bp,rU],aai⟩
 rw[show(((m - a:Nat):Int)==1)=false by rw[beq_eq_false_iff_ne];omega];simp only[↓aX,mX,seval,wB];by_cases E5:b - m=1
 ·rw[show(((b - m:Nat):Int)==1)=true by simp[E5]];simp only[↓aX,mX,seval];refine ca (σ:={q:Nat×Nat // a<=q.1/\q.1<=q.2/\q.2<=m}) [.par 0] (λq=>[(0,.sl (.par 0) 2 0 l.length),(1,.int .i64 a),(2,.int .i64 m),(3,.int .i64 b),(4,.fn dC [] []),(14,.int .i64 q.1.1),(15,.int .i64 q.1.2)]) (λ_=>[(.par 0,⟨2,aB (cD l)⟩)]) (λq=>q.1.2 - q.1.1)
   ⟨(a,m),Nat.le_refl _,aac,Nat.le_refl _⟩ (λ_=>rfl) M3 aae ?_ ?_ ?_
  ·exactλ_=>am0
  ·exact dL (λz e=>by simp[ae,e,Hp.none]) aah aah
  rintro⟨⟨i,j⟩,hi,Et,hj⟩;simp only at hi Et hj;simp only[↓aX,mX,seval,cF,bW];by_cases bI:i<j
  ·rw[show decide (((i:Nat):Int)<((j:Nat):Int))=true by simpa using bI];obtain⟨h,hh⟩:∃h,h=(i+j)/2:=⟨_,rfl⟩;have qz:=oo (x:=i) (y:=j) sf;rw[<-hh] at qz;obtain⟨x,hx⟩:∃x,l[m]?=some x:=⟨_,List.getElem?_eq_getElem sf⟩;obtain⟨y,hy⟩:∃y,l[h]?=some y:=⟨_,List.getElem?_eq_getElem sf⟩;have yT:IntKind.i64.wrap ((h:Int)+1)=((h+1:Nat):Int):=wrap64 sf sf;simp only[↓aX,mX,seval];refine⟨aax,?_⟩;simp only[↓aX,mX,seval,qz,Int.natCast_nonneg,Int.toNat_natCast,Nat.zero_add,ik hx,ik hy,show m<l.length by omega,show h<l.length by omega,kc,oi];refine⟨HS,jw (HU x y) ?_⟩;simp only[↓aX,mX,seval];cases nn:decide (om x y<0) with
   |true=>
    simp only[↓aX,mX,seval,Bool.not_true,qz,yT];exact⟨⟨(i,h),aac,aac,aac⟩,aac,by
     exact dL (λz e=>by simp[ae,e,Hp.none]) aah aah⟩
   |false=>
   simp only[↓aX,mX,seval,Bool.not_false,qz,yT];exact⟨⟨(h+1,j),aac,aac,aac⟩,aac,by
    exact dL (λz e=>by simp[ae,e,Hp.none]) aah aah⟩
  rw[show decide (((i:Nat):Int)<((j:Nat):Int))=false by simpa using bI];simp only[↓aX,mX,seval];refine ca (σ:={q:Nat×List Attr // i<=q.1/\q.1<=m/\q.2.Perm l}) [.par 0] (λq=>[(0,.sl (.par 0) 2 0 l.length),(14,.int .i64 i),(17,.int .i64 q.1.1)]) (λq=>[(.par 0,⟨2,aB (cD q.1.2)⟩)]) (λq=>q.1.1)
   ⟨(m,l),aac,Nat.le_refl _,.refl _⟩ (λ_=>rfl) M3 aae ?_ ?_ ?_
  ·exactλ_=>am0
  ·exact dL (λz e=>by simp[ae,e,Hp.none]) aah aah
  rintro⟨⟨p,M⟩,zQ,B1,hM⟩;simp only at zQ B1 hM;have rU:M.length=l.length:=hM.length_eq;simp only[↓aX,mX,seval,cF,bW];by_cases iG:i<p
  ·rw[show decide (((p:Nat):Int)>((i:Nat):Int))=true by simpa using iG];have hw:IntKind.i64.wrap ((p:Int) - 1)=((p - 1:Nat):Int):=(by rw[wrap64 sf sf];omega);obtain⟨x,hx⟩:∃x,M[p]?=some x:=⟨_,List.getElem?_eq_getElem sf⟩;obtain⟨y,hy⟩:∃y,M[p - 1]?=some y:=⟨_,List.getElem?_eq_getElem sf⟩;simp only[↓aX,mX,seval];refine⟨aax,?_⟩;simp only[↓aX,mX,seval,hw,Int.natCast_nonneg,Int.toNat_natCast,Nat.zero_add,ik hx,ik hy,show p<l.length by omega,show p - 1<l.length by omega,eP];rw[m_ M p y];obtain⟨y2,o8⟩:∃y2,(M.set p y)[p - 1]?=some y2:=⟨_,List.getElem?_eq_getElem (by rw[List.length_set];omega)⟩;simp only[↓aX,mX,seval,ik o8,hw];exact⟨⟨(p - 1,(M.set p y).set (p - 1) x),aac,aac,(swap_perm hx hy).trans hM⟩,aac,by
    exact dL (λz e=>by simp[ae,e,Hp.none]) aah ⟨by simp only[ae,if_true];rw[m_],trivial⟩⟩
  rw[show decide (((p:Nat):Int)>((i:Nat):Int))=false by simpa using iG];simp only[↓aX,mX,seval,B_,ef,gD];exact⟨_,rfl,cD M,⟨M,rfl,hM⟩,aao,by rw[bp,bp,rU],aai⟩
 rw[show(((b - m:Nat):Int)==1)=false by rw[beq_eq_false_iff_ne];omega];obtain⟨lf,Jx⟩:∃lf,lf=(a+b)/2:=⟨_,rfl⟩;have G2:=oo (x:=a) (y:=b) sf;rw[<-Jx] at G2;have HV:IntKind.i64.wrap ((lf:Int)+(m:Int))=((lf+m:Nat):Int):=wrap64 sf sf;have Kz:IntKind.i64.wrap (((lf+m:Nat):Int) - 1)=((lf+m - 1:Nat):Int):=by rw[wrap64 sf sf];omega
 simp only[↓aX,mX,seval,G2,HV];by_cases PS:lf<m
 ·obtain⟨lo,qP⟩:∃lo,lo=lf+m - b:=⟨_,rfl⟩;have L2:IntKind.i64.wrap (((lf+m:Nat):Int) - (b:Int))=((lo:Nat):Int):=by rw[wrap64 sf sf];omega
  rw[show decide (((m:Nat):Int)>((lf:Nat):Int))=true by simpa using PS];simp only[↓aX,mX,seval,L2,Kz];refine ca (σ:={q:Nat×Nat // lo<=q.1/\q.1<=q.2/\q.2<=lf}) [.par 0] (λq=>[(0,.sl (.par 0) 2 0 l.length),(1,.int .i64 a),(2,.int .i64 m),(3,.int .i64 b),(4,.fn dC [] []),(20,.int .i64 q.1.1),(21,.int .i64 q.1.2),(18,.int .i64 lf),(19,.int .i64 ((lf+m:Nat):Int)),(22,.int .i64 ((lf+m - 1:Nat):Int))]) (λ_=>[(.par 0,⟨2,aB (cD l)⟩)]) (λq=>q.1.2 - q.1.1)
   ⟨(lo,lf),Nat.le_refl _,aac,Nat.le_refl _⟩ (λ_=>rfl) M3 aae ?_ ?_ ?_
  ·exactλ_=>am0
  ·exact dL (λz e=>by simp[ae,e,Hp.none]) aah aah
  rintro⟨⟨i,j⟩,hi,Et,hj⟩;simp only at hi Et hj;simp only[↓aX,mX,seval,cF,bW];by_cases bI:i<j
  ·rw[show decide (((i:Nat):Int)<((j:Nat):Int))=true by simpa using bI];obtain⟨h,hh⟩:∃h,h=(i+j)/2:=⟨_,rfl⟩;have qz:=oo (x:=i) (y:=j) sf;rw[<-hh] at qz;obtain⟨g,hg⟩:∃g,g=lf+m - 1 - h:=⟨_,rfl⟩;have Jy:IntKind.i64.wrap (((lf+m - 1:Nat):Int) - (h:Int))=((g:Nat):Int):=(by rw[wrap64 sf sf];omega);obtain⟨x,hx⟩:∃x,l[g]?=some x:=⟨_,List.getElem?_eq_getElem sf⟩;obtain⟨y,hy⟩:∃y,l[h]?=some y:=⟨_,List.getElem?_eq_getElem sf⟩;have yT:IntKind.i64.wrap ((h:Int)+1)=((h+1:Nat):Int):=wrap64 sf sf;simp only[↓aX,mX,seval];refine⟨aax,?_⟩;simp only[↓aX,mX,seval,qz,Jy,Int.natCast_nonneg,Int.toNat_natCast,Nat.zero_add,ik hx,ik hy,show g<l.length by omega,show h<l.length by omega,kc,oi];refine⟨HS,jw (HU x y) ?_⟩;simp only[↓aX,mX,seval];cases nn:decide (om x y<0) with
   |true=>
    simp only[↓aX,mX,seval,Bool.not_true,qz,yT];exact⟨⟨(i,h),aac,aac,aac⟩,aac,by
     exact dL (λz e=>by simp[ae,e,Hp.none]) aah aah⟩
   |false=>
   simp only[↓aX,mX,seval,Bool.not_false,qz,yT];exact⟨⟨(h+1,j),aac,aac,aac⟩,aac,by
    exact dL (λz e=>by simp[ae,e,Hp.none]) aah aah⟩
  rw[show decide (((i:Nat):Int)<((j:Nat):Int))=false by simpa using bI];obtain⟨e,he⟩:∃e,e=lf+m - i:=⟨_,rfl⟩;have Jz:IntKind.i64.wrap (((lf+m:Nat):Int) - (i:Int))=((e:Nat):Int):=by rw[wrap64 sf sf];omega
  simp only[↓aX,mX,seval,Jz];refine pG rfl (.inl ⟨rfl,rfl,rfl,rfl⟩) (.refl l) rfl rfl rfl rfl rfl aai (λq1 q2=>hR l hl i m e q1 q2 sf) λz1 ln E1 H1 e1 r1=> ?_;have l1:=ln.length_eq;simp only[↓aX,mX,seval];refine pG rfl (.inr (.inl ⟨rfl,rfl,rfl,rfl⟩)) ln (e1 0 M3) (e1 4 M3) (e1 1 M3) (e1 20 M3) (e1 18 M3) r1 (λq1 q2=>l1▸ih z1 sf a i lf q1 q2 sf sf) λz2 oz E2 H2 e2 r2=> ?_;have l2:=oz.length_eq;refine pG rfl (.inr (.inr ⟨rfl,rfl,rfl,rfl⟩)) oz ((e2 0 M3).trans (e1 0 M3)) ((e2 4 M3).trans (e1 4 M3)) ((e2 18 M3).trans (e1 18 M3)) ((e2 24 M3).trans (e1 24 M3)) ((e2 3 M3).trans (e1 3 M3)) r2 (λq1 q2=>l2▸ih z2 sf lf e b q1 q2 sf sf) λz3 G3 E3 H3 e3 r3=> ?_;simp only[↓aX,mX,seval,lM,ef,gD];exact⟨_,rfl,cD z3,⟨z3,rfl,G3⟩,aao,((bp _).trans G3.length_eq).trans (bp l).symm,r3⟩
 rw[show decide (((m:Nat):Int)>((lf:Nat):Int))=false by simpa using PS];simp only[↓aX,mX,seval,Kz];refine ca (σ:={q:Nat×Nat // a<=q.1/\q.1<=q.2/\q.2<=m}) [.par 0] (λq=>[(0,.sl (.par 0) 2 0 l.length),(1,.int .i64 a),(2,.int .i64 m),(3,.int .i64 b),(4,.fn dC [] []),(20,.int .i64 q.1.1),(21,.int .i64 q.1.2),(18,.int .i64 lf),(19,.int .i64 ((lf+m:Nat):Int)),(22,.int .i64 ((lf+m - 1:Nat):Int))]) (λ_=>[(.par 0,⟨2,aB (cD l)⟩)]) (λq=>q.1.2 - q.1.1)
  ⟨(a,m),Nat.le_refl _,aac,Nat.le_refl _⟩ (λ_=>rfl) M3 aae ?_ ?_ ?_
 ·exactλ_=>am0
 ·exact dL (λz e=>by simp[ae,e,Hp.none]) aah aah
 rintro⟨⟨i,j⟩,hi,Et,hj⟩;simp only at hi Et hj;simp only[↓aX,mX,seval,cF,bW];by_cases bI:i<j
 ·rw[show decide (((i:Nat):Int)<((j:Nat):Int))=true by simpa using bI];obtain⟨h,hh⟩:∃h,h=(i+j)/2:=⟨_,rfl⟩;have qz:=oo (x:=i) (y:=j) sf;rw[<-hh] at qz;obtain⟨g,hg⟩:∃g,g=lf+m - 1 - h:=⟨_,rfl⟩;have Jy:IntKind.i64.wrap (((lf+m - 1:Nat):Int) - (h:Int))=((g:Nat):Int):=by rw[wrap64 sf sf];omega
  obtain⟨x,hx⟩:∃x,l[g]?=some x:=⟨_,List.getElem?_eq_getElem sf⟩;obtain⟨y,hy⟩:∃y,l[h]?=some y:=⟨_,List.getElem?_eq_getElem sf⟩;have yT:IntKind.i64.wrap ((h:Int)+1)=((h+1:Nat):Int):=wrap64 sf sf;simp only[↓aX,mX,seval];refine⟨aax,?_⟩;simp only[↓aX,mX,seval,qz,Jy,Int.natCast_nonneg,Int.toNat_natCast,Nat.zero_add,ik hx,ik hy,show g<l.length by omega,show h<l.length by omega,kc,oi];refine⟨HS,jw (HU x y) ?_⟩;simp only[↓aX,mX,seval];cases nn:decide (om x y<0) with
  |true=>
   simp only[↓aX,mX,seval,Bool.not_true,qz,yT];exact⟨⟨(i,h),aac,aac,aac⟩,aac,by
    exact dL (λz e=>by simp[ae,e,Hp.none]) aah aah⟩
  |false=>
  simp only[↓aX,mX,seval,Bool.not_false,qz,yT];exact⟨⟨(h+1,j),aac,aac,aac⟩,aac,by
   exact dL (λz e=>by simp[ae,e,Hp.none]) aah aah⟩
 rw[show decide (((i:Nat):Int)<((j:Nat):Int))=false by simpa using bI];obtain⟨e,he⟩:∃e,e=lf+m - i:=⟨_,rfl⟩;have Jz:IntKind.i64.wrap (((lf+m:Nat):Int) - (i:Int))=((e:Nat):Int):=by rw[wrap64 sf sf];omega
 simp only[↓aX,mX,seval,Jz];refine pG rfl (.inl ⟨rfl,rfl,rfl,rfl⟩) (.refl l) rfl rfl rfl rfl rfl aai (λq1 q2=>hR l hl i m e q1 q2 sf) λz1 ln E1 H1 e1 r1=> ?_;have l1:=ln.length_eq;simp only[↓aX,mX,seval];refine pG rfl (.inr (.inl ⟨rfl,rfl,rfl,rfl⟩)) ln (e1 0 M3) (e1 4 M3) (e1 1 M3) (e1 20 M3) (e1 18 M3) r1 (λq1 q2=>l1▸ih z1 sf a i lf q1 q2 sf sf) λz2 oz E2 H2 e2 r2=> ?_;have l2:=oz.length_eq;refine pG rfl (.inr (.inr ⟨rfl,rfl,rfl,rfl⟩)) oz ((e2 0 M3).trans (e1 0 M3)) ((e2 4 M3).trans (e1 4 M3)) ((e2 18 M3).trans (e1 18 M3)) ((e2 24 M3).trans (e1 24 M3)) ((e2 3 M3).trans (e1 3 M3)) r2 (λq1 q2=>l2▸ih z2 sf lf e b q1 q2 sf sf) λz3 G3 E3 H3 e3 r3=> ?_;simp only[↓aX,mX,seval,lM,ef,gD];exact⟨_,rfl,cD z3,⟨z3,rfl,G3⟩,aao,((bp _).trans G3.length_eq).trans (bp l).symm,r3⟩

def alp (s3 aC:Nat):AC:=
(aM [gH 6 20] (aM [MR 10 6,gH 7 0,MR 8 10] (.seq (.block 0 (.loop (.seq (aM [MR 11 8,MR 12 1,et 13 .leq 11 12] (.cond (.t 13) .skip (.exit 0))) (.block 1 (aM [MR 14 0,MR 15 7,MR 16 8,MR 17 2,aQ 18 (.call s3 [(.t 14),(.t 15),(.t 16),(.t 17)])] (aM [MR 19 8,MR 7 19] (.cq [MR 20 8,MR 21 6,et 22 .add 20 21,MR 8 22]))))))) (aM [MR 23 0,MR 24 7,MR 25 1,MR 26 2,aQ 27 (.call s3 [(.t 23),(.t 24),(.t 25),(.t 26)])] (.block 2 (.loop (.seq (aM [MR 28 6,MR 29 1,et 30 .lss 28 29] (.cond (.t 30) .skip (.exit 2))) (.block 3 (aM [MR 31 6,aQ 32 (.bin .mul (jS 2) (.t 31)),gH 7 0,MR 8 32] (.seq (.block 4 (.loop (.seq (aM [MR 33 8,MR 34 1,et 35 .leq 33 34] (.cond (.t 35) .skip (.exit 4))) (.block 5 (aM [MR 36 0,MR 37 7,MR 38 7,MR 39 6,et 40 .add 38 39,MR 41 8,MR 42 2,aQ 43 (.call aC [(.t 36),(.t 37),(.t 40),(.t 41),(.t 42)])] (aM [MR 44 8,MR 7 44] (.cq [MR 45 8,MR 46 6,aQ 47 (.bin .mul (jS 2) (.t 46)),et 48 .add 45 47,MR 8 48]))))))) (.seq (aM [MR 49 7,MR 50 6,et 51 .add 49 50,MR 9 51] (aM [MR 52 9,MR 53 1,et 54 .lss 52 53] (.cond (.t 54) (.cq [MR 55 0,MR 56 7,MR 57 9,MR 58 1,MR 59 2,aQ 60 (.call aC [(.t 55),(.t 56),(.t 57),(.t 58),(.t 59)])]) .skip))) (.cq [MR 61 6,eY 62 .mul 61 2,MR 6 62]))))))))))))
def Bu {bx s3 aC dC:Nat} (hF:aw P G bx=some (63,[],(alp s3 aC).bare))
  (hI:∀(l:List Attr),l.length<=B->∀a b:Nat,a<=b->b<=l.length->ig P G s3 [.sl (.par 0) 2 0 l.length,.int .i64 a,.int .i64 b,.fn dC [] []] 2 (cD l) λx ys=>∃zs:List Attr,ys=cD zs/\zs.Perm l/\(a=0->zs=cu (l.take b)++l.drop b)/\(a=b->zs=l))
  (hS:∀(l:List Attr),l.length<=B->∀a m b:Nat,a<m->m<b->b<=l.length->ig P G aC [.sl (.par 0) 2 0 l.length,.int .i64 a,.int .i64 m,.int .i64 b,.fn dC [] []] 2 (cD l) (kP l))
  (l:List Attr) (hl:l.length<=B) :
  ig P G bx [.sl (.par 0) 2 0 l.length,.int .i64 l.length,.fn dC [] []] 2 (cD l) λx ys=>∃zs:List Attr,ys=cD zs/\zs.Perm l/\(l.length<=20->zs=cu l):=by
 refine al7 hF tM aae ?_;have zo:B=1073741824:=rfl;unfold alp;simp only[↓aX,mX,seval,df];refine ca (σ:={q:Nat×List Attr // q.1<=l.length/\q.2.Perm l/\(l.length<=20->(q.1=0/\q.2=l)\/(q.1=l.length/\q.2=cu l))}) [.par 0] (λq=>[(0,.sl (.par 0) 2 0 l.length),(1,.int .i64 l.length),(2,.fn dC [] []),(6,.int .i64 20),(7,.int .i64 q.1.1),(8,.int .i64 ((q.1.1+20:Nat):Int))]) (λq=>[(.par 0,⟨2,aB (cD q.1.2)⟩)]) (λq=>l.length - q.1.1)
  ⟨(0,l),zd _,.refl _,λ_=> .inl ⟨rfl,rfl⟩⟩ (λ_=>rfl) M3 aae ?_ ?_ ?_
 ·intro q w hw cs bV z hz;simp only[bY] at hw;subst hw;rw[bU bV] at hz;simp at hz
 ·refine eL ?_ aah aah;intro z hz hu;by_cases e:z= .par 0
  ·subst e;simp
  exfalso;apply hu;simp[ae,e,Hp.none]
 rintro⟨⟨a,M⟩,ha,hM,hs⟩;simp only at ha hM hs;have rU:M.length=l.length:=hM.length_eq;simp only[↓aX,mX,seval,cF,bW];by_cases hle:a+20<=l.length
 ·rw[show decide (((a+20:Nat):Int)<=((l.length:Nat):Int))=true by rw[dj];omega];have hw:IntKind.i64.wrap (((a+20:Nat):Int)+20)=((a+20+20:Nat):Int):=wrap64 sf sf;have hc:=hI M sf a (a+20) sf sf;rw[rU] at hc;simp only[↓aX,mX,seval];refine cT (l:= .par 0) hc aas aai ?_;rintro x1 ys ⟨zs,rfl,hz,u7,_⟩ _ _;simp only[↓aX,mX,seval,hw];refine⟨⟨(a+20,zs),hle,hz.trans hM,λG4=> .inr ⟨aac,?_⟩⟩,aac,?_⟩
  ·rcases hs G4 with⟨rfl,rfl⟩|⟨h,_⟩
   ·have:=u7 rfl;rw[this,P5 sf,Wv sf,SU]
   omega
  refine eL ?_ aah aah;intro z hz hu;by_cases e:z= .par 0
  ·subst e;simp
  exfalso;apply hu;simp[ae,e,Hp.none]
 rw[show decide (((a+20:Nat):Int)<=((l.length:Nat):Int))=false by rw[Tt];omega];have hc:=hI M sf a l.length ha sf;rw[rU] at hc;simp only[↓aX,mX,seval];refine cT (l:= .par 0) hc aas aai ?_;rintro x1 ys ⟨zs,rfl,hz,u7,ln⟩ _ _;have mN:l.length<=20->zs=cu l:=by
  intro G4;rcases hs G4 with⟨rfl,rfl⟩|⟨h,h2⟩
  ·rw[u7 rfl,P5 (PW _),Wv (PW _),SU]
  rw[ln h,h2]
 have L3:=hz.trans hM;clear hz u7 ln hs hM rU hc ha hle;simp only[↓aX,mX,seval];refine ca (σ:={q:Nat×List Attr // 0<q.1/\q.2.Perm l/\(q.1=20->q.2=zs)/\20<=q.1/\(20<q.1->20<l.length)/\q.1<=2*l.length+20}) [.par 0] (λq=>[(0,.sl (.par 0) 2 0 l.length),(1,.int .i64 l.length),(2,.fn dC [] []),(6,.int .i64 q.1.1)]) (λq=>[(.par 0,⟨2,aB (cD q.1.2)⟩)]) (λq=>2*l.length+20 - q.1.1)
  ⟨(20,zs),aac,L3,λ_=>rfl,PW _,λh=>absurd h tM,aac⟩ (λ_=>rfl) M3 aae ?_ ?_ ?_
 ·intro q w hw cs bV z hz;simp only[bY] at hw;subst hw;rw[bU bV] at hz;simp at hz
 ·refine eL ?_ aah aah;intro z hz hu;by_cases e:z= .par 0
  ·subst e;simp
  exfalso;apply hu;simp[ae,e,Hp.none]
 rintro⟨⟨bs,M⟩,oK,hM,wX,wx,KA,L4⟩;simp only at oK hM wX wx KA L4;have rU:M.length=l.length:=hM.length_eq;simp only[↓aX,mX,seval,cF,bW];by_cases bI:bs<l.length
 ·rw[show decide (((bs:Nat):Int)<((l.length:Nat):Int))=true by simpa using bI];have wB:IntKind.i64.wrap (2*(bs:Int))=((2*bs:Nat):Int):=by rw[wrap64 sf sf];omega
  have Es:IntKind.i64.wrap ((bs:Int)*2)=((2*bs:Nat):Int):=by rw[wrap64 sf sf];omega
  simp only[↓aX,mX,seval,wB];refine ca (σ:={q:Nat×List Attr // q.1<=l.length/\q.2.Perm l}) [.par 0] (λq=>[(0,.sl (.par 0) 2 0 l.length),(1,.int .i64 l.length),(2,.fn dC [] []),(6,.int .i64 bs),(7,.int .i64 q.1.1),(8,.int .i64 ((q.1.1+2*bs:Nat):Int))]) (λq=>[(.par 0,⟨2,aB (cD q.1.2)⟩)]) (λq=>l.length - q.1.1)
   ⟨(0,M),zd _,hM⟩ (λ_=>rfl) M3 aae ?_ ?_ ?_
  ·intro q w hw cs bV z hz;simp only[bY] at hw;subst hw;rw[bU bV] at hz;simp at hz
  ·refine eL ?_ (by simp only[bM];repeat' constructor) aah;intro z hz hu;by_cases e:z= .par 0
   ·subst e;simp
   exfalso;apply hu;simp[ae,e,Hp.none]
  rintro⟨⟨a,M⟩,ha,hM⟩;simp only at ha hM;have rU:M.length=l.length:=hM.length_eq;have JA:IntKind.i64.wrap ((a:Int)+(bs:Int))=((a+bs:Nat):Int):=wrap64 sf sf;have HV:IntKind.i64.wrap (((a+2*bs:Nat):Int)+((2*bs:Nat):Int))=((a+2*bs+2*bs:Nat):Int):=wrap64 sf sf;simp only[↓aX,mX,seval,cF,bW,wB,JA,HV];by_cases hle:a+2*bs<=l.length
  ·rw[show decide (((a+2*bs:Nat):Int)<=((l.length:Nat):Int))=true by rw[dj];omega];have hc:=hS M sf a (a+bs) (a+2*bs) sf sf sf;rw[rU] at hc;simp only[↓aX,mX,seval,JA];refine cT (l:= .par 0) hc aas aai ?_;rintro x1 ys ⟨z1,rfl,hz⟩ _ _;simp only[↓aX,mX,seval,wB,HV];exact⟨⟨(a+2*bs,z1),hle,hz.trans hM⟩,aac,by
    refine eL ?_ aah aah;intro z hz hu;by_cases e:z= .par 0
    ·subst e;simp
    exfalso;apply hu;simp[ae,e,Hp.none]⟩
  rw[show decide (((a+2*bs:Nat):Int)<=((l.length:Nat):Int))=false by rw[Tt];omega];simp only[↓aX,mX,seval,JA];by_cases JR:a+bs<l.length
  ·rw[show decide (((a+bs:Nat):Int)<((l.length:Nat):Int))=true by rw[dj];omega];have hc:=hS M sf a (a+bs) l.length sf sf sf;rw[rU] at hc;simp only[↓aX,mX,seval];refine cT (l:= .par 0) hc aas aai ?_;rintro x1 ys ⟨z1,rfl,hz⟩ _ _;simp only[↓aX,mX,seval,Es];exact⟨⟨(2*bs,z1),aac,hz.trans hM,λh=>absurd h aac,aac,λ_=>by omega,aac⟩,aac,by
    refine eL ?_ aah aah;intro z hz hu;by_cases e:z= .par 0
    ·subst e;simp
    exfalso;apply hu;simp[ae,e,Hp.none]⟩
  rw[show decide (((a+bs:Nat):Int)<((l.length:Nat):Int))=false by rw[Tt];omega];simp only[↓aX,mX,seval,Es];exact⟨⟨(2*bs,M),aac,hM,λh=>absurd h aac,aac,λ_=>by omega,aac⟩,aac,by
   refine eL ?_ aah aah;intro z hz hu;by_cases e:z= .par 0
   ·subst e;simp
   exfalso;apply hu;simp[ae,e,Hp.none]⟩
 rw[show decide (((bs:Nat):Int)<((l.length:Nat):Int))=false by simpa using bI];simp only[↓aX,mX,seval,lM,ef,gD];refine⟨_,rfl,cD M,⟨M,rfl,hM,λh=> ?_⟩,aao,by rw[bp,bp,rU],aai⟩;have JB:bs=20:=by
  by_cases G4:20<bs
  ·have:=KA G4;omega
  omega
 rw[wX JB];exact mN h
def ct (bx:Nat):AC:=
(.cq [MR 4 0,MR 5 0,oy 6 5,MR 7 1,aQ 8 (.call bx [(.t 4),(.t 6),(.t 7)])])
def rV {aV bx dC:Nat} (hF:aw P G aV=some (9,[],(ct bx).bare))
  (l:List Attr) (hS:ig P G bx [.sl (.par 0) 2 0 l.length,.int .i64 l.length,.fn dC [] []] 2 (cD l) λx ys=>∃zs:List Attr,ys=cD zs/\zs.Perm l/\(l.length<=20->zs=cu l)) :
  ig P G aV [.sl (.par 0) 2 0 l.length,.fn dC [] []] 2 (cD l) λx ys=>∃zs:List Attr,ys=cD zs/\zs.Perm l/\(l.length<=20->zs=cu l):=by
 refine al7 hF tM aae ?_;unfold ct;simp only[↓aX,mX,seval,df];refine cT (l:= .par 0) hS aas aai ?_;rintro x1 ys ⟨zs,rfl,hz,oz⟩ _ _;simp only[↓aX,mX,seval,lM,ef,gD];exact⟨_,rfl,cD zs,⟨zs,rfl,hz,oz⟩,aao,by rw[bp,bp,hz.length_eq],aai⟩
end

mutual
theorem Tree.rW:∀x:Tree,x.v8=true->x.fu=false
 | .mk t s az ks,h=>by
   simp only[Tree.v8,Tu,dj] at h
   cases t with
   |true=>
     rw[Tree.oa _ rfl]
     simp only[Tree.attrs,Tree.kids]
     rcases h with h|h
     · have:(az.length==0)=false:=by rw[SV];omega
       simp[this]
     have:(ks.length==0)=false:=by
       cases ks with
       |nil=>simp[jR] at h
       |cons a r=>simp
     simp[this]
   |false=>
   rw[Tree.Pa _ rfl]
   simp only[Tree.attrs,Tree.kids]
   rcases h with h|h
   · have:bP az=false:=by
       unfold bP
       rw[Uy (show ¬(az.length:Int)<=4 by omega),VO]
     simp[this]
   have:=pH ks h none
   simp[this]
theorem pH:∀l:List Tree,jR l=true->∀p,bQ p l=false
 |[],h,_=>by simp[jR] at h
 |x::r,h,p=>by
   simp only[jR,Tu] at h
   rcases h with h|h
   · have:=x.rW h
     simp[bQ,this]
   have:=pH r h (some x.text)
   simp[bQ,this]
end
def O9 {l:List Tree} (h:jR l=true):content l=false:=by unfold content;rw[pH l h];simp
def dh (x:Tree):Bs×Int:=if x.d_ then(if 2500<x.sh.length then([],2) else(x.sh,0)) else([],1)
def Bv:Tree:= .mk false [] [] []
def lh (s:Bs):Tree×Int:=match bG 8 s with
 |some (t,[])=>if t.d_ then(t,0) else(Bv,1)
 |_=>(Bv,1)
def jD (s:Bs):Tree×Int:=if 2500<s.length then(Bv,2) else lh s
def Pm (s:Bs):List Tree×Int:=match dM (bG 8) s with
 |some (l,[])=>if content l then(l,0) else([],1)
 |_=>([],1)
def NQ (s:Bs):List Tree×Int:=if 2500<s.length then([],2) else Pm s
section
variable {P:Program} {G:Nat->Option (List IV)}
def jE (dD dK:Nat):AC:=
(aM [zzX 1 0,aQ 2 (.iC (.c (.str []))),gH 3 0] (.seq (aM [gz 5 4 1,aQ 6 (.call dD [(.t 5)]),sB 7 6] (.cond (.t 7) (aM [aQ 2 (.iC (.c (.str []))),gH 3 1] .ret) .skip)) (aM [gz 8 4 1,aQ 9 (.call dK [(.c .nil0),(.t 8)]),MR 4 9] (.seq (aM [MR 10 4,oy 11 10,eY 12 .gtr 11 2500] (.cond (.t 12) (aM [aQ 2 (.iC (.c (.str []))),gH 3 2] .ret) .skip)) (aM [MR 13 4,aQ 14 (.wm (.t 13)),MR 2 14,gH 3 0] .ret)))))
def yU {cd dD dK:Nat} (hF:aw P G cd=some (15,[(none,2),(none,3)],(jE dD dK).bare)) (x:Tree) (hx:x.wt<=B) (hG:au P G dD [x.av] (.bool x.d_)) (hP:au P G dK [.nil0,x.av] (.list (a7 x.sh))) :
  au P G cd [x.av] (.gf [.str (dh x).1,.int .i64 (dh x).2]):=by
 refine aR hF tM aaJ aao ?_;unfold jE;simp only[Tree.av] at hG hP;simp only[↓aX,mX,seval,Tree.av];refine ay hG ?_;unfold dh;cases hg:x.d_ with
 |false=>simp only[↓aX,mX,seval,QI,↓h_,jy,nX]
 |true=>
 simp only[↓aX,mX,seval,QK];refine ay hP ?_;by_cases hl:2500<x.sh.length
 ·simp only[↓aX,mX,seval,a_,show(((x.sh.length:Nat):Int)>2500)=True by simp;omega,Ts,↓h_,hl,Rc]
 simp only[↓aX,mX,seval,a_,show(((x.sh.length:Nat):Int)>2500)=False by simp;omega,XG,↓h_,hl,nX,sJ,jj,bT]
def Ow (cj No:Nat):AC:=
(aM [zi 2,gH 3 0] (.seq (aM [MR 6 0,oF 7 6,eY 8 .gtr 7 2500] (.cond (.t 8) (aM [zi 2,gH 3 2] .ret) .skip)) (aM [MR 9 0,aQ 10 (.sg [(.str []),(.bool false)] [(0,(1,(.t 9)))]),zzX 11 10,MR 4 11] (aM [MR 12 4,aQ 13 (.call cj [(.t 12),(jS 1)]),MR 5 13] (.seq (aM [MR 14 4,aQ 15 (.dp (.t 14)),ep 16 15 1,fm 17 16,MR 18 17,gV 19 18 4,iR 20 18 (.dp (.t 19)),oH 21 18 20 0,oG 22 18 21,iR 23 18 (.bin .neq (.t 22) (.c (.str []))),sj 24 18 23,MR 25 24,gV 26 25 5,iR 27 25 (.call No [(.t 26)]),iR 28 25 (.not (.t 27)),sj 29 25 28] (.cond (.t 29) (aM [zi 2,gH 3 1] .ret) .skip)) (aM [MR 30 5,MR 2 30,gH 3 0] .ret))))))
def Q3 {Nq cj No:Nat} (hF:aw P G Nq=some (31,[(none,2),(none,3)],(Ow cj No).bare)) (s:Bs) (hs:s.length<=B) (hK:∀s:Bs,s.length<=B->cR P G cj [.ptr (.par 0) 2 0 0,.int .i64 1] (cG s false) (pF 8 s false))
  (hG:∀l:List Tree,dE l<=10000->au P G No [.list (dq l)] (.bool (content l))) :
  au P G Nq [.str s] (.gf [.list (dq (NQ s).1),.int .i64 (NQ s).2]):=by
 refine Ws hF tM aae aao ?_;unfold Ow NQ;simp only[↓aX,mX,seval];by_cases hl:2500<s.length
 ·simp only[↓aX,mX,seval,show(((s.length:Nat):Int)>2500)=True by simp;omega,Ts,↓h_,hl,Rc,norm,fi,dq]
 simp only[↓aX,mX,seval,show(((s.length:Nat):Int)>2500)=False by simp;omega,XG];refine bj (l:= .loc 11) (hK s hs) aas aai ?_;rintro x1 dF ⟨t,r,b',rfl,rfl,pU,_,ky⟩ _ _ _;have ky:=ky rfl;have PS:=hG t sf;simp only[↓aX,mX,seval,hl,nX];have Eu:(b'=true\/r≠[]\/content t=false)->Pm s=([],1):=by
  intro h;unfold Pm;split
  ·rename_i t0 he;rw[he] at ky;obtain⟨rfl,rfl,h7⟩:=ky;rcases h with h|h|h
   ·cases h
   ·exact absurd rfl h
   have:content t0=false:=by
    rcases h7 with rfl|⟨_,h8⟩
    ·exact h
    exact O9 h8
   rw[this];rfl
  rfl
 cases b' with
 |true=>
  rw[Eu (.inl rfl)];simp only[↓aX,mX,seval,↓h_,hl,nX,norm,fi,dq]
 |false=>
 simp only[↓aX,mX,seval];cases I_:(r==[]) with
 |false=>
  have hr:r≠[]:=by simpa using I_
  rw[Eu (.inr (.inl hr))];simp only[↓aX,mX,seval,QI,↓h_,hl,nX,norm,fi,dq]
 |true=>
 have hr:r=[]:=by simpa using I_
 subst hr;simp only[↓aX,mX,seval,QK];refine ay PS ?_;cases hg:content t with
 |false=>
  rw[Eu (.inr (.inr hg))];simp only[↓aX,mX,seval,QI,↓h_,hl,nX,norm,fi,dq]
 |true=>
 have he:dM (bG 8) s=some (t,[]):=by
  cases ll:dM (bG 8) s with
  |none=>rw[ll] at ky;cases ky
  |some y=>
  rw[ll] at ky;obtain⟨_,h6,h7⟩:=ky;rcases h7 with rfl|⟨h7,_⟩
  ·rw[h6]
  rw[O9 h7] at hg;cases hg
 have L5:Pm s=(t,0):=by unfold Pm;rw[he];simp only[hg,Rc]
 rw[L5];simp only[↓aX,mX,seval,QK,↓h_,hl,nX,norm,fi]
end

def oq {x:Tree} (h:x.d_=true) (hl:x.sh.length<=2500):dh x=(x.sh,0):=by
 unfold dh;rw[P8 h,Ev sf]
def GX:((1:Int) !=0)=true:=rfl

def apt {l:List Tree} (h:bQ none l=true) (hd:∀x∈l,x.dep<=8) (hc:dP l<=80) (hD:fB l<=8) (hl:(je l).length<=2500):NQ (je l)=(l,0):=by
 have:=rH l none 8 [] h hD tM (.inl rfl);rw[SU] at this;have hg:content l=true:=by
  unfold content;simp only[QH,Rh,dj];exact⟨hd,hc,h⟩
 unfold NQ Pm;rw[Ev sf,this];simp only[hg,Rc]
section
variable {P:Program} {G:Nat->Option (List IV)}
def eW (ax:Nat):AC:=
(aM [jM 4 false] (aM [MR 5 0,MR 6 1,aQ 7 (.call ax [(.t 5),(.t 6)]),MR 4 7] .ret))
def rZ {b7 ax:Nat} (hF:aw P G b7=some (8,[(none,4)],(eW ax).bare)) (s t:Bs) (hC:au P G ax [.str s,.str t] (.bool (t.isPrefixOf s))) :
  au P G b7 [.str s,.str t] (.bool (t.isPrefixOf s)):=by
 refine aR hF tM aae aad ?_;unfold eW;simp only[↓aX,mX,seval];refine ay hC ?_;simp only[↓aX,mX,seval]
end
end Go.Am
