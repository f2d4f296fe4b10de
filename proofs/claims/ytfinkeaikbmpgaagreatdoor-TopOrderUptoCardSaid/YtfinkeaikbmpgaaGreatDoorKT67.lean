import Derived.Test.YtfinkeaikbmpgaaGreatDoorKT66
import Derived.Test.YtfinkeaikbmpgaaGreatDoorKD2
import Derived.Test.YtfinkeaikbmpgaaGreatDoorKT15
import Derived.Test.YtfinkeaikbmpgaaGreatDoorKAm48
set_option linter.unusedSimpArgs false
set_option linter.unusedVariables false
set_option linter.unnecessarySimpa false
set_option linter.defProp false
/- Attributes sorted: merges. -/
namespace Go.Am
open Go Go.RowKit
section
variable {P:Program} {G:Nat→Option (List IV)}
def jG {σ:Type} {ps:σ→List (Nat×AV)} {rs:σ→List (Lb×Row)} {env:Env} {H:Hp} {s:σ} (h1:∀z,z≠ .par 0→H z= .unused) (h2:GL env (ps s)) (h3:TU H (rs s)):WS [.par 0] ps rs env H s:=
 ⟨fun z _ hu=>by
  by_cases e:z= .par 0
  ·subst e;simp
  exact absurd (h1 z e) hu,h2,h3⟩
def y9 {ys:List IV} {n:Nat} {ls:List Lb}:∀w∈[(Lb.par 0,(⟨n,ar ys⟩:Row))],∀cs∈w.2.els,∀l∈ah cs,l∈ls:=by
 intro w hw cs bS z hz;simp only[adr] at hw;subst hw;rw[bT bS] at hz;simp at hz
abbrev vB (l:List Attr):AV→List IV→Prop:=fun _ ys=>∃zs:List Attr,ys=dA zs∧zs.Perm l
def gP:AC:=
(ay [eX 10 0] (.block 0 (.loop (.seq (ay [af 11 10,af 12 3,eS 13 .lss 11 12] (.cond (.t 13) .skip (.exit 0))) (.seq (.block 1 (.fg [af 16 0,af 17 1,af 18 10,eS 19 .add 17 18,af 20 0,af 21 2,af 22 10,eS 23 .add 21 22,af 24 0,af 25 2,af 26 10,eS 27 .add 25 26,ig 28 24 27 2,gd 29 2 28,af 30 0,af 31 1,af 32 10,eS 33 .add 31 32,ig 34 30 33 2,gd 35 2 34,ig 36 16 19 2,dT (.store 2 (.t 36) (.t 29)),ig 37 20 23 2,dT (.store 2 (.t 37) (.t 35))] [[],[],[],[1,2],[],[],[],[5,6],[],[],[],[9,10],[8,11],[12],[],[],[],[15,16],[14,17],[18],[0,3,0,1,2,3,8,9,10,11,12,13,19],[20,13,0,1,2,3,8,9,10,11,12,13,19],[4,7,0,1,2,3,4,5,6,7,8,9,10,11,12,13,14,15,16,17,18,19,20,21],[22,19,21,0,1,2,3,4,5,6,7,8,9,10,11,12,13,14,15,16,17,18,19,20,21]] [.no,.no,.no,.no,.no,.no,.no,.no,.no,.no,.no,.no,.no,(.rw [(.par 0)] []),.no,.no,.no,.no,.no,(.rw [(.par 0)] []),.no,(.rw [] [(.par 0)]),.no,(.rw [] [(.par 0)])])) (.ec [af 14 10,db 15 .add 14 1,af 10 15]))))))
def Is {bR:Nat} (c:AV) (hc:c.aB=[]) (hF:an P G bR=some (38,[],gP.bare)) (l:List Attr) (hl:l.length≤B) (a b n:Nat) (ha:a+n≤l.length) (hb:b+n≤l.length) :
  qg P G bR [.sl (.par 0) 2 0 l.length,.int .i64 a,.int .i64 b,.int .i64 n,c] 2 (dA l) (vB l):=by
 refine pw hF (by simp) (by simp[ah,AV.aB,hc]) ?_;have nM:B=1073741824:=rfl;unfold gP;simp only[↓aX,mX,seval,gg];refine eB (σ:={q:Nat×List Attr // q.1≤n∧q.2.Perm l}) [.par 0] (fun q=>[(0,.sl (.par 0) 2 0 l.length),(1,.int .i64 a),(2,.int .i64 b),(3,.int .i64 n),(10,.int .i64 q.1.1)]) (fun q=>[(.par 0,⟨2,ar (dA q.1.2)⟩)]) (fun q=>n - q.1.1)
  ⟨(0,l),ad3 _,.refl _⟩ (fun _=>rfl) (by decide) (by simp[ah,AV.aB]) ?_ ?_ ?_
 ·exact fun _=>y9
 ·exact jG (fun z e=>by simp[ae,e,Hp.none]) (by repeat' constructor) (by repeat' constructor)
 rintro⟨⟨i,M⟩,hi,hM⟩;simp only at hi hM;have FN:M.length=l.length:=hM.length_eq;simp only[↓aX,mX,seval,ed,dk];by_cases bO:i<n
 ·rw[show decide (((i:Nat):Int)<((n:Nat):Int))=true by simpa using bO];have hw:IntKind.i64.wrap ((i:Int)+1)=((i+1:Nat):Int):=wrap64 (by omega) (by omega);have Uf:IntKind.i64.wrap ((a:Int)+(i:Int))=((a+i:Nat):Int):=wrap64 (by omega) (by omega);have hwb:IntKind.i64.wrap ((b:Int)+(i:Int))=((b+i:Nat):Int):=wrap64 (by omega) (by omega);obtain⟨x,hx⟩:∃x,M[a+i]?=some x:=⟨_,ag7 (by omega)⟩;obtain⟨y,hy⟩:∃y,M[b+i]?=some y:=⟨_,ag7 (by omega)⟩;simp only[↓aX,mX,seval];refine⟨by decide +kernel,?_⟩;simp only[↓aX,mX,seval,Uf,hwb,adt,ag9,adC,qh hx,qh hy,show a+i<l.length by omega,show b+i<l.length by omega,j4];rw[yV M (a+i) y];obtain⟨y2,Ck⟩:∃y2,(M.set (a+i) y)[b+i]?=some y2:=⟨_,ag7 (by rw[agh];omega)⟩;simp only[↓aX,mX,seval,qh Ck,hw];exact⟨⟨(i+1,(M.set (a+i) y).set (b+i) x),bO,(swap_perm hx hy).trans hM⟩,by simp only;omega,by
   exact jG (fun z e=>by simp[ae,e,Hp.none]) (by repeat' constructor) ⟨by simp only[ae,adH];rw[yV],trivial⟩⟩
 rw[show decide (((i:Nat):Int)<((n:Nat):Int))=false by simpa using bO];simp only[↓aX,mX,seval,iM,jc,jf];exact⟨_,rfl,dA M,⟨M,rfl,hM⟩,by simp[AV.aB,ah],by rw[bQ,bQ,FN],by simp[ae]⟩
def iA (bR:Nat):AC:=
(ay [af 12 2,af 13 1,eS 14 .sub 12 13,af 10 14] (ay [af 15 3,af 16 2,eS 17 .sub 15 16,af 11 17] (.seq (.block 0 (.loop (.seq (ay [af 18 10,af 19 11,eS 20 .neq 18 19] (.cond (.t 20) .skip (.exit 0))) (.block 1 (ay [af 21 10,af 22 11,eS 23 .gtr 21 22] (.cond (.t 23) (ay [af 24 0,af 25 2,af 26 10,eS 27 .sub 25 26,af 28 2,af 29 11,af 30 4,aE 31 (.call bR [(.t 24),(.t 27),(.t 28),(.t 29),(.t 30)])] (.ec [af 32 10,af 33 11,eS 34 .sub 32 33,af 10 34])) (ay [af 35 0,af 36 2,af 37 10,eS 38 .sub 36 37,af 39 2,af 40 11,eS 41 .add 39 40,af 42 10,eS 43 .sub 41 42,af 44 10,af 45 4,aE 46 (.call bR [(.t 35),(.t 38),(.t 43),(.t 44),(.t 45)])] (.ec [af 47 11,af 48 10,eS 49 .sub 47 48,af 11 49])))))))) (.ec [af 50 0,af 51 2,af 52 10,eS 53 .sub 51 52,af 54 2,af 55 10,af 56 4,aE 57 (.call bR [(.t 50),(.t 53),(.t 54),(.t 55),(.t 56)])]))))
def SZ {di bR:Nat} (jw:Nat) (hF:an P G di=some (58,[],(iA bR).bare))
  (hS:∀(l:List Attr),l.length≤B→∀a b n:Nat,a+n≤l.length→b+n≤l.length→qg P G bR [.sl (.par 0) 2 0 l.length,.int .i64 a,.int .i64 b,.int .i64 n,.fn jw [] []] 2 (dA l) (vB l))
  (l:List Attr) (hl:l.length≤B) (a m b:Nat) (ha:a<m) (hm:m<b) (hb:b≤l.length) :
  qg P G di [.sl (.par 0) 2 0 l.length,.int .i64 a,.int .i64 m,.int .i64 b,.fn jw [] []] 2 (dA l) (vB l):=by
 refine pw hF (by simp) (by simp[ah,AV.aB]) ?_;have nM:B=1073741824:=rfl;have oU:IntKind.i64.wrap ((m:Int) - (a:Int))=((m - a:Nat):Int):=by rw[wrap64 (by omega) (by omega)];omega
 have BQ:IntKind.i64.wrap ((b:Int) - (m:Int))=((b - m:Nat):Int):=by rw[wrap64 (by omega) (by omega)];omega
 unfold iA;simp only[↓aX,mX,seval,gg,oU,BQ];refine eB (σ:={q:Nat×Nat×List Attr // 0<q.1∧q.1≤m∧0<q.2.1∧m+q.2.1≤l.length∧q.2.2.Perm l}) [.par 0] (fun q=>[(0,.sl (.par 0) 2 0 l.length),(2,.int .i64 m),(4,.fn jw [] []),(10,.int .i64 q.1.1),(11,.int .i64 q.1.2.1)]) (fun q=>[(.par 0,⟨2,ar (dA q.1.2.2)⟩)]) (fun q=>q.1.1+q.1.2.1)
  ⟨(m - a,b - m,l),by simp only;omega,by simp only;omega,by simp only;omega,by simp only;omega,.refl _⟩ (fun _=>rfl) (by decide) (by simp[ah,AV.aB]) ?_ ?_ ?_
 ·exact fun _=>y9
 ·exact jG (fun z e=>by simp[ae,e,Hp.none]) (by repeat' constructor) (by repeat' constructor)
 rintro⟨⟨i,j,M⟩,hi,Eu,hj,zg,hM⟩;simp only at hi Eu hj zg hM;have FN:M.length=l.length:=hM.length_eq;have Ue:IntKind.i64.wrap ((m:Int) - (i:Int))=((m - i:Nat):Int):=by rw[wrap64 (by omega) (by omega)];omega
 have hs:=hS M (by omega);rw[FN] at hs;simp only[↓aX,mX,seval,ed,dk];by_cases ff:i=j
 ·rw[show(((i:Nat):Int) !=((j:Nat):Int))=false by simp[ff]];simp only[↓aX,mX,seval,Ue];refine h_ (l:= .par 0) (hs (m - i) m i (by omega) (by omega)) (by simp[aY,e7,iH]) (by simp[ae]) ?_;rintro x1 ys ⟨zs,rfl,hz⟩ _ QQ;simp only[↓aX,mX,seval,iM,jc,jf];exact⟨_,rfl,dA zs,⟨zs,rfl,hz.trans hM⟩,by simp[AV.aB,ah],by rw[bQ,bQ,(hz.trans hM).length_eq],by simp[ae]⟩
 rw[show(((i:Nat):Int) !=((j:Nat):Int))=true by rw[agb];omega];simp only[↓aX,mX,seval];by_cases B7:j<i
 ·have BR:IntKind.i64.wrap ((i:Int) - (j:Int))=((i - j:Nat):Int):=by rw[wrap64 (by omega) (by omega)];omega
  rw[show decide (((i:Nat):Int)>((j:Nat):Int))=true by simpa using B7];simp only[↓aX,mX,seval,Ue];refine h_ (l:= .par 0) (hs (m - i) m j (by omega) (by omega)) (by simp[aY,e7,iH]) (by simp[ae]) ?_;rintro x1 ys ⟨zs,rfl,hz⟩ _ QQ;simp only[↓aX,mX,seval,BR];exact⟨⟨(i - j,j,zs),by simp only;omega,by simp only;omega,hj,zg,hz.trans hM⟩,by simp only;omega,by
   exact jG (fun z e=>by simp[ae,e,Hp.none]) (by repeat' constructor) (by repeat' constructor)⟩
 have BR:IntKind.i64.wrap ((m:Int)+(j:Int))=((m+j:Nat):Int):=wrap64 (by omega) (by omega);have hw4:IntKind.i64.wrap (((m+j:Nat):Int) - (i:Int))=((m+j - i:Nat):Int):=by rw[wrap64 (by omega) (by omega)];omega
 have hw5:IntKind.i64.wrap ((j:Int) - (i:Int))=((j - i:Nat):Int):=by rw[wrap64 (by omega) (by omega)];omega
 rw[show decide (((i:Nat):Int)>((j:Nat):Int))=false by simpa using B7];simp only[↓aX,mX,seval,Ue,BR,hw4];refine h_ (l:= .par 0) (hs (m - i) (m+j - i) i (by omega) (by omega)) (by simp[aY,e7,iH]) (by simp[ae]) ?_;rintro x1 ys ⟨zs,rfl,hz⟩ _ QQ;simp only[↓aX,mX,seval,hw5];exact⟨⟨(i,j - i,zs),hi,Eu,by simp only;omega,by simp only;omega,hz.trans hM⟩,by simp only;omega,by
  exact jG (fun z e=>by simp[ae,e,Hp.none]) (by repeat' constructor) (by repeat' constructor)⟩
def Bw {x y:Nat} (h:x+y≤2^40):IntKind.i64.wrap (IntKind.u64.wrap (IntKind.i64.wrap ((x:Int)+(y:Int)))/2^min 1 IntKind.u64.bits)=(((x+y)/2:Nat):Int):=by
 have hb:(2:Nat)^40=1099511627776:=by decide
 have h1:IntKind.i64.wrap ((x:Int)+(y:Int))=((x+y:Nat):Int):=wrap64 (by omega) (by omega);have h2:IntKind.u64.wrap ((x+y:Nat):Int)=((x+y:Nat):Int):=by
  rw[IntKind.wrap_u64];omega
 have h3:min 1 IntKind.u64.bits=1:=by decide
 rw[h1,h2,h3];have h4:((x+y:Nat):Int)/2^1=(((x+y)/2:Nat):Int):=by omega
 rw[h4,wrap64 (by omega) (by omega)]
def gC (f x y z n:Nat):AC:= .seq (.ec [⟨some n,none,.nE (.t x)⟩,⟨some (n+1),none,.nE (.t y)⟩,⟨some (n+2),none,.bin .lss (.t n) (.t (n+1))⟩,⟨some (n+3),none,.nE (.t (n+2))⟩,⟨some (n+4),some (n+3,true),.nE (.t y)⟩,⟨some (n+5),some (n+3,true),.nE (.t z)⟩,⟨some (n+6),some (n+3,true),.bin .lss (.t (n+4)) (.t (n+5))⟩,⟨some (n+7),none,.pick (.t (n+3)) (.t (n+6)) (.c (.bool false))⟩])
 (.cond (.t (n+7)) (.ec [⟨some (n+8),none,.nE (.t 0)⟩,⟨some (n+9),none,.nE (.t x)⟩,⟨some (n+10),none,.nE (.t y)⟩,⟨some (n+11),none,.nE (.t z)⟩,⟨some (n+12),none,.nE (.t 4)⟩,⟨some (n+13),none,.call f [.t (n+8),.t (n+9),.t (n+10),.t (n+11),.t (n+12)]⟩]) .skip)
def C' {S:St} {Q:oW} {f g x y z n a m b:Nat} {k:List It} {l M:List Attr} {env:Env} {H:Hp} (hN:S.N=220) (hn:(x=20∧y=2∧z=24∧n=178)∨(x=1∧y=20∧z=18∧n=192)∨(x=18∧y=24∧z=3∧n=206)) (hM:M.Perm l)
  (h0:env 0= .sl (.par 0) 2 0 l.length) (h4:env 4= .fn g [] []) (hx:env x= .int .i64 a) (hy:env y= .int .i64 m) (hz:env z= .int .i64 b) (hH:H (.par 0)= .live ⟨2,ar (dA M)⟩)
  (hC:a<m→m<b→qg S.P S.G f [.sl (.par 0) 2 0 l.length,.int .i64 a,.int .i64 m,.int .i64 b,.fn g [] []] 2 (dA M) (vB M))
  (hk:∀M':List Attr,M'.Perm l→∀(E:Env) (H':Hp),(∀i,i<n→E i=env i)→H' (.par 0)= .live ⟨2,ar (dA M')⟩→go S Q k E H'):go S Q (.code (gC f x y z n)::k) env H:=by
 have he:∀{E:Env} {i j:Nat} {v:AV},i<n→n≤j→E i=env i→put E j v i=env i:=fun {E i j v} h1 h2 h=>by unfold put;rw[ag8 (by omega)];exact h
 unfold gC;by_cases q1:a<m
 ·by_cases q2:m<b
  ·rcases hn with⟨rfl,rfl,rfl,rfl⟩|⟨rfl,rfl,rfl,rfl⟩|⟨rfl,rfl,rfl,rfl⟩
   all_goals
    simp only[↓aX,mX,seval,hN,h0,h4,hx,hy,hz,show decide (((a:Nat):Int)<((m:Nat):Int))=true by simpa using q1,show decide (((m:Nat):Int)<((b:Nat):Int))=true by simpa using q2];refine h_ (l:= .par 0) (hC q1 q2) (by simp[aY,e7,iH]) hH ?_;rintro x1 ys ⟨M',rfl,YC⟩ _ _;refine hk M' (YC.trans hM) _ _ (fun i hi=> ?_) (by simp[ae])
    repeat (refine he hi (by decide) ?_)
    rfl
  rcases hn with⟨rfl,rfl,rfl,rfl⟩|⟨rfl,rfl,rfl,rfl⟩|⟨rfl,rfl,rfl,rfl⟩
  all_goals
   simp only[↓aX,mX,seval,hN,h0,h4,hx,hy,hz,show decide (((a:Nat):Int)<((m:Nat):Int))=true by simpa using q1,show decide (((m:Nat):Int)<((b:Nat):Int))=false by simpa using q2];refine hk M hM _ _ (fun i hi=> ?_) hH
   repeat (refine he hi (by decide) ?_)
   rfl
 rcases hn with⟨rfl,rfl,rfl,rfl⟩|⟨rfl,rfl,rfl,rfl⟩|⟨rfl,rfl,rfl,rfl⟩
 all_goals
  simp only[↓aX,mX,seval,hN,h0,h4,hx,hy,hz,show decide (((a:Nat):Int)<((m:Nat):Int))=false by simpa using q1];refine hk M hM _ _ (fun i hi=> ?_) hH
  repeat (refine he hi (by decide) ?_)
  rfl
def g_ (di bh:Nat):AC:=
(.seq (ay [af 25 2,af 26 1,eS 27 .sub 25 26,db 28 .eql 27 1] (.cond (.t 28) (ay [af 29 2,af 10 29] (ay [af 30 3,af 11 30] (.seq (.block 0 (.loop (.seq (ay [af 31 10,af 32 11,eS 33 .lss 31 32] (.cond (.t 33) .skip (.exit 0))) (.block 1 (ay [af 34 10,af 35 11,eS 36 .add 34 35,aE 37 (.Dh .u64 (.t 36)),aE 38 (.bin .shr (.t 37) (.c (.int .u64 1))),aE 39 (.Dh .i64 (.t 38)),af 12 39] (.seq (.fg [af 40 4,af 41 0,af 42 12,ig 43 41 42 2,gd 44 2 43,af 45 0,af 46 1,ig 47 45 46 2,gd 48 2 47,aE 49 (.jH (.t 40) [(.t 44),(.t 48)]),db 50 .lss 49 0] [[],[],[],[1,2],[3],[],[],[5,6],[7],[0,4,8],[9]] [.no,.no,.no,.no,(.rw [(.par 0)] []),.no,.no,.no,(.rw [(.par 0)] []),.no,.no]) (.cond (.t 50) (.ec [af 51 12,db 52 .add 51 1,af 10 52]) (.ec [af 53 12,af 11 53])))))))) (.seq (ay [af 54 1,af 13 54] (.block 2 (.loop (.seq (ay [af 55 13,af 56 10,db 57 .sub 56 1,eS 58 .lss 55 57] (.cond (.t 58) .skip (.exit 2))) (.seq (.block 3 (.fg [af 61 0,af 62 13,af 63 0,af 64 13,db 65 .add 64 1,af 66 0,af 67 13,db 68 .add 67 1,ig 69 66 68 2,gd 70 2 69,af 71 0,af 72 13,ig 73 71 72 2,gd 74 2 73,ig 75 61 62 2,dT (.store 2 (.t 75) (.t 70)),ig 76 63 65 2,dT (.store 2 (.t 76) (.t 74))] [[],[],[],[],[3],[],[],[6],[5,7],[8],[],[],[10,11],[12],[0,1,0,1,5,6,7,8,9,13],[14,9,0,1,5,6,7,8,9,13],[2,4,0,1,2,3,4,5,6,7,8,9,10,11,12,13,14,15],[16,13,15,0,1,2,3,4,5,6,7,8,9,10,11,12,13,14,15]] [.no,.no,.no,.no,.no,.no,.no,.no,.no,(.rw [(.par 0)] []),.no,.no,.no,(.rw [(.par 0)] []),.no,(.rw [] [(.par 0)]),.no,(.rw [] [(.par 0)])])) (.ec [af 59 13,db 60 .add 59 1,af 13 60])))))) .ret)))) .skip)) (.seq (ay [af 77 3,af 78 2,eS 79 .sub 77 78,db 80 .eql 79 1] (.cond (.t 80) (ay [af 81 1,af 14 81] (ay [af 82 2,af 15 82] (.seq (.block 4 (.loop (.seq (ay [af 83 14,af 84 15,eS 85 .lss 83 84] (.cond (.t 85) .skip (.exit 4))) (.block 5 (ay [af 86 14,af 87 15,eS 88 .add 86 87,aE 89 (.Dh .u64 (.t 88)),aE 90 (.bin .shr (.t 89) (.c (.int .u64 1))),aE 91 (.Dh .i64 (.t 90)),af 16 91] (.seq (.fg [af 92 4,af 93 0,af 94 2,ig 95 93 94 2,gd 96 2 95,af 97 0,af 98 16,ig 99 97 98 2,gd 100 2 99,aE 101 (.jH (.t 92) [(.t 96),(.t 100)]),db 102 .lss 101 0,uk 103 102] [[],[],[],[1,2],[3],[],[],[5,6],[7],[0,4,8],[9],[10]] [.no,.no,.no,.no,(.rw [(.par 0)] []),.no,.no,.no,(.rw [(.par 0)] []),.no,.no,.no]) (.cond (.t 103) (.ec [af 104 16,db 105 .add 104 1,af 14 105]) (.ec [af 106 16,af 15 106])))))))) (.seq (ay [af 107 2,af 17 107] (.block 6 (.loop (.seq (ay [af 108 17,af 109 14,eS 110 .gtr 108 109] (.cond (.t 110) .skip (.exit 6))) (.seq (.block 7 (.fg [af 113 0,af 114 17,af 115 0,af 116 17,db 117 .sub 116 1,af 118 0,af 119 17,db 120 .sub 119 1,ig 121 118 120 2,gd 122 2 121,af 123 0,af 124 17,ig 125 123 124 2,gd 126 2 125,ig 127 113 114 2,dT (.store 2 (.t 127) (.t 122)),ig 128 115 117 2,dT (.store 2 (.t 128) (.t 126))] [[],[],[],[],[3],[],[],[6],[5,7],[8],[],[],[10,11],[12],[0,1,0,1,5,6,7,8,9,13],[14,9,0,1,5,6,7,8,9,13],[2,4,0,1,2,3,4,5,6,7,8,9,10,11,12,13,14,15],[16,13,15,0,1,2,3,4,5,6,7,8,9,10,11,12,13,14,15]] [.no,.no,.no,.no,.no,.no,.no,.no,.no,(.rw [(.par 0)] []),.no,.no,.no,(.rw [(.par 0)] []),.no,(.rw [] [(.par 0)]),.no,(.rw [] [(.par 0)])])) (.ec [af 111 17,db 112 .sub 111 1,af 17 112])))))) .ret)))) .skip)) (ay [af 129 1,af 130 3,eS 131 .add 129 130,aE 132 (.Dh .u64 (.t 131)),aE 133 (.bin .shr (.t 132) (.c (.int .u64 1))),aE 134 (.Dh .i64 (.t 133)),af 18 134] (ay [af 135 18,af 136 2,eS 137 .add 135 136,af 19 137] (ay [eX 20 0,eX 21 0] (.seq (ay [af 138 2,af 139 18,eS 140 .gtr 138 139] (.cond (.t 140) (ay [af 141 19,af 142 3,eS 143 .sub 141 142,af 20 143] (.ec [af 144 18,af 21 144])) (ay [af 145 1,af 20 145] (.ec [af 146 2,af 21 146])))) (ay [af 147 19,db 148 .sub 147 1,af 22 148] (.seq (.block 8 (.loop (.seq (ay [af 149 20,af 150 21,eS 151 .lss 149 150] (.cond (.t 151) .skip (.exit 8))) (.block 9 (ay [af 152 20,af 153 21,eS 154 .add 152 153,aE 155 (.Dh .u64 (.t 154)),aE 156 (.bin .shr (.t 155) (.c (.int .u64 1))),aE 157 (.Dh .i64 (.t 156)),af 23 157] (.seq (.fg [af 158 4,af 159 0,af 160 22,af 161 23,eS 162 .sub 160 161,ig 163 159 162 2,gd 164 2 163,af 165 0,af 166 23,ig 167 165 166 2,gd 168 2 167,aE 169 (.jH (.t 158) [(.t 164),(.t 168)]),db 170 .lss 169 0,uk 171 170] [[],[],[],[],[2,3],[1,4],[5],[],[],[7,8],[9],[0,6,10],[11],[12]] [.no,.no,.no,.no,.no,.no,(.rw [(.par 0)] []),.no,.no,.no,(.rw [(.par 0)] []),.no,.no,.no]) (.cond (.t 171) (.ec [af 172 23,db 173 .add 172 1,af 20 173]) (.ec [af 174 23,af 21 174])))))))) (ay [af 175 19,af 176 20,eS 177 .sub 175 176,af 24 177] (.seq (gC di 20 2 24 178) (.seq (gC bh 1 20 18 192) (gC bh 18 24 3 206))))))))))))
set_option maxHeartbeats 2000000 in
def L5 {bh di jw:Nat} (hF:an P G bh=some (220,[],(g_ di bh).bare)) (hBd:jQ P jw=true) (hC:∀a b:Attr,aw P G jw [a.HX,b.HX] (.int .i64 (Ba a b)))
  (hR:∀(l:List Attr),l.length≤B→∀a m b:Nat,a<m→m<b→b≤l.length→qg P G di [.sl (.par 0) 2 0 l.length,.int .i64 a,.int .i64 m,.int .i64 b,.fn jw [] []] 2 (dA l) (vB l)) :
  ∀(k:Nat) (l:List Attr),l.length≤B→∀a m b:Nat,a<m→m<b→b≤l.length→b - a≤k→qg P G bh [.sl (.par 0) 2 0 l.length,.int .i64 a,.int .i64 m,.int .i64 b,.fn jw [] []] 2 (dA l) (vB l):=by
 intro k;induction k with
 |zero=>intro l hl a m b h1 h2 h3 h4;omega
 |succ k ih=>
 intro l hl a m b ham hmb hb hk;refine pw hF (by simp) (by simp[ah,AV.aB]) ?_;have nM:B=1073741824:=rfl;have hbv:(2:Nat)^40=1099511627776:=by decide
 have hC':∀x y:Attr,aw P G jw [.agg [.str x.name,.str x.val],.agg [.str y.name,.str y.val]] (.int .i64 (Ba x y)):=hC;have oU:IntKind.i64.wrap ((m:Int) - (a:Int))=((m - a:Nat):Int):=by rw[wrap64 (by omega) (by omega)];omega
 have BQ:IntKind.i64.wrap ((b:Int) - (m:Int))=((b - m:Nat):Int):=by rw[wrap64 (by omega) (by omega)];omega
 unfold g_;simp only[↓aX,mX,seval,gg,oU];by_cases hma:m - a=1
 ·rw[show(((m - a:Nat):Int)==1)=true by simp[hma]];simp only[↓aX,mX,seval];refine eB (σ:={q:Nat×Nat // m≤q.1∧q.1≤q.2∧q.2≤b}) [.par 0] (fun q=>[(0,.sl (.par 0) 2 0 l.length),(1,.int .i64 a),(2,.int .i64 m),(3,.int .i64 b),(4,.fn jw [] []),(10,.int .i64 q.1.1),(11,.int .i64 q.1.2)]) (fun _=>[(.par 0,⟨2,ar (dA l)⟩)]) (fun q=>q.1.2 - q.1.1)
   ⟨(m,b),Nat.le_refl _,by simp only;omega,Nat.le_refl _⟩ (fun _=>rfl) (by decide) (by simp[ah,AV.aB]) ?_ ?_ ?_
  ·exact fun _=>y9
  ·exact jG (fun z e=>by simp[ae,e,Hp.none]) (by repeat' constructor) (by repeat' constructor)
  rintro⟨⟨i,j⟩,hi,SA,hj⟩;simp only at hi SA hj;simp only[↓aX,mX,seval,ed,dk];by_cases bO:i<j
  ·rw[show decide (((i:Nat):Int)<((j:Nat):Int))=true by simpa using bO];obtain⟨h,hh⟩:∃h,h=(i+j)/2:=⟨_,rfl⟩;have D_:=Bw (x:=i) (y:=j) (by omega);rw[←hh] at D_;obtain⟨x,hx⟩:∃x,l[h]?=some x:=⟨_,List.getElem?_eq_getElem (by omega)⟩;obtain⟨y,hy⟩:∃y,l[a]?=some y:=⟨_,List.getElem?_eq_getElem (by omega)⟩;have Lg:IntKind.i64.wrap ((h:Int)+1)=((h+1:Nat):Int):=wrap64 (by omega) (by omega);simp only[↓aX,mX,seval];refine⟨by decide +kernel,?_⟩;simp only[↓aX,mX,seval,D_,Int.natCast_nonneg,Int.toNat_natCast,Nat.zero_add,qh hx,qh hy,show h<l.length by omega,show a<l.length by omega,tu,AJ];refine⟨hBd,gJ (hC' x y) ?_⟩;simp only[↓aX,mX,seval];cases zp:decide (Ba x y<0) with
   |true=>
    simp only[↓aX,mX,seval,D_,Lg];exact⟨⟨(h+1,j),by simp only;omega,by simp only;omega,by simp only;omega⟩,by simp only;omega,by
     exact jG (fun z e=>by simp[ae,e,Hp.none]) (by repeat' constructor) (by repeat' constructor)⟩
   |false=>
   simp only[↓aX,mX,seval,D_,Lg];exact⟨⟨(i,h),by simp only;omega,by simp only;omega,by simp only;omega⟩,by simp only;omega,by
    exact jG (fun z e=>by simp[ae,e,Hp.none]) (by repeat' constructor) (by repeat' constructor)⟩
  rw[show decide (((i:Nat):Int)<((j:Nat):Int))=false by simpa using bO];have aa6:IntKind.i64.wrap ((i:Int) - 1)=((i - 1:Nat):Int):=by rw[wrap64 (by omega) (by omega)];omega
  simp only[↓aX,mX,seval,aa6];refine eB (σ:={q:Nat×List Attr // a≤q.1∧q.1≤i - 1∧q.2.Perm l}) [.par 0] (fun q=>[(0,.sl (.par 0) 2 0 l.length),(10,.int .i64 i),(13,.int .i64 q.1.1)]) (fun q=>[(.par 0,⟨2,ar (dA q.1.2)⟩)]) (fun q=>i - q.1.1)
   ⟨(a,l),Nat.le_refl _,by simp only;omega,.refl _⟩ (fun _=>rfl) (by decide) (by simp[ah,AV.aB]) ?_ ?_ ?_
  ·exact fun _=>y9
  ·exact jG (fun z e=>by simp[ae,e,Hp.none]) (by repeat' constructor) (by repeat' constructor)
  rintro⟨⟨p,M⟩,Vl,TL,hM⟩;simp only at Vl TL hM;have FN:M.length=l.length:=hM.length_eq;simp only[↓aX,mX,seval,ed,dk,aa6];by_cases lA:p<i - 1
  ·rw[show decide (((p:Nat):Int)<((i - 1:Nat):Int))=true by rw[decide_eq_true_eq];omega];have hw:IntKind.i64.wrap ((p:Int)+1)=((p+1:Nat):Int):=wrap64 (by omega) (by omega);obtain⟨x,hx⟩:∃x,M[p]?=some x:=⟨_,List.getElem?_eq_getElem (by omega)⟩;obtain⟨y,hy⟩:∃y,M[p+1]?=some y:=⟨_,List.getElem?_eq_getElem (by omega)⟩;simp only[↓aX,mX,seval];refine⟨by decide +kernel,?_⟩;simp only[↓aX,mX,seval,hw,Int.natCast_nonneg,Int.toNat_natCast,Nat.zero_add,qh hx,qh hy,show p<l.length by omega,show p+1<l.length by omega,j4];rw[yV M p y];obtain⟨y2,Ck⟩:∃y2,(M.set p y)[p+1]?=some y2:=⟨_,List.getElem?_eq_getElem (by rw[List.length_set];omega)⟩;simp only[↓aX,mX,seval,qh Ck,hw];exact⟨⟨(p+1,(M.set p y).set (p+1) x),by simp only;omega,by simp only;omega,(swap_perm hx hy).trans hM⟩,by simp only;omega,by
    exact jG (fun z e=>by simp[ae,e,Hp.none]) (by repeat' constructor) ⟨by simp only[ae,if_true];rw[yV],trivial⟩⟩
  rw[show decide (((p:Nat):Int)<((i - 1:Nat):Int))=false by rw[decide_eq_false_iff_not];omega];simp only[↓aX,mX,seval,Cj,jc,jf];exact⟨_,rfl,dA M,⟨M,rfl,hM⟩,by simp[AV.aB,ah],by rw[bQ,bQ,FN],by simp[ae]⟩
 rw[show(((m - a:Nat):Int)==1)=false by rw[beq_eq_false_iff_ne];omega];simp only[↓aX,mX,seval,BQ];by_cases Yp:b - m=1
 ·rw[show(((b - m:Nat):Int)==1)=true by simp[Yp]];simp only[↓aX,mX,seval];refine eB (σ:={q:Nat×Nat // a≤q.1∧q.1≤q.2∧q.2≤m}) [.par 0] (fun q=>[(0,.sl (.par 0) 2 0 l.length),(1,.int .i64 a),(2,.int .i64 m),(3,.int .i64 b),(4,.fn jw [] []),(14,.int .i64 q.1.1),(15,.int .i64 q.1.2)]) (fun _=>[(.par 0,⟨2,ar (dA l)⟩)]) (fun q=>q.1.2 - q.1.1)
   ⟨(a,m),Nat.le_refl _,by simp only;omega,Nat.le_refl _⟩ (fun _=>rfl) (by decide) (by simp[ah,AV.aB]) ?_ ?_ ?_
  ·exact fun _=>y9
  ·exact jG (fun z e=>by simp[ae,e,Hp.none]) (by repeat' constructor) (by repeat' constructor)
  rintro⟨⟨i,j⟩,hi,SA,hj⟩;simp only at hi SA hj;simp only[↓aX,mX,seval,ed,dk];by_cases bO:i<j
  ·rw[show decide (((i:Nat):Int)<((j:Nat):Int))=true by simpa using bO];obtain⟨h,hh⟩:∃h,h=(i+j)/2:=⟨_,rfl⟩;have D_:=Bw (x:=i) (y:=j) (by omega);rw[←hh] at D_;obtain⟨x,hx⟩:∃x,l[m]?=some x:=⟨_,List.getElem?_eq_getElem (by omega)⟩;obtain⟨y,hy⟩:∃y,l[h]?=some y:=⟨_,List.getElem?_eq_getElem (by omega)⟩;have Lg:IntKind.i64.wrap ((h:Int)+1)=((h+1:Nat):Int):=wrap64 (by omega) (by omega);simp only[↓aX,mX,seval];refine⟨by decide +kernel,?_⟩;simp only[↓aX,mX,seval,D_,Int.natCast_nonneg,Int.toNat_natCast,Nat.zero_add,qh hx,qh hy,show m<l.length by omega,show h<l.length by omega,tu,AJ];refine⟨hBd,gJ (hC' x y) ?_⟩;simp only[↓aX,mX,seval];cases zp:decide (Ba x y<0) with
   |true=>
    simp only[↓aX,mX,seval,Bool.not_true,D_,Lg];exact⟨⟨(i,h),by simp only;omega,by simp only;omega,by simp only;omega⟩,by simp only;omega,by
     exact jG (fun z e=>by simp[ae,e,Hp.none]) (by repeat' constructor) (by repeat' constructor)⟩
   |false=>
   simp only[↓aX,mX,seval,Bool.not_false,D_,Lg];exact⟨⟨(h+1,j),by simp only;omega,by simp only;omega,by simp only;omega⟩,by simp only;omega,by
    exact jG (fun z e=>by simp[ae,e,Hp.none]) (by repeat' constructor) (by repeat' constructor)⟩
  rw[show decide (((i:Nat):Int)<((j:Nat):Int))=false by simpa using bO];simp only[↓aX,mX,seval];refine eB (σ:={q:Nat×List Attr // i≤q.1∧q.1≤m∧q.2.Perm l}) [.par 0] (fun q=>[(0,.sl (.par 0) 2 0 l.length),(14,.int .i64 i),(17,.int .i64 q.1.1)]) (fun q=>[(.par 0,⟨2,ar (dA q.1.2)⟩)]) (fun q=>q.1.1)
   ⟨(m,l),by simp only;omega,Nat.le_refl _,.refl _⟩ (fun _=>rfl) (by decide) (by simp[ah,AV.aB]) ?_ ?_ ?_
  ·exact fun _=>y9
  ·exact jG (fun z e=>by simp[ae,e,Hp.none]) (by repeat' constructor) (by repeat' constructor)
  rintro⟨⟨p,M⟩,Vl,TL,hM⟩;simp only at Vl TL hM;have FN:M.length=l.length:=hM.length_eq;simp only[↓aX,mX,seval,ed,dk];by_cases lA:i<p
  ·rw[show decide (((p:Nat):Int)>((i:Nat):Int))=true by simpa using lA];have hw:IntKind.i64.wrap ((p:Int) - 1)=((p - 1:Nat):Int):=(by rw[wrap64 (by omega) (by omega)];omega);obtain⟨x,hx⟩:∃x,M[p]?=some x:=⟨_,List.getElem?_eq_getElem (by omega)⟩;obtain⟨y,hy⟩:∃y,M[p - 1]?=some y:=⟨_,List.getElem?_eq_getElem (by omega)⟩;simp only[↓aX,mX,seval];refine⟨by decide +kernel,?_⟩;simp only[↓aX,mX,seval,hw,Int.natCast_nonneg,Int.toNat_natCast,Nat.zero_add,qh hx,qh hy,show p<l.length by omega,show p - 1<l.length by omega,j4];rw[yV M p y];obtain⟨y2,Ck⟩:∃y2,(M.set p y)[p - 1]?=some y2:=⟨_,List.getElem?_eq_getElem (by rw[List.length_set];omega)⟩;simp only[↓aX,mX,seval,qh Ck,hw];exact⟨⟨(p - 1,(M.set p y).set (p - 1) x),by simp only;omega,by simp only;omega,(swap_perm hx hy).trans hM⟩,by simp only;omega,by
    exact jG (fun z e=>by simp[ae,e,Hp.none]) (by repeat' constructor) ⟨by simp only[ae,if_true];rw[yV],trivial⟩⟩
  rw[show decide (((p:Nat):Int)>((i:Nat):Int))=false by simpa using lA];simp only[↓aX,mX,seval,Cj,jc,jf];exact⟨_,rfl,dA M,⟨M,rfl,hM⟩,by simp[AV.aB,ah],by rw[bQ,bQ,FN],by simp[ae]⟩
 rw[show(((b - m:Nat):Int)==1)=false by rw[beq_eq_false_iff_ne];omega];obtain⟨v_,acT⟩:∃v_,v_=(a+b)/2:=⟨_,rfl⟩;have aa7:=Bw (x:=a) (y:=b) (by omega);rw[←acT] at aa7;have hwn:IntKind.i64.wrap ((v_:Int)+(m:Int))=((v_+m:Nat):Int):=wrap64 (by omega) (by omega);have hwp:IntKind.i64.wrap (((v_+m:Nat):Int) - 1)=((v_+m - 1:Nat):Int):=by rw[wrap64 (by omega) (by omega)];omega
 simp only[↓aX,mX,seval,aa7,hwn];by_cases B7:v_<m
 ·obtain⟨lo,B2⟩:∃lo,lo=v_+m - b:=⟨_,rfl⟩;have hwl:IntKind.i64.wrap (((v_+m:Nat):Int) - (b:Int))=((lo:Nat):Int):=by rw[wrap64 (by omega) (by omega)];omega
  rw[show decide (((m:Nat):Int)>((v_:Nat):Int))=true by simpa using B7];simp only[↓aX,mX,seval,hwl,hwp];refine eB (σ:={q:Nat×Nat // lo≤q.1∧q.1≤q.2∧q.2≤v_}) [.par 0] (fun q=>[(0,.sl (.par 0) 2 0 l.length),(1,.int .i64 a),(2,.int .i64 m),(3,.int .i64 b),(4,.fn jw [] []),(20,.int .i64 q.1.1),(21,.int .i64 q.1.2),(18,.int .i64 v_),(19,.int .i64 ((v_+m:Nat):Int)),(22,.int .i64 ((v_+m - 1:Nat):Int))]) (fun _=>[(.par 0,⟨2,ar (dA l)⟩)]) (fun q=>q.1.2 - q.1.1)
   ⟨(lo,v_),Nat.le_refl _,by simp only;omega,Nat.le_refl _⟩ (fun _=>rfl) (by decide) (by simp[ah,AV.aB]) ?_ ?_ ?_
  ·exact fun _=>y9
  ·exact jG (fun z e=>by simp[ae,e,Hp.none]) (by repeat' constructor) (by repeat' constructor)
  rintro⟨⟨i,j⟩,hi,SA,hj⟩;simp only at hi SA hj;simp only[↓aX,mX,seval,ed,dk];by_cases bO:i<j
  ·rw[show decide (((i:Nat):Int)<((j:Nat):Int))=true by simpa using bO];obtain⟨h,hh⟩:∃h,h=(i+j)/2:=⟨_,rfl⟩;have D_:=Bw (x:=i) (y:=j) (by omega);rw[←hh] at D_;obtain⟨g,hg⟩:∃g,g=v_+m - 1 - h:=⟨_,rfl⟩;have hwg:IntKind.i64.wrap (((v_+m - 1:Nat):Int) - (h:Int))=((g:Nat):Int):=(by rw[wrap64 (by omega) (by omega)];omega);obtain⟨x,hx⟩:∃x,l[g]?=some x:=⟨_,List.getElem?_eq_getElem (by omega)⟩;obtain⟨y,hy⟩:∃y,l[h]?=some y:=⟨_,List.getElem?_eq_getElem (by omega)⟩;have Lg:IntKind.i64.wrap ((h:Int)+1)=((h+1:Nat):Int):=wrap64 (by omega) (by omega);simp only[↓aX,mX,seval];refine⟨by decide +kernel,?_⟩;simp only[↓aX,mX,seval,D_,hwg,Int.natCast_nonneg,Int.toNat_natCast,Nat.zero_add,qh hx,qh hy,show g<l.length by omega,show h<l.length by omega,tu,AJ];refine⟨hBd,gJ (hC' x y) ?_⟩;simp only[↓aX,mX,seval];cases zp:decide (Ba x y<0) with
   |true=>
    simp only[↓aX,mX,seval,Bool.not_true,D_,Lg];exact⟨⟨(i,h),by simp only;omega,by simp only;omega,by simp only;omega⟩,by simp only;omega,by
     exact jG (fun z e=>by simp[ae,e,Hp.none]) (by repeat' constructor) (by repeat' constructor)⟩
   |false=>
   simp only[↓aX,mX,seval,Bool.not_false,D_,Lg];exact⟨⟨(h+1,j),by simp only;omega,by simp only;omega,by simp only;omega⟩,by simp only;omega,by
    exact jG (fun z e=>by simp[ae,e,Hp.none]) (by repeat' constructor) (by repeat' constructor)⟩
  rw[show decide (((i:Nat):Int)<((j:Nat):Int))=false by simpa using bO];obtain⟨e,he⟩:∃e,e=v_+m - i:=⟨_,rfl⟩;have zn:IntKind.i64.wrap (((v_+m:Nat):Int) - (i:Int))=((e:Nat):Int):=by rw[wrap64 (by omega) (by omega)];omega
  simp only[↓aX,mX,seval,zn];refine C' rfl (.inl ⟨rfl,rfl,rfl,rfl⟩) (.refl l) rfl rfl rfl rfl rfl (by simp[ae]) (fun q1 q2=>hR l hl i m e q1 q2 (by omega)) fun z1 rP E1 H1 e1 r1=> ?_;have l1:=rP.length_eq;simp only[↓aX,mX,seval];refine C' rfl (.inr (.inl ⟨rfl,rfl,rfl,rfl⟩)) rP (e1 0 (by decide)) (e1 4 (by decide)) (e1 1 (by decide)) (e1 20 (by decide)) (e1 18 (by decide)) r1 (fun q1 q2=>l1▸ih z1 (by omega) a i v_ q1 q2 (by omega) (by omega)) fun z2 Cc E2 H2 e2 r2=> ?_;have l2:=Cc.length_eq;refine C' rfl (.inr (.inr ⟨rfl,rfl,rfl,rfl⟩)) Cc ((e2 0 (by decide)).trans (e1 0 (by decide))) ((e2 4 (by decide)).trans (e1 4 (by decide))) ((e2 18 (by decide)).trans (e1 18 (by decide))) ((e2 24 (by decide)).trans (e1 24 (by decide))) ((e2 3 (by decide)).trans (e1 3 (by decide))) r2 (fun q1 q2=>l2▸ih z2 (by omega) v_ e b q1 q2 (by omega) (by omega)) fun z3 hz3 E3 H3 e3 r3=> ?_;simp only[↓aX,mX,seval,iM,jc,jf];exact⟨_,rfl,dA z3,⟨z3,rfl,hz3⟩,by simp[AV.aB,ah],((bQ _).trans hz3.length_eq).trans (bQ l).symm,r3⟩
 rw[show decide (((m:Nat):Int)>((v_:Nat):Int))=false by simpa using B7];simp only[↓aX,mX,seval,hwp];refine eB (σ:={q:Nat×Nat // a≤q.1∧q.1≤q.2∧q.2≤m}) [.par 0] (fun q=>[(0,.sl (.par 0) 2 0 l.length),(1,.int .i64 a),(2,.int .i64 m),(3,.int .i64 b),(4,.fn jw [] []),(20,.int .i64 q.1.1),(21,.int .i64 q.1.2),(18,.int .i64 v_),(19,.int .i64 ((v_+m:Nat):Int)),(22,.int .i64 ((v_+m - 1:Nat):Int))]) (fun _=>[(.par 0,⟨2,ar (dA l)⟩)]) (fun q=>q.1.2 - q.1.1)
  ⟨(a,m),Nat.le_refl _,by simp only;omega,Nat.le_refl _⟩ (fun _=>rfl) (by decide) (by simp[ah,AV.aB]) ?_ ?_ ?_
 ·exact fun _=>y9
 ·exact jG (fun z e=>by simp[ae,e,Hp.none]) (by repeat' constructor) (by repeat' constructor)
 rintro⟨⟨i,j⟩,hi,SA,hj⟩;simp only at hi SA hj;simp only[↓aX,mX,seval,ed,dk];by_cases bO:i<j
 ·rw[show decide (((i:Nat):Int)<((j:Nat):Int))=true by simpa using bO];obtain⟨h,hh⟩:∃h,h=(i+j)/2:=⟨_,rfl⟩;have D_:=Bw (x:=i) (y:=j) (by omega);rw[←hh] at D_;obtain⟨g,hg⟩:∃g,g=v_+m - 1 - h:=⟨_,rfl⟩;have hwg:IntKind.i64.wrap (((v_+m - 1:Nat):Int) - (h:Int))=((g:Nat):Int):=by rw[wrap64 (by omega) (by omega)];omega
  obtain⟨x,hx⟩:∃x,l[g]?=some x:=⟨_,List.getElem?_eq_getElem (by omega)⟩;obtain⟨y,hy⟩:∃y,l[h]?=some y:=⟨_,List.getElem?_eq_getElem (by omega)⟩;have Lg:IntKind.i64.wrap ((h:Int)+1)=((h+1:Nat):Int):=wrap64 (by omega) (by omega);simp only[↓aX,mX,seval];refine⟨by decide +kernel,?_⟩;simp only[↓aX,mX,seval,D_,hwg,Int.natCast_nonneg,Int.toNat_natCast,Nat.zero_add,qh hx,qh hy,show g<l.length by omega,show h<l.length by omega,tu,AJ];refine⟨hBd,gJ (hC' x y) ?_⟩;simp only[↓aX,mX,seval];cases zp:decide (Ba x y<0) with
  |true=>
   simp only[↓aX,mX,seval,Bool.not_true,D_,Lg];exact⟨⟨(i,h),by simp only;omega,by simp only;omega,by simp only;omega⟩,by simp only;omega,by
    exact jG (fun z e=>by simp[ae,e,Hp.none]) (by repeat' constructor) (by repeat' constructor)⟩
  |false=>
  simp only[↓aX,mX,seval,Bool.not_false,D_,Lg];exact⟨⟨(h+1,j),by simp only;omega,by simp only;omega,by simp only;omega⟩,by simp only;omega,by
   exact jG (fun z e=>by simp[ae,e,Hp.none]) (by repeat' constructor) (by repeat' constructor)⟩
 rw[show decide (((i:Nat):Int)<((j:Nat):Int))=false by simpa using bO];obtain⟨e,he⟩:∃e,e=v_+m - i:=⟨_,rfl⟩;have zn:IntKind.i64.wrap (((v_+m:Nat):Int) - (i:Int))=((e:Nat):Int):=by rw[wrap64 (by omega) (by omega)];omega
 simp only[↓aX,mX,seval,zn];refine C' rfl (.inl ⟨rfl,rfl,rfl,rfl⟩) (.refl l) rfl rfl rfl rfl rfl (by simp[ae]) (fun q1 q2=>hR l hl i m e q1 q2 (by omega)) fun z1 rP E1 H1 e1 r1=> ?_;have l1:=rP.length_eq;simp only[↓aX,mX,seval];refine C' rfl (.inr (.inl ⟨rfl,rfl,rfl,rfl⟩)) rP (e1 0 (by decide)) (e1 4 (by decide)) (e1 1 (by decide)) (e1 20 (by decide)) (e1 18 (by decide)) r1 (fun q1 q2=>l1▸ih z1 (by omega) a i v_ q1 q2 (by omega) (by omega)) fun z2 Cc E2 H2 e2 r2=> ?_;have l2:=Cc.length_eq;refine C' rfl (.inr (.inr ⟨rfl,rfl,rfl,rfl⟩)) Cc ((e2 0 (by decide)).trans (e1 0 (by decide))) ((e2 4 (by decide)).trans (e1 4 (by decide))) ((e2 18 (by decide)).trans (e1 18 (by decide))) ((e2 24 (by decide)).trans (e1 24 (by decide))) ((e2 3 (by decide)).trans (e1 3 (by decide))) r2 (fun q1 q2=>l2▸ih z2 (by omega) v_ e b q1 q2 (by omega) (by omega)) fun z3 hz3 E3 H3 e3 r3=> ?_;simp only[↓aX,mX,seval,iM,jc,jf];exact⟨_,rfl,dA z3,⟨z3,rfl,hz3⟩,by simp[AV.aB,ah],((bQ _).trans hz3.length_eq).trans (bQ l).symm,r3⟩

def iB (bM bh:Nat):AC:=
(ay [eX 6 20] (ay [af 10 6,eX 7 0,af 8 10] (.seq (.block 0 (.loop (.seq (ay [af 11 8,af 12 1,eS 13 .leq 11 12] (.cond (.t 13) .skip (.exit 0))) (.block 1 (ay [af 14 0,af 15 7,af 16 8,af 17 2,aE 18 (.call bM [(.t 14),(.t 15),(.t 16),(.t 17)])] (ay [af 19 8,af 7 19] (.ec [af 20 8,af 21 6,eS 22 .add 20 21,af 8 22]))))))) (ay [af 23 0,af 24 7,af 25 1,af 26 2,aE 27 (.call bM [(.t 23),(.t 24),(.t 25),(.t 26)])] (.block 2 (.loop (.seq (ay [af 28 6,af 29 1,eS 30 .lss 28 29] (.cond (.t 30) .skip (.exit 2))) (.block 3 (ay [af 31 6,aE 32 (.bin .mul (ij 2) (.t 31)),eX 7 0,af 8 32] (.seq (.block 4 (.loop (.seq (ay [af 33 8,af 34 1,eS 35 .leq 33 34] (.cond (.t 35) .skip (.exit 4))) (.block 5 (ay [af 36 0,af 37 7,af 38 7,af 39 6,eS 40 .add 38 39,af 41 8,af 42 2,aE 43 (.call bh [(.t 36),(.t 37),(.t 40),(.t 41),(.t 42)])] (ay [af 44 8,af 7 44] (.ec [af 45 8,af 46 6,aE 47 (.bin .mul (ij 2) (.t 46)),eS 48 .add 45 47,af 8 48]))))))) (.seq (ay [af 49 7,af 50 6,eS 51 .add 49 50,af 9 51] (ay [af 52 9,af 53 1,eS 54 .lss 52 53] (.cond (.t 54) (.ec [af 55 0,af 56 7,af 57 9,af 58 1,af 59 2,aE 60 (.call bh [(.t 55),(.t 56),(.t 57),(.t 58),(.t 59)])]) .skip))) (.ec [af 61 6,db 62 .mul 61 2,af 6 62]))))))))))))
def S0 {dj bM bh jw:Nat} (hF:an P G dj=some (63,[],(iB bM bh).bare))
  (hI:∀(l:List Attr),l.length≤B→∀a b:Nat,a≤b→b≤l.length→qg P G bM [.sl (.par 0) 2 0 l.length,.int .i64 a,.int .i64 b,.fn jw [] []] 2 (dA l) fun x ys=>∃zs:List Attr,ys=dA zs∧zs.Perm l∧(a=0→zs=gb (l.take b)++l.drop b)∧(a=b→zs=l))
  (hS:∀(l:List Attr),l.length≤B→∀a m b:Nat,a<m→m<b→b≤l.length→qg P G bh [.sl (.par 0) 2 0 l.length,.int .i64 a,.int .i64 m,.int .i64 b,.fn jw [] []] 2 (dA l) (vB l))
  (l:List Attr) (hl:l.length≤B) :
  qg P G dj [.sl (.par 0) 2 0 l.length,.int .i64 l.length,.fn jw [] []] 2 (dA l) fun x ys=>∃zs:List Attr,ys=dA zs∧zs.Perm l∧(l.length≤20→zs=gb l):=by
 refine pw hF (by simp) (by simp[ah,AV.aB]) ?_;have nM:B=1073741824:=rfl;unfold iB;simp only[↓aX,mX,seval,gg];refine eB (σ:={q:Nat×List Attr // q.1≤l.length∧q.2.Perm l∧(l.length≤20→(q.1=0∧q.2=l)∨(q.1=l.length∧q.2=gb l))}) [.par 0] (fun q=>[(0,.sl (.par 0) 2 0 l.length),(1,.int .i64 l.length),(2,.fn jw [] []),(6,.int .i64 20),(7,.int .i64 q.1.1),(8,.int .i64 ((q.1.1+20:Nat):Int))]) (fun q=>[(.par 0,⟨2,ar (dA q.1.2)⟩)]) (fun q=>l.length - q.1.1)
  ⟨(0,l),ad3 _,.refl _,fun _=> .inl ⟨rfl,rfl⟩⟩ (fun _=>rfl) (by decide) (by simp[ah,AV.aB]) ?_ ?_ ?_
 ·intro q w hw cs bS z hz;simp only[adr] at hw;subst hw;rw[bT bS] at hz;simp at hz
 ·refine jI ?_ (by repeat' constructor) (by repeat' constructor);intro z hz hu;by_cases e:z= .par 0
  ·subst e;simp
  exfalso;apply hu;simp[ae,e,Hp.none]
 rintro⟨⟨a,M⟩,ha,hM,hs⟩;simp only at ha hM hs;have FN:M.length=l.length:=hM.length_eq;simp only[↓aX,mX,seval,ed,dk];by_cases hle:a+20≤l.length
 ·rw[show decide (((a+20:Nat):Int)≤((l.length:Nat):Int))=true by rw[adM];omega];have hw:IntKind.i64.wrap (((a+20:Nat):Int)+20)=((a+20+20:Nat):Int):=wrap64 (by omega) (by omega);have hc:=hI M (by omega) a (a+20) (by omega) (by omega);rw[FN] at hc;simp only[↓aX,mX,seval];refine h_ (l:= .par 0) hc (by simp[aY,e7,iH]) (by simp[ae]) ?_;rintro x1 ys ⟨zs,rfl,hz,Ko,_⟩ _ _;simp only[↓aX,mX,seval,hw];refine⟨⟨(a+20,zs),hle,hz.trans hM,fun Uu=> .inr ⟨by simp only;omega,?_⟩⟩,by simp only;omega,?_⟩
  ·rcases hs Uu with⟨rfl,rfl⟩|⟨h,_⟩
   ·have:=Ko rfl;rw[this,ads (by omega),aeC (by omega),adN]
   omega
  refine jI ?_ (by repeat' constructor) (by repeat' constructor);intro z hz hu;by_cases e:z= .par 0
  ·subst e;simp
  exfalso;apply hu;simp[ae,e,Hp.none]
 rw[show decide (((a+20:Nat):Int)≤((l.length:Nat):Int))=false by rw[aeV];omega];have hc:=hI M (by omega) a l.length ha (by omega);rw[FN] at hc;simp only[↓aX,mX,seval];refine h_ (l:= .par 0) hc (by simp[aY,e7,iH]) (by simp[ae]) ?_;rintro x1 ys ⟨zs,rfl,hz,Ko,rP⟩ _ _;have yu:l.length≤20→zs=gb l:=by
  intro Uu;rcases hs Uu with⟨rfl,rfl⟩|⟨h,h2⟩
  ·rw[Ko rfl,ads (adw _),aeC (adw _),adN]
  rw[rP h,h2]
 have hzp:=hz.trans hM;clear hz Ko rP hs hM FN hc ha hle;simp only[↓aX,mX,seval];refine eB (σ:={q:Nat×List Attr // 0<q.1∧q.2.Perm l∧(q.1=20→q.2=zs)∧20≤q.1∧(20<q.1→20<l.length)∧q.1≤2*l.length+20}) [.par 0] (fun q=>[(0,.sl (.par 0) 2 0 l.length),(1,.int .i64 l.length),(2,.fn jw [] []),(6,.int .i64 q.1.1)]) (fun q=>[(.par 0,⟨2,ar (dA q.1.2)⟩)]) (fun q=>2*l.length+20 - q.1.1)
  ⟨(20,zs),by simp only;omega,hzp,fun _=>rfl,adw _,fun h=>absurd h (by simp),by simp only;omega⟩ (fun _=>rfl) (by decide) (by simp[ah,AV.aB]) ?_ ?_ ?_
 ·intro q w hw cs bS z hz;simp only[adr] at hw;subst hw;rw[bT bS] at hz;simp at hz
 ·refine jI ?_ (by repeat' constructor) (by repeat' constructor);intro z hz hu;by_cases e:z= .par 0
  ·subst e;simp
  exfalso;apply hu;simp[ae,e,Hp.none]
 rintro⟨⟨bs,M⟩,zh,hM,MZ,Ep,hq3,hq4⟩;simp only at zh hM MZ Ep hq3 hq4;have FN:M.length=l.length:=hM.length_eq;simp only[↓aX,mX,seval,ed,dk];by_cases bO:bs<l.length
 ·rw[show decide (((bs:Nat):Int)<((l.length:Nat):Int))=true by simpa using bO];have BQ:IntKind.i64.wrap (2*(bs:Int))=((2*bs:Nat):Int):=by rw[wrap64 (by omega) (by omega)];omega
  have BR:IntKind.i64.wrap ((bs:Int)*2)=((2*bs:Nat):Int):=by rw[wrap64 (by omega) (by omega)];omega
  simp only[↓aX,mX,seval,BQ];refine eB (σ:={q:Nat×List Attr // q.1≤l.length∧q.2.Perm l}) [.par 0] (fun q=>[(0,.sl (.par 0) 2 0 l.length),(1,.int .i64 l.length),(2,.fn jw [] []),(6,.int .i64 bs),(7,.int .i64 q.1.1),(8,.int .i64 ((q.1.1+2*bs:Nat):Int))]) (fun q=>[(.par 0,⟨2,ar (dA q.1.2)⟩)]) (fun q=>l.length - q.1.1)
   ⟨(0,M),ad3 _,hM⟩ (fun _=>rfl) (by decide) (by simp[ah,AV.aB]) ?_ ?_ ?_
  ·intro q w hw cs bS z hz;simp only[adr] at hw;subst hw;rw[bT bS] at hz;simp at hz
  ·refine jI ?_ (by simp only[adC];repeat' constructor) (by repeat' constructor);intro z hz hu;by_cases e:z= .par 0
   ·subst e;simp
   exfalso;apply hu;simp[ae,e,Hp.none]
  rintro⟨⟨a,M⟩,ha,hM⟩;simp only at ha hM;have FN:M.length=l.length:=hM.length_eq;have Qw:IntKind.i64.wrap ((a:Int)+(bs:Int))=((a+bs:Nat):Int):=wrap64 (by omega) (by omega);have hwn:IntKind.i64.wrap (((a+2*bs:Nat):Int)+((2*bs:Nat):Int))=((a+2*bs+2*bs:Nat):Int):=wrap64 (by omega) (by omega);simp only[↓aX,mX,seval,ed,dk,BQ,Qw,hwn];by_cases hle:a+2*bs≤l.length
  ·rw[show decide (((a+2*bs:Nat):Int)≤((l.length:Nat):Int))=true by rw[adM];omega];have hc:=hS M (by omega) a (a+bs) (a+2*bs) (by omega) (by omega) (by omega);rw[FN] at hc;simp only[↓aX,mX,seval,Qw];refine h_ (l:= .par 0) hc (by simp[aY,e7,iH]) (by simp[ae]) ?_;rintro x1 ys ⟨z1,rfl,hz⟩ _ _;simp only[↓aX,mX,seval,BQ,hwn];exact⟨⟨(a+2*bs,z1),hle,hz.trans hM⟩,by simp only;omega,by
    refine jI ?_ (by repeat' constructor) (by repeat' constructor);intro z hz hu;by_cases e:z= .par 0
    ·subst e;simp
    exfalso;apply hu;simp[ae,e,Hp.none]⟩
  rw[show decide (((a+2*bs:Nat):Int)≤((l.length:Nat):Int))=false by rw[aeV];omega];simp only[↓aX,mX,seval,Qw];by_cases QG:a+bs<l.length
  ·rw[show decide (((a+bs:Nat):Int)<((l.length:Nat):Int))=true by rw[adM];omega];have hc:=hS M (by omega) a (a+bs) l.length (by omega) (by omega) (by omega);rw[FN] at hc;simp only[↓aX,mX,seval];refine h_ (l:= .par 0) hc (by simp[aY,e7,iH]) (by simp[ae]) ?_;rintro x1 ys ⟨z1,rfl,hz⟩ _ _;simp only[↓aX,mX,seval,BR];exact⟨⟨(2*bs,z1),by simp only;omega,hz.trans hM,fun h=>absurd h (by simp only;omega),by simp only;omega,fun _=>by omega,by simp only;omega⟩,by simp only;omega,by
    refine jI ?_ (by repeat' constructor) (by repeat' constructor);intro z hz hu;by_cases e:z= .par 0
    ·subst e;simp
    exfalso;apply hu;simp[ae,e,Hp.none]⟩
  rw[show decide (((a+bs:Nat):Int)<((l.length:Nat):Int))=false by rw[aeV];omega];simp only[↓aX,mX,seval,BR];exact⟨⟨(2*bs,M),by simp only;omega,hM,fun h=>absurd h (by simp only;omega),by simp only;omega,fun _=>by omega,by simp only;omega⟩,by simp only;omega,by
   refine jI ?_ (by repeat' constructor) (by repeat' constructor);intro z hz hu;by_cases e:z= .par 0
   ·subst e;simp
   exfalso;apply hu;simp[ae,e,Hp.none]⟩
 rw[show decide (((bs:Nat):Int)<((l.length:Nat):Int))=false by simpa using bO];simp only[↓aX,mX,seval,iM,jc,jf];refine⟨_,rfl,dA M,⟨M,rfl,hM,fun h=> ?_⟩,by simp[AV.aB,ah],by rw[bQ,bQ,FN],by simp[ae]⟩;have acU:bs=20:=by
  by_cases Uu:20<bs
  ·have:=hq3 Uu;omega
  omega
 rw[MZ acU];exact yu h
def f_ (dj:Nat):AC:=
(.ec [af 4 0,af 5 0,ky 6 5,af 7 1,aE 8 (.call dj [(.t 4),(.t 6),(.t 7)])])
def Gn {b8 dj jw:Nat} (hF:an P G b8=some (9,[],(f_ dj).bare))
  (l:List Attr) (hS:qg P G dj [.sl (.par 0) 2 0 l.length,.int .i64 l.length,.fn jw [] []] 2 (dA l) fun x ys=>∃zs:List Attr,ys=dA zs∧zs.Perm l∧(l.length≤20→zs=gb l)) :
  qg P G b8 [.sl (.par 0) 2 0 l.length,.fn jw [] []] 2 (dA l) fun x ys=>∃zs:List Attr,ys=dA zs∧zs.Perm l∧(l.length≤20→zs=gb l):=by
 refine pw hF (by simp) (by simp[ah,AV.aB]) ?_;unfold f_;simp only[↓aX,mX,seval,gg];refine h_ (l:= .par 0) hS (by simp[aY,e7,iH]) (by simp[ae]) ?_;rintro x1 ys ⟨zs,rfl,hz,Cc⟩ _ _;simp only[↓aX,mX,seval,iM,jc,jf];exact⟨_,rfl,dA zs,⟨zs,rfl,hz,Cc⟩,by simp[AV.aB,ah],by rw[bQ,bQ,hz.length_eq],by simp[ae]⟩
end

mutual
theorem Tree.Gp:∀x:Tree,x.My=true→x.k_=false
 | .mk t s as ks,h=>by
   simp only[Tree.My,aeJ,adM] at h
   cases t with
   |true=>
     rw[Tree.Ao _ rfl]
     simp only[Tree.attrs,Tree.kids]
     rcases h with h|h
     · have:(as.length==0)=false:=by rw[aew];omega
       simp[this]
     have:(ks.length==0)=false:=by
       cases ks with
       |nil=>simp[sj] at h
       |cons a r=>simp
     simp[this]
   |false=>
   rw[Tree.vQ _ rfl]
   simp only[Tree.attrs,Tree.kids]
   rcases h with h|h
   · have:iI as=false:=by
       unfold iI
       rw[ae1 (show ¬(as.length:Int)≤4 by omega),afR]
     simp[this]
   have:=ym ks h none
   simp[this]
theorem ym:∀l:List Tree,sj l=true→∀p,iD p l=false
 |[],h,_=>by simp[sj] at h
 |x::r,h,p=>by
   simp only[sj,aeJ] at h
   rcases h with h|h
   · have:=x.Gp h
     simp[iD,this]
   have:=ym r h (some x.text)
   simp[iD,this]
end
def Tree.Gq {x:Tree} (h:x.My=true):x.fZ=false:=by unfold Tree.fZ;rw[x.Gp h];simp
def xm {l:List Tree} (h:sj l=true):content l=false:=by unfold content;rw[ym l h];simp
def dZ (x:Tree):Bs×Int:=if x.fZ then(if 2500<x.sh.length then([],2) else(x.sh,0)) else([],1)
def MA:Tree:= .mk false [] [] []
def sw (s:Bs):Tree×Int:=match dy 8 s with
 |some (t,[])=>if t.fZ then(t,0) else(MA,1)
 |_=>(MA,1)
def dQ (s:Bs):Tree×Int:=if 2500<s.length then(MA,2) else sw s
def Bx (s:Bs):List Tree×Int:=match iQ (dy 8) s with
 |some (l,[])=>if content l then(l,0) else([],1)
 |_=>([],1)
def iq (s:Bs):List Tree×Int:=if 2500<s.length then([],2) else Bx s
section
variable {P:Program} {G:Nat→Option (List IV)}
def sy (dI jF:Nat):AC:=
(ay [oN 1 0,aE 2 (.nE (.c (.str []))),eX 3 0] (.seq (ay [gd 5 4 1,aE 6 (.call dI [(.t 5)]),uk 7 6] (.cond (.t 7) (ay [aE 2 (.nE (.c (.str []))),eX 3 1] .ret) .skip)) (ay [gd 8 4 1,aE 9 (.call jF [(.c .nil0),(.t 8)]),af 4 9] (.seq (ay [af 10 4,ky 11 10,db 12 .gtr 11 2500] (.cond (.t 12) (ay [aE 2 (.nE (.c (.str []))),eX 3 2] .ret) .skip)) (ay [af 13 4,aE 14 (.Ms (.t 13)),af 2 14,eX 3 0] .ret)))))
def PM {fG dI jF:Nat} (hF:an P G fG=some (15,[(none,2),(none,3)],(sy dI jF).bare)) (x:Tree) (hx:x.wt≤B) (hG:aw P G dI [x.av] (.bool x.fZ)) (hP:aw P G jF [.nil0,x.av] (.list (cw x.sh))) :
  aw P G fG [x.av] (.dM [.str (dZ x).1,.int .i64 (dZ x).2]):=by
 refine aM hF (by simp) (by simp[ah,AV.aB,Tree.av]) (by simp[AV.aB,ah]) ?_;unfold sy;simp only[Tree.av] at hG hP;simp only[↓aX,mX,seval,Tree.av];refine aq hG ?_;unfold dZ;cases hg:x.fZ with
 |false=>simp only[↓aX,mX,seval,adI,↓eQ,adQ,adS]
 |true=>
 simp only[↓aX,mX,seval,adL];refine aq hP ?_;by_cases hl:2500<x.sh.length
 ·simp only[↓aX,mX,seval,cx,show(((x.sh.length:Nat):Int)>2500)=True by simp;omega,aeB,↓eQ,hl,adH]
 simp only[↓aX,mX,seval,cx,show(((x.sh.length:Nat):Int)>2500)=False by simp;omega,aeL,↓eQ,hl,adS,GR,rB,adB]
def sB (ca dI:Nat):AC:=
(ay [aE 2 (.new [(.bool false),(.str []),.nil0,.nil0]),eX 3 0] (.seq (ay [af 6 0,wg 7 6,db 8 .gtr 7 2500] (.cond (.t 8) (ay [aE 9 (.oa [(.bool false),(.str []),.nil0,.nil0] []),dT (.store 4 (.t 2) (.t 9)),eX 3 2] .ret) .skip)) (ay [af 10 0,aE 11 (.oa [(.str []),(.bool false)] [(0,(1,(.t 10)))]),oN 12 11,af 4 12] (ay [af 13 4,aE 14 (.call ca [(.t 13),(ij 1)]),aE 5 (.new [(.bool false),(.str []),.nil0,.nil0]),dT (.store 4 (.t 5) (.t 14))] (.seq (ay [af 15 4,aE 16 (.dc (.t 15)),b7 17 16 1,cS 18 17,af 19 18,gj 20 19 4,hQ 21 19 (.dc (.t 20)),j3 22 19 21 0,jP 23 19 22,hQ 24 19 (.bin .neq (.t 23) (.c (.str []))),nC 25 19 24,af 26 25,hQ 27 26 (.load (some 4) (.t 5)),hQ 28 26 (.call dI [(.t 27)]),hQ 29 26 (.not (.t 28)),nC 30 26 29] (.cond (.t 30) (ay [aE 31 (.oa [(.bool false),(.str []),.nil0,.nil0] []),dT (.store 4 (.t 2) (.t 31)),eX 3 1] .ret) .skip)) (ay [gd 32 4 5,dT (.store 4 (.t 2) (.t 32)),eX 3 0] .ret))))))
def PN {fE ca dI:Nat} (hF:an P G fE=some (33,[((some (some 4)),2),(none,3)],(sB ca dI).bare)) (s:Bs) (hs:s.length≤B) (hE:∀s:Bs,s.length≤B→ez P G ca [.ptr (.par 0) 2 0 0,.int .i64 1] (gE s false) (FJ 8 s false))
  (hG:∀x:Tree,x.wt≤10000→aw P G dI [x.av] (.bool x.fZ)) :
  aw P G fE [.str s] (.dM [(dQ s).1.av,.int .i64 (dQ s).2]):=by
 refine iC hF (by simp) (by simp[ah,AV.aB]) (by simp[AV.aB,ah,Tree.av]) ?_;unfold sB dQ;simp only[↓aX,mX,seval];by_cases hl:2500<s.length
 ·simp only[↓aX,mX,seval,show(((s.length:Nat):Int)>2500)=True by simp;omega,aeB,jM,hl,adH,norm,dC,MA,Tree.av,Tree.text,Tree.s,Tree.attrs,Tree.kids,dA,eR,aeW]
 simp only[↓aX,mX,seval,show(((s.length:Nat):Int)>2500)=False by simp;omega,aeL];refine a7 (l:= .loc 12) (hE s hs) (by simp[aY,e7,iH]) (by simp[ae]) ?_;rintro x1 jm ⟨t,r,b',rfl,rfl,oU,BQ,_,_,oP⟩ _ _ _;have oP:=oP rfl;have B7:=hG t (by omega);simp only[Tree.av] at B7;simp only[↓aX,mX,seval,Tree.av,hl,adS];have Iu:(b'=true∨r≠[]∨t.fZ=false)→sw s=(MA,1):=by
  intro h;have XF:(∀t0,dy 8 s=some (t0,[])→t0.fZ=false)→sw s=(MA,1):=by
   intro h;unfold sw;split
   ·rename_i t0 he;rw[h t0 he];rfl
   rfl
  refine XF fun t0 he=> ?_;rw[he] at oP;obtain⟨rfl,rfl,h7⟩:=oP;rcases h with h|h|h
  ·cases h
  ·exact absurd rfl h
  rcases h7 with rfl|⟨_,h8⟩
  ·exact h
  exact Tree.Gq h8
 cases b' with
 |true=>
  rw[Iu (.inl rfl)];simp only[↓aX,mX,seval,jM,hl,adS,norm,dC,MA,Tree.text,Tree.s,Tree.attrs,Tree.kids,dA,eR,aeW]
  try rfl
 |false=>
 simp only[↓aX,mX,seval];cases CI:(r==[]) with
 |false=>
  have hr:r≠[]:=by simpa using CI
  rw[Iu (.inr (.inl hr))];simp only[↓aX,mX,seval,adI,jM,hl,adS,norm,dC,MA,Tree.text,Tree.s,Tree.attrs,Tree.kids,dA,eR,aeW]
  try rfl
 |true=>
 have hr:r=[]:=by simpa using CI
 subst hr;simp only[↓aX,mX,seval,adL];refine aq B7 ?_;cases hg:t.fZ with
 |false=>
  rw[Iu (.inr (.inr hg))];simp only[↓aX,mX,seval,adI,jM,hl,adS,norm,dC,MA,Tree.text,Tree.s,Tree.attrs,Tree.kids,dA,eR,aeW]
  try rfl
 |true=>
 have he:dy 8 s=some (t,[]):=by
  cases oS:dy 8 s with
  |none=>rw[oS] at oP;cases oP
  |some y=>
  rw[oS] at oP;obtain⟨_,h6,h7⟩:=oP;rcases h7 with rfl|⟨h7,_⟩
  ·rw[h6]
  rw[Tree.Gq h7] at hg;cases hg
 have hpk:sw s=(t,0):=by unfold sw;rw[he];simp only[hg,adH]
 rw[hpk];simp only[↓aX,mX,seval,adL,jM,hl,adS,norm,dC]
 try rfl
def p_ (cX cj:Nat):AC:=
(ay [oQ 2,eX 3 0] (.seq (ay [af 6 0,wg 7 6,db 8 .gtr 7 2500] (.cond (.t 8) (ay [oQ 2,eX 3 2] .ret) .skip)) (ay [af 9 0,aE 10 (.oa [(.str []),(.bool false)] [(0,(1,(.t 9)))]),oN 11 10,af 4 11] (ay [af 12 4,aE 13 (.call cX [(.t 12),(ij 1)]),af 5 13] (.seq (ay [af 14 4,aE 15 (.dc (.t 14)),b7 16 15 1,cS 17 16,af 18 17,gj 19 18 4,hQ 20 18 (.dc (.t 19)),j3 21 18 20 0,jP 22 18 21,hQ 23 18 (.bin .neq (.t 22) (.c (.str []))),nC 24 18 23,af 25 24,gj 26 25 5,hQ 27 25 (.call cj [(.t 26)]),hQ 28 25 (.not (.t 27)),nC 29 25 28] (.cond (.t 29) (ay [oQ 2,eX 3 1] .ret) .skip)) (ay [af 30 5,af 2 30,eX 3 0] .ret))))))
def Iv {iY cX cj:Nat} (hF:an P G iY=some (31,[(none,2),(none,3)],(p_ cX cj).bare)) (s:Bs) (hs:s.length≤B) (hK:∀s:Bs,s.length≤B→ez P G cX [.ptr (.par 0) 2 0 0,.int .i64 1] (gE s false) (yT 8 s false))
  (hG:∀l:List Tree,er l≤10000→aw P G cj [.list (eR l)] (.bool (content l))) :
  aw P G iY [.str s] (.dM [.list (eR (iq s).1),.int .i64 (iq s).2]):=by
 refine iC hF (by simp) (by simp[ah,AV.aB]) (by simp[AV.aB,ah]) ?_;unfold p_ iq;simp only[↓aX,mX,seval];by_cases hl:2500<s.length
 ·simp only[↓aX,mX,seval,show(((s.length:Nat):Int)>2500)=True by simp;omega,aeB,↓eQ,hl,adH,norm,dC,eR]
 simp only[↓aX,mX,seval,show(((s.length:Nat):Int)>2500)=False by simp;omega,aeL];refine a7 (l:= .loc 11) (hK s hs) (by simp[aY,e7,iH]) (by simp[ae]) ?_;rintro x1 jm ⟨t,r,b',rfl,rfl,oU,_,oP⟩ _ _ _;have oP:=oP rfl;have B7:=hG t (by omega);simp only[↓aX,mX,seval,hl,adS];have Iu:(b'=true∨r≠[]∨content t=false)→Bx s=([],1):=by
  intro h;unfold Bx;split
  ·rename_i t0 he;rw[he] at oP;obtain⟨rfl,rfl,h7⟩:=oP;rcases h with h|h|h
   ·cases h
   ·exact absurd rfl h
   have:content t0=false:=by
    rcases h7 with rfl|⟨_,h8⟩
    ·exact h
    exact xm h8
   rw[this];rfl
  rfl
 cases b' with
 |true=>
  rw[Iu (.inl rfl)];simp only[↓aX,mX,seval,↓eQ,hl,adS,norm,dC,eR]
 |false=>
 simp only[↓aX,mX,seval];cases CI:(r==[]) with
 |false=>
  have hr:r≠[]:=by simpa using CI
  rw[Iu (.inr (.inl hr))];simp only[↓aX,mX,seval,adI,↓eQ,hl,adS,norm,dC,eR]
 |true=>
 have hr:r=[]:=by simpa using CI
 subst hr;simp only[↓aX,mX,seval,adL];refine aq B7 ?_;cases hg:content t with
 |false=>
  rw[Iu (.inr (.inr hg))];simp only[↓aX,mX,seval,adI,↓eQ,hl,adS,norm,dC,eR]
 |true=>
 have he:iQ (dy 8) s=some (t,[]):=by
  cases oS:iQ (dy 8) s with
  |none=>rw[oS] at oP;cases oP
  |some y=>
  rw[oS] at oP;obtain⟨_,h6,h7⟩:=oP;rcases h7 with rfl|⟨h7,_⟩
  ·rw[h6]
  rw[xm h7] at hg;cases hg
 have hpk:Bx s=(t,0):=by unfold Bx;rw[he];simp only[hg,adH]
 rw[hpk];simp only[↓aX,mX,seval,adL,↓eQ,hl,adS,norm,dC]
end

def By {x:Tree} (h:x.fZ=true) (hl:x.sh.length≤2500):dZ x=(x.sh,0):=by
 unfold dZ;rw[adv h,ag8 (by omega)]
def e10:((1:Int) !=0)=true:=rfl

def PQ {l:List Tree} (h:iD none l=true) (hd:∀x∈l,x.dep≤8) (hc:bC l≤80) (hD:lG l≤8) (hl:(uG l).length≤2500):iq (uG l)=(l,0):=by
 have:=AP l none 8 [] h hD (by simp) (.inl rfl);rw[adN] at this;have hg:content l=true:=by
  unfold content;simp only[ady,aeg,adM];exact⟨hd,hc,h⟩
 unfold iq Bx;rw[ag8 (by omega),this];simp only[hg,adH]
section
variable {P:Program} {G:Nat→Option (List IV)}
def l5 (a6:Nat):AC:=
(ay [jK 4 false] (ay [af 5 0,af 6 1,aE 7 (.call a6 [(.t 5),(.t 6)]),af 4 7] .ret))
def Gr {fj a6:Nat} (hF:an P G fj=some (8,[(none,4)],(l5 a6).bare)) (s t:Bs) (hC:aw P G a6 [.str s,.str t] (.bool (t.isPrefixOf s))) :
  aw P G fj [.str s,.str t] (.bool (t.isPrefixOf s)):=by
 refine aM hF (by simp) (by simp[ah,AV.aB]) (by simp[AV.aB]) ?_;unfold l5;simp only[↓aX,mX,seval];refine aq hC ?_;simp only[↓aX,mX,seval]
end
end Go.Am
