import Derived.Test.YtfinkeaikbmpgaaGreatDoorKT9
import Derived.Test.YtfinkeaikbmpgaaGreatDoorKT27
import Derived.Test.YtfinkeaikbmpgaaGreatDoorT30
import Derived.Test.YtfinkeaikbmpgaaGreatDoorKT15
set_option linter.unusedSimpArgs false
set_option linter.unusedVariables false
set_option linter.unnecessarySimpa false
set_option linter.defProp false
/- Documents: parents, step by step upward; ends, found one by one. -/
namespace Go.Am
open Go Go.RowKit
def Z6 {t:Tree} {n:Nat} {x:Node} (h:(lW t)[n]?=some x):(n=0∧x.parent= -1)∨(0<n∧0≤x.parent∧x.parent<n):=by
 have bI:=(aI.1 h).1;obtain⟨q,y,l,s⟩:=ZR bI;have hn:=l.node;rw[h] at hn;have hp:x.parent=q:=by simp only[di] at hn;rw[hn];rfl
 rcases s.parent with⟨e1,e2,_⟩|⟨m,z,r,e1,e2,e3,e4,_⟩
 ·left;exact⟨e1,by omega⟩
 right;omega
def abt {t:Tree}:1≤(lW t).length:=by rw[pf];exact t.uE

def adw {t:Tree} (ht:t.d_=true):Cj (lW t) 0=t:=by
 have:=aed ht (Sub.self 0 (-1) t);unfold aec at this;have hl:=abt (t:=t);rw[bf (Yj ht),bf ⟨by simp,by omega⟩] at this;exact(Prod.mk.inj this).1
def Z7 (d:Doc):Vo d=((Cj d 0).d_&&P2 (lW (Cj d 0)) d):=by
 rw[ky,bw,XW,afz];constructor
 ·rintro⟨t,ht,rfl⟩;rw[adw ht];exact⟨ht,rfl⟩
 rintro⟨h1,h2⟩;exact⟨_,h1,h2.symm⟩
def afN {P:Program} {G:Nat→Option (List IV)} {n3:Nat} (hF:aw P G n3=some (47,[((some (some 4)),4)],(V6 n3).bare)) (d:Doc) (hd:zn d≤B):∀(k n:Nat),d.length - n≤k→n<d.length →
  au P G n3 [Doc.av d,.int .i64 (n:Int)] (Cj d n).av:=by
 intro k;induction k with
 |zero=>intro n h1 h2;omega
 |succ k ih=>exact fun n h1 h2=>afI hF d hd n h2 fun m hm K3=>ih m (by omega) K3
def W0 (n3 Vf tk:Nat):AC:=
(aM [sC 1 0,jM 2 false] (.seq (aM [ep 7 1 0,fm 8 7,oy 9 8,eY 10 .eql 9 0,MR 11 10,oH 12 11 1 0,oG 13 11 12,iR 14 11 (.len (.t 13)),iR 15 11 (.bin .gtr (.t 14) (jS 80)),sj 16 11 15,MR 17 16,oH 18 17 1 0,oG 19 17 18,iR 20 17 (.Vc (.t 19) (jS 0) 5),oH 21 17 20 3,oG 22 17 21,iR 23 17 (.bin .neq (.t 22) (.c (.int .i64 (-1)))),sj 24 17 23] (.cond (.t 24) (aM [jM 2 false] .ret) .skip)) (.seq (aM [ep 25 1 0,fm 26 25,oy 27 26,gH 28 0] (.block 0 (.loop (aM [et 29 .lss 28 27] (.seq (.cond (.t 29) .skip (.exit 0)) (.seq (.block 1 (aM [MR 30 28,jL 31 26 28 5,gz 32 5 31,aQ 4 (.new [(.bool false),(.str []),.nil0,(.int .i64 0),.nil0]),MR 3 30,gg (.store 5 (.t 4) (.t 32))] (aM [MR 33 3,eY 34 .gtr 33 0,MR 35 34,Wb 36 35 4 3,jm 37 35 36,dW 38 35 (.bin .lss (.t 37) (jS 0)),cU 39 35 38,oH 40 39 4 3,oG 41 39 40,gV 42 39 3,iR 43 39 (.bin .geq (.t 41) (.t 42)),dW 44 35 (.pick (.t 39) (me true) (.t 43)),jT 45 35 44] (.cond (.t 45) (aM [jM 2 false] .ret) .skip)))) (.cq [eY 46 .add 28 1,MR 28 46]))))))) (aM [gz 48 1 1,aQ 49 (.call n3 [(.t 48),(jS 0)]),aQ 50 (.call Vf [(.t 49)]),MR 47 50,ox 51 47 0,ox 52 47 1,aQ 5 (.new [.nil0]),gg (.store 1 (.t 5) (.t 51)),MR 6 52] (aM [MR 53 6,eY 54 .eql 53 0,MR 55 54,dW 56 55 (.load (some 1) (.t 5)),dW 57 55 (.load (some 1) (.t 1)),dW 58 55 (.call tk [(.t 56),(.t 57)]),jT 59 55 58,MR 2 59] .ret)))))
def agS {P:Program} {G:Nat→Option (List IV)} {va n3 Vf tk:Nat} (hF:aw P G va=some (60,[(none,2)],(W0 n3 Vf tk).bare)) (d:Doc) (hd:2*zn d≤B)
  (hT:0<d.length→au P G n3 [Doc.av d,.int .i64 (0:Int)] (Cj d 0).av)
  (hM:∀x:Tree,x.wt≤B→au P G Vf [x.av] (.gf [Doc.av (Wo x).1,.int .i64 (Wo x).2]))
  (hS:∀e:Doc,zn e≤B→au P G tk [Doc.av e,Doc.av d] (.bool (P2 e d))) :
  au P G va [Doc.av d] (.bool (Vo d)):=by
 refine aR hF (by simp) (by simp[ah,AV.an,Doc.av]) (by simp[AV.an]) ?_;have zR:=XR d;have key:Vo d=true→1≤d.length∧d.length≤80∧∀(i:Nat) (x:Node),d[i]?=some x→(i=0∧x.parent= -1)∨(0<i∧0≤x.parent∧x.parent<(i:Int)):=fun h=>by
  obtain⟨t,ht,rfl⟩:=XW.1 h;have:=(ia t).1 ht;exact⟨abt,by rw[pf];omega,fun i x hx=>Z6 hx⟩
 have no:(Vo d=true→False)→Vo d=false:=fun h=>by
  cases e:Vo d with
  |false=>rfl
  |true=>exact(h e).elim
 unfold W0;simp only[↓aX,mX,seval,Doc.av,ax];by_cases h0:d.length=0
 ·rw[show(((d.length:Nat):Int)==0)=true by simp[h0]];have FQ:Vo d=false:=no fun h=>by have:=key h;omega
  simp only[↓aX,mX,seval,FQ]
 rw[show(((d.length:Nat):Int)==0)=false by simp;exact fun e=>h0 (by rw[e];rfl)];simp only[↓aX,mX,seval,ax];by_cases h80:80<d.length
 ·rw[show decide (((d.length:Nat):Int)>80)=true by simp;omega];have FQ:Vo d=false:=no fun h=>by have:=key h;omega
  simp only[↓aX,mX,seval,FQ]
 rw[show decide (((d.length:Nat):Int)>80)=false by simp;omega];obtain⟨x0,EP⟩:∃x,d[0]?=some x:=⟨_,aC (by omega)⟩;simp only[↓aX,mX,seval,Doc.XF EP,ax,Xx,Node.cJ,Node.cs];cases hp:(x0.parent != -1) with
 |true=>
  have BT:x0.parent≠ -1:=by simpa using hp
  have FQ:Vo d=false:=no fun h=>by have:=(key h).2.2 0 x0 EP;omega
  simp only[↓aX,mX,seval,FQ]
 |false=>
 have BT:x0.parent= -1:=by simpa using hp
 simp only[↓aX,mX,seval,ax];refine ca (σ:={i:Nat // i≤d.length∧∀j x,j<i→d[j]?=some x→x.parent<(j:Int)}) [.loc 1] (fun q=>[(1,.ptr (.loc 1) 1 0 0),(26,.list (d.map Node.iv)),(27,.int .i64 d.length),(28,.int .i64 q.1)])
  (fun _=>[(.loc 1,⟨1,[[.list (d.map Node.iv)]]⟩)]) (fun q=>d.length - q.1) ⟨0,by simp⟩ (fun _=>rfl) (by decide) (by simp[ah,AV.an]) (by simp[ah,AV.an]) ?_ ?_
 ·exact eL (by simp only[uu,rn]) (by repeat' constructor) (by repeat' constructor)
 rintro⟨i,hi,hs⟩;simp only[↓aX,mX,seval,cF,bW,ax];by_cases bI:i<d.length
 ·rw[show decide ((i:Int)<(d.length:Int))=true by simpa using bI];obtain⟨x,hx⟩:∃x,d[i]?=some x:=⟨_,aC bI⟩;have hw:IntKind.i64.wrap ((i:Int)+1)=((i+1:Nat):Int):=wrap64 (by omega) (by unfold B at hd;omega);simp only[↓aX,mX,seval,Doc.XF hx,Xx,Node.cJ,Node.cs];have step:x.parent<(i:Int)→∀j y,j<i+1→d[j]?=some y→y.parent<(j:Int):=fun h j y hj hy=>by
   by_cases e:j=i
   ·subst e;rw[hx] at hy;cases hy;exact h
   exact hs j y (by omega) hy
  have fin:∀l:Lb,l≠ .loc 1→True:=fun _ _=>trivial;by_cases Lr:i=0
  ·subst Lr;rw[EP] at hx;cases hx;rw[show decide (((0:Nat):Int)>0)=false from rfl];simp only[↓aX,mX,seval,hw];refine⟨⟨1,by omega,step (by rw[BT];decide)⟩,by simp only;omega,eL ?_ ⟨rfl,rfl,rfl,rfl,trivial⟩ ⟨rfl,trivial⟩⟩;intro l II hu;by_cases e0:l= .loc 1
   ·subst e0;simp
   exfalso;apply hu;cases l<;>simp_all[Lb.fresh,ae,Hp.none]
  rw[show decide ((i:Int)>0)=true by simp;omega];simp only[↓aX,mX,seval];by_cases Il:x.parent<0
  ·rw[show decide (x.parent<0)=true by simpa using Il];have FQ:Vo d=false:=no fun h=>(by have:=(key h).2.2 i x hx;omega);simp only[↓aX,mX,seval,FQ]
  rw[show decide (x.parent<0)=false by simpa using Il];simp only[↓aX,mX,seval];by_cases qS:(i:Int)≤x.parent
  ·rw[show decide (x.parent≥(i:Int))=true by simpa using qS];have FQ:Vo d=false:=no fun h=>(by have:=(key h).2.2 i x hx;omega);simp only[↓aX,mX,seval,FQ]
  rw[show decide (x.parent≥(i:Int))=false by simpa using qS];simp only[↓aX,mX,seval,hw];refine⟨⟨i+1,by omega,step (by omega)⟩,by simp only;omega,eL ?_ ⟨rfl,rfl,rfl,rfl,trivial⟩ ⟨rfl,trivial⟩⟩;intro l II hu;by_cases e0:l= .loc 1
  ·subst e0;simp
  exfalso;apply hu;cases l<;>simp_all[Lb.fresh,ae,Hp.none]
 have XV:i=d.length:=by omega
 subst XV;rw[show decide ((d.length:Int)<(d.length:Int))=false by simp];have dN:∀(k:Nat) (x:Node),d[k]?=some x→x.parent<(k:Int):=fun k x hk=>hs k x (aI.1 hk).1 hk;have MA:=aen dN (by omega);have hT':=hT (by omega);simp only[Doc.av] at hT';have LZ:=hM (Cj d 0) (by omega);simp only[Doc.av] at LZ hS;simp only[↓aX,mX,seval];refine ay hT' ?_;simp only[↓aX,mX,seval];refine ay LZ ?_;simp only[↓aX,mX,seval];cases hg:(Cj d 0).d_ with
 |false=>
  have hi:Vo d=false:=by rw[Z7,hg];rfl
  simp only[Wo,hg,↓aX,mX,seval,show((1:Int)==0)=false from rfl,hi]
 |true=>
 have hi:Vo d=P2 (lW (Cj d 0)) d:=by rw[Z7,hg];rfl
 have hmk:Wo (Cj d 0)=(lW (Cj d 0),0):=by unfold Wo;rw[bf hg]
 simp only[hmk,↓aX,mX,seval];refine ay (hS _ (by have:=aeg (Cj d 0);omega)) ?_;simp only[↓aX,mX,seval,hi,hmk]
end Go.Am
