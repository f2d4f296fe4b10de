import Derived.Test.YtfinkeaikbmpgaaGreatDoorKT62
import Derived.Test.YtfinkeaikbmpgaaGreatDoorKT82
import Derived.Test.YtfinkeaikbmpgaaGreatDoorKT21
import Derived.Test.YtfinkeaikbmpgaaGreatDoorKD2
set_option linter.unusedSimpArgs false
set_option linter.unusedVariables false
set_option linter.unnecessarySimpa false
set_option linter.defProp false
/- Attributes sorted. -/
namespace Go.Am
open Go Go.RowKit
def Ba (a b:Attr):Int:=Lib.compareBytes a.name b.name
def Attr.HX (a:Attr):AV:= .agg [.str a.name,.str a.val]
section
variable {P:Program} {G:Nat→Option (List IV)}
def dJ (bb:Nat):AC:=
(ay [eX 4 0] (ay [af 5 0,af 6 1,aE 7 (.o3 bb [(.t 5),(.t 6)]),af 4 7] .ret))
def Bb {bf bb:Nat} (hF:an P G bf=some (8,[(none,4)],(dJ bb).bare))
  (hX:∀(N:Nat) (s t:Bs) (H:Hp),o7 ⟨P,G,N⟩ bb [.str s,.str t] H (.int .i64 (Lib.compareBytes s t))) (s t:Bs) :
  aw P G bf [.str s,.str t] (.int .i64 (Lib.compareBytes s t)):=by
 refine aM hF (by simp) (by simp[ah,AV.aB]) (by simp[AV.aB]) ?_;unfold dJ;simp only[↓aX,mX,seval];refine Ai (hX _ _ _ _) ?_;simp only[↓aX,mX,seval]
def jv (bf:Nat):AC:=
(ay [eX 4 0] (ay [af 5 0,af 6 1,aE 7 (.call bf [(.t 5),(.t 6)]),af 4 7] .ret))
def FL {bW bf:Nat} (hF:an P G bW=some (8,[(none,4)],(jv bf).bare)) (s t:Bs) (hC:aw P G bf [.str s,.str t] (.int .i64 (Lib.compareBytes s t))) :
  aw P G bW [.str s,.str t] (.int .i64 (Lib.compareBytes s t)):=by
 refine aM hF (by simp) (by simp[ah,AV.aB]) (by simp[AV.aB]) ?_;unfold jv;simp only[↓aX,mX,seval];refine aq hC ?_;simp only[↓aX,mX,seval]
def kA (bW:Nat):AC:=
(ay [oN 2 0,oN 3 1,eX 4 0] (ay [b7 5 2 0,cS 6 5,b7 7 3 0,cS 8 7,aE 9 (.call bW [(.t 6),(.t 8)]),af 4 9] .ret))
def aaz {eH bW:Nat} (hF:an P G eH=some (10,[(none,4)],(kA bW).bare)) (a b:Attr) (hC:aw P G bW [.str a.name,.str b.name] (.int .i64 (Lib.compareBytes a.name b.name))) :
  aw P G eH [a.HX,b.HX] (.int .i64 (Ba a b)):=by
 refine aM hF (by simp) (by simp[ah,AV.aB,Attr.HX]) (by simp[AV.aB]) ?_;unfold kA;simp only[↓aX,mX,seval,Attr.HX];refine aq hC ?_;simp only[↓aX,mX,seval,Ba]
theorem Bc:∀s t:Bs,decide (Lib.compareBytes s t<0)=Op.bytesLess s t
 |[],[]=>rfl
 |[],_::_=>rfl
 |_::_,[]=>rfl
 |a::as,b::bs=>by
  have ih:=Bc as bs;simp only[Lib.compareBytes,Op.bytesLess];by_cases h1:a<b
  ·simp[h1]
  by_cases h2:b<a
  ·simp only[h1,h2,adH,adS];have:¬a=b:=fun e=>h1 (by rw[e] at h2;exact absurd h2 (pq _));simp_all
  have h3:a=b:=(Hw a b).elim (fun h=>absurd h h1) (fun h=>h.elim id (fun h=>absurd h h2));subst h3;simp only[pq,adS,ih]
  try simp
def OQ (a b:Attr):decide (Ba a b<0)=Op.bytesLess a.name b.name:=Bc _ _
def swap_perm {L:List Attr} {i j:Nat} {x y:Attr} (hi:L[i]?=some x) (hj:L[j]?=some y):((L.set i y).set j x).Perm L:=by
 obtain⟨h1,e1⟩:=ag6.1 hi;obtain⟨h2,e2⟩:=ag6.1 hj;subst e1;subst e2;exact List.set_set_perm h1 h2
def DZ:List Attr→Prop
 |[]=>True
 |x::r=>(∀y∈r,Op.bytesLess y.name x.name=false)∧DZ r
def OR {l:List Attr} {a x:Attr}:x∈oX l a↔x=a∨x∈l:=by
 induction l with
 |nil=>simp[oX]
 |cons b r ih=>
 unfold oX;split
 ·simp
 simp[ih];constructor<;>(rintro(h|h|h)<;>simp[h])
def OS {l:List Attr} (a:Attr) (h:DZ l):DZ (oX l a):=by
 induction l with
 |nil=>simp[oX,DZ]
 |cons b r ih=>
 unfold oX;split
 ·rename_i bO;refine⟨fun y hy=> ?_,h⟩;rcases adz.1 hy with rfl|hy
  ·exact zE bO
  have:=h.1 y hy;cases hc:Op.bytesLess y.name a.name with
  |false=>rfl
  |true=>have:=sR hc bO;simp_all
 rename_i bO;refine⟨fun y hy=> ?_,ih h.2⟩;rcases OR.1 hy with rfl|hy
 ·simpa using bO
 exact h.1 y hy
def LB (l:List Attr):DZ (gb l):=by
 have key:∀(l acc:List Attr),DZ acc→DZ (l.foldl oX acc):=by
  intro l;induction l with
  |nil=>intro acc h;exact h
  |cons a r ih=>intro acc h;exact ih _ (OS a h)
 exact key l [] trivial
def FM {p q:List Attr} (h:DZ (p++q)):DZ p∧∀x∈p,∀y∈q,Op.bytesLess y.name x.name=false:=by
 induction p with
 |nil=>exact⟨trivial,by simp⟩
 |cons a r ih=>
 obtain⟨h1,h2⟩:=h;obtain⟨h3,h4⟩:=ih h2;refine⟨⟨fun y hy=>h1 y (by simp[hy]),h3⟩,fun x hx y hy=> ?_⟩;rcases adz.1 hx with rfl|hx
 ·exact h1 y (by simp[hy])
 exact h4 x hx y hy
theorem JI {x:Attr}:∀{pre suf:List Attr},(∀y∈pre,Op.bytesLess x.name y.name=false)→(∀y∈suf,Op.bytesLess x.name y.name=true)→oX (pre++suf) x=pre++x::suf
 |[],[],_,_=>rfl
 |[],b::r,_,h=>by simp only[aec,oX,h b (by simp),adH]
 |a::p,suf,h1,h2=>by
  have:=JI (pre:=p) (suf:=suf) (x:=x) (fun y hy=>h1 y (by simp[hy])) h2;simp only[adR,oX,h1 a (by simp),adQ,adS,this]
def HY (l:List Attr) (x:Attr):gb (l++[x])=oX (gb l) x:=by unfold gb;rw[afP];rfl
def qh {L:List Attr} {i:Nat} {x:Attr} (h:L[i]?=some x):(ar (dA L))[i]?=some [.str x.name,.str x.val]:=by
 rw[wI,rU,h];rfl
def yV (L:List Attr) (i:Nat) (x:Attr):(ar (dA L)).set i [.str x.name,.str x.val]=ar (dA (L.set i x)):=by
 have:=th (dA L) i x.iv;rw[show(ar (dA L)).set i [.str x.name,.str x.val]=(ar (dA L)).set i (x.iv.cells.map IV.gK) from rfl,this];congr 1;simp[dA,af2]
def fM:AC:=
(ay [af 10 1,db 11 .add 10 1,af 8 11] (.block 0 (.loop (.seq (ay [af 12 8,af 13 2,eS 14 .lss 12 13] (.cond (.t 14) .skip (.exit 0))) (.seq (.block 1 (ay [af 17 8,af 9 17] (.block 2 (.loop (.seq (.seq (.fg [af 18 9,af 19 1,eS 20 .gtr 18 19,af 21 20,eJ 22 21 3,eJ 23 21 0,eJ 24 21 9,eP 25 21 (.Dg (.t 23) (.t 24) 2),eP 26 21 (.load (some 2) (.t 25)),eJ 27 21 0,eJ 28 21 9,eP 29 21 (.bin .sub (.t 28) (ij 1)),eP 30 21 (.Dg (.t 27) (.t 29) 2),eP 31 21 (.load (some 2) (.t 30)),eP 32 21 (.jH (.t 22) [(.t 26),(.t 31)]),eP 33 21 (.bin .lss (.t 32) (ij 0)),l7 34 21 33] [[],[],[0,1],[2],[3],[3],[3],[5,6,3],[7,3],[3],[3],[10,3],[9,11,3],[12,3],[4,8,13,3,3],[14,3],[3,15]] [.no,.no,.no,.no,.no,.no,.no,.no,(.rw [(.par 0)] []),.no,.no,.no,.no,(.rw [(.par 0)] []),.no,.no,.no]) (.cond (.t 34) .skip (.exit 2))) (.seq (.block 3 (.fg [af 37 0,af 38 9,af 39 0,af 40 9,db 41 .sub 40 1,af 42 0,af 43 9,db 44 .sub 43 1,ig 45 42 44 2,gd 46 2 45,af 47 0,af 48 9,ig 49 47 48 2,gd 50 2 49,ig 51 37 38 2,dT (.store 2 (.t 51) (.t 46)),ig 52 39 41 2,dT (.store 2 (.t 52) (.t 50))] [[],[],[],[],[3],[],[],[6],[5,7],[8],[],[],[10,11],[12],[0,1,0,1,5,6,7,8,9,13],[14,9,0,1,5,6,7,8,9,13],[2,4,0,1,2,3,4,5,6,7,8,9,10,11,12,13,14,15],[16,13,15,0,1,2,3,4,5,6,7,8,9,10,11,12,13,14,15]] [.no,.no,.no,.no,.no,.no,.no,.no,.no,(.rw [(.par 0)] []),.no,.no,.no,(.rw [(.par 0)] []),.no,(.rw [] [(.par 0)]),.no,(.rw [] [(.par 0)])])) (.ec [af 35 9,db 36 .sub 35 1,af 9 36]))))))) (.ec [af 15 8,db 16 .add 15 1,af 8 16]))))))
def Sy {bM jw:Nat} (hF:an P G bM=some (53,[],fM.bare)) (hB:jQ P jw=true) (hC:∀a b:Attr,aw P G jw [a.HX,b.HX] (.int .i64 (Ba a b)))
  (l:List Attr) (hl:l.length≤B) (a b:Nat) (Ld:a≤b) (hb:b≤l.length) :
  qg P G bM [.sl (.par 0) 2 0 l.length,.int .i64 a,.int .i64 b,.fn jw [] []] 2 (dA l) fun x ys=>∃zs:List Attr,ys=dA zs∧zs.Perm l∧(a=0→zs=gb (l.take b)++l.drop b)∧(a=b→zs=l):=by
 refine pw hF (by simp) (by simp[ah,AV.aB]) ?_;have nM:B=1073741824:=rfl;unfold fM;simp only[↓aX,mX,seval,gg];have Uf:IntKind.i64.wrap ((a:Int)+1)=((a+1:Nat):Int):=wrap64 (by omega) (by omega);rw[Uf];clear Uf;refine eB (σ:={q:Nat×List Attr // a+1≤q.1∧q.1≤max b (a+1)∧q.2.Perm l∧(a=0→q.2=gb (l.take q.1)++l.drop q.1)∧(q.1=a+1→q.2=l)}) [.par 0]
  (fun q=>[(0,.sl (.par 0) 2 0 l.length),(1,.int .i64 a),(2,.int .i64 b),(3,.fn jw [] []),(8,.int .i64 q.1.1)]) (fun q=>[(.par 0,⟨2,ar (dA q.1.2)⟩)]) (fun q=>b+1 - q.1.1)
  ⟨(a+1,l),adw _,by simp only;omega,.refl _,fun h=> ?_,fun _=>rfl⟩ (fun _=>rfl) (by decide) (by simp[ah,AV.aB]) ?_ ?_ ?_
 ·subst h;cases l with
  |nil=>rfl
  |cons x r=>simp[gb,oX]
 ·intro q w hw cs bS z hz;simp only[adr] at hw;subst hw;rw[bT bS] at hz;simp at hz
 ·refine jI ?_ (by repeat' constructor) (by repeat' constructor);intro z hz hu;by_cases e:z= .par 0
  ·subst e;simp
  exfalso;apply hu;simp[ae,e,Hp.none]
 rintro⟨⟨i,L⟩,JJ,Eu,hp,hs,fH⟩;simp only at JJ Eu hp hs fH;have hLl:L.length=l.length:=hp.length_eq;simp only[↓aX,mX,seval,ed,dk];by_cases bO:i<b
 ·rw[show decide (((i:Nat):Int)<((b:Nat):Int))=true by simpa using bO];have Ue:IntKind.i64.wrap ((i:Int)+1)=((i+1:Nat):Int):=wrap64 (by omega) (by omega);simp only[↓aX,mX,seval];refine eB (σ:={q:Nat×List Attr // a≤q.1∧q.1≤i∧q.2.Perm l∧(a=0→∃pre suf x,l[i]?=some x∧pre++suf=gb (l.take i)∧q.2=pre++x::(suf++l.drop (i+1))∧pre.length=q.1∧∀y∈suf,Op.bytesLess x.name y.name=true)}) [.par 0]
   (fun q=>[(0,.sl (.par 0) 2 0 l.length),(1,.int .i64 a),(2,.int .i64 b),(3,.fn jw [] []),(8,.int .i64 i),(9,.int .i64 q.1.1)]) (fun q=>[(.par 0,⟨2,ar (dA q.1.2)⟩)]) (fun q=>q.1.1)
   ⟨(i,L),by simp only;omega,adw _,hp,fun h=> ?_⟩ (fun _=>rfl) (by decide) (by simp[ah,AV.aB]) ?_ ?_ ?_
  ·obtain⟨x,hx⟩:∃x,l[i]?=some x:=⟨_,ag7 (by omega)⟩;refine⟨gb (l.take i),[],x,hx,by simp,?_,?_,by simp⟩
   ·simp only;rw[hs h,aeN (show i<l.length by omega),(ag6.1 hx).2,aec]
   rw[CX,adP];simp only;omega
  ·intro q w hw cs bS z hz;simp only[adr] at hw;subst hw;rw[bT bS] at hz;simp at hz
  ·refine jI ?_ (by repeat' constructor) (by repeat' constructor);intro z hz hu;by_cases e:z= .par 0
   ·subst e;simp
   exfalso;apply hu;simp[ae,e,Hp.none]
  rintro⟨⟨j,M⟩,hj1,zg,hM,hms⟩;simp only at hj1 zg hM hms;have FN:M.length=l.length:=hM.length_eq;simp only[↓aX,mX,seval,ed,dk];refine⟨by decide +kernel,?_⟩;have done:∀pre suf x,l[i]?=some x→pre++suf=gb (l.take i)→M=pre++x::(suf++l.drop (i+1))→(∀y∈suf,Op.bytesLess x.name y.name=true)→(∀y∈pre,Op.bytesLess x.name y.name=false)→M=gb (l.take (i+1))++l.drop (i+1):=by
   intro pre suf x h1 h2 h3 h4 h5;rw[aei,h1,afA,HY,←h2,JI h5 h4,h3];simp
  by_cases hja:a<j
  ·rw[show decide (((j:Nat):Int)>((a:Nat):Int))=true by simpa using hja];have hwj:IntKind.i64.wrap ((j:Int) - 1)=((j - 1:Nat):Int):=(by rw[wrap64 (by omega) (by omega)];omega);obtain⟨x,hx⟩:∃x,M[j]?=some x:=⟨_,ag7 (by omega)⟩;obtain⟨y,hy⟩:∃y,M[j - 1]?=some y:=⟨_,ag7 (by omega)⟩;have aaA:=hC x y;simp only[Attr.HX] at aaA;simp only[↓aX,mX,seval,hwj,adt,ag9,adC,qh hx,qh hy,show j<l.length by omega,show j - 1<l.length by omega,tu,AJ];refine⟨hB,gJ aaA ?_⟩;simp only[↓aX,mX,seval,OQ];have aaB:a=0→∀{pre suf:List Attr} {z:Attr},l[i]?=some z→pre++suf=gb (l.take i)→M=pre++z::(suf++l.drop (i+1))→pre.length=j→Op.bytesLess x.name y.name=false→∀w∈pre,Op.bytesLess z.name w.name=false:=by
    intro h pre suf z h1 h2 h3 h4 zp w hw;have hz:z=x:=by
     rw[h3,adU (by omega),h4] at hx;simpa using hx
    subst hz;obtain⟨D0,y',rfl⟩:∃D0 y',pre=D0++[y']:=by
     rcases af_ pre with h|⟨p',y',h⟩
     ·subst h;simp at h4;omega
     exact⟨p',y',by simpa using h⟩
    have EA:D0.length=j - 1:=(by simp at h4;omega);have hyy:y'=y:=by
     rw[h3,adV,adU (by omega),EA,ae_] at hy;simpa using hy
    subst hyy;have hsr:=LB (l.take i);rw[←h2] at hsr;have vb:=(FM (FM hsr).1).2;rcases adD.1 hw with hw|hw
    ·have h6:=vb w hw y' (by simp);cases hc:Op.bytesLess z.name w.name with
     |false=>rfl
     |true=>
     rcases AN y'.name w.name with h7|h7|h7
     ·rw[h7] at h6;cases h6
     ·rw[h7,hc] at zp;cases zp
     rw[sR hc h7] at zp;cases zp
    simp only[adr] at hw;subst hw;exact zp
   cases zp:Op.bytesLess x.name y.name with
   |true=>
    simp only[↓aX,mX,seval];refine⟨by decide +kernel,?_⟩;simp only[↓aX,mX,seval,hwj,adt,ag9,adC,qh hx,qh hy,show j<l.length by omega,show j - 1<l.length by omega,j4];have BG:(M.set j y)[j - 1]?=some y:=(by rw[aeH (by omega)];exact hy);rw[yV M j y];simp only[↓aX,mX,seval,qh BG,hwj];refine⟨⟨(j - 1,(M.set j y).set (j - 1) x),by simp only;omega,by simp only;omega,(swap_perm hx hy).trans hM,fun h=> ?_⟩,by simp only;omega,jI ?_ (by repeat' constructor) ⟨by simp only[ae,adH];rw[yV],trivial⟩⟩
    ·obtain⟨pre,suf,z,h1,h2,h3,h4,h5⟩:=hms h;have hz:z=x:=by
      rw[h3,adU (by omega),h4] at hx;simpa using hx
     subst hz;obtain⟨D0,y',rfl⟩:∃D0 y',pre=D0++[y']:=by
      rcases af_ pre with h|⟨p',y',h⟩
      ·subst h;simp at h4;omega
      exact⟨p',y',by simpa using h⟩
     have EA:D0.length=j - 1:=(by simp at h4;omega);have hyy:y'=y:=by
      rw[h3,adV,adU (by omega),EA,ae_] at hy;simpa using hy
     subst hyy;refine⟨D0,y'::suf,z,h1,by rw[←h2];simp,?_,EA,fun w hw=> ?_⟩
     ·simp only;rw[h3];have wu:j=D0.length+1:=(by omega);subst wu;simp[afQ]
     rcases adz.1 hw with rfl|hw
     ·exact zp
     exact h5 w hw
    intro z hz hu;by_cases e:z= .par 0
    ·subst e;simp
    exfalso;apply hu;simp[ae,e,Hp.none]
   |false=>
   simp only[↓aX,mX,seval,Ue];refine⟨⟨(i+1,M),by simp only;omega,aeZ bO (kE _ _),hM,fun h=> ?_,fun h=>absurd h (by simp only;omega)⟩,by simp only;omega,jI ?_ (by repeat' constructor) (by repeat' constructor)⟩
   ·obtain⟨pre,suf,z,h1,h2,h3,h4,h5⟩:=hms h;exact done pre suf z h1 h2 h3 h5 (aaB h h1 h2 h3 h4 zp)
   intro z hz hu;by_cases e:z= .par 0
   ·subst e;simp
   exfalso;apply hu;simp[ae,e,Hp.none]
  rw[show decide (((j:Nat):Int)>((a:Nat):Int))=false by simpa using hja];simp only[↓aX,mX,seval,Ue];refine⟨⟨(i+1,M),by simp only;omega,aeZ bO (kE _ _),hM,fun h=> ?_,fun h=>absurd h (by simp only;omega)⟩,by simp only;omega,jI ?_ (by repeat' constructor) (by repeat' constructor)⟩
  ·obtain⟨pre,suf,z,h1,h2,h3,h4,h5⟩:=hms h;exact done pre suf z h1 h2 h3 h5 (by have:pre=[]:=aeb (by omega);rw[this];simp)
  intro z hz hu;by_cases e:z= .par 0
  ·subst e;simp
  exfalso;apply hu;simp[ae,e,Hp.none]
 rw[show decide (((i:Nat):Int)<((b:Nat):Int))=false by simpa using bO];simp only[↓aX,mX,seval,iM,jc,jf];refine⟨_,rfl,dA L,⟨L,rfl,hp,fun h=> ?_,fun h=>fH (by omega)⟩,by simp[AV.aB,ah],by rw[bQ,bQ,hLl],by simp[ae]⟩;rw[hs h];by_cases hbi:i=b
 ·rw[hbi]
 have zh:b=0:=by omega
 have acp:i=1:=by omega
 subst zh;subst acp;cases l with
 |nil=>rfl
 |cons x r=>simp[gb,oX]
end

def iU (as:List Attr) (key:Bs):Nat:=(as.takeWhile fun a=>Op.bytesLess a.name key).length
def tV (as:List Attr) (key:Bs):Bool:=match as[iU as key]? with|some a=>a.name==key|none=>false
theorem JK {key:Bs}:∀{as:List Attr} {k:Nat},k≤as.length→(∀j a,j<k→as[j]?=some a→Op.bytesLess a.name key=true)→(∀a,as[k]?=some a→Op.bytesLess a.name key=false)→iU as key=k
 |[],k,h,_,_=>by simp at h;subst h;rfl
 |a::r,0,_,_,h2=>by
  have:=h2 a rfl;simp[iU,afW,this]
 |a::r,k+1,h,h1,h2=>by
  have ha:=h1 0 a (by omega) rfl;have ih:=JK (key:=key) (as:=r) (k:=k) (by simpa using h) (fun j b hj hb=>h1 (j+1) b (by omega) (by simpa using hb)) (fun b hb=>h2 b (by simpa using hb));simp only[iU] at ih;simp[iU,afW,ha,ih]
def FO {as:List Attr} (h:j5 as=true):∀{i j:Nat} {a b:Attr},i<j→as[i]?=some a→as[j]?=some b→Op.bytesLess a.name b.name=true:=by
 induction as with
 |nil=>intro i j a b _ hi;simp at hi
 |cons x r ih=>
 intro i j a b SA hi hj;cases j with
 |zero=>omega
 |succ j=>
 simp only[afa] at hj;cases i with
 |zero=>
  simp only[aem,jl] at hi;subst hi;exact rX h b (adu hj)
 |succ i=>exact ih (pr h) (Nat.lt_of_succ_lt_succ SA) (by simpa using hi) hj
section
variable {P:Program} {G:Nat→Option (List IV)}
def iZ (bW:Nat):AC:=
(ay [oN 2 0,eX 4 0] (ay [b7 5 2 0,cS 6 5,af 7 1,aE 8 (.call bW [(.t 6),(.t 7)]),af 4 8] .ret))
def aaC {cd bW:Nat} (hF:an P G cd=some (9,[(none,4)],(iZ bW).bare)) (a:Attr) (s:Bs) (hC:aw P G bW [.str a.name,.str s] (.int .i64 (Lib.compareBytes a.name s))) :
  aw P G cd [a.HX,.str s] (.int .i64 (Lib.compareBytes a.name s)):=by
 refine aM hF (by simp) (by simp[ah,AV.aB,Attr.HX]) (by simp[AV.aB]) ?_;unfold iZ;simp only[↓aX,mX,seval,Attr.HX];refine aq hC ?_;simp only[↓aX,mX,seval]
theorem FP:∀s t:Bs,(Lib.compareBytes s t==0)=(s==t)
 |[],[]=>rfl
 |[],_::_=>rfl
 |_::_,[]=>rfl
 |a::as,b::bs=>by
  have ih:=FP as bs;simp only[Lib.compareBytes];by_cases h1:a<b
  ·have:a≠b:=fun e=>(by subst e;exact absurd h1 (pq _));simp[h1,this]
  by_cases h2:b<a
  ·have:a≠b:=fun e=>(by subst e;exact absurd h2 (pq _));simp[h1,h2,this]
  have h3:a=b:=(Hw a b).elim (fun h=>absurd h h1) (fun h=>h.elim id (fun h=>absurd h h2));subst h3;simp[pq,ih]
def dh:AC:=
(ay [eX 6 0,jK 7 false] (ay [af 12 0,ky 13 12,af 8 13] (ay [af 14 8,eX 9 0,af 10 14] (.seq (.block 0 (.loop (.seq (ay [af 15 9,af 16 10,eS 17 .lss 15 16] (.cond (.t 17) .skip (.exit 0))) (.block 1 (ay [af 18 9,af 19 10,eS 20 .add 18 19,aE 21 (.Dh .u64 (.t 20)),aE 22 (.bin .shr (.t 21) (.c (.int .u64 1))),aE 23 (.Dh .i64 (.t 22)),af 11 23] (ay [af 24 2,af 25 0,af 26 11,ig 27 25 26 2,gd 28 2 27,af 29 1,aE 30 (.jH (.t 24) [(.t 28),(.t 29)]),db 31 .lss 30 0] (.cond (.t 31) (.ec [af 32 11,db 33 .add 32 1,af 9 33]) (.ec [af 34 11,af 10 34])))))))) (ay [af 35 9,af 36 9,af 37 8,eS 38 .lss 36 37,af 39 38,eJ 40 39 2,eJ 41 39 0,eJ 42 39 9,eP 43 39 (.Dg (.t 41) (.t 42) 2),eP 44 39 (.load (some 2) (.t 43)),eJ 45 39 1,eP 46 39 (.jH (.t 40) [(.t 44),(.t 45)]),eP 47 39 (.bin .eql (.t 46) (ij 0)),l7 48 39 47,af 6 35,af 7 48] .ret)))))
structure BsS (as:List Attr) (key:Bs) where
 lo:Nat
 hi:Nat
 h1:lo≤hi
 h2:hi≤as.length
 h3:∀j a,j<lo→as[j]?=some a→Op.bytesLess a.name key=true
 h4:∀j a,hi≤j→as[j]?=some a→Op.bytesLess a.name key=false
def HZ {aO fc:Nat} (hF:an P G aO=some (49,[(none,6),(none,7)],dh.bare)) (as:List Attr) (key:Bs) (hx:as.length≤B) (hr:j5 as=true) (hb:jQ P fc=true)
  (hC:∀a∈as,aw P G fc [a.HX,.str key] (.int .i64 (Lib.compareBytes a.name key))) :
  aw P G aO [.list (dA as),.str key,.fn fc [] []] (.dM [.int .i64 (iU as key),.bool (tV as key)]):=by
 refine aM hF (by simp) (by simp[ah,AV.aB]) (by simp[AV.aB,ah]) ?_;unfold dh;have nM:B=1073741824:=rfl;simp only[↓aX,mX,seval,bQ];refine mK (σ:=BsS as key) (fun q=>[(0,.list (dA as)),(1,.str key),(2,.fn fc [] []),(8,.int .i64 as.length),(9,.int .i64 q.lo),(10,.int .i64 q.hi)]) (fun q=>q.hi - q.lo)
  ⟨0,as.length,by omega,by omega,fun j a h=>by omega,fun j a h ha=>by rw[aes (by omega)] at ha;cases ha⟩ (fun _=>rfl) ?_ ?_
 ·exact⟨by simp only[↓aX,mX,seval],by repeat' constructor⟩
 rintro⟨lo,hi,h1,h2,h3,h4⟩;simp only[↓aX,mX,seval,bQ];by_cases bO:lo<hi
 ·rw[show decide ((lo:Int)<(hi:Int))=true by simpa using bO];obtain⟨m,hm⟩:∃m,m=(lo+hi)/2:=⟨_,rfl⟩;have hw:IntKind.i64.wrap (IntKind.u64.wrap (IntKind.i64.wrap ((lo:Int)+(hi:Int)))/2^min 1 IntKind.u64.bits)=(m:Int):=by
   have h1:IntKind.i64.wrap ((lo:Int)+(hi:Int))=((lo+hi:Nat):Int):=(by rw[wrap64 (by omega) (by omega)];omega);rw[h1];have h2:IntKind.u64.wrap ((lo+hi:Nat):Int)=((lo+hi:Nat):Int):=(by rw[IntKind.wrap_u64];omega);have h3:min 1 IntKind.u64.bits=1:=(by decide);rw[h2,h3];have h4:((lo+hi:Nat):Int)/2^1=(((lo+hi)/2:Nat):Int):=(by omega);rw[h4,wrap64 (by omega) (by omega),hm]
  have hw5:IntKind.i64.wrap ((m:Int)+1)=((m+1:Nat):Int):=wrap64 (by omega) (by omega);obtain⟨x,BG⟩:∃x,as[m]?=some x:=⟨_,ag7 (by omega)⟩;simp only[↓aX,mX,seval,hw,rU,BG,adB,tk,Attr.bw,Attr.cs,lh,pP,hb];refine aq (hC x (adu BG)) ?_;simp only[↓aX,mX,seval,Bc];refine qG (fun h=> ?_) (fun h=> ?_)
  ·simp only[↓aX,mX,seval,hw5];refine⟨⟨m+1,hi,by omega,h2,fun j a hj ha=> ?_,h4⟩,by simp only;omega,rfl,rfl⟩;by_cases e:j=m
   ·rw[e,BG] at ha;cases ha;exact h
   exact sR (FO hr (by omega:j<m) ha BG) h
  simp only[↓aX,mX,seval];refine⟨⟨lo,m,by omega,by omega,h3,fun j a hj ha=> ?_⟩,by simp only;omega,rfl,rfl⟩;by_cases e:j=m
  ·rw[e,BG] at ha;cases ha;exact h
  cases hq:Op.bytesLess a.name key with
  |false=>rfl
  |true=>rw[sR (FO hr (by omega:m<j) BG ha) hq] at h;cases h
 have he:lo=hi:=by omega
 subst he;have hp:iU as key=lo:=JK h2 h3 (fun a ha=>h4 lo a (adw _) ha);rw[show decide ((lo:Int)<(lo:Int))=false by simp];simp only[↓aX,mX,seval];refine ZC (fun h=> ?_) (fun h=> ?_)
 ·have bO:lo<as.length:=by simpa using h
  obtain⟨x,BG⟩:∃x,as[lo]?=some x:=⟨_,ag7 bO⟩;simp only[↓aX,mX,seval,h,rU,BG,adB,tk,Attr.bw,Attr.cs,lh,pP,hb];refine aq (hC x (adu BG)) ?_;simp only[↓aX,mX,seval,h,FP,Cj,jc,vM,jl,agD,jf,hp,tV,BG]
 simp only[↓aX,mX,seval,h,Cj,jc,vM,jl,agD,jf,hp,tV];rw[aes (by simp at h;omega)]
end

def eO {n0 i:Nat} {lab:Nat→Lb} {x:Node} (h:i<n0):dN n0 lab i x=[.bool x.text,.str x.s,.sl (lab (4+2*i)) 2 0 x.attrs.length,.int .i64 x.parent,.sl (lab (5+2*i)) 1 0 x.kids.length]:=by simp[dN,h]
def Bd {n0 i:Nat} {lab:Nat→Lb} {x:Node} (h:n0≤i):dN n0 lab i x=[.bool x.text,.str x.s,.list (dA x.attrs),.int .i64 x.parent,.list (x.kids.map aW)]:=by simp[dN,Nat.not_lt.2 h]
def Bn.all (b:Bn):List Nat:=List.range (4+2*b.n0)
def FQ {H:Hp} {l:Lb} {sz n:Nat} {xs:List IV} (h:H l= .live ⟨sz,ar xs⟩) (hf:Flat xs) (hn:n=xs.length):Du H (.sl l sz 0 n) (.list xs):=by
 subst hn;have:=Du.row l sz 0 xs.length xs h (by omega) hf;simpa using this
section
variable {P:Program} {G:Nat→Option (List IV)}
def jx (cq:Nat):AC:=
(ay [eX 4 0,eX 5 0] (ay [af 7 0,aE 8 (.dc (.t 7)),b7 9 8 0,cS 10 9,af 11 1,ig 12 10 11 5,b7 13 12 3,cS 14 13,af 6 14] (ay [af 15 6,af 16 0,aE 17 (.dc (.t 16)),b7 18 17 0,cS 19 18,af 20 6,ig 21 19 20 5,b7 22 21 4,cS 23 22,af 24 1,aE 25 (.call cq [(.t 23),(.t 24)]),af 4 15,af 5 25] .ret)))
def Xc {az cq:Nat} (hF:an P G az=some (26,[(none,4),(none,5)],(jx cq).bare)) (b:Bn) (n p:Nat) (x y:Node) (hx:b.nodes[n]?=some x) (hp:x.parent=p) (hy:b.nodes[p]?=some y) (vy:p<b.n0)
  (hI:aw P G cq [.list (y.kids.map aW),.int .i64 n] (.int .i64 (o2 y.kids n))) :
  uO P G az [.ptr (.par 0) 3 0 0,.int .i64 n] (dP b) b.all fun X R2=>X=(fun _=> .dM [.int .i64 p,.int .i64 (o2 y.kids n)])∧R2=dP b:=by
 refine gY hF (by simp) (by simp[ah,AV.aB,bd];omega) ?_;have hA:cR Lb.par b (je (dP b)):=jg _;obtain⟨IQ,-⟩:=ag6.1 hx;obtain⟨G2,-⟩:=ag6.1 hy;unfold jx;simp only[↓aX,mX,seval,hA.s,hA.n,adt,ag9,IQ,G2,ad8,adF,adC,hA.get hx,hA.get hy,eO vy];simp only[↓aX,mX,seval,dN,hA.s,hA.n,adt,ag9,IQ,G2,ad8,adF,adC,hA.get hx,hA.get hy,eO vy,hp];rw[adv vy];refine Hf hI (.cons (FQ (hA.kd vy hy) (oy _) (by simp)) (.cons (.same _) .nil)) rfl ?_;simp only[↓aX,mX,seval,Cj,jc,vM,jl,agD,jf];refine⟨⟨(fun _=> .dM [.int .i64 p,.int .i64 (o2 y.kids n)]),dP b,Lb.par⟩,⟨rfl,rfl⟩,fun ρ=>by simp[e7,aY],by simp[AV.aB,ah],rfl,hA,fun _ _=>rfl⟩
def iV (ai bq:Nat):AC:=
(ay [oN 4 1,eX 6 0] (ay [af 11 0,aE 12 (.dc (.t 11)),b7 13 12 0,cS 14 13,ky 15 14,af 7 15] (.seq (.fg [af 16 0,af 17 0,aE 18 (.dc (.t 17)),b7 19 18 0,cS 20 19,b7 21 4 0,cS 22 21,b7 23 4 1,cS 24 23,b7 25 4 2,cS 26 25,aE 27 (.call ai [(.t 26)]),af 28 2,aE 29 (.oa [(.bool false),(.str []),.nil0,(.int .i64 0),.nil0] [(0,(1,(.t 22))),(1,(1,(.t 24))),(2,(1,(.t 27))),(3,(1,(.t 28)))]),aE 30 (.lits 1 5 [(.bool false),(.str []),.nil0,(.int .i64 0),.nil0] [(0,(.t 29))]),aE 31 (.app (.t 20) (.t 30) 5 80),aE 32 (.dc (.t 16)),b7 33 32 0,dT (.store 1 (.t 33) (.t 31))] [[],[],[1],[2],[3],[],[5],[],[7],[],[9],[10],[],[6,8,11,12],[13],[4,14,11],[0,0,1,2,3,4,5,6,7,8,9,10,11,12,13,14,15],[16,0,1,2,3,4,5,6,7,8,9,10,11,12,13,14,15],[17,15,15,0,1,2,3,4,5,6,7,8,9,10,11,12,13,14,15]] [.no,.no,.no,.no,(.rw [(.par 0)] []),.no,.rw [.loc 4] [],.no,.rw [.loc 4] [],.no,.rw [.loc 4] [],.no,.no,.no,.no,(.rw [] [(.par 1),(.gen 31)]),.no,.no,(.rw [] [(.par 0)])]) (ay [oQ 8] (.gh (.own 8 1) (.seq (ay [b7 34 4 3,cS 35 34,ky 36 35,eX 37 0] (.block 0 (.loop (ay [eS 38 .lss 37 36] (.seq (.cond (.t 38) .skip (.exit 0)) (.seq (.block 1 (ay [ig 39 35 37 4,gd 40 4 39,aE 10 (.new [(.bool false),(.str []),.nil0,.nil0]),dT (.store 4 (.t 10) (.t 40))] (.ec [af 41 8,af 42 0,gd 43 4 10,af 44 7,aE 45 (.call bq [(.t 42),(.t 43),(.t 44)]),aE 46 (.lits 1 1 [(.int .i64 0)] [(0,(.t 45))]),aE 47 (.app (.t 41) (.t 46) 1 8),af 8 47]))) (.ec [db 48 .add 37 1,af 37 48]))))))) (.gh (.Ch (.loc 8) 8) (ay [af 49 0,aE 50 (.dc (.t 49)),b7 51 50 0,cS 52 51,af 53 7,af 54 8,ig 55 52 53 5,b7 56 55 4,dT (.store 1 (.t 56) (.t 54))] (ay [af 57 7,af 6 57] .ret)))))))))
def Bn.add (b:Bn) (t:Tree) (p:Int):Bn:={b with nodes:=b.nodes++t.flat b.nodes.length p}
def Bn.lY (b:Bn) (t:Tree) (p:Int) (i:Nat):Bn:={b with nodes:=b.nodes++⟨t.text,t.s,t.attrs,p,[]⟩::eE (b.nodes.length+1) b.nodes.length (t.kids.take i)}
def Bn.Mz (b:Bn) (p:Nat):List Nat:=(List.range (4+2*b.n0)).filter (·≠p)
def kJ {b:Bn} {p q:Nat}:q∈b.Mz p↔q<4+2*b.n0∧q≠p:=by simp[Bn.Mz]
def cf (N:Lb):Nat→Lb:=fun p=>if p=1 then N else .par p
def oG {N:Lb} (h:∀p,p≠1→N≠ .par p) {p q:Nat} (e:cf N p=cf N q):p=q:=by
 unfold cf at e;split at e<;>split at e
 ·omega
 ·exact absurd e (h _ (by omega))
 ·exact absurd e.symm (h _ (by omega))
 simpa using e
structure SB (t:Tree) where
 i:Nat
 hi:i≤t.kids.length
def FR (b:Bn) (t:Tree) (q:SB t):List (Nat×AV):=
 [(0,.ptr (.par 0) 3 0 0),(7,.int .i64 b.nodes.length),(8,.sl (.loc 8) 1 0 q.i),(35,.list (eR t.kids)),(36,.int .i64 t.kids.length),(37,.int .i64 q.i)]
def tW (b:Bn) (t:Tree) (q:SB t):List (Lb×Row):=
 [(.loc 8,⟨1,ar ((aV (b.nodes.length+1) (t.kids.take q.i)).map aW)⟩)]
def nZ.n6 {lab:Nat→Lb} {R:qx} {H:Hp} (h:nZ lab R H) {q:Lb} {s:Slot} (hq:∀p,R.ok p→lab p≠q):nZ lab R (bF H q s):=
 ⟨fun p r hr=>by rw[ax _ _ (hq p ((R.mw lab p).1 (by rw[hr];rfl)))];exact h.row p r hr,h.inj⟩
def aaD {bq ai:Nat} (hF:an P G bq=some (58,[(none,6)],(iV ai bq).bare)) (b:Bn) (hn:b.n0≤b.nodes.length) (t:Tree) (p:Int) (hb:b.nodes.length+t.wt≤B)
  (hC:aw P G ai [.list (dA t.attrs)] (.list (dA t.attrs)))
  (hR:∀(b':Bn) (k:Tree),k∈t.kids→b'.n0=b.n0→b.n0≤b'.nodes.length→b'.nodes.length+k.wt≤B→uO P G bq [.ptr (.par 0) 3 0 0,k.av,.int .i64 b.nodes.length] (dP b') (b.Mz 1) fun X R2=>X=(fun _=> .int .i64 b'.nodes.length)∧R2=dP (b'.add k b.nodes.length)) :
  uO P G bq [.ptr (.par 0) 3 0 0,t.av,.int .i64 p] (dP b) (b.Mz 1) fun X R2=>X=(fun _=> .int .i64 b.nodes.length)∧R2=dP (b.add t p):=by
 refine gY hF (by simp) (by simp[ah,AV.aB,bd,Tree.av];omega) ?_;have hA:cR Lb.par b (je (dP b)):=jg _;have hU:∀q:Lb,(∀p,p<4+2*b.n0→q≠ .par p)→je (dP b) q= .unused:=fun q hq=>gx _ fun p hp e=>hq p (bd.1 hp) e.symm;have h4:je (dP b) (.loc 4)= .unused:=hU _ (by simp);have h8:je (dP b) (.loc 8)= .unused:=hU _ (by simp);have hg:je (dP b) (.gen 31)= .unused:=hU _ (by simp);have hwt:=t.kZ;have G4:=jr t.kids;have nM:B=1073741824:=rfl;unfold iV;simp only[↓aX,mX,seval,Tree.av,hA.s,hA.n,h4,adZ];refine⟨rfl,?_⟩;refine gJ hC ?_;simp only[↓aX,mX,seval,Tree.av,hA.s,hA.n,h4];rw[Hg (l:= .par 1) (els:=b.nodes.mapIdx (dN b.n0 Lb.par)) (xs:=[.agg [.bool t.text,.str t.s,.list (dA t.attrs),.int .i64 p,.list []]]) (by simp[ae,hA.n]) (by simp) (by simp[ko,IV.cells]) (by simp[Flat,IV.cells]) (by simp;omega) (by decide) (by simp[Lb.app,Lb.fresh]) (by simp[Lb.app,Lb.fresh,ae,hg])];simp only[↓aX,mX,seval,hA.s,h8,h4];refine⟨by rintro l (rfl|rfl)<;>simp[Lb.kQ],?_⟩;have aaE:∀H2:Hp,H2 (.par 0)= .live ⟨3,[[.sl (.gen 31) 5 0 (b.nodes.length+1),.sl (.par 2) 1 0 b.fs.length,.sl (.par 3) 1 0 b.as.length]]⟩ →
   H2 (.gen 31)= .live ⟨5,b.nodes.mapIdx (dN b.n0 Lb.par)++[[.bool t.text,.str t.s,.list (dA t.attrs),.int .i64 p,.list []]]⟩→(∀q,q≠ .par 0→q≠ .par 1→q≠ .gen 31→q≠ .loc 4→q≠ .loc 8→H2 q=je (dP b) q) →
   cR (cf (.gen 31)) (b.lY t p 0) H2:=by
  intro H2 e0 e1 e2;have:=cR.push (H2:=fun q=>if q= .loc 4∨q= .loc 8 then je (dP b) q else H2 q) hA (y:=⟨t.text,t.s,t.attrs,p,[]⟩) (N:= .gen 31) hn (.inr (by simp)) (by simp[e0]) (by simp[e1]) (by
   intro q g1 g2 g3;by_cases g4:q= .loc 4∨q= .loc 8
   ·simp[g4]
   simp only[g4,adS];exact e2 q g1 g2 g3 (fun e=>g4 (.inl e)) (fun e=>g4 (.inr e)))
  refine⟨fun q r hr=> ?_,this.inj⟩;have h1:=this.row q r hr;have h2:¬(cf (.gen 31) q= .loc 4∨cf (.gen 31) q= .loc 8):=by unfold cf;split<;>simp
  exact(ag8 h2).symm.trans h1
 have u7:∀q:SB t,∀p',(dP (b.lY t p q.i)).ok p'↔p'<4+2*b.n0:=fun q p'=>bd;have JJ:∀p',p'≠1→Lb.gen 0≠ .par p':=by simp
 refine w_ (σ:=SB t) (cf (.gen 0)) (fun q=>dP (b.lY t p q.i)) [.loc 8] (fun l=>l== .par 1) (FR b t) (tW b t) (fun q=>t.kids.length - q.i) ⟨0,ad3 _⟩
  (fun q p1 p2 _ _ e=>oG JJ e) (fun _=>rfl) (by simp[cf];intro _ p' _;split<;>simp) ?_ ?_ ?_ ?_
 ·intro q l hl;simp[ah,AV.aB,FR] at hl;rcases hl with rfl|rfl
  ·right;exact⟨0,(u7 _ _).2 (by omega),by simp[cf]⟩
  left;simp
 ·intro q z hz cs bS l hl;simp only[tW,adr] at hz;subst hz;rw[bT bS] at hl;simp at hl
 ·refine⟨cf (.gen 31),[],?_⟩;have r0:nI (cf (.gen 0)) (cf (.gen 31)) (dP (b.lY t p 0)) [] (.par 0)= .par 0:=
   kj (labC:=cf (.gen 0)) (fun p1 p2 _ _ e=>oG JJ e) (p:=0) (bd.2 (by omega))
  have r8:nI (cf (.gen 0)) (cf (.gen 31)) (dP (b.lY t p 0)) [] (.loc 8)= .loc 8:=ju (by intro p' _;simp[cf];split<;>simp);refine⟨aaE _ (by simp[ae]) (by simp[ae,ar,IV.cells,IV.gK,ads]) (by intro q g1 g2 g3 g4 g5;simp[ae,g1,g2,g3,g4,g5]),?_,?_,?_,by simp[bZ],?_,by simp[bZ,Lb.fresh,Lb.entry],?_⟩
  ·intro l he hu;cases l with
   |par k=>
    by_cases h1:k=1
    ·subst h1;right;right;rfl
    left;refine⟨k,bd.2 ?_,by simp[cf,h1]⟩;refine ae7 fun hk=>hu ?_;by_cases h0:k=0
    ·subst h0;exact absurd (by simp[Bn.lY];omega) hk
    simp only[ae,Lb.par.injEq,h0,h1,reduceCtorEq,adS];exact hU _ fun p' iJ e=>hk (by simp only[Lb.par.injEq] at e;subst e;exact iJ)
   |_=>simp[Lb.entry] at he
  ·simp[FR,kv,e7,put,lE,r0,r8,bx]
  ·intro z hz;simp only[tW,adr] at hz;subst hz;simp[bZ,ae,b5];simp[aV,ar]
  ·intro l hl p' iJ;simp only[adr] at hl;subst hl;simp[bZ,cf];split<;>simp
  intro p' iJ;refine⟨by simp[cf];split<;>simp[Lb.fresh],?_⟩;unfold cf;split<;>simp[Lb.entry]
 intro q;obtain⟨H0,wH⟩:∃H0,H0=BH (cf (.gen 0)) (dP (b.lY t p q.i)) (fy (fun l=>l== .par 1) (tW b t q)):=⟨_,rfl⟩;rw[←wH];have hB:cR (cf (.gen 0)) (b.lY t p q.i) H0:=by rw[wH];exact nZ.sb (fun p1 p2 _ _ e=>oG JJ e) _
 have hO:∀l:Lb,(∀p',cf (.gen 0) p'≠l)→H0 l=fy (fun l=>l== .par 1) (tW b t q) l:=fun l hl=>by rw[wH];exact gx _ fun p' _=>hl p'
 have a8:H0 (.loc 8)= .live ⟨1,ar ((aV (b.nodes.length+1) (t.kids.take q.i)).map aW)⟩:=(hO _ (by intro p';simp[cf];split<;>simp)).trans (by simp[fy,tW,kx,bF]);have Wr:H0 (.loc 10)= .unused:=(hO _ (by intro p';simp[cf];split<;>simp)).trans (by simp[fy,tW,kx,bF,Hp.none]);have ZU:H0 (.loc 47)= .unused:=(hO _ (by intro p';simp[cf];split<;>simp)).trans (by simp[fy,tW,kx,bF,Hp.none]);have aN:∀l,H0 (NC 9 l)= .unused:=fun l=>(hO _ (by intro p';simp[cf,NC];split<;>simp)).trans (by simp[fy,tW,kx,bF,Hp.none,NC]);have Ws:∀k,H0 (.par k)≠ .unused→k<4+2*b.n0:=by
  intro k hu;refine ae7 fun hk=>hu ?_;rw[wH,gx _ fun p' iJ e=> ?_]
  ·have:k≠1:=(by omega);simp[fy,tW,kx,bF,Hp.none,this]
  have h2:=bd.1 iJ;unfold cf at e;split at e<;>simp at e;subst e;exact hk h2
 clear wH hO;have hi:=q.hi;have BF:(aV (b.nodes.length+1) (t.kids.take q.i)).length=q.i:=by rw[iO,adP];omega
 have ZV:=o9 (t.kids.take q.i);have aav:=k9 t.kids q.i;simp only[↓aX,mX,seval,FR];refine qG (fun h=> ?_) (fun h=> ?_)
 ·have bO:q.i<t.kids.length:=by simpa using h
  obtain⟨k,vo⟩:∃k,t.kids[q.i]?=some k:=⟨_,ag7 bO⟩;have hw:IntKind.i64.wrap ((q.i:Int)+1)=((q.i+1:Nat):Int):=wrap64 (by omega) (by omega);have s4:t.kids.take (q.i+1)=t.kids.take q.i++[k]:=iP vo;have Mw:er (t.kids.take q.i)+k.wt≤er t.kids:=by
   have:=k9 t.kids (q.i+1);rw[s4,jL] at this;simp only[er] at this;omega
  simp only[↓aX,mX,seval,ml,vo,tj,Tree.bw,Tree.cs,Wr];have D1:(b.lY t p q.i).nodes.length=b.nodes.length+1+bC (t.kids.take q.i):=by simp[Bn.lY,mL];omega
  refine lk (lab:=cf (.gen 0)) (N:=NC 9) (hR (b.lY t p q.i) k (adu vo) rfl (by rw[D1];omega) (by rw[D1];omega)) ?_ ?_ ?_ (tM 9) (fun l h=> .inl h) (fun p' iJ=>bd.2 (kJ.1 iJ).1) ?_
  ·simp[aY,e7,A6,cf,Tree.av]
  ·exact(hB.n6 (by intro p' _;simp[cf];split<;>simp)).n6 (by intro p' _;simp[cf];split<;>simp)
  ·intro l;rw[ax _ _ (by simp[NC]),ax _ _ (by simp[NC])];exact aN l
  rintro X R2 et H2 ⟨rfl,rfl⟩ g1 g2 g3 g4 g5 g6;have G_:∀n:Nat,n≠10→H2 (.loc n)=H0 (.loc n):=fun n hn=>by
   rw[g4 (.loc n) (by intro p' _;simp[cf];split<;>simp) (by simp[NC]),ax _ _ (by simpa using hn),ax _ _ (by simpa using hn)]
  have EU:∀p':Nat,(dP ((b.lY t p q.i).add k b.nodes.length)).ok p'→∀n,et p'≠ .loc n:=by
   intro p' iJ n;rcases g3 p' iJ with⟨p0,_,e⟩|⟨l,e⟩<;>rw[e]
   ·simp[cf];split<;>simp
   simp[NC]
  have Yx:∀p',p'<4+2*b.n0→p'≠1→et p'= .par p':=fun p' h1 h2=>by rw[g2 p' (kJ.2 ⟨h1,h2⟩)];simp[cf,h2]
  simp only[↓aX,mX,seval];rw[gU 1 8 47 8 ((aV (b.nodes.length+1) (t.kids.take q.i)).map aW) (.int .i64 (b.lY t p q.i).nodes.length) (by rw[G_ 8 (by decide),a8]) (by rw[ag5,BF]) rfl (by simp[IV.cells]) (by omega) (by decide) (by decide) (by rw[G_ 47 (by decide),ZU])];simp only[↓aX,mX,seval,hw];have Hr:aV (b.nodes.length+1) (t.kids.take (q.i+1))=aV (b.nodes.length+1) (t.kids.take q.i)++[((b.lY t p q.i).nodes.length:Int)]:=by
   rw[s4,mr,D1];simp[aV]
  have vz:(b.lY t p q.i).add k b.nodes.length=b.lY t p (q.i+1):=by
   show({(b.lY t p q.i) with nodes:=(b.lY t p q.i).nodes++k.flat (b.lY t p q.i).nodes.length b.nodes.length}:Bn)=_;rw[D1];simp[Bn.lY,s4,pk,eE]
  rw[vz] at g1 EU;refine⟨⟨q.i+1,bO⟩,by simp only;omega,et,[(.loc 8,.loc 47)],?_⟩;have r0:nI (cf (.gen 0)) et (dP (b.lY t p (q.i+1))) [(.loc 8,.loc 47)] (.par 0)= .par 0:=
   (kj (labC:=cf (.gen 0)) (fun p1 p2 _ _ e=>oG JJ e) (p:=0) (bd.2 (by omega))).trans (Yx 0 (by omega) (by decide))
  have r8:nI (cf (.gen 0)) et (dP (b.lY t p (q.i+1))) [(.loc 8,.loc 47)] (.loc 8)= .loc 47:=(ju (by intro p' _;simp[cf];split<;>simp)).trans (by simp[bZ]);refine⟨(g1.n6 fun p' iJ=>EU p' iJ 8).n6 fun p' iJ=>EU p' iJ 47,?_,?_,?_,by simp[bZ],?_,by simp[bZ,Lb.fresh,Lb.entry],?_⟩
  ·intro l he hu;cases l with
   |par k'=>
    by_cases h1:k'=1
    ·subst h1;right;right;rfl
    left;refine⟨k',bd.2 ?_,by simp[cf,h1]⟩;refine ae7 fun vL=>vL ?_;refine Ws k' ?_;rw[ax _ _ (by simp),ax _ _ (by simp),g4 (.par k') ?_ (by simp[NC]),ax _ _ (by simp),ax _ _ (by simp)] at hu
    ·exact hu
    intro p' iJ e;simp only[cf] at e;split at e<;>simp at e;subst e;exact vL ((bd (b:=b.lY t p q.i)).1 iJ)
   |_=>simp[Lb.entry] at he
  ·simp[FR,kv,e7,put,qc,r0,r8]
  ·intro z hz;simp only[tW,adr] at hz;subst hz;simp[bZ,ae,b5];rw[Hr];simp[ar,aW]
  ·intro l hl p' iJ;simp only[adr] at hl;subst hl;simpa[bZ] using EU p' iJ 47
  intro p' iJ;refine⟨by simp[cf];split<;>simp[Lb.fresh],?_⟩;unfold cf;split
  ·simp[Lb.entry]
  rename_i h1;intro _;exact Yx p' ((bd (b:=b.lY t p (q.i+1))).1 iJ) h1
 have he:q.i=t.kids.length:=by simp at h;omega
 have hs:H0 (.par 0)= .live ⟨3,[[.sl (.gen 0) 5 0 (b.lY t p q.i).nodes.length,.sl (.par 2) 1 0 b.fs.length,.sl (.par 3) 1 0 b.as.length]]⟩:=hB.s;have Hi:H0 (.gen 0)= .live ⟨5,(b.lY t p q.i).nodes.mapIdx (dN b.n0 (cf (.gen 0)))⟩:=hB.n;have s4:t.kids.take q.i=t.kids:=by rw[he];simp
 rw[s4] at a8 BF;have hx:(b.lY t p q.i).nodes[b.nodes.length]?=some ⟨t.text,t.s,t.attrs,p,[]⟩:=by simp[Bn.lY]
 have hlen:b.nodes.length<(b.lY t p q.i).nodes.length:=(ag6.1 hx).1;simp only[↓aX,mX,seval];refine⟨1,(aV (b.nodes.length+1) t.kids).map aW,0,q.i,rfl,a8,by rw[ag5,BF];omega,oy _,?_⟩;simp only[↓aX,mX,seval,hs,Hi,adZ,hlen,adt,ag9,ad8,adF,adC,hB.get hx,Bd hn];have dO:((b.lY t p q.i).nodes.mapIdx (dN b.n0 (cf (.gen 0))))[b.nodes.length]?=some [.bool t.text,.str t.s,.list (dA t.attrs),.int .i64 p,.list []]:=by
  have:=hB.get hx;rw[show(b.lY t p q.i).n0=b.n0 from rfl,Bd hn] at this;exact this
 have hkt:((aV (b.nodes.length+1) t.kids).map aW).take q.i=(aV (b.nodes.length+1) t.kids).map aW:=ads (by rw[ag5,BF];omega);simp only[↓aX,mX,seval,dO,hkt];have HK:(b.lY t p q.i).set b.nodes.length {(⟨t.text,t.s,t.attrs,p,[]⟩:Node) with kids:=aV (b.nodes.length+1) t.kids}=b.add t p:=by
  unfold Bn.set Bn.lY Bn.add;simp only[s4,Tree.qp,Tree.node];rw[afQ _ _ (adw _)];simp
 refine⟨⟨fun _=> .int .i64 b.nodes.length,dP (b.add t p),cf (.gen 0)⟩,⟨rfl,rfl⟩,fun ρ=>rfl,by simp[AV.aB],rfl,?_,?_⟩
 ·rw[←HK];refine cR.acf (H:=bF H0 (.loc 8) .dead) (hB.n6 (by intro p' _;simp[cf];split<;>simp)) (i:=b.nodes.length) hn hx ?_ ?_
  ·show bF _ _ _ (Lb.gen 0)=_;simp[ae];rfl
  intro l hl;have:l≠ .gen 0:=hl;simp[ae,this]
 intro p' iJ;have:=(kJ.1 iJ).2;simp[cf,this]
theorem Be:∀{l:List Tree} {k:Tree},k∈l→k.fI≤bC l
 |x::r,k,h=>by
  rcases adz.1 h with rfl|h
  ·simp only[bC];omega
  have:=Be h;simp only[bC];omega
def Xd (P:Program) (G:Nat→Option (List IV)) (f:Nat):Prop:=∀xs:List Attr,xs.length≤B→aw P G f [.list (dA xs)] (.list (dA xs))
theorem aaF {bq ai:Nat} (hF:an P G bq=some (58,[(none,6)],(iV ai bq).bare)) (hC:Xd P G ai):∀(m:Nat) (t:Tree),t.fI≤m→∀(b:Bn),b.n0≤b.nodes.length→∀(p:Int),b.nodes.length+t.wt≤B →
  uO P G bq [.ptr (.par 0) 3 0 0,t.av,.int .i64 p] (dP b) (b.Mz 1) fun X R2=>X=(fun _=> .int .i64 b.nodes.length)∧R2=dP (b.add t p)
 |0,t,h,_,_,_,_=>by have:=t.dH;omega
 |m+1,t,h,b,hn,p,hb=>by
  have hw:=t.kZ;have hl:=oc t.attrs;refine aaD hF b hn t p hb (hC _ (by omega)) fun b' k hk h0 h1 h2=> ?_;have h3:b'.Mz 1=b.Mz 1:=by unfold Bn.Mz;rw[h0]
  rw[←h3];obtain⟨i,hi⟩:=aeh hk;have:=Be hk;exact aaF hF hC m k (by rw[t.kc] at h;omega) b' (by omega) _ h2
end

def Bn.iz (b:Bn) (p:Nat) (l:List Tree):Bn:={b with nodes:=b.nodes++eE b.nodes.length p l}
def Bn.ins (b:Bn) (p pl:Nat) (l:List Tree):Bn:=match b.nodes[p]? with
 |some x=>(b.iz p l).set p {x with kids:=x.kids.take pl++aV b.nodes.length l++x.kids.drop pl}
 |none=>b
def Bn.H4 (b:Bn) (p q:Nat):List Nat:=(List.range (4+2*b.n0)).filter fun i=>i≠p∧i≠q
def mi {b:Bn} {p q i:Nat}:i∈b.H4 p q↔i<4+2*b.n0∧i≠p∧i≠q:=by simp[Bn.H4]
def Xe (P:Program) (G:Nat→Option (List IV)) (f:Nat):Prop:=∀(xs vs:List Int) (i:Nat),i≤xs.length→xs.length+vs.length≤B →
 va P G 1 f [.sl (.par 0) 1 0 xs.length,.int .i64 i,.list (vs.map aW)] (xs.map aW) ((xs.take i++vs++xs.drop i).map aW)
def OT (P:Program) (G:Nat→Option (List IV)) (f:Nat):Prop:=∀(xs:List Int) (i:Nat),i<xs.length→xs.length≤B →
 va P G 1 f [.sl (.par 0) 1 0 xs.length,.int .i64 i,.int .i64 ((i+1:Nat):Int)] (xs.map aW) ((xs.take i++xs.drop (i+1)).map aW)
def acq (P:Program) (G:Nat→Option (List IV)) (f:Nat):Prop:=∀(t:Tree) (b:Bn),b.n0≤b.nodes.length→∀(p:Int),b.nodes.length+t.wt≤B →
 uO P G f [.ptr (.par 0) 3 0 0,t.av,.int .i64 p] (dP b) (b.Mz 1) fun X R2=>X=(fun _=> .int .i64 b.nodes.length)∧R2=dP (b.add t p)
section
variable {P:Program} {G:Nat→Option (List IV)}
def i_ (bq br:Nat):AC:=
(ay [oQ 8] (.gh (.own 8 1) (.seq (ay [af 11 3,ky 12 11,eX 13 0] (.block 0 (.loop (ay [eS 14 .lss 13 12] (.seq (.cond (.t 14) .skip (.exit 0)) (.seq (.block 1 (ay [ig 15 11 13 4,gd 16 4 15,aE 10 (.new [(.bool false),(.str []),.nil0,.nil0]),dT (.store 4 (.t 10) (.t 16))] (.ec [af 17 8,af 18 0,gd 19 4 10,af 20 1,aE 21 (.call bq [(.t 18),(.t 19),(.t 20)]),aE 22 (.lits 1 1 [(.int .i64 0)] [(0,(.t 21))]),aE 23 (.app (.t 17) (.t 22) 1 8),af 8 23]))) (.ec [db 24 .add 13 1,af 13 24]))))))) (.gh (.Ch (.loc 8) 8) (.fg [af 25 0,aE 26 (.dc (.t 25)),b7 27 26 0,cS 28 27,af 29 1,af 30 0,aE 31 (.dc (.t 30)),b7 32 31 0,cS 33 32,af 34 1,ig 35 33 34 5,b7 36 35 4,cS 37 36,af 38 2,af 39 8,aE 40 (.call br [(.t 37),(.t 38),(.t 39)]),ig 41 28 29 5,b7 42 41 4,dT (.store 1 (.t 42) (.t 40))] [[],[0],[1],[2],[],[],[5],[6],[7],[],[8,9],[10],[11],[],[],[12,13,14],[3,4,0,1,2,3,4,5,6,7,8,9,10,11,12,13,14,15],[16,0,1,2,3,4,5,6,7,8,9,10,11,12,13,14,15],[17,15,15,0,1,2,3,4,5,6,7,8,9,10,11,12,13,14,15]] [.no,.no,.no,(.rw [(.par 0)] []),.no,.no,.no,.no,(.rw [(.par 0)] []),.no,.no,.no,(.rw [(.gen 0)] []),.no,.no,(.vj [(.par 0)]),.no,.no,(.rw [] [(.gen 0)])])))))
structure SC (l:List Tree) where
 i:Nat
 hi:i≤l.length
def FT (b:Bn) (p pl:Nat) (l:List Tree) (q:SC l):List (Nat×AV):=
 [(0,.ptr (.par 0) 3 0 0),(1,.int .i64 p),(2,.int .i64 pl),(8,.sl (.loc 8) 1 0 q.i),(11,.list (eR l)),(12,.int .i64 l.length),(13,.int .i64 q.i)]
def sV (b:Bn) (l:List Tree) (q:SC l):List (Lb×Row):=
 [(.loc 8,⟨1,ar ((aV b.nodes.length (l.take q.i)).map aW)⟩)]
def SD {ak bq br:Nat} (hF:an P G ak=some (43,[],(i_ bq br).bare)) (b:Bn) (hn:b.n0≤b.nodes.length) (p pl:Nat) (hp:p<b.n0) (x:Node) (hx:b.nodes[p]?=some x) (EA:pl≤x.kids.length)
  (l:List Tree) (hb:b.nodes.length+er l≤B) (NX:x.kids.length+l.length≤B) (hA:acq P G bq) (hI:Xe P G br) :
  uO P G ak [.ptr (.par 0) 3 0 0,.int .i64 p,.int .i64 pl,.list (eR l)] (dP b) (b.H4 1 (5+2*p)) fun X R2=>X=(fun _=> .dM [])∧R2=dP (b.ins p pl l):=by
 refine gY hF (by simp) (by simp[ah,AV.aB,bd,Tree.av];omega) ?_;have gz:cR Lb.par b (je (dP b)):=jg _;have hU:∀q:Lb,(∀p,p<4+2*b.n0→q≠ .par p)→je (dP b) q= .unused:=fun q hq=>gx _ fun p hp e=>hq p (bd.1 hp) e.symm;have h8:je (dP b) (.loc 8)= .unused:=hU _ (by simp);have G4:=jr l;have nM:B=1073741824:=rfl;have JJ:∀p',p'≠1→Lb.gen 0≠ .par p':=by simp
 have hI0:∀q:SC l,dP (b.iz p (l.take q.i))=dP (b.iz p (l.take q.i)):=fun _=>rfl;unfold i_;simp only[↓aX,mX,seval,h8];refine w_ (σ:=SC l) (cf (.gen 0)) (fun q=>dP (b.iz p (l.take q.i))) [.loc 8] (fun l=>l== .par 1) (FT b p pl l) (sV b l) (fun q=>l.length - q.i) ⟨0,ad3 _⟩
  (fun q p1 p2 _ _ e=>oG JJ e) (fun _=>rfl) (by simp[cf];intro _ p' _;split<;>simp) ?_ ?_ ?_ ?_
 ·intro q l' hl;simp[ah,AV.aB,FT] at hl;rcases hl with rfl|rfl
  ·right;exact⟨0,bd.2 (by omega),by simp[cf]⟩
  left;simp
 ·intro q z hz cs bS l' hl;simp only[sV,adr] at hz;subst hz;rw[bT bS] at hl;simp at hl
 ·have zh:b.iz p (l.take 0)=b:=by simp[Bn.iz,eE]
  refine⟨Lb.par,[],?_⟩;have r0:nI (cf (.gen 0)) Lb.par (dP (b.iz p (l.take 0))) [] (.par 0)= .par 0:=
   kj (labC:=cf (.gen 0)) (fun p1 p2 _ _ e=>oG JJ e) (p:=0) (bd.2 (by omega))
  have r8:nI (cf (.gen 0)) Lb.par (dP (b.iz p (l.take 0))) [] (.loc 8)= .loc 8:=ju (by intro p' _;simp[cf];split<;>simp);refine⟨?_,?_,?_,?_,by simp[bZ],?_,by simp[bZ,Lb.fresh,Lb.entry],?_⟩
  ·simp only[zh];exact gz.n6 (by simp)
  ·intro l' he hu;cases l' with
   |par k=>
    by_cases h1:k=1
    ·subst h1;right;right;rfl
    left;refine⟨k,bd.2 ?_,by simp[cf,h1]⟩;refine ae7 fun hk=>hu ?_;simp only[ae,reduceCtorEq,adS];exact hU _ fun p' iJ e=>hk (by simp only[Lb.par.injEq] at e;subst e;exact iJ)
   |_=>simp[Lb.entry] at he
  ·simp[FT,kv,e7,put,lE,bx];exact⟨r0.symm,r8.symm⟩
  ·intro z hz;simp only[sV,adr] at hz;subst hz;simp[bZ,ae,b5];simp[aV,ar]
  ·intro l' hl p' iJ;simp only[adr] at hl;subst hl;simp[bZ]
  intro p' iJ;refine⟨by simp[cf];split<;>simp[Lb.fresh],?_⟩;unfold cf;split<;>simp[Lb.entry]
 intro q;obtain⟨H0,wH⟩:∃H0,H0=BH (cf (.gen 0)) (dP (b.iz p (l.take q.i))) (fy (fun l=>l== .par 1) (sV b l q)):=⟨_,rfl⟩;rw[←wH];have hB:cR (cf (.gen 0)) (b.iz p (l.take q.i)) H0:=by rw[wH];exact nZ.sb (fun p1 p2 _ _ e=>oG JJ e) _
 have hO:∀l':Lb,(∀p',cf (.gen 0) p'≠l')→H0 l'=fy (fun l=>l== .par 1) (sV b l q) l':=fun l' hl=>by rw[wH];exact gx _ fun p' _=>hl p'
 have a8:H0 (.loc 8)= .live ⟨1,ar ((aV b.nodes.length (l.take q.i)).map aW)⟩:=(hO _ (by intro p';simp[cf];split<;>simp)).trans (by simp[fy,sV,kx,bF]);have Wr:H0 (.loc 10)= .unused:=(hO _ (by intro p';simp[cf];split<;>simp)).trans (by simp[fy,sV,kx,bF,Hp.none]);have a23:H0 (.loc 23)= .unused:=(hO _ (by intro p';simp[cf];split<;>simp)).trans (by simp[fy,sV,kx,bF,Hp.none]);have ag:H0 (.gen 40)= .unused:=(hO _ (by intro p';simp[cf];split<;>simp)).trans (by simp[fy,sV,kx,bF,Hp.none]);have aN:∀l,H0 (NC 9 l)= .unused:=fun l'=>(hO _ (by intro p';simp[cf,NC];split<;>simp)).trans (by simp[fy,sV,kx,bF,Hp.none,NC]);have Ws:∀k,H0 (.par k)≠ .unused→k<4+2*b.n0:=by
  intro k hu;refine ae7 fun hk=>hu ?_;rw[wH,gx _ fun p' iJ e=> ?_]
  ·have:k≠1:=(by omega);simp[fy,sV,kx,bF,Hp.none,this]
  have h2:=(bd (b:=b.iz p (l.take q.i))).1 iJ;unfold cf at e;split at e<;>simp at e;subst e;exact hk h2
 clear wH hO;have hi:=q.hi;have BF:(aV b.nodes.length (l.take q.i)).length=q.i:=by rw[iO,adP];omega
 have ZV:=o9 (l.take q.i);have aav:=k9 l q.i;simp only[↓aX,mX,seval,FT];refine qG (fun h=> ?_) (fun h=> ?_)
 ·have bO:q.i<l.length:=by simpa using h
  obtain⟨k,vo⟩:∃k,l[q.i]?=some k:=⟨_,ag7 bO⟩;have hw:IntKind.i64.wrap ((q.i:Int)+1)=((q.i+1:Nat):Int):=wrap64 (by omega) (by omega);have s4:l.take (q.i+1)=l.take q.i++[k]:=iP vo;have Mw:er (l.take q.i)+k.wt≤er l:=by
   have:=k9 l (q.i+1);rw[s4,jL] at this;simp only[er] at this;omega
  simp only[↓aX,mX,seval,ml,vo,tj,Tree.bw,Tree.cs,Wr];have D1:(b.iz p (l.take q.i)).nodes.length=b.nodes.length+bC (l.take q.i):=by simp[Bn.iz,mL]
  refine lk (lab:=cf (.gen 0)) (N:=NC 9) (hA k (b.iz p (l.take q.i)) (by rw[D1];show b.n0≤_;omega) p (by rw[D1];omega)) ?_ ?_ ?_ (tM 9) (fun l h=> .inl h) (fun p' iJ=>bd.2 (kJ.1 iJ).1) ?_
  ·simp[aY,e7,A6,cf,Tree.av]
  ·exact(hB.n6 (by intro p' _;simp[cf];split<;>simp)).n6 (by intro p' _;simp[cf];split<;>simp)
  ·intro l';rw[ax _ _ (by simp[NC]),ax _ _ (by simp[NC])];exact aN l'
  rintro X R2 et H2 ⟨rfl,rfl⟩ g1 g2 g3 g4 g5 g6;have G_:∀n:Nat,n≠10→H2 (.loc n)=H0 (.loc n):=fun n hn=>by
   rw[g4 (.loc n) (by intro p' _;simp[cf];split<;>simp) (by simp[NC]),ax _ _ (by simpa using hn),ax _ _ (by simpa using hn)]
  have EU:∀p':Nat,(dP ((b.iz p (l.take q.i)).add k p)).ok p'→∀n,et p'≠ .loc n:=by
   intro p' iJ n;rcases g3 p' iJ with⟨p0,_,e⟩|⟨l,e⟩<;>rw[e]
   ·simp[cf];split<;>simp
   simp[NC]
  have Yx:∀p',p'<4+2*b.n0→p'≠1→et p'= .par p':=fun p' h1 h2=>by rw[g2 p' (kJ.2 ⟨h1,h2⟩)];simp[cf,h2]
  simp only[↓aX,mX,seval];rw[gU 1 8 23 8 ((aV b.nodes.length (l.take q.i)).map aW) (.int .i64 (b.iz p (l.take q.i)).nodes.length) (by rw[G_ 8 (by decide),a8]) (by rw[ag5,BF]) rfl (by simp[IV.cells]) (by omega) (by decide) (by decide) (by rw[G_ 23 (by decide),a23])];simp only[↓aX,mX,seval,hw];have Hr:aV b.nodes.length (l.take (q.i+1))=aV b.nodes.length (l.take q.i)++[((b.iz p (l.take q.i)).nodes.length:Int)]:=by
   rw[s4,mr,D1];simp[aV]
  have vz:(b.iz p (l.take q.i)).add k p=b.iz p (l.take (q.i+1)):=by
   show({(b.iz p (l.take q.i)) with nodes:=(b.iz p (l.take q.i)).nodes++k.flat (b.iz p (l.take q.i)).nodes.length p}:Bn)=_;rw[D1];simp[Bn.iz,s4,pk,eE]
  rw[vz] at g1 EU;refine⟨⟨q.i+1,bO⟩,by simp only;omega,et,[(.loc 8,.loc 23)],?_⟩;have r0:nI (cf (.gen 0)) et (dP (b.iz p (l.take (q.i+1)))) [(.loc 8,.loc 23)] (.par 0)= .par 0:=
   (kj (labC:=cf (.gen 0)) (fun p1 p2 _ _ e=>oG JJ e) (p:=0) (bd.2 (by omega))).trans (Yx 0 (by omega) (by decide))
  have r8:nI (cf (.gen 0)) et (dP (b.iz p (l.take (q.i+1)))) [(.loc 8,.loc 23)] (.loc 8)= .loc 23:=(ju (by intro p' _;simp[cf];split<;>simp)).trans (by simp[bZ]);refine⟨(g1.n6 fun p' iJ=>EU p' iJ 8).n6 fun p' iJ=>EU p' iJ 23,?_,?_,?_,by simp[bZ],?_,by simp[bZ,Lb.fresh,Lb.entry],?_⟩
  ·intro l' he hu;cases l' with
   |par k'=>
    by_cases h1:k'=1
    ·subst h1;right;right;rfl
    left;refine⟨k',bd.2 ?_,by simp[cf,h1]⟩;refine ae7 fun vL=>vL ?_;refine Ws k' ?_;rw[ax _ _ (by simp),ax _ _ (by simp),g4 (.par k') ?_ (by simp[NC]),ax _ _ (by simp),ax _ _ (by simp)] at hu
    ·exact hu
    intro p' iJ e;simp only[cf] at e;split at e<;>simp at e;subst e;exact vL ((bd (b:=b.iz p (l.take q.i))).1 iJ)
   |_=>simp[Lb.entry] at he
  ·simp[FT,kv,e7,put,qc,r0,r8]
  ·intro z hz;simp only[sV,adr] at hz;subst hz;simp[bZ,ae,b5];rw[Hr];simp[ar,aW]
  ·intro l' hl p' iJ;simp only[adr] at hl;subst hl;simpa[bZ] using EU p' iJ 23
  intro p' iJ;refine⟨by simp[cf];split<;>simp[Lb.fresh],?_⟩;unfold cf;split
  ·simp[Lb.entry]
  rename_i h1;intro _;exact Yx p' ((bd (b:=b.iz p (l.take (q.i+1)))).1 iJ) h1
 have he:q.i=l.length:=by simp at h;omega
 have s4:l.take q.i=l:=by rw[he];simp
 rw[s4] at a8 BF hB;have hs:H0 (.par 0)= .live ⟨3,[[.sl (.gen 0) 5 0 (b.iz p l).nodes.length,.sl (.par 2) 1 0 b.fs.length,.sl (.par 3) 1 0 b.as.length]]⟩:=hB.s;have Hi:H0 (.gen 0)= .live ⟨5,(b.iz p l).nodes.mapIdx (dN b.n0 (cf (.gen 0)))⟩:=hB.n;have hlp:p<b.nodes.length:=by omega
 have T6:(b.iz p l).nodes[p]?=some x:=by simp only[Bn.iz];rw[ad6 hlp];exact hx
 have hlen:p<(b.iz p l).nodes.length:=(ag6.1 T6).1;have h5:¬5+2*p=1:=by omega
 have zG:H0 (.par (5+2*p))= .live ⟨1,ar (x.kids.map aW)⟩:=by
  have:=hB.kd hp T6;simpa[cf,h5] using this
 have dO:((b.iz p l).nodes.mapIdx (dN b.n0 (cf (.gen 0))))[p]?=some [.bool x.text,.str x.s,.sl (.par (4+2*p)) 2 0 x.attrs.length,.int .i64 x.parent,.sl (.par (5+2*p)) 1 0 x.kids.length]:=by
  have:=hB.get T6;rw[show(b.iz p l).n0=b.n0 from rfl,eO hp] at this;rw[this];have h4:¬4+2*p=1:=by omega
  simp[cf,h4,h5]
 have hkt:((aV b.nodes.length l).map aW).take q.i=(aV b.nodes.length l).map aW:=ads (by rw[ag5,BF];omega);simp only[↓aX,mX,seval];refine⟨1,(aV b.nodes.length l).map aW,0,q.i,rfl,a8,by rw[ag5,BF];omega,oy _,?_⟩;simp only[↓aX,mX,seval,hs,Hi,adZ,hlen,adt,ag9,ad8,adF,adC,dO,hkt];refine⟨rfl,?_⟩;have Xf:(aV b.nodes.length l).length=l.length:=iO _ _;have acr:b.ins p pl l=(b.iz p l).set p {x with kids:=x.kids.take pl++aV b.nodes.length l++x.kids.drop pl}:=by unfold Bn.ins;rw[hx]
 have acs:∀k,cf (.gen 0) k≠ .loc 8:=by intro p';simp[cf];split<;>simp
 have hB':cR (cf (.gen 0)) (b.iz p l) (bF H0 (.loc 8) .dead):=hB.n6 fun p' _=>acs p';have key:∀N:Lb,(N= .par (5+2*p)∨N= .gen 40)→∀H2:Hp,H2 (.gen 0)= .live ⟨5,((b.iz p l).nodes.mapIdx (dN b.n0 (cf (.gen 0)))).set p [.bool x.text,.str x.s,.sl (.par (4+2*p)) 2 0 x.attrs.length,.int .i64 x.parent,.sl N 1 0 (x.kids.take pl++aV b.nodes.length l++x.kids.drop pl).length]⟩ →
   H2 N= .live ⟨1,ar ((x.kids.take pl++aV b.nodes.length l++x.kids.drop pl).map aW)⟩→(∀q,q≠ .gen 0→q≠N→q≠ .par (5+2*p)→H2 q=bF H0 (.loc 8) .dead q) →
   ∃t:((Nat→Lb)→AV)×qx×(Nat→Lb),(t.1=(fun _=> .dM [])∧t.2.1=dP (b.ins p pl l))∧(∀ρ,e7 ρ (t.1 t.2.2)=t.1 fun i=>ρ (t.2.2 i))∧(∀l∈(AV.dM []).aB,∃p,t.2.1.ok p∧l=t.2.2 p)∧AV.dM []=t.1 t.2.2∧nZ t.2.2 t.2.1 H2∧∀p'∈b.H4 1 (5+2*p),t.2.2 p'= .par p':=by
  intro N hN H2 e1 e2 e3;refine⟨⟨fun _=> .dM [],dP (b.ins p pl l),fun p'=>if p'=5+2*p then N else cf (.gen 0) p'⟩,⟨rfl,rfl⟩,fun ρ=>by simp[e7,aY],by simp[AV.aB,ah],rfl,?_,?_⟩
  ·rw[acr];have h4:¬4+2*p=1:=(by omega);refine cR.Sl hB' hp T6 ?_ (by rw[show cf (.gen 0) (4+2*p)= .par (4+2*p) by simp[cf,h4]];exact e1) e2 (fun q g1 g2 g3=>e3 q g1 g2 (by simpa[cf,h5] using g3));rcases hN with rfl|rfl
   ·left;simp[cf,h5]
   right;intro p' _;simp[cf];split<;>simp
  intro p' iJ;obtain⟨_,q1,q2⟩:=mi.1 iJ;simp[q1,q2,cf]
 refine w9 (l:= .par (5+2*p)) (N:= .gen 40) (hI x.kids (aV b.nodes.length l) pl EA (by rw[Xf];exact NX)) rfl (by rw[ax _ _ (by simp)];exact zG) (by rw[ax _ _ (by simp)];exact ag) (by simp[Lb.fresh]) (by simp[Lb.kQ]) (by simp[Lb.kQ]) ?_ ?_
 ·simp only[↓aX,mX,seval,hs,Hi,adZ,hlen,adt,ag9,ad8,adF,adC,dO,ag5];rw[iM];refine⟨[],rfl,key (.gen 40) (.inr rfl) _ (by simp[ae]) (by simp[ae]) ?_⟩;intro q g1 g2 g3;simp[ae,g1,g2,g3]
 simp only[↓aX,mX,seval,hs,Hi,adZ,hlen,adt,ag9,ad8,adF,adC,dO,ag5];rw[iM];refine⟨[],rfl,key (.par (5+2*p)) (.inl rfl) _ (by simp[ae]) (by simp[ae]) ?_⟩;intro q g1 g2 g3;simp[ae,g1,g2,g3]
end
end Go.Am
