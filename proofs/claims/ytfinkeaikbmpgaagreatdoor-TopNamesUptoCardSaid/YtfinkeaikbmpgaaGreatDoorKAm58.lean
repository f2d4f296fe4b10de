import Derived.Test.YtfinkeaikbmpgaaGreatDoorKAm53
import Derived.Test.YtfinkeaikbmpgaaGreatDoorKAm48
import Derived.Test.YtfinkeaikbmpgaaGreatDoorKT35
import Derived.Test.YtfinkeaikbmpgaaGreatDoorKC7
import Derived.Test.YtfinkeaikbmpgaaGreatDoorKT115
set_option linter.unusedSimpArgs false
set_option linter.unusedVariables false
set_option linter.unnecessarySimpa false
set_option linter.defProp false
/- THE ABSTRACT MACHINE, part 58: rows forgotten ahead of a part of a function; lists that grow by what lies in a row. -/
namespace Go.Am
open Go Go.RowKit
def afy (H:Lb→Slot) (l l':Lb) (x:Slot) (h:l'.fresh=false∧l.fresh=true):bD H l x l'=H l':=aq _ _ (by rintro rfl;rw[h.1] at h;cases h.2)

def alW (f:Nat→Option (Nat×List IV)):uR where
 row _ p:=(f p).map fun x=>⟨x.1,aB x.2⟩
 nat lab ρ p:=by cases f p<;>simp[dy]
 an lab p r h cs bV q hq:=by
  cases e:f p with
  |none=>simp[e] at h
  |some x=>simp[e] at h;subst h;rw[bU bV] at hq;simp at hq
def alU {f:Nat→Option (Nat×List IV)} {p:Nat}:(alW f).ok p↔(f p).isSome=true:=by simp[uR.ok,alW]
def ap2 (d:Doc) (n:Int):List IV:=[.agg [.list (d.map Node.iv),.int .i64 n]]
def amG (d:Doc) (n:Int):aB (ap2 d n)=[stC d n]:=by simp[aB,ap2,IV.cells,IV.dQ,stC]
def f1S (d:Doc) (n:Int):Nat→Option (Nat×List IV):=fun p=>if p=0 then some (2,ap2 d n) else none
def f2S (d:Doc) (n:Int):Nat→Option (Nat×List IV):=fun p=>if p=0 then some (2,ap2 d n) else if p=1 then some (5,d.map Node.iv) else none
def QD {p:Prop} (h:p:=by simp[alU,f2S]):p:=h
abbrev ap3 (P:Program) (G:Nat→Option (List IV)) (f:Nat) (d:Doc) (n:Int):Prop:=
 Jg P G f [.ptr (.par 0) 2 0 0] (alW (f1S d n)) [0] fun X R2=>X=(fun lab=> .agg [.sl (lab 1) 5 0 d.length])∧R2=alW (f2S d n)
def aoA {S:St} {f:Nat} {d:Doc} {n:Int} {H:Hp} {k:AV→Hp→Prop} {u:Tw k} (c:Nat) (L:Lb) (h:ap3 S.P S.G f d n) (hl:H L= .live ⟨2,[stC d n]⟩) (hLf:L.fresh=true) (hN:∀l,H (NW c l)= .unused)
  (hk:∀l,k (.agg [.sl (NW c l) 5 0 d.length]) (bD H (NW c l) (.live ⟨5,aB (d.map Node.iv)⟩))):C7 S f [.ptr L 2 0 0] H k u:=by
 have hLN:∀l,L≠NW c l:=fun l e=>by rw[e,hN l] at hl;cases hl
 have h1:∀p,(alW (f1S d n)).ok p→p=0:=fun p hp=>by
  by_cases e:p=0
  ·exact e
  simp[alU,f1S,e] at hp
 refine WV (lab:=fun p=>if p=0 then L else .par p) (N:=NW c) h Qr ⟨fun p r hr=> ?_,fun p q hp hq e=> ?_⟩ hN (aeH c) (fun l _=> .inr fun p hp=>by rw[eE (h1 p hp)];exact hLf) (by simp[alU,f1S]) ?_
 ·have e:=h1 p ((uR.Ec _ _ _).1 (by rw[hr];rfl));subst e;simp[alW,f1S,amG] at hr;subst hr;exact hl
 ·rw[h1 p hp,h1 q hq]
 rintro X R2 U9 H2 ⟨rfl,rfl⟩ g1 g2 g3 g4 g5 g6;have k0:U9 0=L:=g2 0 Pk;have o0:(alW (f2S d n)).ok 0:=QD
 have o1:(alW (f2S d n)).ok 1:=QD
 have h2:∀p,(alW (f2S d n)).ok p→p=0∨p=1:=fun p hp=>by
  by_cases e:p=0
  ·exact .inl e
  by_cases e1:p=1
  ·exact .inr e1
  simp[alU,f2S,e,e1] at hp
 obtain⟨l,hl1⟩:∃l,U9 1=NW c l:=by
  rcases g3 1 o1 with⟨p0,KY,e⟩|h
  ·rw[eE (h1 p0 KY),←k0] at e;exact absurd (g1.inj 1 0 o1 o0 e) Pq
  exact h
 have e:H2=bD H (NW c l) (.live ⟨5,aB (d.map Node.iv)⟩):=by
  funext q;by_cases hq:q=NW c l
  ·subst hq;rw[ae,eE rfl,←hl1];exact g1.row 1 _ (by simp[alW,f2S])
  rw[aq _ _ hq];by_cases wX:q=L
  ·subst wX;rw[hl,←k0];exact g1.row 0 _ (by simp[alW,f2S,amG])
  by_cases wx:∃l',q=NW c l'
  ·obtain⟨l',rfl⟩:=wx;rw[hN l',g6 l' fun p hp=> ?_];rcases h2 p hp with rfl|rfl
   ·rw[k0];exact hLN l'
   rw[hl1];exact yd hq
  exact g4 q (fun p hp=>by rw[eE (h1 p hp)];exact wX) fun l' e=>wx ⟨l',e⟩
 rw[e];have:=hk l;simpa only[hl1] using this
section
variable {P:Program} {G:Nat→Option (List IV)}
def al9 (iJ l4:Nat):AC:=
(aM [aQ 2 (.new [.nil0])] (.seq (aM [MR 6 0,aQ 7 (.zu false (.t 6) (.c .jK))] (.cond (.t 7) (aM [aQ 8 (.sg [.nil0] []),gg (.store 1 (.t 2) (.t 8))] .ret) .skip)) (aM [aQ 3 (.new [.nil0])] (.seq (.gh .vk (aM [MR 9 0,aQ 10 (.dp (.t 9)),ep 11 10 0,ep 12 11 0,fm 13 12,oy 14 13,gH 15 0] (.block 0 (.loop (aM [et 16 .lss 15 14] (.seq (.cond (.t 16) .skip (.exit 0)) (.seq (.block 1 (aM [jL 17 13 15 5,gz 18 5 17,aQ 5 (.new [(.bool false),(.str []),.nil0,(.int .i64 0),.nil0]),gg (.store 5 (.t 5) (.t 18))] (.seq (.VL [ep 19 5 2,fm 20 19,aQ 21 (.call iJ [(.t 20)]),ep 22 5 4,fm 23 22,aQ 24 (.call l4 [(.t 23)]),ep 25 5 2,gg (.store 1 (.t 25) (.t 21)),ep 26 5 4,gg (.store 1 (.t 26) (.t 24))] [[],[0],[1],[],[3],[4,2],[0,1,2,3,4],[6,2,5,0,1,2,3,4],[0,1,2,3,4,5,6,7],[8,5,7,0,1,2,3,4,5,6,7]] [.no,.rw [.loc 5] [],.no,.no,.rw [.loc 5] [],.no,.no,.rw [] [.loc 5],.no,.rw [] [.loc 5]]) (.cq [ep 27 3 0,fm 28 27,gz 29 5 5,aQ 30 (.lits 1 5 [(.bool false),(.str []),.nil0,(.int .i64 0),.nil0] [(0,(.t 29))]),aQ 31 (.app (.t 28) (.t 30) 5 80),ep 32 3 0,gg (.store 1 (.t 32) (.t 31))])))) (.cq [eY 33 .add 15 1,MR 15 33])))))))) (aM [gz 34 1 3,gg (.store 1 (.t 2) (.t 34))] .ret)))))
def ark {mm iJ l4:Nat} (hF:aw P G mm=some (35,[((some (some 1)),2)],(amc iJ l4).bare)) (d:Doc) (hd:zn d≤B) (alb:Int)
  (hA:∀x∈d,au P G iJ [.list (cD x.attrs)] (.list (cD x.attrs))) (hI:∀x∈d,au P G l4 [.list (x.kids.map xX)] (.list (x.kids.map xX))) :
  ap3 P G mm d alb:=by
 have hF':aw P G mm=some (35,[((some (some 1)),2)],(al9 iJ l4).bare):=hF;refine VM hF' Pk (by simp[ah,AV.an,alU,f1S]) ?_;have zo:B=1073741824:=rfl;have zR:=XR d;have qB:Lx (alW (f1S d alb))=bD Hp.none (.par 0) (.live ⟨2,[stC d alb]⟩):=by
  funext q;by_cases hq:q= .par 0
  ·subst hq;rw[ae,eE rfl];exact R5 (lab:=Lb.par) (fun p q _ _ h=>acW p q h) _ (by simp[alW,f1S,amG])
  rw[aq _ _ hq];refine Qa _ fun p hp e=>hq ?_;by_cases h0:p=0
  ·rw[←e,h0]
  simp[alU,f1S,h0] at hp
 rw[qB];unfold al9;simp only[↓aX,mX,seval,Oj,stC,JQ,bA];rw[Ox];refine⟨_,_,Qm (q:= .loc 3) (cs:=[.nil0]) (j:=0) (d:=1000) (sz:=5) rfl rfl PU Pq,?_⟩;simp only[↓aX,mX,seval];refine gb (σ:={i:Nat // i≤d.length}) (fun _=>[.par 0,.loc 2,.loc 3,.loc 1000]) (fun _ _=>false)
  (fun q=>[(0,.ptr (.par 0) 2 0 0),(2,.ptr (.loc 2) 1 0 0),(3,.ptr (.loc 3) 1 0 0),(13,.list (d.map Node.iv)),(14,.int .i64 d.length),(15,.int .i64 q.1)])
  (fun q=>[(.par 0,⟨2,[stC d alb]⟩),(.loc 2,⟨1,[[.nil0]]⟩),(.loc 3,⟨1,[[.sl (.loc 1000) 5 0 q.1]]⟩),(.loc 1000,⟨5,aB ((d.take q.1).map Node.iv)⟩)])
  (fun q=>d.length - q.1) ⟨0,zd _⟩ (fun _=>rfl) (fun q=>by simp[ah,AV.an]) ?_ ⟨[],?_⟩ ?_
 ·rintro q r hr cs bV l hl;simp only[dU,e7,kt] at hr;rcases hr with rfl|rfl|rfl|rfl
  ·simp only[bY] at bV;subst bV;simp[ah,AV.an,stC] at hl
  ·simp only[bY] at bV;subst bV;simp[ah,AV.an] at hl
  ·simp only[bY] at bV;subst bV;simp[ah,AV.an] at hl;subst hl;simp
  rw[bU bV] at hl;simp at hl
 ·refine⟨?_,?_,?_,PL,PL⟩
  ·intro l hf hu;left;cases l<;>simp[Lb.entry] at hf;rename_i n;by_cases e:n=0
   ·subst e;simp
   exfalso;apply hu;simp[ae,Hp.none,e]
  ·simp[k_,dn,bJ,put,jP]
  simp[tc,dn,ae,dO,bu,bJ,aB,stC]
 rintro⟨i,hi⟩;simp only;obtain⟨rs0,al5⟩:∃rs0,rs0=[(Lb.par 0,(⟨2,[stC d alb]⟩:Row)),(Lb.loc 2,⟨1,[[.nil0]]⟩),(Lb.loc 3,⟨1,[[.sl (.loc 1000) 5 0 i]]⟩),(Lb.loc 1000,⟨5,aB ((d.take i).map Node.iv)⟩)]:=⟨_,rfl⟩;rw[←al5];have hU:∀d,d≠2→d≠3→d≠1000→ie (fun _=>false) rs0 (.loc d)= .unused:=fun d h4 h5 h6=>by rw[al5,fE (by simp[h4,h5,h6])];rfl
 have nk:∀d,d≠0→ie (fun _=>false) rs0 (.par d)= .unused:=fun d hd=>by rw[al5,fE (by simp[hd])];rfl
 have ij:ie (fun _=>false) rs0 (.par 0)= .live ⟨2,[stC d alb]⟩:=cL.2 (by simp[al5,kl,ae]);have hL2:ie (fun _=>false) rs0 (.loc 2)= .live ⟨1,[[.nil0]]⟩:=cL.2 (by simp[al5,kl,ae]);have qI:ie (fun _=>false) rs0 (.loc 3)= .live ⟨1,[[.sl (.loc 1000) 5 0 i]]⟩:=cL.2 (by simp[al5,kl,ae]);have hL9:ie (fun _=>false) rs0 (.loc 1000)= .live ⟨5,aB ((d.take i).map Node.iv)⟩:=cL.2 (by simp[al5,kl,ae]);generalize ie (fun _=>false) rs0=H0 at *;clear al5 rs0;by_cases bI:i<d.length
 ·obtain⟨x,hx⟩:∃x,d[i]?=some x:=⟨_,bS bI⟩;have hw:IntKind.i64.wrap ((i:Int)+1)=((i+1:Nat):Int):=wrap64 tM tM;have zB:(d.take (i+1)).map Node.iv=(d.take i).map Node.iv++[x.iv]:=by rw[yf,hx];simp
  have hl5:((d.take i).map Node.iv).length=i:=by rw[bA,tp];omega
  simp only[↓aX,mX,seval,show decide ((i:Int)<(d.length:Int))=true by simpa using bI,Doc.XF hx,Xx,Node.cJ,Node.cs,hU 5 Pq Pq Pq];have Md:=dc hx;refine⟨rfl,jw (hA x Md) ?_⟩;simp only[↓aX,mX,seval];refine jw (hI x Md) ?_;simp only[↓aX,mX,seval,qI,hL2];rw[qg 5 80 31 1000 ((d.take i).map Node.iv) (.agg [.bool x.text,.str x.s,.list (cD x.attrs),.int .i64 x.parent,.list (x.kids.map xX)]) (by simp[ae,hL9]) hl5 rfl x.uy tM Pq Pq (by simp[ae,hU])];simp only[↓aX,mX,seval,hw,qI];refine⟨⟨i+1,bI⟩,Po,[(.loc 1000,.loc 31)],?_,?_,?_,PL,?_⟩
  ·intro z hf hu;left;cases z<;>simp[Lb.entry] at hf;rename_i m;by_cases e:m=0
   ·subst e;simp
   exfalso;apply hu;simp[ae,nk m e]
  ·simp[k_,dn,bJ,put]
  ·have hr:∀xs:List IV,dO (dn [(.loc 1000,.loc 31)]) ⟨5,aB xs⟩=⟨5,aB xs⟩:=fun xs=>dy _ _ _;simp only[tc,hr,zB];simp[dn,ae,dO,bu,bJ,Node.iv,Node.cs,stC,ij,hL2]
  intro z hz;simp only[dU,e7,kt] at hz;rcases hz with rfl|rfl|rfl|rfl<;>simp[dn,Lb.fresh,Lb.entry]
 have XV:i=d.length:=tM
 subst XV;simp only[↓aX,mX,seval,show decide ((d.length:Int)<(d.length:Int))=false by simp,va];rw[va] at hL9;simp only[↓aX,mX,seval,qI,hL2];refine⟨⟨fun lab=> .agg [.sl (lab 1) 5 0 d.length],alW (f2S d alb),fun p=>if p=0 then .par 0 else .loc 1000⟩,⟨rfl,rfl⟩,fun ρ=>by simp[bJ,bu],fun z hz=>⟨1,QD,by simpa[AV.an,ah] using hz⟩,Pk,⟨fun p r hr=> ?_,fun p q hp hq e=> ?_⟩,Pk⟩
 ·by_cases h0:p=0
  ·subst h0;simp[alW,f2S,amG] at hr;subst hr;simp[ae,ij]
  by_cases h1:p=1
  ·subst h1;simp[alW,f2S] at hr;subst hr;simp[ae,hL9]
  simp[alW,f2S,h0,h1] at hr
 have h2:∀p,(alW (f2S d alb)).ok p→p=0∨p=1:=fun p hp=>by
  by_cases e:p=0
  ·exact .inl e
  by_cases e1:p=1
  ·exact .inr e1
  simp[alU,f2S,e,e1] at hp
 rcases h2 p hp with rfl|rfl<;>rcases h2 q hq with rfl|rfl<;>simp_all
end

theorem amD (c:UInt8):∀s:Bs,((Z_ c s).map fun w=>c::w).flatten=c::s∧∀w∈Z_ c s,c∉w
 |[]=>by simp[Z_]
 |b::r=>by
  obtain⟨h1,h2⟩:=amD c r;simp only[Z_];split
  ·rename_i e;subst e;refine⟨by simp only[o2,N7,h1];rfl,fun w hw=> ?_⟩;rcases dU.1 hw with rfl|hw
   ·simp
   exact h2 w hw
  rename_i hb;cases hs:Z_ c r with
  |nil=>rw[hs] at h1;simp at h1
  |cons w ws=>
  rw[hs] at h1 h2;simp only[o2,N7,List.cons_append,yn,tk] at h1 ⊢;refine⟨by rw[h1],fun v hv=> ?_⟩;rcases dU.1 hv with rfl|hv
  ·have:=h2 w Pk;simp only[dU,Xd];exact⟨fun e=>hb e.symm,this⟩
  exact h2 v (by simp[hv])

theorem aoe {c:UInt8}:∀{a b a' b':Bs},a++c::b=a'++c::b'→c∉a→c∉a'→a=a'∧b=b'
 |[],b,[],b',h,_,_=>by simpa using h
 |[],b,x::a',b',h,_,h2=>by simp at h;exact absurd (by simp[h.1]) h2
 |x::a,b,[],b',h,h1,_=>by simp at h;exact absurd (by simp[h.1]) h1
 |x::a,b,y::a',b',h,h1,h2=>by
  simp only[List.cons_append,yn] at h;obtain⟨e,g⟩:=aoe h.2 (fun m=>h1 (by simp[m])) (fun m=>h2 (by simp[m]));exact⟨by rw[h.1,e],g⟩
def anF (c:UInt8) (w:Bs):(c∉w∧Bj c w=(w,[],false))∨∃a b,w=a++c::b∧c∉a∧Bj c w=(a,b,true):=by
 obtain⟨g1,g2⟩:=amD c w;rcases pC c w with⟨h1,_,h3⟩|⟨m,h1,hm,_,h3⟩
 ·rw[h3] at g2;exact .inl ⟨g2 w Pk,by unfold Bj;rw[h1,cY Pq]⟩
 rw[h3] at g1 g2;simp only[o2,N7,(amD c (w.drop (m+1))).1,List.cons_append,yn,tk] at g1;refine .inr ⟨w.take m,w.drop (m+1),g1.symm,g2 _ Pk,?_⟩;unfold Bj;rw[h1,eE tM,bX]
def apD {c:UInt8} {w:Bs} (h:c∉w):Bj c w=(w,[],false):=by
 rcases anF c w with⟨_,h2⟩|⟨a,b,rfl,_,_⟩
 ·exact h2
 exact absurd Pk h
def aof {c:UInt8} {a b:Bs} (h:c∉a):Bj c (a++c::b)=(a,b,true):=by
 rcases anF c (a++c::b) with⟨h1,_⟩|⟨a',b',e,h1,h2⟩
 ·exact absurd Pk h1
 obtain⟨rfl,rfl⟩:=aoe e h h1;exact h2
def u8 {c d:UInt8} (h:c.toNat=d.toNat):c=d:=M7.1 h

abbrev Say:=Nat→Bool→Bs→List Attr→Bs×List Attr
def Say.seq (f g:Say):Say:=fun n t s az=>g n t (f n t s az).1 (f n t s az).2
mutual
def Tree.alV (f:Say) (off:Nat):Tree→Tree
 | .mk t s az ks=> .mk t (f off t s az).1 (f off t s az).2 (alA f (off+1) ks)
def alA (f:Say) (off:Nat):List Tree→List Tree
 |[]=>[]
 |k::r=>k.alV f off::alA f (off+k.jz) r
end
mutual
theorem amH (f:Say):∀(x:Tree) (off:Nat),(x.alV f off).jz=x.jz
 | .mk t s az ks,off=>by simp only[Tree.alV,Tree.jz,amS f ks]
theorem amS (f:Say):∀(xs:List Tree) (off:Nat),dP (alA f off xs)=dP xs
 |[],_=>rfl
 |x::r,off=>by simp only[alA,dP,amH f x,amS f r]
end
theorem anG (f:Say):∀(a b:List Tree) (off:Nat),alA f off (a++b)=alA f off a++alA f (off+dP a) b
 |[],b,off=>by simp[alA,dP]
 |x::r,b,off=>by simp only[List.cons_append,alA,anG f r b,dP,ze]
def Sub.alV (f:Say) {off:Nat} {p:Int} {t:Tree} {n:Nat} {q:Int} {y:Tree} (h:Sub off p t n q y):Sub off p (t.alV f off) n q (y.alV f n):=by
 induction h with
 |self off p t=>exact .self _ _ _
 |@Ce off p t n q y a b k e hs ih=>
 refine .Ce (alA f (off+1) a) (alA f (off+1+dP a+k.jz) b) (k.alV f (off+1+dP a)) ?_ ?_
 ·cases t with
  |mk t s az ks=>
   simp only[Tree.kids] at e;subst e;simp only[Tree.alV,Tree.kids,anG,alA]
 rw[amS];exact ih
mutual
theorem aoP {f:Say} (hf:∀n s az,(f n true s az).1=s):∀(x:Tree) (off:Nat),(x.alV f off).jd=x.jd
 | .mk t s az ks,off=>by simp only[Tree.alV,Tree.jd,aog hf ks]
theorem aog {f:Say} (hf:∀n s az,(f n true s az).1=s):∀(ks:List Tree) (off:Nat) (p:Bool),Kf p (alA f off ks)=Kf p ks
 |[],_,_=>rfl
 |x::r,off,p=>by
  have h1:=aoP hf x off;have h2:=aog hf r (off+x.jz);have h3:(x.alV f off).text=x.text:=by cases x;rfl
  have h4:x.text=true→(x.alV f off).s=x.s:=by
   cases x with
   |mk t s az ks=>intro h;simp only[Tree.text] at h;subst h;exact hf _ _ _
  simp only[alA,Kf,h1,h2,h3];cases h:x.text with
  |true=>rw[h4 h]
  |false=>rfl
end
def fO (l:List Op):Say:=fun n t s az=>(if t then Wi l n s else Wr l n s,Vb l n az)
def Hi (l:List Op):Prop:=∀o∈l,8≤o.kind
def aoB {l:List Op} (h:Hi l) {k:Int} (hk:k<8) (n:Nat):ofK l k n=[]:=by
 unfold ofK;rw[mc];intro o ho;have:=h o ho;simp only[de,yt];omega
def amk {l:List Op} (h:Hi l) {k:Int} (hk:k<8) (n:Nat):gl l k n=[]:=by unfold gl;rw[aoB h hk];rfl
def amI {l:List Op} (h:Hi l) {k:Int} (hk:k<8) (n:Nat):VA l k n=false:=by unfold VA;rw[aoB h hk];rfl
def aoQ {l:List Op} (h:Hi l) (n:Nat) (s:Bs):Wi l n s=s:=by unfold Wi;rw[aoB h tM];rfl
mutual
theorem aoh {l:List Op} (h:Hi l):∀(x:Tree) (off:Nat),x.fu=true→x.YL l off=[x.alV (fO l) off]
 | .mk t s az ks,off,hf=>by
  have hk:=anH h ks (off+1) fun x hx=>pg (Tree.vH hf) x hx;have e:gl l 1 off=[]∧gl l 2 off=[]∧gl l 3 off=[]∧gl l 4 off=[]∧VA l 5 off=false∧VA l 6 off=false∧VA l 7 off=false:=
   ⟨amk h tM _,amk h tM _,amk h tM _,amk h tM _,amI h tM _,amI h tM _,amI h tM _⟩
  cases t with
  |true=>
   have:=(Tree.Zg hf rfl).1;simp only[Tree.kids] at this;subst this;simp[Tree.YL,e,Tree.alV,alA,fO]
  |false=>simp[Tree.YL,e,hk,Tree.alV,fO]
theorem anH {l:List Op} (h:Hi l):∀(xs:List Tree) (off:Nat),(∀x∈xs,x.fu=true)→turns l off xs=alA (fO l) off xs
 |[],_,_=>rfl
 |x::r,off,hf=>by simp[turns,alA,aoh h x off (hf x Pk),anH h r (off+x.jz) fun z hz=>hf z (by simp[hz])]
end
def aoC {t:Tree} (ht:t.d_=true) {l:List Op} (h:Hi l):Yc t l=t.alV (fO l) 0:=by
 obtain⟨_,_,_,hf⟩:=(ia t).1 ht;have h1:t.V5 l 0=t.alV (fO l) 0:=aps (aoh h t 0 hf) (amk h tM _) (amk h tM _) (amI h tM _) (amI h tM _);unfold Yc;rw[h1];have h2:Kf false (t.alV (fO l) 0).kids=true:=by
  rw[←Tree.aqN,aoP (fun n s az=>by simp[fO,aoQ h])];exact(Tree.aoF t hf).1
 rw[aoS h2];cases t;rfl

def anV {s:Bs} (h:named s=true) {c:UInt8} (hc:akP c=false):c∉s:=fun hm=>by rw[((mF s).1 h).1 c hm] at hc;cases hc
theorem anl {c:UInt8}:∀{s:Bs},c∉s→Z_ c s=[s]
 |[],_=>rfl
 |b::r,h=>by
  have h1:b≠c:=fun e=>h (by simp[e]);have h2:=anl (c:=c) (s:=r) fun hm=>h (by simp[hm]);simp only[Z_,h1,nX,h2]
def ams (a b:Bs):Bs:=[114,101,110,97,109,101,32,47,42,47]++a++[32]++b
def aqK {a b:Bs} (ha:named a=true) (hb:named b=true):ak8 (ams a b)=(⟨8,0,[],b,[]⟩,[⟨[42],0⟩,⟨a,0⟩],0):=by
 obtain⟨_,U2,ha8⟩:=(mF a).1 ha;obtain⟨_,oK,hb8⟩:=(mF b).1 hb;have e1:Bj 32 (ams a b)=([114,101,110,97,109,101],[47,42,47]++a++32::b,true):=by
  rw[←aof (c:=32) (a:=[114,101,110,97,109,101]) Pq];simp[ams]
 have e2:Bj 32 ([47,42,47]++a++32::b)=([47,42,47]++a,b,true):=aof (by
  simp only[eR,Xd];exact⟨Pq,anV ha Pq⟩)
 have e3:Bj 91 a=(a,[],false):=apD (anV ha Pq);have hs:Z_ 47 (([47,42,47]++a:Bs).drop 1)=[[42],a]:=by
  simp[Z_,anl (anV ha (show akP 47=false by decide))]
 have h35:a≠[35]:=by rintro rfl;revert ha;decide
 have s1:Hc [42]=some ⟨[42],0⟩:=QF
 have s2:Hc a=some ⟨a,0⟩:=by
  unfold Hc JN Hb;rw[e3];simp[U2,h35]
 have hg:ak6 [⟨[42],0⟩,⟨a,0⟩]=true:=by
  simp[ak6,al1,ha]
 have hp:ami ([47,42,47]++a)=some [⟨[42],0⟩,⟨a,0⟩]:=by
  unfold ami;rw[eE ⟨Qf,by simp only[ko,gL,yg];omega⟩,hs];simp[zc,s1,s2,hg]
 have hk:amt al8 [114,101,110,97,109,101]=8:=Pq
 have hl:¬2500<(ams a b).length:=by simp only[ams,ko,gL,yg];omega
 unfold ak8;simp only[e1,e2,hk,hp];rw[cY (by rintro(h|h);exact absurd h Pq;exact hl h)];simp
def amh (d:Doc) (a:Bs) (k:Int):Bool:=match d[k.toNat]? with
 |some x=> !x.text&&x.s==a
 |none=>false
theorem al' (d:Doc) (nm:Bs):∀(l:List Int) (k:Nat),kz d ⟨nm,0⟩ k l=l.filter fun n=>match d[n.toNat]? with
  |some x=>Ha x.text x.s nm
  |none=>false
 |[],_=>rfl
 |n::r,k=>by
  simp only[kz,zp];cases h:d[n.toNat]? with
  |none=>simp only[al' d nm r k,jy,nX]
  |some x=>
  simp only[true_or,ku,al' d nm r (k+1),al' d nm r k]
def nsN (d:Doc) (a:Bs):List Int:=(al6 d 0).filter (amh d a)
def amT (t:Tree):al6 (lW t) 0=mw 1 t.kids:=by
 have h:=(acf t).node;unfold al6;rw[show(0:Int).toNat=0 from rfl,h];simp[Tree.node]
def arl {t:Tree} (ht:t.d_=true) {a:Bs} (ha:named a=true):ali (lW t) [⟨[42],0⟩,⟨a,0⟩]=(nsN (lW t) a,0):=by
 obtain⟨_,U2,_⟩:=(mF a).1 ha;have hg:ak6 [⟨[42],0⟩,⟨a,0⟩]=true:=by simp[ak6,al1,ha]
 have h42:a≠[42]:=by rintro rfl;revert ha;decide
 have v_:=((ia t).1 ht).1;unfold ali;rw[eE ⟨Yj ht,hg⟩];have h0:kz (lW t) ⟨[42],0⟩ 0 [0]=[0]:=by
  rw[al'];have h:=(acf t).node;simp[h,Tree.node,Ha,v_]
 simp only[akU,h0,ama,Bc,Ke,rI,al',nsN];congr 1;refine Nx fun k _=> ?_;unfold amh;cases (lW t)[k.toNat]? with
 |none=>rfl
 |some x=>
 have e1:(a==[])=false:=by simpa using U2
 have e2:(a==[42])=false:=by simpa using h42
 simp only[Ha,e1,N4,e2,GH];cases x.text
 ·simp[Bool.beq_comm]
 simp

def aml (d:Doc) (ks:List Int) (b:Bs):Doc:=d.mapIdx fun i x=>if(i:Int)∈ks then {x with s:=b} else x
def aoD (f:Say) (t:Tree):lW (t.alV f 0)=(lW t).mapIdx fun i x=>{x with s:=(f i x.text x.s x.attrs).1,attrs:=(f i x.text x.s x.attrs).2}:=by
 apply fe;intro i;rw[yW];by_cases hi:i<t.jz
 ·obtain⟨q,y,hs⟩:=afG t.jz t 0 (-1) i (eM _) (zd _) tM;have h1:=(hs.Gv _ (acf t)).node;have h2:=((hs.alV f).Gv _ (acf (t.alV f 0))).node;rw[h1,h2];cases y with
  |mk a s az ks=>
  simp only[Tree.node,Tree.alV,Tree.text,Tree.s,Tree.attrs,Tree.kids,bT];have:∀(off:Nat) (xs:List Tree),mw off (alA f off xs)=mw off xs:=by
   intro off xs;induction xs generalizing off with
   |nil=>rfl
   |cons x r ih=>simp only[alA,mw,amH,ih]
  rw[this]
 rw[dV (by rw[pf,amH];omega),dV (by rw[pf];omega)];rfl
mutual
theorem aoi (f:Say):∀(x:Tree) (off:Nat),(x.alV f off).dep=x.dep
 | .mk t s az ks,off=>by simp only[Tree.alV,Tree.dep,anI f ks]
theorem anI (f:Say):∀(xs:List Tree) (off:Nat),fB (alA f off xs)=fB xs
 |[],_=>rfl
 |x::r,off=>by simp only[alA,fB,aoi f x,anI f r]
end
mutual
theorem anJ {f:Say} (h1:∀n s az,f n true s az=(s,az)) (h2:∀n s az,named s=true→named (f n false s az).1=true∧(f n false s az).2=az):∀(x:Tree) (off:Nat),x.fu=true→(x.alV f off).fu=true
 | .mk t s az ks,off,h=>by
  cases t with
  |true=>
   have hk:=(Tree.Zg h rfl).1;simp only[Tree.kids] at hk;subst hk;simp only[Tree.alV,alA,h1];exact h
  |false=>
  simp only[Tree.fu,jy,nX,de] at h;obtain⟨h3,h4,h5⟩:=h;have:=h2 off s az h3;simp only[Tree.alV,Tree.fu,jy,nX,de];exact⟨this.1,by rw[this.2];exact h4,anm h1 h2 ks (off+1) none h5⟩
theorem anm {f:Say} (h1:∀n s az,f n true s az=(s,az)) (h2:∀n s az,named s=true→named (f n false s az).1=true∧(f n false s az).2=az):∀(xs:List Tree) (off:Nat) (p:Option Bool),bQ p xs=true→bQ p (alA f off xs)=true
 |[],_,_,_=>rfl
 |x::r,off,p,h=>by
  simp only[bQ,de] at h;have ht:(x.alV f off).text=x.text:=by cases x;rfl
  simp only[alA,bQ,de,ht];exact⟨anJ h1 h2 x off h.1,h.2.1,anm h1 h2 r (off+x.jz) _ h.2.2⟩
end
def ao' {f:Say} (h1:∀n s az,f n true s az=(s,az)) (h2:∀n s az,named s=true→named (f n false s az).1=true∧(f n false s az).2=az) {t:Tree} (h:t.d_=true):(t.alV f 0).d_=true:=by
 obtain⟨g1,g2,g3,g4⟩:=(ia t).1 h;refine(ia _).2 ⟨?_,by rw[aoi];exact g2,by rw[amH];exact g3,anJ h1 h2 t 0 g4⟩;cases t;exact g1
def amq (b:Bs) (ns:List Int):List Op:=amb ⟨8,0,[],b,[]⟩ ns
def amJ {b:Bs} {ns:List Int} {o:Op} (h:o∈amq b ns):∃n∈ns,o=⟨8,n,[],b,[]⟩:=by
 simp only[amq,amb,pb] at h;obtain⟨n,hn,rfl⟩:=h;exact⟨n,hn,rfl⟩
def apE (b:Bs) (ns:List Int):Hi (amq b ns):=fun o ho=>by
 obtain⟨n,_,rfl⟩:=amJ ho;exact O2 8
def ap4 (b:Bs) (ns:List Int) (i:Nat) (s:Bs):Wr (amq b ns) i s=if(i:Int)∈ns then b else s:=by
 unfold Wr;by_cases h:(i:Int)∈ns
 ·rw[eE h];cases hl:(ofK (amq b ns) 8 i).getLast? with
  |some o=>
   obtain⟨n,_,rfl⟩:=amJ (A6.1 (NU hl)).1;rfl
  |none=>
  rw[List.getLast?_eq_none_iff] at hl;have:(⟨8,i,[],b,[]⟩:Op)∈ofK (amq b ns) 8 i:=A6.2 ⟨pb.2 ⟨_,h,rfl⟩,Pk⟩;rw[hl] at this;simp at this
 rw[cY h];have:ofK (amq b ns) 8 i=[]:=by
  unfold ofK;rw[mc];intro o ho hc;obtain⟨n,hn,rfl⟩:=amJ ho;simp only[de,yt] at hc;exact h (hc.2▸hn)
 rw[this];rfl
def ao_ (b:Bs) (ns:List Int) (i:Nat) (az:List Attr):Vb (amq b ns) i az=az:=by
 have:∀l:List Op,(∀o∈l,o.kind=8)→Vb l i az=az:=by
  intro l;induction l with
  |nil=>intro _;rfl
  |cons o r ih=>
  intro h;have h8:=h o Pk;have:X4 i az o=az:=by unfold X4;rw[cY];rintro⟨_,h|h⟩<;>omega
  unfold Vb at ih ⊢;rw[Bw,this];exact ih fun z hz=>h z (by simp[hz])
 exact this _ fun o ho=>by obtain⟨n,_,rfl⟩:=amJ ho;rfl
def aqL (b:Bs) (ns:List Int):fO (amq b ns)=fun i t s az=>(if t then s else if(i:Int)∈ns then b else s,az):=by
 funext i t s az;unfold fO;rw[aoQ (apE b ns),ap4,ao_]
def apF {t:Tree} {a:Bs} {k:Int} (hk:k∈nsN (lW t) a):∃(n:Nat) (q:Int) (y:Tree),k=(n:Int)∧Sub 0 (-1) t n q y∧y.text=false∧y.s=a:=by
 obtain⟨h1,h2⟩:=A6.1 hk;rw[amT,←aaE] at h1;obtain⟨n,hn,rfl⟩:=pb.1 h1;obtain⟨A,C,x,hx,e⟩:=aaM _ _ _ hn;have hs:Sub 0 (-1) t n 0 x:= .Ce A C x hx (by rw[e];simpa using Sub.self (1+dP A) 0 x);refine⟨n,_,x,rfl,hs,?_⟩;have h3:=(hs.Gv _ (acf t)).node;simp only[amh,bX,h3,Tree.node,de,D0,yt] at h2;exact h2
def aoR {t:Tree} (ht:t.d_=true) {a b:Bs} (hb:named b=true):(Yc t (amq b (nsN (lW t) a))).d_=true∧lW (Yc t (amq b (nsN (lW t) a)))=aml (lW t) (nsN (lW t) a) b:=by
 rw[aoC ht (apE _ _),aqL];refine⟨ao' (fun n s az=>rfl) (fun n s az h=>⟨?_,rfl⟩) ht,?_⟩
 ·simp only[jy,nX];split
  ·exact hb
  exact h
 rw[aoD];unfold aml;apply fe;intro i;rw[yW,yW];cases h:(lW t)[i]? with
 |none=>rfl
 |some x=>
 have hn:x.text=true→¬(i:Int)∈nsN (lW t) a:=by
  intro hx hm;obtain⟨n,q,y,e,hs,hy,_⟩:=apF hm;have:n=i:=tM
  subst this;have h3:=(hs.Gv _ (acf t)).node;rw[h] at h3;cases h3;simp only[Tree.node] at hx;rw[hy] at hx;cases hx
 obtain⟨tx,s,az,p,ks⟩:=x;simp only[bT,di];cases tx with
 |false=>simp only[jy,nX];split<;>rfl
 |true=>simp[hn rfl]
def amK:∀(off:Nat) (xs:List Tree),(mw off xs).Nodup∧∀k∈mw off xs,(off:Int)≤k:=by
 intro off xs;induction xs generalizing off with
 |nil=>simp[mw]
 |cons x r ih=>
 obtain⟨h1,h2⟩:=ih (off+x.jz);have:=x.uE;simp only[mw,Jb,dU];refine⟨⟨fun h=> ?_,h1⟩,?_⟩
 ·have:=h2 _ h;omega
 rintro k (rfl|hk)
 ·omega
 have:=h2 _ hk;omega
def apG (t:Tree) (a:Bs):(nsN (lW t) a).Nodup:=by
 unfold nsN;refine List.Pairwise.filter _ ?_;rw[amT];exact(amK 1 t.kids).1
def aqM {t:Tree} {j:Nat} {k:Int} (h:(mw 1 t.kids)[j]?=some k):∃(m:Nat) (x:Node),k=(m:Int)∧(lW t)[m]?=some x∧(m:Int)∉(mw 1 t.kids).take j:=by
 have hm:=dc h;rw[←aaE] at hm;obtain⟨n,hn,rfl⟩:=pb.1 hm;obtain⟨A,C,x,hx,e⟩:=aaM _ _ _ hn;have hs:Sub 0 (-1) t n 0 x:= .Ce A C x hx (by rw[e];simpa using Sub.self (1+dP A) 0 x);refine⟨n,_,rfl,(hs.Gv _ (acf t)).node,fun hc=> ?_⟩;obtain⟨i,hi⟩:=List.mem_iff_getElem?.1 hc;rw[oe] at hi;split at hi
 ·rename_i Et;rw[←h] at hi;have:=(List.getElem?_inj (bd.1 (hi.trans h)).1 (amK 1 t.kids).1).1 hi;omega
 cases hi
def ap5 {t:Tree} (ht:t.d_=true) {a b:Bs} (hb:named b=true) (G4:(nsN (lW t) a).length≤20):VU (lW t) (amq b (nsN (lW t) a))=0:=by
 refine(aan ht).2 ⟨fun o ho=> ?_,by simpa[amq,amb] using G4,?_⟩
 ·obtain⟨k,hk,rfl⟩:=amJ ho;obtain⟨n,q,y,rfl,hs,hy,_⟩:=apF hk;refine⟨⟨n,q,y,hs,rfl,?_⟩,Pk,Pk⟩;simp[XS,kC,kN,kT,kB,Tree.node,hy,hb]
 unfold amq amb;rw[List.pairwise_map];exact(apG t a).imp fun {x y} Vi=>by
  have:(y==x)=false:=by simpa using fun e=>Vi e.symm
  simp[eO,this]
def apH {t:Tree} (ht:t.d_=true) {a b:Bs} (ha:named a=true) (hb:named b=true):alh (lW t) [ams a b] =
   if nsN (lW t) a=[] then(lW t,⟨3,0,[]⟩) else if 20<(nsN (lW t) a).length then(lW t,⟨2,0,[]⟩) else(aml (lW t) (nsN (lW t) a) b,⟨0,(nsN (lW t) a).length,[]⟩):=by
 unfold alh
 rw[cY Pk]
 simp only[alE,aqK ha hb,arl ht ha,ku]
 by_cases h0:nsN (lW t) a=[]
 · rw[eE h0,eE h0]
 rw[cY h0,cY h0]
 simp only[List.nil_append]
 rw[show amb ⟨8,0,[],b,[]⟩ (nsN (lW t) a)=amq b (nsN (lW t) a) from rfl]
 by_cases G4:20<(nsN (lW t) a).length
 · have hc:VU (lW t) (amq b (nsN (lW t) a))=2:=by
     unfold VU
     rw[eE (Yj ht),eE (by simpa[amq,amb] using G4)]
   have:XU (lW t) (amq b (nsN (lW t) a))=(lW t,2):=by
     unfold XU
     rw[hc,cY Pq]
   rw[eE G4,this]
   simp
 obtain⟨h1,h2⟩:=aoR ht (a:=a) hb
 rw[cY G4,aaq ht (ap5 ht hb tM),eE h1,h2]
 simp[amq,amb]

def apa {d:Doc} {n:Int} (h:n<100) (ls:List Bs):doF d n ⟨2,ls⟩=(((alh d ls).1,n+1),(alh d ls).2):=by
 unfold doF alS;rw[cY tM];simp
def ann (d:Doc) (b:Bs):aml d [] b=d:=by
 apply fe;intro i;unfold aml;rw[yW];cases d[i]?<;>simp
def aoj (d:Doc) (ks:List Int) (b:Bs):(aml d ks b).length=d.length:=by simp[aml]
def apI {d:Doc} {ks:List Int} {b:Bs} {i:Nat} {x:Node} (h:d[i]?=some x) (hk:(i:Int)∉ks):(aml d ks b)[i]?=some x:=by
 unfold aml;rw[yW,h,bT,cY hk]
def apJ {d:Doc} {ks:List Int} {b:Bs} {i:Nat} {x:Node} (h:d[i]?=some x):aml d (ks++[(i:Int)]) b=(aml d ks b).set i {x with s:=b}:=by
 apply fe;intro j;unfold aml;rw[JC,yW,yW,pz];by_cases e:i=j
 ·subst e;rw[eE rfl,h,eE (bd.1 h).1];simp
 rw[cY e];cases d[j]? with
 |none=>rfl
 |some y=>
 have:((j:Int)∈ks++[(i:Int)])↔(j:Int)∈ks:=PI
 simp only[bT,this]
def ndA (x:Node):List AV:=[.bool x.text,.str x.s,.list (cD x.attrs),.int .i64 x.parent,.list (x.kids.map xX)]
def amL {d:Doc} {i:Nat} {x:Node} (h:d[i]?=some x):(aB (d.map Node.iv))[i]?=some (ndA x):=by
 simp[aB,h,Node.iv,Node.cs,IV.cells,IV.dQ,ndA]
def apK (d:Doc) (i:Nat) (x:Node):(aB (d.map Node.iv)).set i (ndA x)=aB ((d.set i x).map Node.iv):=by
 simp[aB,Nh,Node.iv,Node.cs,IV.cells,IV.dQ,ndA]
section
variable {P:Program} {G:Nat→Option (List IV)}
def alz (ale ala Vs mm w6 ak2:Nat):AC:=
(aM [jM 6 false] (aM [MR 15 0,aQ 16 (.call ale [(.t 15),(.c (.fn ala [] []))]),MR 14 16,ox 17 14 0,ox 18 14 1,MR 7 17,MR 8 18] (.seq (aM [MR 19 8,sB 20 19,MR 21 20,gV 22 21 1,iR 23 21 (.call Vs [(.t 22)]),iR 24 21 (.not (.t 23)),sj 25 21 24,MR 26 25,gV 27 26 2,iR 28 26 (.call Vs [(.t 27)]),iR 29 26 (.not (.t 28)),sj 30 26 29] (.cond (.t 30) (aM [MR 31 8,MR 6 31] .ret) .skip)) (aM [MR 32 7,aQ 33 (.call mm [(.t 32)]),aQ 9 (.new [.nil0]),gg (.store 1 (.t 9) (.t 33))] (aM [MR 34 7,MR 35 1,aQ 36 (.bin .add (.c (.str [114,101,110,97,109,101,32,47,42,47])) (.t 35)),aQ 37 (.bin .add (.t 36) (.c (.str [32]))),MR 38 2,et 39 .add 37 38,aQ 40 (.lits 1 1 [(.str [])] [(0,(.t 39))]),aQ 41 (.sg [(.int .i64 0),.nil0] [(0,(1,(jS 2))),(1,(1,(.t 40)))]),aQ 42 (.call w6 [(.t 34),(.t 41)]),aQ 10 (.new [(.int .i64 0),(.int .i64 0),(.str [])]),gg (.store 3 (.t 10) (.t 42))] (aM [gH 11 0] (.seq (aM [ep 43 9 0,fm 44 43,aQ 45 (.Vc (.t 44) (jS 0) 5),ep 46 45 4,fm 47 46,oy 48 47,gH 49 0] (.block 0 (.loop (aM [et 50 .lss 49 48] (.seq (.cond (.t 50) .skip (.exit 0)) (.seq (.block 1 (aM [jL 51 47 49 1,fm 52 51,MR 13 52] (aM [ep 53 9 0,fm 54 53,MR 55 13,jL 56 54 55 5,ep 57 56 0,fm 58 57,sB 59 58,MR 60 59,Wb 61 60 9 0,jm 62 60 61,cU 63 60 13,dW 64 60 (.Vc (.t 62) (.t 63) 5),Wb 65 60 64 1,jm 66 60 65,cU 67 60 1,dW 68 60 (.bin .eql (.t 66) (.t 67)),jT 69 60 68] (.cond (.t 69) (aM [ep 70 9 0,fm 71 70,MR 72 13,MR 73 2,jL 74 71 72 5,ep 75 74 1,gg (.store 1 (.t 75) (.t 73))] (.cq [MR 76 11,eY 77 .add 76 1,MR 11 77])) .skip)))) (.cq [eY 78 .add 49 1,MR 49 78]))))))) (.seq (aM [MR 79 11,eY 80 .gtr 79 20] (.cond (.t 80) (aM [ep 81 10 0,fm 82 81,eY 83 .eql 82 2,MR 6 83] .ret) .skip)) (.gh (.xd (.loc 1000) (.loc 9) 0) (.seq (.VL [ep 84 10 0,fm 85 84,eY 86 .eql 85 0,MR 87 11,eY 88 .gtr 87 0,aQ 89 (.eqb false (.t 86) (.t 88)),MR 90 89,Wb 91 90 10 1,jm 92 90 91,cU 93 90 11,dW 94 90 (.bin .eql (.t 92) (.t 93)),jT 95 90 94,MR 96 95,Wb 97 96 10 0,jm 98 96 97,dW 99 96 (.bin .eql (.t 98) (jS 0)),cU 100 96 99,oH 101 100 10 0,oG 102 100 101,iR 103 100 (.bin .eql (.t 102) (jS 3)),dW 104 96 (.pick (.t 100) (me true) (.t 103)),jT 105 96 104,MR 106 105,dW 107 106 (.load (some 1) (.t 9)),cU 108 106 7,dW 109 106 (.call mm [(.t 108)]),dW 110 106 (.call ak2 [(.t 107),(.t 109)]),jT 111 106 110,MR 6 111] [[],[0],[1],[],[3],[2,4],[5],[6],[7,6],[6],[8,9,6],[6,10],[11,6],[12],[13,12],[14,12],[15,12,12],[16],[17,16],[18,16],[16,19,12],[12,20],[21,16],[22],[22],[24,22,22],[23,25,25,22],[22,26],[27,26,0,1,2,3,4,5,6,7,8,9,10,11,12,13,14,15,16,17,18,19,20,21,22,23,24,25,26,27]] [.no,.rw [.loc 10] [],.no,.no,.no,.no,.no,.no,.rw [.loc 10] [],.no,.no,.no,.no,.no,.rw [.loc 10] [],.no,.no,.no,.rw [.loc 10] [],.no,.no,.no,.no,.rw [.loc 9] [],.no,(.p_ [(.loc 9)]),.no,.no,.no]) .ret))))))))))
set_option maxRecDepth 10000 in
def apb {alX ale ala Vs mm w6 ak2:Nat} (hF:aw P G alX=some (112,[(none,6)],(alz ale ala Vs mm w6 ak2).bare)) (l:List ak7) (a b:Bs)
  (hP:aob P G ale ala l) (FF:∀s,s=a∨s=b→au P G Vs [.str s] (.bool (named s)))
  (arn:∀(d:Doc) (n:Int),Vo d=true→ap3 P G mm d n) (apS:ari P G mm) (hDo:named a=true→named b=true→DoC P G w6 ⟨2,[ams a b]⟩) (hS:aqb P G ak2) :
  au P G alX [.list (l.map ak7.iv),.str a,.str b] (.bool true):=by
 obtain⟨hi,h0,h1⟩:=anj l (min l.length 50);have hn5:(aly l (min l.length 50)).2<100:=by rw[aod l _ (by omega) (by omega)];omega
 obtain⟨d,hd⟩:∃d,(aly l (min l.length 50)).1=d:=⟨_,rfl⟩;obtain⟨n,hn⟩:∃n,(aly l (min l.length 50)).2=n:=⟨_,rfl⟩;rw[hd] at hi;rw[hn] at h0 h1 hn5;unfold aob at hP;rw[hd,hn] at hP;refine aR hF (by simp) (by simp[ah,AV.an,ak7.av]) (by simp[AV.an]) ?_;unfold alz;simp only[↓aX,mX,reduceCtorEq,Nat.reduceEqDiff,Nat.reduceLT,Nat.reduceLeDiff,Nat.reduceAdd,Nat.reduceMul,Int.reduceToNat,Int.reduceLE,Int.reduceLT];refine anB 16 (fun q=> .gf [.ptr q 2 0 0,.bool true]) hP (by simp[ah,AV.an]) (fun l=>by simp[NW,Hp.none,ae]) fun q=> ?_;obtain⟨e1,e2,e3,e4⟩:(∀k,(Lb.loc k=NW 16 q)=False)∧(∀k,(NW 16 q=Lb.loc k)=False)∧(NW 16 q).fresh=true∧∀q2,(NW 33 q2=NW 16 q)=False∧(NW 16 q=NW 33 q2)=False:=⟨fun k=>by simp[NW],fun k=>by simp[NW],rfl,fun q2=>by simp[NW]⟩;generalize NW 16 q=L at *;simp only[↓aX,mX,reduceCtorEq,Nat.reduceEqDiff,Nat.reduceLT,Nat.reduceLeDiff,Nat.reduceAdd,Nat.reduceMul,Int.reduceToNat,Int.reduceLE,Int.reduceLT,Bool.not_true];refine ay (FF a (.inl rfl)) ?_;cases ha:named a with
 |false=>simp only[↓aX,mX,reduceCtorEq,Nat.reduceEqDiff,Nat.reduceLT,Nat.reduceLeDiff,Nat.reduceAdd,Nat.reduceMul,Int.reduceToNat,Int.reduceLE,Int.reduceLT,Bool.not_false]
 |true=>
 simp only[↓aX,mX,reduceCtorEq,Nat.reduceEqDiff,Nat.reduceLT,Nat.reduceLeDiff,Nat.reduceAdd,Nat.reduceMul,Int.reduceToNat,Int.reduceLE,Int.reduceLT,Bool.not_true];refine ay (FF b (.inr rfl)) ?_;cases hb:named b with
 |false=>simp only[↓aX,mX,reduceCtorEq,Nat.reduceEqDiff,Nat.reduceLT,Nat.reduceLeDiff,Nat.reduceAdd,Nat.reduceMul,Int.reduceToNat,Int.reduceLE,Int.reduceLT,Bool.not_false]
 |true=>
 simp only[↓aX,mX,reduceCtorEq,Nat.reduceEqDiff,Nat.reduceLT,Nat.reduceLeDiff,Nat.reduceAdd,Nat.reduceMul,Int.reduceToNat,Int.reduceLE,Int.reduceLT,Bool.not_true];have hDo:=hDo ha hb d n hi h0 h1;obtain⟨t,ht,rfl⟩:=XW.1 hi;have H_:=apH ht ha hb;rw[apa hn5] at hDo;refine aoA 33 L (arn _ n hi) (by simp[ae,stC,aB,IV.cells]) e3 (fun l=>by simp[ae,Hp.none,e4]) fun q2=> ?_;obtain⟨f1,f2,f3,f4,f5⟩:(∀k,(Lb.loc k=NW 33 q2)=False)∧(∀k,(NW 33 q2=Lb.loc k)=False)∧(NW 33 q2).fresh=true∧(NW 33 q2=L)=False∧(L=NW 33 q2)=False:=⟨fun k=>by simp[NW],fun k=>by simp[NW],rfl,(e4 q2).1,(e4 q2).2⟩;clear e4;generalize NW 33 q2=L2 at *;obtain⟨d2,r,hdr⟩:∃d2 r,alh (lW t) [ams a b]=(d2,r):=by
  cases alh (lW t) [ams a b] with
  |mk x y=>exact⟨x,y,rfl⟩
 rw[hdr] at hDo H_;have la:=Zp ha;have lb:=Zp hb;simp only[↓aX,mX,reduceCtorEq,Nat.reduceEqDiff,Nat.reduceLT,Nat.reduceLeDiff,Nat.reduceAdd,Nat.reduceMul,Int.reduceToNat,Int.reduceLE,Int.reduceLT,Hp.none,e1,e2,f1,f2,f4,f5];rw[if_pos (by omega)];simp only[↓aX,mX,reduceCtorEq,Nat.reduceEqDiff,Nat.reduceLT,Nat.reduceLeDiff,Nat.reduceAdd,Nat.reduceMul,Int.reduceToNat,Int.reduceLE,Int.reduceLT,List.length_append,List.length_cons,List.length_nil];rw[if_pos (by omega)];simp only[↓aX,mX,reduceCtorEq,Nat.reduceEqDiff,Nat.reduceLT,Nat.reduceLeDiff,Nat.reduceAdd,Nat.reduceMul,Int.reduceToNat,Int.reduceLE,Int.reduceLT,List.length_append,List.length_cons,List.length_nil];rw[if_pos (by omega)];simp only[↓aX,mX,reduceCtorEq,Nat.reduceEqDiff,Nat.reduceLT,Nat.reduceLeDiff,Nat.reduceAdd,Nat.reduceMul,Int.reduceToNat,Int.reduceLE,Int.reduceLT,Hp.none,e1,e2,f1,f2,f4,f5];refine bj (l:=L) hDo (by simp[bu,bJ,ft,ak7.av,ams]) (by simp[ae,e1,e2,f4,f5,stC,aB,IV.cells,IV.dQ]) ?_;rintro x2 cs2 ⟨rfl,rfl⟩ _ _ _;simp only[↓aX,mX,reduceCtorEq,Nat.reduceEqDiff,Nat.reduceLT,Nat.reduceLeDiff,Nat.reduceAdd,Nat.reduceMul,Int.reduceToNat,Int.reduceLE,Int.reduceLT,Rep.av,Hp.none,e1,e2,f1,f2,f4,f5];have aro:=(acf t).node;have arp:0<(lW t).length:=by rw[pf];exact t.uE
 have aqc:=amT t;obtain⟨ks,hks⟩:∃ks,ks=mw 1 t.kids:=⟨_,rfl⟩;rw[←hks] at aqc;have np:nsN (lW t) a=ks.filter (amh (lW t) a):=by unfold nsN;rw[aqc]
 have Hm:ks.length≤B:=by
  have h1:=((ia t).1 ht).2.2.1;have h2:=t.n8;have h3:∀xs:List Tree,xs.length≤dP xs:=by
   intro xs;induction xs with
   |nil=>simp
   |cons x r ih=>have:=x.uE;simp only[dP,List.length_cons];omega
  have:=h3 t.kids;rw[hks,VS];unfold B;omega
 have jY:∀(j:Nat) (k:Int),ks[j]?=some k→∃(m:Nat) (x:Node),k=(m:Int)∧(lW t)[m]?=some x∧((m:Int)∉(ks.take j).filter (amh (lW t) a)):=by
  intro j k hj;rw[hks] at hj ⊢;obtain⟨m,x,h1,h2,h3⟩:=aqM hj;exact⟨m,x,h1,h2,fun h=>h3 (List.mem_filter.1 h).1⟩
 have F2:Vo (aml (lW t) (nsN (lW t) a) b)=true:=by
  have h:=aoR ht (a:=a) hb;rw[←h.2];exact Yj h.1
 generalize lW t=d at *;have zo:B=1073741824:=rfl;simp only[↓aX,mX,reduceCtorEq,Nat.reduceEqDiff,Nat.reduceLT,Nat.reduceLeDiff,Nat.reduceAdd,Nat.reduceMul,Int.reduceToNat,Int.reduceLE,Int.reduceLT,arp,amL aro,ndA,Tree.node,←hks,List.length_map,e1,e2,f1,f2,f4,f5];refine pe (σ:={j:Nat // j≤ks.length}) (fun _=>[.loc 9,.loc 10,.loc 1000,.loc 1001]) (fun _ _=>false)
  (fun s=>[(1,.str a),(2,.str b),(7,.ptr (.loc 1001) 2 0 0),(9,.ptr (.loc 9) 1 0 0),(10,.ptr (.loc 10) 3 0 0),(11,.int .i64 ((ks.take s.1).filter (amh d a)).length),(47,.list (ks.map xX)),(48,.int .i64 ks.length),(49,.int .i64 s.1)])
  (fun s=>[(.loc 9,⟨1,[[.sl (.loc 1000) 5 0 d.length]]⟩),(.loc 10,⟨3,[[.int .i64 r.code,.int .i64 r.n,.str r.text]]⟩),(.loc 1000,⟨5,aB ((aml d ((ks.take s.1).filter (amh d a)) b).map Node.iv)⟩),(.loc 1001,⟨2,[stC d2 (n+1)]⟩)])
  (fun s=>ks.length - s.1) ⟨0,by simp⟩ (fun _=>rfl) (fun s=>by simp[ah,AV.an]) ?_ ⟨[(.loc 1000,L2),(.loc 1001,L)],?_⟩ ?_
 ·rintro s w hw cs bV z hz;simp only[List.mem_cons,List.not_mem_nil,or_false] at hw;rcases hw with rfl|rfl|rfl|rfl
  ·simp only[List.mem_singleton] at bV;subst bV;simp[ah,AV.an] at hz;subst hz;simp
  ·simp only[List.mem_singleton] at bV;subst bV;simp[ah,AV.an] at hz
  ·rw[bU bV] at hz;simp at hz
  simp only[List.mem_singleton] at bV;subst bV;simp[ah,AV.an,stC] at hz
 ·refine⟨?_,?_,?_,?_,?_⟩
  ·intro l' hf hu;refine absurd ?_ hu;simp[afy,hf,Lb.fresh,Hp.none,e3,f3]
  ·simp[k_,dn,bJ,put,jP]
  ·have hrn:∀(ρ:Lb→Lb) (xs:List IV),(aB xs).map (bu ρ)=aB xs:=fun ρ xs=>(by have:=dy ρ 1 xs;simpa[dO] using this);simp[tc,dn,ae,dO,bu,bJ,hrn,stC,e1,e2,f1,f2,f4,f5,ann]
  ·simp[dn,e1,e2,f1,f2,f4,f5]
  intro z hz;simp only[List.mem_cons,List.not_mem_nil,or_false] at hz;rcases hz with rfl|rfl|rfl|rfl<;>simp[dn,Lb.fresh,e3,f3]
 rintro⟨j,hj⟩;rw[Cf];simp only[↓aX,mX,reduceCtorEq,Nat.reduceEqDiff,Nat.reduceLT,Nat.reduceLeDiff,Nat.reduceAdd,Nat.reduceMul,Int.reduceToNat,Int.reduceLE,Int.reduceLT,cF,bW];by_cases zk:j<ks.length
 ·rw[show decide ((j:Int)<(ks.length:Int))=true by simpa using zk];obtain⟨k,hkj⟩:∃k,ks[j]?=some k:=⟨_,List.getElem?_eq_getElem zk⟩;obtain⟨m,x,rfl,hx,FQ⟩:=jY j k hkj;have Uc:=(List.getElem?_eq_some_iff.1 hx).1;have hxj:=apI (b:=b) hx FQ;have wB:IntKind.i64.wrap ((j:Int)+1)=((j+1:Nat):Int):=wrap64 (by omega) (by omega);simp only[↓aX,mX,reduceCtorEq,Nat.reduceEqDiff,Nat.reduceLT,Nat.reduceLeDiff,Nat.reduceAdd,Nat.reduceMul,Int.reduceToNat,Int.reduceLE,Int.reduceLT,aaX,hkj,YN,Option.map_some,ady,Uc,amL hxj,ndA,Int.natCast_nonneg,Int.toNat_natCast];have hh:amh d a (m:Int)=(!x.text&&x.s==a):=by unfold amh;rw[Int.toNat_natCast,hx]
  have E0:ks.take (j+1)=ks.take j++[(m:Int)]:=by rw[List.take_add_one,hkj];rfl
  have hrn:∀(ρ:Lb→Lb) (xs:List IV),(aB xs).map (bu ρ)=aB xs:=fun ρ xs=>by have:=dy ρ 1 xs;simpa[dO] using this
  cases v_:x.text with
  |true=>
   have e5:(ks.take (j+1)).filter (amh d a)=(ks.take j).filter (amh d a):=(by rw[E0,List.filter_append];simp[hh,v_]);simp only[↓aX,mX,reduceCtorEq,Nat.reduceEqDiff,Nat.reduceLT,Nat.reduceLeDiff,Nat.reduceAdd,Nat.reduceMul,Int.reduceToNat,Int.reduceLE,Int.reduceLT,v_,Bool.not_true,wB];refine⟨⟨j+1,zk⟩,by simp only;omega,[],?_,?_,?_,by simp[dn],fun l _=>⟨id,fun _=>rfl⟩⟩
   ·intro l' hf hu;refine absurd ?_ hu;simp[afy,hf,Lb.fresh,Hp.none]
   ·simp[k_,dn,bJ,put,o9,e5]
   simp[tc,dn,ae,dO,bu,bJ,hrn,stC,e5]
  |false=>
  simp only[↓aX,mX,reduceCtorEq,Nat.reduceEqDiff,Nat.reduceLT,Nat.reduceLeDiff,Nat.reduceAdd,Nat.reduceMul,Int.reduceToNat,Int.reduceLE,Int.reduceLT,v_,Bool.not_false,amL hxj,Uc,ndA,Int.natCast_nonneg,Int.toNat_natCast];cases hsa:(x.s==a) with
  |false=>
   have e5:(ks.take (j+1)).filter (amh d a)=(ks.take j).filter (amh d a):=(by rw[E0,List.filter_append];simp[hh,v_,hsa]);simp only[↓aX,mX,reduceCtorEq,Nat.reduceEqDiff,Nat.reduceLT,Nat.reduceLeDiff,Nat.reduceAdd,Nat.reduceMul,Int.reduceToNat,Int.reduceLE,Int.reduceLT,hsa,wB];refine⟨⟨j+1,zk⟩,by simp only;omega,[],?_,?_,?_,by simp[dn],fun l _=>⟨id,fun _=>rfl⟩⟩
   ·intro l' hf hu;refine absurd ?_ hu;simp[afy,hf,Lb.fresh,Hp.none]
   ·simp[k_,dn,bJ,put,o9,e5]
   simp[tc,dn,ae,dO,bu,bJ,hrn,stC,e5]
  |true=>
  have e5:(ks.take (j+1)).filter (amh d a)=(ks.take j).filter (amh d a)++[(m:Int)]:=by rw[E0,List.filter_append];simp[hh,v_,hsa]
  have FO:((ks.take j).filter (amh d a)).length≤ks.length:=Nat.le_trans (List.length_filter_le _ _) (by rw[List.length_take];omega);have Es:IntKind.i64.wrap ((((ks.take j).filter (amh d a)).length:Int)+1)=((((ks.take j).filter (amh d a)).length+1:Nat):Int):=wrap64 (by omega) (by omega);simp only[↓aX,mX,reduceCtorEq,Nat.reduceEqDiff,Nat.reduceLT,Nat.reduceLeDiff,Nat.reduceAdd,Nat.reduceMul,Int.reduceToNat,Int.reduceLE,Int.reduceLT,hsa,amL hxj,Uc,ndA,wB,Es,Int.natCast_nonneg,Int.toNat_natCast,List.set_cons_succ,List.set_cons_zero];have pT:(aB ((aml d ((ks.take j).filter (amh d a)) b).map Node.iv)).set m [.bool x.text,.str b,.list (cD x.attrs),.int .i64 x.parent,.list (x.kids.map xX)]=aB ((aml d ((ks.take (j+1)).filter (amh d a)) b).map Node.iv):=by
   have:=apK (aml d ((ks.take j).filter (amh d a)) b) m {x with s:=b};simp only[ndA] at this;rw[this,e5,apJ hx]
  refine⟨⟨j+1,zk⟩,by simp only;omega,[],?_,?_,?_,by simp[dn],fun l _=>⟨id,fun _=>rfl⟩⟩
  ·intro l' hf hu;refine absurd ?_ hu;simp[afy,hf,Lb.fresh,Hp.none]
  ·simp[k_,dn,bJ,put,o9,e5]
  simp[tc,dn,ae,dO,bu,bJ,hrn,stC,pT]
 rw[show decide ((j:Int)<(ks.length:Int))=false by simpa using zk];have:j=ks.length:=by omega
 subst this;rw[List.take_length,←np];simp only[↓aX,mX,reduceCtorEq,Nat.reduceEqDiff,Nat.reduceLT,Nat.reduceLeDiff,Nat.reduceAdd,Nat.reduceMul,Int.reduceToNat,Int.reduceLE,Int.reduceLT];by_cases G4:20<(nsN d a).length
 ·have Vi:nsN d a≠[]:=by intro e;rw[e] at G4;simp at G4
  rw[if_neg Vi,if_pos G4] at H_;obtain⟨rfl,rfl⟩:=Prod.mk.inj H_;rw[show decide (((nsN d2 a).length:Int)>20)=true by simp;omega];simp only[↓aX,mX,reduceCtorEq,Nat.reduceEqDiff,Nat.reduceLT,Nat.reduceLeDiff,Nat.reduceAdd,Nat.reduceMul,Int.reduceToNat,Int.reduceLE,Int.reduceLT,show((2:Int)==2)=true from rfl]
 rw[show decide (((nsN d a).length:Int)>20)=false by simp;omega];simp only[↓aX,mX,reduceCtorEq,Nat.reduceEqDiff,Nat.reduceLT,Nat.reduceLeDiff,Nat.reduceAdd,Nat.reduceMul,Int.reduceToNat,Int.reduceLE,Int.reduceLT];have BY:(((aml d (nsN d a) b).map Node.iv).drop 0).take d.length=(aml d (nsN d a) b).map Node.iv:=by rw[List.drop_zero];exact List.take_of_length_le (by rw[List.length_map,aoj];exact Nat.le_refl _)
 refine⟨5,(aml d (nsN d a) b).map Node.iv,0,d.length,[.sl (.loc 1000) 5 0 d.length],rfl,rfl,rfl,by simp,by rw[List.length_map,aoj];omega,acH _,?_⟩;rw[List.drop_zero] at BY;simp only[↓aX,mX,reduceCtorEq,Nat.reduceEqDiff,Nat.reduceLT,Nat.reduceLeDiff,Nat.reduceAdd,Nat.reduceMul,Int.reduceToNat,Int.reduceLE,Int.reduceLT,List.drop_zero,List.set_cons_zero];by_cases Vi:nsN d a=[]
 ·rw[if_pos Vi] at H_;obtain⟨rfl,rfl⟩:=Prod.mk.inj H_;rw[Vi,ann] at BY;rw[Vi,ann];simp only[↓aX,mX,reduceCtorEq,Nat.reduceEqDiff,Nat.reduceLT,Nat.reduceLeDiff,Nat.reduceAdd,Nat.reduceMul,Int.reduceToNat,Int.reduceLE,Int.reduceLT,show((3:Int)==0)=false from rfl,show((3:Int)==3)=true from rfl,List.length_nil,show decide (((0:Nat):Int)>0)=false from rfl,show(false==false)=true from rfl,show((0:Int)==((0:Nat):Int))=true from rfl];refine⟨rfl,?_⟩;refine Bq (l:= .loc 1001) (apS _ (n+1) hi) (by simp[bu,bJ,ft]) (by simp[ae,stC]) (by simp[Lb.iQ]) ⟨rfl,rfl⟩ (by simp[AV.an,Doc.av,ah]) (by simp[stC,ah,AV.an]) rfl ?_;rintro x3 cs3 ⟨rfl,rfl⟩ _ _ _;simp only[↓aX,mX,reduceCtorEq,Nat.reduceEqDiff,Nat.reduceLT,Nat.reduceLeDiff,Nat.reduceAdd,Nat.reduceMul,Int.reduceToNat,Int.reduceLE,Int.reduceLT,Hp.none,Doc.av];refine jw (res:= .bool true) (by rw[BY];have h:=hS _ _ hi hi;rw[Oh] at h;exact h) ?_;simp only[↓aX,mX,reduceCtorEq,Nat.reduceEqDiff,Nat.reduceLT,Nat.reduceLeDiff,Nat.reduceAdd,Nat.reduceMul,Int.reduceToNat,Int.reduceLE,Int.reduceLT]
 rw[if_neg Vi,if_neg G4] at H_;obtain⟨rfl,rfl⟩:=Prod.mk.inj H_;have xg:0<(nsN d a).length:=List.length_pos_iff.2 Vi;simp only[↓aX,mX,reduceCtorEq,Nat.reduceEqDiff,Nat.reduceLT,Nat.reduceLeDiff,Nat.reduceAdd,Nat.reduceMul,Int.reduceToNat,Int.reduceLE,Int.reduceLT,show((0:Int)==0)=true from rfl,show decide (((nsN d a).length:Int)>0)=true by simp;omega];refine⟨rfl,?_⟩;refine Bq (l:= .loc 1001) (apS _ (n+1) F2) (by simp[bu,bJ,ft]) (by simp[ae,stC]) (by simp[Lb.iQ]) ⟨rfl,rfl⟩ (by simp[AV.an,Doc.av,ah]) (by simp[stC,ah,AV.an]) rfl ?_;rintro x3 cs3 ⟨rfl,rfl⟩ _ _ _;simp only[↓aX,mX,reduceCtorEq,Nat.reduceEqDiff,Nat.reduceLT,Nat.reduceLeDiff,Nat.reduceAdd,Nat.reduceMul,Int.reduceToNat,Int.reduceLE,Int.reduceLT,Hp.none,Doc.av];refine jw (res:= .bool true) (by rw[BY];have h:=hS _ _ F2 F2;rw[Oh] at h;exact h) ?_;simp only[↓aX,mX,reduceCtorEq,Nat.reduceEqDiff,Nat.reduceLT,Nat.reduceLeDiff,Nat.reduceAdd,Nat.reduceMul,Int.reduceToNat,Int.reduceLE,Int.reduceLT]
end
end Go.Am
