import Derived.Test.YtfinkeaikbmpgaaDoorKD1
import Derived.Test.YtfinkeaikbmpgaaDoorKT21
import Derived.Test.YtfinkeaikbmpgaaDoorKAm25
import Derived.Lib.Bytealg
import Derived.Lib.AtoiAllCases
import Derived.Lib.ItoaNum
set_option linter.unusedSimpArgs false
set_option linter.unusedVariables false
set_option linter.unnecessarySimpa false
set_option linter.defProp false
/- Paths: which nodes are meant. -/
namespace Go.Am
open Go Go.RowKit
structure Step where
 name:Bs
 n:Int
def Step.cs (x:Step):List IV:=[.str x.name,.int .i64 x.n]
def Step.iv (x:Step):IV:= .agg x.cs
def Step.av (x:Step):AV:= .agg [.str x.name,.int .i64 x.n]
def bM (s:Step):Bool:=(s.name==[]||(s.name==[42]||named s.name))&&(decide (0≤s.n)&&decide (s.n≤99))
def aV (l:List Step):Bool:=l.all bM&&(decide (1≤l.length)&&decide (l.length≤5))
def A0 (text:Bool) (s:Bs) (name:Bs):Bool:=if name==[]||text then name==[]&&text else name==[42]||name==s
def gD (d:Doc) (s:Step):Nat→List Int→List Int
 |_,[]=>[]
 |k,n::r=>match d[n.toNat]? with
  |some x=>if A0 x.text x.s s.name then(if s.n=0∨s.n=((k+1:Nat):Int) then n::gD d s (k+1) r else gD d s (k+1) r) else gD d s k r
  |none=>gD d s k r

section
variable {t:Tree}
def Sub.at {n:Nat} {q:Int} {y:Tree} (h:Sub 0 (-1) t n q y):(iF t)[n]?=some (y.node n q):=(h.AM _ ⟨[],by simp[iF]⟩).node
end

def Step.eN (x:Step):x.iv.cells=x.cs:=rfl
def pr (l:List Step):jK 2 (l.map Step.iv):=by
 intro y hy;obtain⟨x,_,rfl⟩:=F2.1 hy;rfl
def sQ (l:List Step):Flat (l.map Step.iv):=by
 intro y hy z hz cs;obtain⟨x,_,rfl⟩:=F2.1 hy;simp only[Step.eN,Step.cs,FP,HB,FR] at hz;rcases hz with rfl|rfl<;>simp
def sR (l:List Step) (i:Nat):(l.map Step.iv)[i]?=(l[i]?).map Step.iv:=F9 ..
section
variable {P:Program} {G:Nat→Option (List IV)}
structure Fl (d:Doc) (s:Step) (l:List Int) where
 i:Nat
 k:Nat
 a:List Int
 hi:i≤l.length
 hk:k≤i
 ha:a.length≤i
 h:gD d s 0 l=a++gD d s k (l.drop i)

def gm (eA:Nat):AC:=
(aK [gQ 2 false] (.seq (aK [ah 5 0,tC 6 5,iK 7 0] (.block 0 (.loop (aK [ga 8 .lss 7 6] (.seq (.cond (.t 8) .skip (.exit 0)) (.seq (.block 1 (aK [tz 9 5 7 2,qP 10 2 9,bg 4 (.new [(.str []),(.int .i64 0)]),mq (.store 2 (.t 4) (.t 10))] (aK [mo 11 4 0,oT 12 11,bg 13 (.bin .neq (.t 12) (.c (.str []))),ah 14 13,tG 15 14 4 0,tE 16 14 15,dC 17 14 (.bin .neq (.t 16) (.c (.str [42]))),jk 18 14 17,ah 19 18,tG 20 19 4 0,tE 21 19 20,dC 22 19 (.call eA [(.t 21)]),dC 23 19 (.not (.t 22)),jk 24 19 23,ah 25 24,tH 26 25 4 1,tF 27 25 26,jJ 28 25 (.bin .lss (.t 27) (iJ 0)),nS 29 25 28,ah 30 29,tH 31 30 4 1,tF 32 30 31,jJ 33 30 (.bin .gtr (.t 32) (iJ 99)),nS 34 30 33] (.cond (.t 34) (aK [gQ 2 false] .ret) .skip)))) (.fU [ew 35 .add 7 1,ah 7 35]))))))) (aK [ah 36 0,tC 37 36,ew 38 .geq 37 1,ah 39 38,cm 40 39 0,dC 41 39 (.len (.t 40)),dC 42 39 (.bin .leq (.t 41) (iJ 5)),jk 43 39 42,ah 2 43] .ret)))
def qp {c7 eA:Nat} (hF:aM P G c7=some (44,[(none,2)],(gm eA).bare)) (l:List Step) (hl:l.length≤B) (hN:∀x∈l,aw P G eA [.str x.name] (.bool (named x.name))) :
  aw P G c7 [.list (l.map Step.iv)] (.bool (aV l)):=by
 refine aG hF (by simp) (by simp[af,AV.ax]) (by simp[AV.ax]) ?_;have wD:B=1073741824:=rfl;unfold gm;simp only[↓aX,mX,seval,FT];refine i_ (σ:={i:Nat // i≤l.length∧∀x∈l.take i,bM x=true}) (fun q=>[(0,.list (l.map Step.iv)),(5,.list (l.map Step.iv)),(6,.int .i64 l.length),(7,.int .i64 q.1)]) (fun q=>l.length - q.1) ⟨0,by simp⟩ (fun _=>rfl) ?_ ?_
 ·exact⟨by simp only[↓aX,mX,seval],by repeat' constructor⟩
 rintro⟨i,hi,hs⟩;simp only[↓aX,mX,seval,FT];by_cases cD:i<l.length
 ·rw[show decide ((i:Int)<(l.length:Int))=true by simpa using cD];obtain⟨x,hx⟩:∃x,l[i]?=some x:=⟨_,FF cD⟩;have zn:=Fx hx;have hw:IntKind.i64.wrap ((i:Int)+1)=((i+1:Nat):Int):=wrap64 (by omega) (by omega);have stop:bM x=false→aV l=false:=fun h=>by
   unfold aV;rw[show l.all bM=false from H9.2 ⟨x,zn,by simp[h]⟩];rfl
  have next:bM x=true→∀y∈l.take (i+1),bM y=true:=fun h y hy=>by
   rw[Gy,hx] at hy;simp only[Hv,Fz,FN] at hy;rcases hy with hy|rfl
   ·exact hs y hy
   exact h
  simp only[↓aX,mX,seval,sR,hx,pr,F4,Step.eN,Step.cs];have tail:∀b:Bool,(x.name==[]||(x.name==[42]||named x.name))=b→bM x=(b&&(decide (0≤x.n)&&decide (x.n≤99))):=fun b h=>by unfold bM;rw[h]
  cases h1:(x.name==[]) with
  |true=>
   have ht:=tail true (by rw[h1];rfl);simp only[↓aX,mX,seval,Ge];by_cases h4:x.n<0
   ·simp only[↓aX,mX,seval,h4,Gj,stop (by rw[ht,Gr (by omega)];rfl)]
   by_cases h5:99<x.n
   ·simp only[↓aX,mX,seval,h4,Gi,G9,h5,Gj,stop (by rw[ht,Gr (show ¬x.n≤99 by omega),Gx];rfl)]
   simp only[↓aX,mX,seval,h4,Gi,G9,h5,hw];exact⟨⟨i+1,cD,next (by rw[ht,Gg (show 0≤x.n by omega),Gg (show x.n≤99 by omega)];rfl)⟩,by simp only;omega,rfl⟩
  |false=>
  simp only[↓aX,mX,seval,F8];cases h2:(x.name==[42]) with
  |true=>
   have ht:=tail true (by rw[h1,h2];rfl);simp only[↓aX,mX,seval,Ge];by_cases h4:x.n<0
   ·simp only[↓aX,mX,seval,h4,Gj,stop (by rw[ht,Gr (by omega)];rfl)]
   by_cases h5:99<x.n
   ·simp only[↓aX,mX,seval,h4,Gi,G9,h5,Gj,stop (by rw[ht,Gr (show ¬x.n≤99 by omega),Gx];rfl)]
   simp only[↓aX,mX,seval,h4,Gi,G9,h5,hw];exact⟨⟨i+1,cD,next (by rw[ht,Gg (show 0≤x.n by omega),Gg (show x.n≤99 by omega)];rfl)⟩,by simp only;omega,rfl⟩
  |false=>
  simp only[↓aX,mX,seval,F8];refine ae (hN x zn) ?_;cases h3:named x.name with
  |true=>
   have ht:=tail true (by rw[h1,h2,h3];rfl);simp only[↓aX,mX,seval,Ge];by_cases h4:x.n<0
   ·simp only[↓aX,mX,seval,h4,Gj,stop (by rw[ht,Gr (by omega)];rfl)]
   by_cases h5:99<x.n
   ·simp only[↓aX,mX,seval,h4,Gi,G9,h5,Gj,stop (by rw[ht,Gr (show ¬x.n≤99 by omega),Gx];rfl)]
   simp only[↓aX,mX,seval,h4,Gi,G9,h5,hw];exact⟨⟨i+1,cD,next (by rw[ht,Gg (show 0≤x.n by omega),Gg (show x.n≤99 by omega)];rfl)⟩,by simp only;omega,rfl⟩
  |false=>
  have ht:=tail false (by rw[h1,h2,h3];rfl);simp only[↓aX,mX,seval,F8,stop ht]
 have qZ:l.take i=l:=F_ (by omega);have bG:l.all bM=true:=F3.2 fun x hx=>hs x (by rw[qZ];exact hx);rw[show decide ((i:Int)<(l.length:Int))=false by simpa using cD];simp only[↓aX,mX,seval,FT];by_cases h1:1≤l.length
 ·by_cases h2:l.length≤5
  ·simp only[↓aX,mX,seval,show((l.length:Int)≥1) by omega,Gj,FT,show((l.length:Int)≤5) by omega,aV,bG,h1,h2,Hw]
  simp only[↓aX,mX,seval,show((l.length:Int)≥1) by omega,Gj,FT,show ¬((l.length:Int)≤5) by omega,aV,bG,h1,h2,Gi,Gx]
 simp only[↓aX,mX,seval,show ¬((l.length:Int)≥1) by omega,Gi,aV,bG,h1,Gx,GY]
end

def sS {S:St} {f:Nat} {fn:Func} {e:Array Value→Sem Value} {args:List AV} {H:Hp} {res:AV} (hf:S.P.funcs[f]?=some fn) (nw:(fn.name== "runtime.NumGoroutine")=false) (hb:fn.body.isNone=true)
  (hn:Extern.findNext fn=none) (he:Extern.find fn=some e) (hr:∀(w:World) (β:Lb→Option Nat) (I:Nat→Prop) (vs:List Value),aI w β H I args vs→∃v,(e vs.toArray).run S.P w= .ok v w∧RV w β H I res v) (hl:res.ax=[]) :
  kL S f args H res:=by
 intro K β env a w vs hS gf hv;subst hS;obtain⟨v,h1,h2⟩:=hr w β _ vs hv;refine⟨v,w,?_,Below.refl _ _,h2,by simp[hl]⟩;rw[run_callFunc_extern hf nw hb hn he,h1];rfl
def A1 {w:World} {β:Lb→Option Nat} {H:Hp} {I:Nat→Prop} {x y:AV} {vs:List Value} (h:aI w β H I [x,y] vs):∃u v,vs=[u,v]∧RV w β H I x u∧RV w β H I y v:=by
 match vs,h with
 |[u,v],h=>
  simp only[aI] at h;obtain⟨_,_,h0,h1,_,_,h2,h3,h4⟩:=h;cases h0;cases h2;cases h4;exact⟨u,v,rfl,h1,h3⟩
def qq {S:St} {f:Nat} {fn:Func} (hf:S.P.funcs[f]?=some fn) (nw:(fn.name== "runtime.NumGoroutine")=false) (hb:fn.body.isNone=true)
  (hn:Extern.findNext fn=none) (he:Extern.find fn=some Extern.BytealgIndexByte.indexByte) (s:Bs) (c:UInt8) (H:Hp):kL S f [.str s,.int .u8 (c.toNat:Int)] H (.int .i64 (Lib.indexByte s c)):=by
 refine sS hf nw hb hn he (fun w β I vs hv=> ?_) rfl;obtain⟨u,v,rfl,h1,h2⟩:=A1 hv;simp only[RV] at h1 h2;subst h1;subst h2;exact⟨_,Lib.run_indexByteString _ _ _,by simp[RV]⟩
def qt {S:St} {f:Nat} {fn:Func} (hf:S.P.funcs[f]?=some fn) (nw:(fn.name== "runtime.NumGoroutine")=false) (hb:fn.body.isNone=true)
  (hn:Extern.findNext fn=none) (he:Extern.find fn=some Extern.BytealgCount.count) (s:Bs) (c:UInt8) (H:Hp):kL S f [.str s,.int .u8 (c.toNat:Int)] H (.int .i64 ((s.count c:Nat):Int)):=by
 refine sS hf nw hb hn he (fun w β I vs hv=> ?_) rfl;obtain⟨u,v,rfl,h1,h2⟩:=A1 hv;simp only[RV] at h1 h2;subst h1;subst h2;exact⟨_,Lib.run_countString _ _ _,by simp[RV,Lib.countByte]⟩
def aO (c:UInt8):Bs→List Bs
 |[]=>[[]]
 |b::r=>if b=c then []::aO c r else match aO c r with
  |w::ws=>(b::w)::ws
  |[]=>[[b]]
theorem eb (c:UInt8):∀s:Bs,(Lib.indexByte s c= -1∧s.count c=0∧aO c s=[s]) ∨
  ∃m:Nat,Lib.indexByte s c=(m:Int)∧m<s.length∧s.count c=(s.drop (m+1)).count c+1∧aO c s=s.take m::aO c (s.drop (m+1))
 |[]=> .inl ⟨rfl,rfl,rfl⟩
 |b::r=>by
  by_cases h:b=c
  ·subst h;refine .inr ⟨0,?_,by simp,by simp,?_⟩
   ·unfold Lib.indexByte;simp
   simp[aO]
  have hb:(b==c)=false:=by simpa using h
  rcases eb c r with⟨h1,h2,h3⟩|⟨m,h1,h2,h3,h4⟩
  ·refine .inl ⟨?_,?_,?_⟩
   ·unfold Lib.indexByte;rw[hb,h1];rfl
   ·rw[Ip,h2,hb];rfl
   simp[aO,h,h3]
  refine .inr ⟨m+1,?_,by simp;omega,?_,?_⟩
  ·unfold Lib.indexByte;rw[hb,h1];have:((m:Int)== -1)=false:=(by rw[HX];omega);rw[this];simp
  ·rw[Ip,hb];simpa using h3
  simp[aO,h,h4]
theorem jd (c:UInt8):∀(n:Nat) (s:Bs),s.count c=n→(aO c s).length=n+1
 |0,s,h=>by
  rcases eb c s with⟨_,_,h3⟩|⟨m,_,_,h3,_⟩
  ·rw[h3];rfl
  omega
 |n+1,s,h=>by
  rcases eb c s with⟨_,h2,_⟩|⟨m,_,_,h3,h4⟩
  ·omega
  rw[h4,FW,jd c n _ (by omega)]
def sU (c s:Bs):(decide (c.length≤s.length)&&s.take c.length==c)=c.isPrefixOf s:=by
 rw[Hs];simp only[FE,FV,Hj,Hy];constructor
 ·rintro⟨_,h⟩;have:=FZ c.length s;rw[h] at this;exact⟨s.drop c.length,this⟩
 rintro⟨t,rfl⟩;simp
section
variable {P:Program} {G:Nat→Option (List IV)}
def bA (aZ:Nat):AC:=
(aK [iK 4 0] (aK [ah 5 0,ah 6 1,bg 7 (.fj aZ [(.t 5),(.t 6)]),ah 4 7] .ret))
def ou {ay aZ:Nat} (hF:aM P G ay=some (8,[(none,4)],(bA aZ).bare))
  (hX:∀(N:Nat) (s:Bs) (c:UInt8) (H:Hp),kL ⟨P,G,N⟩ aZ [.str s,.int .u8 (c.toNat:Int)] H (.int .i64 (Lib.indexByte s c))) (s:Bs) (c:UInt8) :
  aw P G ay [.str s,.int .u8 (c.toNat:Int)] (.int .i64 (Lib.indexByte s c)):=by
 refine aG hF (by simp) (by simp[af,AV.ax]) (by simp[AV.ax]) ?_;unfold bA;simp only[↓aX,mX,seval];refine si (hX _ _ _ _) ?_;simp only[↓aX,mX,seval]
def bQ (ay bc b4 a_:Nat):AC:=
(aK [iK 4 0] (aK [ah 14 1,ia 15 14,ah 5 15] (.seq (.block 0 (aK [ah 17 5,ew 18 .eql 17 0,ah 19 18,e8 20 19 1,e8 21 19 0,jJ 22 19 (.bin .eql (.t 20) (.t 21)),nS 23 19 22,ah 16 23] (.cond (.t 16) (aK [iK 4 0] .ret) (aK [ah 25 5,ew 26 .eql 25 1,ah 24 26] (.cond (.t 24) (aK [ah 27 0,ah 28 1,bg 29 (.f_ (.t 28) (iJ 0)),bg 30 (.call ay [(.t 27),(.t 29)]),ah 4 30] .ret) (aK [ah 32 5,ah 33 0,ia 34 33,ga 35 .geq 32 34,ah 31 35] (.cond (.t 31) (aK [bg 4 (.gG (.c (.int .i64 (-1))))] .ret) (aK [ah 37 5,bg 38 (.stuck),ga 39 .leq 37 38,ah 40 39,cm 41 40 0,dC 42 40 (.lens (.t 41)),dC 43 40 (.bin .leq (.t 42) (iJ 64)),jk 44 40 43,ah 36 44] (.cond (.t 36) (aK [ah 45 0,ah 46 1,bg 47 (.fj bc [(.t 45),(.t 46)]),ah 4 47] .ret) .skip))))))))) (aK [ah 48 1,bg 49 (.f_ (.t 48) (iJ 0)),ah 6 49] (aK [ah 50 1,bg 51 (.f_ (.t 50) (iJ 1)),ah 7 51] (aK [iK 8 0] (aK [ah 52 0,ia 53 52,ah 54 5,ga 55 .sub 53 54,ew 56 .add 55 1,ah 9 56] (aK [iK 10 0] (.seq (.block 1 (.loop (.seq (aK [ah 57 8,ah 58 9,ga 59 .lss 57 58] (.cond (.t 59) .skip (.exit 1))) (.block 2 (.seq (aK [ah 60 0,ah 61 8,bg 62 (.f_ (.t 60) (.t 61)),ah 63 6,ga 64 .neq 62 63] (.cond (.t 64) (aK [ah 65 0,ah 66 8,ew 67 .add 66 1,ah 68 9,bg 69 (.en (.t 65) (some (.t 67)) (some (.t 68))),ah 70 6,bg 71 (.call ay [(.t 69),(.t 70)]),ah 11 71] (.seq (aK [ah 72 11,ew 73 .lss 72 0] (.cond (.t 73) (aK [bg 4 (.gG (.c (.int .i64 (-1))))] .ret) .skip)) (.fU [ah 74 8,ah 75 11,ew 76 .add 75 1,ga 77 .add 74 76,ah 8 77]))) .skip)) (.seq (aK [ah 78 0,ah 79 8,ew 80 .add 79 1,bg 81 (.f_ (.t 78) (.t 80)),ah 82 7,ga 83 .eql 81 82,ah 84 83,cm 85 84 0,cm 86 84 8,cm 87 84 8,cm 88 84 5,dC 89 84 (.bin .add (.t 87) (.t 88)),dC 90 84 (.en (.t 85) (some (.t 86)) (some (.t 89))),cm 91 84 1,dC 92 84 (.bin .eql (.t 90) (.t 91)),jk 93 84 92] (.cond (.t 93) (aK [ah 94 8,ah 4 94] .ret) .skip)) (aK [ah 95 8,ew 96 .add 95 1,ah 8 96] (aK [ah 97 10,ew 98 .add 97 1,ah 10 98] (aK [ah 99 5,bg 100 (.stuck),ga 101 .leq 99 100,ah 102 101,cm 103 102 10,cm 104 102 8,dC 105 102 (.call b4 [(.t 104)]),dC 106 102 (.bin .gtr (.t 103) (.t 105)),jk 107 102 106] (.cond (.t 107) (aK [ah 108 0,ah 109 8,bg 110 (.en (.t 108) (some (.t 109)) none),ah 111 1,bg 112 (.fj bc [(.t 110),(.t 111)]),ah 12 112] (.seq (aK [ah 113 12,ew 114 .geq 113 0] (.cond (.t 114) (aK [ah 115 12,ah 116 8,ga 117 .add 115 116,ah 4 117] .ret) .skip)) (aK [bg 4 (.gG (.c (.int .i64 (-1))))] .ret))) (aK [ah 118 5,bg 119 (.stuck),ga 120 .gtr 118 119,ah 121 120,cm 122 121 10,cm 123 121 8,dC 124 121 (.bin .shr (.t 123) (.c (.int .u64 4))),dC 125 121 (.bin .add (iJ 4) (.t 124)),dC 126 121 (.bin .geq (.t 122) (.t 125)),jk 127 121 126,ah 128 127,cm 129 128 8,cm 130 128 9,dC 131 128 (.bin .lss (.t 129) (.t 130)),jk 132 128 131] (.cond (.t 132) (aK [ah 133 0,ah 134 8,bg 135 (.en (.t 133) (some (.t 134)) none),ah 136 1,bg 137 (.call a_ [(.t 135),(.t 136)]),ah 13 137] (.seq (aK [ah 138 13,ew 139 .lss 138 0] (.cond (.t 139) (aK [bg 4 (.gG (.c (.int .i64 (-1))))] .ret) .skip)) (aK [ah 140 8,ah 141 13,ga 142 .add 140 141,ah 4 142] .ret))) .skip)))))))))))) (aK [bg 4 (.gG (.c (.int .i64 (-1))))] .ret))))))))))
def sV {an ay bc b4 a_:Nat} (hF:aM P G an=some (143,[(none,4)],(bQ ay bc b4 a_).bare))
  (hX:∀(s:Bs) (c:UInt8),aw P G ay [.str s,.int .u8 (c.toNat:Int)] (.int .i64 (Lib.indexByte s c))) (s:Bs) (c:UInt8) :
  aw P G an [.str s,.str [c]] (.int .i64 (Lib.indexByte s c)):=by
 refine aG hF (by simp) (by simp[af,AV.ax]) (by simp[AV.ax]) ?_;unfold bQ;simp only[↓aX,mX,seval,FW,Gq,show(((1:Nat):Int)==0)=false from rfl];cases h:(([c]:Bs)==s) with
 |true=>
  have:s=[c]:=by simpa using(eq_comm.1 (eq_of_beq h))
  subst this;have:Lib.indexByte [c] c=0:=by unfold Lib.indexByte;simp
  simp only[↓aX,mX,seval,this]
 |false=>
 simp only[↓aX,mX,seval,show(((1:Nat):Int)==1)=true from rfl,GS];refine ae (hX s c) ?_;simp only[↓aX,mX,seval]
def eo (an:Nat):AC:=
(aK [iK 4 0] (aK [ah 5 0,ah 6 1,bg 7 (.call an [(.t 5),(.t 6)]),ah 4 7] .ret))
def yI {a7 an:Nat} (hF:aM P G a7=some (8,[(none,4)],(eo an).bare)) (s:Bs) (c:UInt8)
  (hX:aw P G an [.str s,.str [c]] (.int .i64 (Lib.indexByte s c))):aw P G a7 [.str s,.str [c]] (.int .i64 (Lib.indexByte s c)):=by
 refine aG hF (by simp) (by simp[af,AV.ax]) (by simp[AV.ax]) ?_;unfold eo;simp only[↓aX,mX,seval];refine ae hX ?_;simp only[↓aX,mX,seval]
def ep (bB bd a7:Nat):AC:=
(aK [iK 4 0] (.seq (aK [ah 7 1,ia 8 7,ew 9 .eql 8 0] (.cond (.t 9) (aK [ah 10 0,bg 11 (.call bB [(.t 10)]),ew 12 .add 11 1,ah 4 12] .ret) .skip)) (.seq (aK [ah 13 1,ia 14 13,ew 15 .eql 14 1] (.cond (.t 15) (aK [ah 16 0,ah 17 1,bg 18 (.f_ (.t 17) (iJ 0)),bg 19 (.fj bd [(.t 16),(.t 18)]),ah 4 19] .ret) .skip)) (aK [iK 5 0] (.block 0 (.loop (.block 1 (aK [ah 20 0,ah 21 1,bg 22 (.call a7 [(.t 20),(.t 21)]),ah 6 22] (.seq (aK [ah 23 6,bg 24 (.bin .eql (.t 23) (.c (.int .i64 (-1))))] (.cond (.t 24) (aK [ah 25 5,ah 4 25] .ret) .skip)) (aK [ah 26 5,ew 27 .add 26 1,ah 5 27] (.fU [ah 28 0,ah 29 6,ah 30 1,ia 31 30,ga 32 .add 29 31,bg 33 (.en (.t 28) (some (.t 32)) none),ah 0 33])))))))))))
def yJ {bR bB bd a7:Nat} (hF:aM P G bR=some (34,[(none,4)],(ep bB bd a7).bare)) (s:Bs) (c:UInt8)
  (hX:∀(N:Nat) (H:Hp),kL ⟨P,G,N⟩ bd [.str s,.int .u8 (c.toNat:Int)] H (.int .i64 ((s.count c:Nat):Int))) :
  aw P G bR [.str s,.str [c]] (.int .i64 ((s.count c:Nat):Int)):=by
 refine aG hF (by simp) (by simp[af,AV.ax]) (by simp[AV.ax]) ?_;unfold ep;simp only[↓aX,mX,seval,FW,Gq,show(((1:Nat):Int)==0)=false from rfl,show(((1:Nat):Int)==1)=true from rfl,GS];refine si (hX _ _) ?_;simp only[↓aX,mX,seval]
def bC:AC:=
(aK [gQ 4 false] (aK [ah 5 0,ia 6 5,ah 7 1,ia 8 7,ga 9 .geq 6 8,ah 10 9,cm 11 10 0,cm 12 10 1,dC 13 10 (.lens (.t 12)),dC 14 10 (.en (.t 11) none (some (.t 13))),cm 15 10 1,dC 16 10 (.bin .eql (.t 14) (.t 15)),jk 17 10 16,ah 4 17] .ret))
def ov {aA:Nat} (hF:aM P G aA=some (18,[(none,4)],bC.bare)) (s t:Bs):aw P G aA [.str s,.str t] (.bool (t.isPrefixOf s)):=by
 refine aG hF (by simp) (by simp[af,AV.ax]) (by simp[AV.ax]) ?_;unfold bC;rw[←sU];simp only[↓aX,mX,seval];by_cases h:t.length≤s.length
 ·rw[show decide (((s.length:Nat):Int)≥((t.length:Nat):Int))=true by simpa using h,Gg h];simp only[↓aX,mX,seval,gR,Gb,FQ,Gp,h]
 rw[show decide (((s.length:Nat):Int)≥((t.length:Nat):Int))=false by simpa using h,Gr h];simp only[↓aX,mX,seval,GY]
def bD (aA:Nat):AC:=
(aK [bg 4 (.gG (.c (.str []))),gQ 5 false] (.seq (aK [ah 6 0,ah 7 1,bg 8 (.call aA [(.t 6),(.t 7)]),vU 9 8] (.cond (.t 9) (aK [ah 10 0,ah 4 10,gQ 5 false] .ret) .skip)) (aK [ah 11 0,ah 12 1,ia 13 12,bg 14 (.en (.t 11) (some (.t 13)) none),ah 4 14,gQ 5 true] .ret)))
def ma {aB aA:Nat} (hF:aM P G aB=some (15,[(none,4),(none,5)],(bD aA).bare)) (s t:Bs)
  (hX:aw P G aA [.str s,.str t] (.bool (t.isPrefixOf s))) :
  aw P G aB [.str s,.str t] (.dG [.str (if t.isPrefixOf s then s.drop t.length else s),.bool (t.isPrefixOf s)]):=by
 refine aG hF (by simp) (by simp[af,AV.ax]) (by simp[AV.ax,af]) ?_;unfold bD;simp only[↓aX,mX,seval];refine ae hX ?_;cases h:t.isPrefixOf s with
 |false=>simp only[↓aX,mX,seval,F8,↓ba]
 |true=>
 have:t.length≤s.length:=by rw[Hy] at h;exact h.length_le
 simp only[↓aX,mX,seval,Ge,gR,Gb,FQ,Gp,this,GB,↓ba]
def dk (aB:Nat):AC:=
(aK [bg 4 (.gG (.c (.str []))),gQ 5 false] (aK [ah 6 0,ah 7 1,bg 8 (.call aB [(.t 6),(.t 7)]),gp 9 8 0,gp 10 8 1,ah 4 9,ah 5 10] .ret))
def ow {bj aB:Nat} (hF:aM P G bj=some (11,[(none,4),(none,5)],(dk aB).bare)) (s t:Bs)
  (hX:aw P G aB [.str s,.str t] (.dG [.str (if t.isPrefixOf s then s.drop t.length else s),.bool (t.isPrefixOf s)])) :
  aw P G bj [.str s,.str t] (.dG [.str (if t.isPrefixOf s then s.drop t.length else s),.bool (t.isPrefixOf s)]):=by
 refine aG hF (by simp) (by simp[af,AV.ax]) (by simp[AV.ax,af]) ?_;unfold dk;simp only[↓aX,mX,seval];refine ae hX ?_;simp only[↓aX,mX,seval,↓ba]
def sW (c s:Bs):(decide (c.length≤s.length)&&s.drop (s.length - c.length)==c)=c.isSuffixOf s:=by
 rw[Hs];simp only[FE,FV,Hj,GO];constructor
 ·rintro⟨_,h⟩;have:=FZ (s.length - c.length) s;rw[h] at this;exact⟨_,this⟩
 rintro⟨t,rfl⟩;simp
def bE:AC:=
(aK [gQ 4 false] (aK [ah 5 0,ia 6 5,ah 7 1,ia 8 7,ga 9 .geq 6 8,ah 10 9,cm 11 10 0,cm 12 10 0,dC 13 10 (.lens (.t 12)),cm 14 10 1,dC 15 10 (.lens (.t 14)),dC 16 10 (.bin .sub (.t 13) (.t 15)),dC 17 10 (.en (.t 11) (some (.t 16)) none),cm 18 10 1,dC 19 10 (.bin .eql (.t 17) (.t 18)),jk 20 10 19,ah 4 20] .ret))
def ox {aC:Nat} (hF:aM P G aC=some (21,[(none,4)],bE.bare)) (s t:Bs) (hs:s.length≤B) (ht:t.length≤B):aw P G aC [.str s,.str t] (.bool (t.isSuffixOf s)):=by
 refine aG hF (by simp) (by simp[af,AV.ax]) (by simp[AV.ax]) ?_;unfold bE;rw[←sW];simp only[↓aX,mX,seval];by_cases h:t.length≤s.length
 ·have hw:IntKind.i64.wrap ((s.length:Int) - (t.length:Int))=((s.length - t.length:Nat):Int):=by rw[wrap64 (by unfold B at hs ht;omega) (by unfold B at hs ht;omega)];omega
  rw[show decide (((s.length:Nat):Int)≥((t.length:Nat):Int))=true by simpa using h,Gg h];simp only[↓aX,mX,seval,hw,gR,Gb,FQ,Gp,show s.length - t.length≤s.length by omega,GB]
 rw[show decide (((s.length:Nat):Int)≥((t.length:Nat):Int))=false by simpa using h,Gr h];simp only[↓aX,mX,seval,GY]
def bF (aC:Nat):AC:=
(aK [bg 4 (.gG (.c (.str []))),gQ 5 false] (.seq (aK [ah 6 0,ah 7 1,bg 8 (.call aC [(.t 6),(.t 7)]),vU 9 8] (.cond (.t 9) (aK [ah 10 0,ah 4 10,gQ 5 false] .ret) .skip)) (aK [ah 11 0,ah 12 0,ia 13 12,ah 14 1,ia 15 14,ga 16 .sub 13 15,bg 17 (.en (.t 11) none (some (.t 16))),ah 4 17,gQ 5 true] .ret)))
def mb {aD aC:Nat} (hF:aM P G aD=some (18,[(none,4),(none,5)],(bF aC).bare)) (s t:Bs) (hs:s.length≤B) (ht:t.length≤B)
  (hX:aw P G aC [.str s,.str t] (.bool (t.isSuffixOf s))) :
  aw P G aD [.str s,.str t] (.dG [.str (if t.isSuffixOf s then s.take (s.length - t.length) else s),.bool (t.isSuffixOf s)]):=by
 refine aG hF (by simp) (by simp[af,AV.ax]) (by simp[AV.ax,af]) ?_;unfold bF;simp only[↓aX,mX,seval];refine ae hX ?_;cases h:t.isSuffixOf s with
 |false=>simp only[↓aX,mX,seval,F8,↓ba]
 |true=>
 have hl:t.length≤s.length:=by rw[GO] at h;exact h.length_le
 have hw:IntKind.i64.wrap ((s.length:Int) - (t.length:Int))=((s.length - t.length:Nat):Int):=by rw[wrap64 (by unfold B at hs ht;omega) (by unfold B at hs ht;omega)];omega
 simp only[↓aX,mX,seval,Ge,hw,gR,Gb,FQ,Gp,show s.length - t.length≤s.length by omega,↓ba]
 try simp
def dm (aD:Nat):AC:=
(aK [bg 4 (.gG (.c (.str []))),gQ 5 false] (aK [ah 6 0,ah 7 1,bg 8 (.call aD [(.t 6),(.t 7)]),gp 9 8 0,gp 10 8 1,ah 4 9,ah 5 10] .ret))
def oy {bl aD:Nat} (hF:aM P G bl=some (11,[(none,4),(none,5)],(dm aD).bare)) (s t:Bs)
  (hX:aw P G aD [.str s,.str t] (.dG [.str (if t.isSuffixOf s then s.take (s.length - t.length) else s),.bool (t.isSuffixOf s)])) :
  aw P G bl [.str s,.str t] (.dG [.str (if t.isSuffixOf s then s.take (s.length - t.length) else s),.bool (t.isSuffixOf s)]):=by
 refine aG hF (by simp) (by simp[af,AV.ax]) (by simp[AV.ax,af]) ?_;unfold dm;simp only[↓aX,mX,seval];refine ae hX ?_;simp only[↓aX,mX,seval,↓ba]
def bn (c:UInt8) (s:Bs):Bs×Bs×Bool:=if 0≤Lib.indexByte s c then(s.take (Lib.indexByte s c).toNat,s.drop ((Lib.indexByte s c).toNat+1),true) else(s,[],false)
def b5 (an:Nat):AC:=
(aK [bg 4 (.gG (.c (.str []))),bg 5 (.gG (.c (.str []))),gQ 6 false] (.seq (aK [ah 8 0,ah 9 1,bg 10 (.call an [(.t 8),(.t 9)]),ah 7 10] (aK [ah 11 7,ew 12 .geq 11 0] (.cond (.t 12) (.seq (.ix [ah 13 0,ah 14 7,bg 15 (.en (.t 13) none (some (.t 14))),ah 16 0,ah 17 7,ah 18 1,ia 19 18,ga 20 .add 17 19,bg 21 (.en (.t 16) (some (.t 20)) none),ah 4 15,ah 5 21,gQ 6 true] [[],[],[0,1],[],[],[],[5],[4,6],[3,7],[2,0,1,2],[8,9,0,1,2,3,4,5,6,7,8,9],[10,0,1,2,3,4,5,6,7,8,9,10]] [.no,.no,.no,.no,.no,.no,.no,.no,.no,.no,.no,.no]) .ret) .skip))) (aK [ah 22 0,ah 4 22,bg 5 (.gG (.c (.str []))),gQ 6 false] .ret)))
def oz {env:Env} {H:Hp} (t u v:Nat) (R:AV→Hp→Prop):fc [(none,t),(none,u),(none,v)] R .ret env H=R (.dG [env t,env u,env v]) H:=by simp[fc,fy,km,iY]
def yK {aN an:Nat} (hF:aM P G aN=some (23,[(none,4),(none,5),(none,6)],(b5 an).bare)) (s:Bs) (c:UInt8) (hs:s.length≤B)
  (hX:aw P G an [.str s,.str [c]] (.int .i64 (Lib.indexByte s c))) :
  aw P G aN [.str s,.str [c]] (.dG [.str (bn c s).1,.str (bn c s).2.1,.bool (bn c s).2.2]):=by
 refine aG hF (by simp) (by simp[af,AV.ax]) (by simp[AV.ax,af]) ?_;unfold b5 bn;simp only[↓aX,mX,reduceCtorEq,Nat.reduceEqDiff,Nat.reduceLT,Nat.reduceLeDiff,Nat.reduceAdd,Nat.reduceMul,Int.reduceToNat,Int.reduceLE,Int.reduceLT];refine ae hX ?_;rcases eb c s with⟨h1,_,_⟩|⟨m,h1,h2,_,_⟩
 ·rw[h1,FU (by decide)];simp only[↓aX,mX,reduceCtorEq,Nat.reduceEqDiff,Nat.reduceLT,Nat.reduceLeDiff,Nat.reduceAdd,Nat.reduceMul,Int.reduceToNat,Int.reduceLE,Int.reduceLT,show decide ((-1:Int)≥0)=false from rfl,↓oz]
 rw[h1,FG (by omega)];have hw:IntKind.i64.wrap ((m:Int)+1)=((m+1:Nat):Int):=wrap64 (by omega) (by unfold B at hs;omega);simp only[↓aX,mX,reduceCtorEq,Nat.reduceEqDiff,Nat.reduceLT,Nat.reduceLeDiff,Nat.reduceAdd,Nat.reduceMul,Int.reduceToNat,Int.reduceLE,Int.reduceLT,ge_iff_le,Gb,Gj];refine⟨rfl,?_⟩;simp only[↓aX,mX,reduceCtorEq,Nat.reduceEqDiff,Nat.reduceLT,Nat.reduceLeDiff,Nat.reduceAdd,Nat.reduceMul,Int.reduceToNat,Int.reduceLE,Int.reduceLT,FW,Gq,show((1:Nat):Int)=1 from rfl,hw,gR,yl,Gb,FQ,Gp,
  show m≤s.length by omega,show m+1≤s.length by omega,GB,↓oz]
def fg (aN:Nat):AC:=
(aK [bg 4 (.gG (.c (.str []))),bg 5 (.gG (.c (.str []))),gQ 6 false] (aK [ah 7 0,ah 8 1,bg 9 (.call aN [(.t 7),(.t 8)]),gp 10 9 0,gp 11 9 1,gp 12 9 2,ah 4 10,ah 5 11,ah 6 12] .ret))
def CK {cq aN:Nat} (hF:aM P G cq=some (13,[(none,4),(none,5),(none,6)],(fg aN).bare)) (s:Bs) (c:UInt8)
  (hX:aw P G aN [.str s,.str [c]] (.dG [.str (bn c s).1,.str (bn c s).2.1,.bool (bn c s).2.2])) :
  aw P G cq [.str s,.str [c]] (.dG [.str (bn c s).1,.str (bn c s).2.1,.bool (bn c s).2.2]):=by
 refine aG hF (by simp) (by simp[af,AV.ax]) (by simp[AV.ax,af]) ?_;unfold fg;simp only[↓aX,mX,seval];refine ae hX ?_;simp only[↓aX,mX,seval,↓oz]
end

def yL {sz b d:Nat} {z:List AV} {m:Nat} {k k':IntKind} {H:Hp} (h1:m*b≤140737488355328) (h2:H (.loc d)= .unused) :
  mK sz b d z (.int k (m:Int)) (.int k' (m:Int)) H=some (.sl (.loc d) sz 0 m,bb H (.loc d) (.live ⟨sz,List.replicate m z⟩)):=by
 unfold mK;simp only;rw[FG ⟨rfl,by omega,by simpa using h1,h2⟩,FQ]
def kT (ws:List Bs):List (List AV):=ws.map fun w=>[AV.str w]
def ny (ws:List Bs):kT ws=bK (ws.map IV.str):=by simp[kT,bK,IV.cells,IV.dQ]
def sX {ws:List Bs} {cs:List AV} (h:cs∈kT ws):af cs=[]:=by rw[ny] at h;exact dX h
def nz (ws:List Bs) (i:Nat) (w:Bs):(kT ws).set i [.str w]=kT (ws.set i w):=by simp[kT,List.map_set]
def nA (ws:List Bs) (i:Nat):(kT ws)[i]?=ws[i]?.map fun w=>[AV.str w]:=by simp[kT]
def A2 (ws:List Bs):Flat (ws.map IV.str):=by
 intro y hy z hz cs;obtain⟨w,_,rfl⟩:=F2.1 hy;simp only[IV.cells,FN] at hz;subst hz;simp
def dr (ws:List Bs) (n i:Nat):List Bs:=ws.take i++List.replicate (n - i) []
def nB {ws:List Bs} {n i:Nat} (h:i≤ws.length) (h2:i≤n):(dr ws n i).length=n:=by simp[dr];omega
def jB {ws:List Bs} {n i:Nat} {w:Bs} (h:ws[i]?=some w) (h2:i<n):(dr ws n i).set i w=dr ws n (i+1):=by
 have hl:=(Fw.1 h).1;have hlen:(ws.take i).length=i:=by rw[F0];omega
 unfold dr;rw[HM _ _ (by omega),hlen,GW,Gy,h,show n - i=(n - (i+1))+1 by omega,List.replicate_succ,List.set_cons_zero];simp
def nC {ws:List Bs} {n:Nat} (h:ws.length=n):dr ws n n=ws:=by
 unfold dr;rw[GW,List.replicate_zero,GF,F_ (by omega)]
def dy (dM bR a7:Nat):AC:=
(aK [py 8] (.seq (aK [ah 12 3,ew 13 .eql 12 0] (.cond (.t 13) (aK [py 8] .ret) .skip)) (.seq (aK [ah 14 1,bg 15 (.bin .eql (.t 14) (.c (.str [])))] (.cond (.t 15) (aK [ah 16 0,ah 17 3,bg 18 (.call dM [(.t 16),(.t 17)]),ah 8 18] .ret) .skip)) (.seq (aK [ah 19 3,ew 20 .lss 19 0] (.cond (.t 20) (.fU [ah 21 0,ah 22 1,bg 23 (.call bR [(.t 21),(.t 22)]),ew 24 .add 23 1,ah 3 24]) .skip)) (aK [ah 25 3,ah 26 0,ia 27 26,ew 28 .add 27 1,bg 29 (.min (.t 25) (.t 28)),ah 3 29] (aK [ah 30 3,bg 31 (.nR (.t 30) (.t 30) 1 16 [(.str [])]),ah 9 31] (aK [ah 32 3,ew 33 .sub 32 1,ah 3 33] (aK [iK 10 0] (.seq (.block 0 (.loop (.seq (aK [ah 34 10,ah 35 3,ga 36 .lss 34 35] (.cond (.t 36) .skip (.exit 0))) (.block 1 (aK [ah 37 0,ah 38 1,bg 39 (.call a7 [(.t 37),(.t 38)]),ah 11 39] (.seq (aK [ah 40 11,ew 41 .lss 40 0] (.cond (.t 41) (.exit 0) .skip)) (aK [ah 42 9,ah 43 10,ah 44 0,ah 45 11,ah 46 2,ga 47 .add 45 46,bg 48 (.en (.t 44) none (some (.t 47))),tz 49 42 43 1,mq (.store 1 (.t 49) (.t 48))] (aK [ah 50 0,ah 51 11,ah 52 1,ia 53 52,ga 54 .add 51 53,bg 55 (.en (.t 50) (some (.t 54)) none),ah 0 55] (.fU [ah 56 10,ew 57 .add 56 1,ah 10 57]))))))))) (aK [ah 58 9,ah 59 10,ah 60 0,tz 61 58 59 1,mq (.store 1 (.t 61) (.t 60))] (aK [ah 62 9,ah 63 10,ew 64 .add 63 1,bg 65 (.td (.t 62) none (some (.t 64)) none 1),ah 8 65] (.gh (.zp (.loc 31) 8) .ret))))))))))))
structure CL (c:UInt8) (s:Bs) where
 i:Nat
 r:Bs
 hc:r.count c+i=s.count c
 hs:aO c s=(aO c s).take i++aO c r
 hl:r.length≤s.length
def qu {P:Program} {G:Nat→Option (List IV)} {bq dM bR a7:Nat} (hF:aM P G bq=some (66,[(none,8)],(dy dM bR a7).bare)) (s:Bs) (c:UInt8) (hs:s.length≤B)
  (hC:aw P G bR [.str s,.str [c]] (.int .i64 ((s.count c:Nat):Int))) (hX:∀r:Bs,aw P G a7 [.str r,.str [c]] (.int .i64 (Lib.indexByte r c))) :
  aw P G bq [.str s,.str [c],.int .i64 0,.int .i64 (-1)] (.list ((aO c s).map IV.str)):=by
 refine aG hF (by simp) (by simp[af,AV.ax]) (by simp[AV.ax]) ?_;have nO:s.count c≤s.length:=HR;have wD:B=1073741824:=rfl;have zx:=jd c _ s rfl;have n5:IntKind.i64.wrap (((s.count c:Nat):Int)+1)=((s.count c+1:Nat):Int):=wrap64 (by omega) (by omega);have EK:IntKind.i64.wrap (((s.length:Nat):Int)+1)=((s.length+1:Nat):Int):=wrap64 (by omega) (by omega);have EL:IntKind.i64.wrap (((s.count c+1:Nat):Int) - 1)=((s.count c:Nat):Int):=by rw[wrap64 (by omega) (by omega)];omega
 have CM:¬(((s.length+1:Nat):Int)<((s.count c+1:Nat):Int)):=by omega
 unfold dy;simp only[↓aX,mX,seval,show((-1:Int)==0)=false from rfl,show(([c]:Bs)==[])=false from rfl,Gj];refine ae hC ?_;simp only[↓aX,mX,seval,n5,EK,CM];rw[yL (by omega) (by simp[Hp.none])];simp only[↓aX,mX,seval,EL];refine gA (σ:=CL c s) [.loc 31] (fun q=>[(0,.str q.r),(1,.str [c]),(2,.int .i64 0),(3,.int .i64 ((s.count c:Nat):Int)),(9,.sl (.loc 31) 1 0 (s.count c+1)),(10,.int .i64 q.i)])
  (fun q=>[(.loc 31,⟨1,kT (dr (aO c s) (s.count c+1) q.i)⟩)]) (fun q=>s.count c - q.i) ⟨0,s,rfl,by simp,FJ _⟩ (fun _=>rfl) (by decide) (by simp[af,AV.ax]) (by
   intro q r hr cs bt l hl;simp only[FN] at hr;subst hr;rw[sX bt] at hl;simp at hl) ?_ ?_
 ·refine jz (by simp only[jX,iC]) (by repeat' constructor) ⟨?_,trivial⟩;simp[dr,kT,al]
 rintro⟨i,r,hc,tU,hl⟩;have hlen:(dr (aO c s) (s.count c+1) i).length=s.count c+1:=nB (by omega) (by omega);simp only[↓aX,mX,seval,dJ,cY];by_cases cD:i<s.count c
 ·rw[show decide (((i:Nat):Int)<((s.count c:Nat):Int))=true by simpa using cD];simp only[↓aX,mX,seval];refine ae (hX r) ?_;rcases eb c r with⟨_,h2,_⟩|⟨m,h1,h2,h3,h4⟩
  ·omega
  rw[h1];have fI:(aO c s)[i]?=some (r.take m):=by
   rw[tU,FM (by rw[F0];omega),h4,F0,Hn (by omega),GW];rfl
  obtain⟨w0,rr⟩:∃w0,(dr (aO c s) (s.count c+1) i)[i]?=some w0:=⟨_,FF (by omega)⟩;have kb:=jB (n:=s.count c+1) fI (by omega);have EM:IntKind.i64.wrap (((m:Nat):Int)+0)=((m:Nat):Int):=by rw[wrap64 (by omega) (by omega)];omega
  have EN:IntKind.i64.wrap (((m:Nat):Int)+1)=((m+1:Nat):Int):=wrap64 (by omega) (by omega);have EO:IntKind.i64.wrap (((i:Nat):Int)+1)=((i+1:Nat):Int):=wrap64 (by omega) (by omega);simp only[↓aX,mX,seval,show ¬(((m:Nat):Int)<0) by omega,Gi,EM,gR,yl,Gb,FQ,Gp,show m≤r.length by omega,GK,nz,nA,hlen,rr,F4,Fy,GI,List.drop_nil,kb,show i<s.count c+1 by omega,F1,
   FW,Gq,show((1:Nat):Int)=1 from rfl,EN,show m+1≤r.length by omega,GB,EO]
  exact⟨⟨i+1,r.drop (m+1),by omega,by
    have h5:(aO c s).take (i+1)=(aO c s).take i++[r.take m]:=(by rw[Gy,fI];rfl);rw[h5,Gn];rw[h4] at tU;exact tU,by rw[Gm];omega⟩,by simp only;omega,jz (by simp only[jX,iC]) (by repeat' constructor) ⟨by simp[al],trivial⟩⟩
 have hi:i=s.count c:=by omega
 subst hi;have hz:r.count c=0:=by omega
 have hr:aO c r=[r]:=by
  rcases eb c r with⟨_,_,h3⟩|⟨m,_,_,h3,_⟩
  ·exact h3
  omega
 have fI:(aO c s)[s.count c]?=some r:=by
  rw[tU,hr,FM (by rw[F0];omega),F0,Hn (by omega),GW];rfl
 obtain⟨w0,rr⟩:∃w0,(dr (aO c s) (s.count c+1) (s.count c))[s.count c]?=some w0:=⟨_,FF (by omega)⟩;have kb:=jB (n:=s.count c+1) fI (by omega);rw[nC zx] at kb;rw[show decide (((s.count c:Nat):Int)<((s.count c:Nat):Int))=false by simp];simp only[↓aX,mX,seval,gR,yl,Gb,FQ,Gp,nA,rr,F4,Fy,FW,Gq,GI,GK,List.drop_nil,F1,nz,kb,n5,
  show s.count c<s.count c+1 by omega,FJ]
 simp only[↓aX,mX,seval,tJ,jL,gR,yl,Gb,FQ,Gp,FJ,HL,Fy,F4,Hu,Nat.sub_zero,G5,F1];refine⟨1,(aO c s).map IV.str,0,s.count c+1,rfl,?_,by simp[zx],A2 _,?_⟩
 ·rw[←ny];try simp[al]
 simp only[↓aX,mX,seval,GK,F_ (show((aO c s).map IV.str).length≤s.count c+1 by rw[FT];omega)]
def er (bq:Nat):AC:=
(aK [py 4] (aK [ah 5 0,ah 6 1,bg 7 (.call bq [(.t 5),(.t 6),(iJ 0),(.c (.int .i64 (-1)))]),ah 4 7] .ret))
def yM {P:Program} {G:Nat→Option (List IV)} {bS bq:Nat} (hF:aM P G bS=some (8,[(none,4)],(er bq).bare)) (s:Bs) (c:UInt8)
  (hX:aw P G bq [.str s,.str [c],.int .i64 0,.int .i64 (-1)] (.list ((aO c s).map IV.str))):aw P G bS [.str s,.str [c]] (.list ((aO c s).map IV.str)):=by
 refine aG hF (by simp) (by simp[af,AV.ax]) (by simp[AV.ax]) ?_;unfold er;simp only[↓aX,mX,seval];refine ae hX ?_;simp only[↓aX,mX,seval]

def je (t s:Bs):Bs:=if t.isSuffixOf s then s.take (s.length - t.length) else s
def jf (n:Bs):Option Int:=match Lib.atoiAll n with
 | .ok k=>if Lib.itoa k=n∧1≤k then some k else none
 |_=>none
def fY (w:Bs):Option Int:=if(bn 91 w).2.2 then(if [93].isSuffixOf (bn 91 w).2.1 then jf (je [93] (bn 91 w).2.1) else none) else some 0
def dU (nm:Bs):Option Bs:=if nm=[] then none else if nm=[35] then some [] else some nm
def cj (w:Bs):Option Step:=(fY w).bind fun k=>(dU (bn 91 w).1).map fun nm=>⟨nm,k⟩
def bH:List Bs→Option (List Step)
 |[]=>some []
 |w::r=>(cj w).bind fun x=>(bH r).map fun l=>x::l
def gn (s:Bs):Option (List Step):=
 if [47].isPrefixOf s∧s.length≤2500 then(bH (aO 47 (s.drop 1))).bind fun l=>if aV l then some l else none else none
def eu (s:Bs):AV:=match gn s with
 |some l=> .dG [.list (l.map Step.iv),.int .i64 0]
 |none=> .dG [.nil0,.int .i64 1]
theorem jC:∀(ws:List Bs) (w:Bs),bH (ws++[w])=(bH ws).bind fun l=>(cj w).map fun x=>l++[x]
 |[],w=>by cases h:cj w<;>simp[bH,h]
 |v::r,w=>by
  simp only[Gc,bH,jC r w];cases cj v<;>simp;cases bH r<;>simp;cases cj w<;>simp
def nD {ws:List Bs} {i:Nat} {w:Bs} {l:List Step} (h:ws[i]?=some w) (hl:bH (ws.take i)=some l):bH (ws.take (i+1))=(cj w).map fun x=>l++[x]:=by
 rw[Gy,h,Hv,jC,hl];rfl
theorem jD:∀{ws:List Bs} {w:Bs},w∈ws→cj w=none→bH ws=none
 |v::r,w,hm,h=>by
  rcases FP.1 hm with rfl|hm
  ·simp[bH,h]
  simp only[bH,jD hm h];cases cj v<;>rfl
theorem kz:∀{ws:List Bs} {l:List Step},bH ws=some l→l.length=ws.length
 |[],l,h=>by simp[bH] at h;subst h;rfl
 |v::r,l,h=>by
  simp only[bH,Fv,Fu] at h;obtain⟨x,_,l',h2,rfl⟩:=h;simp[kz h2]
def qv (c:UInt8) (s:Bs):(aO c s).length=s.count c+1:=jd c _ s rfl
def kA (c:UInt8) (w:Bs):(bn c w).1.length≤w.length∧(bn c w).2.1.length≤w.length:=by
 unfold bn;split
 ·simp only[F0,Gm];omega
 simp
def sY (t s:Bs):(je t s).length≤s.length:=by
 unfold je;split
 ·simp only[F0];omega
 exact FJ _
def oA {w:Bs} {x:Step} (h:cj w=some x):x.name.length≤w.length:=by
 simp only[cj,Fv,Fu] at h;obtain⟨k,_,nm,hn,rfl⟩:=h;have:=(kA 91 w).1;unfold dU at hn;split at hn
 ·cases hn
 split at hn
 ·cases hn;exact HL _
 cases hn;exact this
theorem jE:∀{ws:List Bs} {l:List Step},bH ws=some l→∀x∈l,∃w∈ws,x.name.length≤w.length
 |[],l,h=>by simp[bH] at h;subst h;simp
 |v::r,l,h=>by
  simp only[bH,Fv,Fu] at h;obtain⟨x,hx,l',h2,rfl⟩:=h;intro y hy;rcases FP.1 hy with rfl|hy
  ·exact⟨v,by simp,oA hx⟩
  obtain⟨w,h3,h4⟩:=jE h2 y hy;exact⟨w,by simp[h3],h4⟩
theorem jg (c:UInt8):∀(s:Bs),∀w∈aO c s,w.length≤s.length
 |[],w,h=>by simp[aO] at h;subst h;simp
 |b::r,w,h=>by
  have ih:=jg c r;simp only[aO] at h;split at h
  ·rcases FP.1 h with rfl|h
   ·simp
   have:=ih w h;simp;omega
  split at h
  ·rename_i v vs e;rw[e] at ih;rcases FP.1 h with rfl|h
   ·have:=ih v (by simp);simp;omega
   have:=ih w (by simp[h]);simp;omega
  simp at h;subst h;simp
structure yN (ws:List Bs) where
 i:Nat
 l:List Step
 hi:i≤ws.length
 h:bH (ws.take i)=some l
def jF (ws:List Bs) (q:yN ws):List (Nat×AV):=
 [(6,.sl (.loc 6) 2 0 q.i),(30,.list (ws.map IV.str)),(31,.int .i64 ws.length),(32,.int .i64 q.i)]
def jG (ws:List Bs) (q:yN ws):List (Lb×Row):=[(.loc 6,⟨2,bK (q.l.map Step.iv)⟩)]
section
variable {P:Program} {G:Nat→Option (List IV)}
def wE (P:Program) (G:Nat→Option (List IV)) (f:Nat):Prop:=∀n:Bs,n.length≤B→∃k e,aw P G f [.str n] (.dG [.int .i64 k,e])∧((e= .ee∧Lib.atoiAll n= .ok k)∨((∃t,e= .ifc t .any)∧∀v,Lib.atoiAll n≠ .ok v))
def sZ (P:Program) (G:Nat→Option (List IV)) (f:Nat):Prop:=∀k:Int,-9223372036854775808≤k→k≤9223372036854775807→aw P G f [.int .i64 k] (.str (Lib.itoa k))
def fK (bj bS cq bl dN dO c7:Nat):AC:=
(aK [py 2,iK 3 0] (aK [ah 18 0,bg 19 (.call bj [(.t 18),(.c (.str [47]))]),ah 17 19,gp 20 17 0,gp 21 17 1,ah 4 20,ah 5 21] (.seq (aK [ah 22 5,vU 23 22,ah 24 23,e8 25 24 0,jJ 26 24 (.lens (.t 25)),jJ 27 24 (.bin .gtr (.t 26) (iJ 2500)),nS 28 24 27] (.cond (.t 28) (aK [py 2,iK 3 1] .ret) .skip)) (aK [py 6] (.gh (.own 6 2) (.seq (aK [ah 29 4,bg 30 (.call bS [(.t 29),(.c (.str [47]))]),tC 31 30,iK 32 0] (.block 0 (.loop (aK [ga 33 .lss 32 31] (.seq (.cond (.t 33) .skip (.exit 0)) (.seq (.block 1 (aK [tz 34 30 32 1,oT 35 34,ah 8 35] (aK [bg 9 (.new [(.str []),(.int .i64 0)])] (aK [ah 37 8,bg 38 (.call cq [(.t 37),(.c (.str [91]))]),ah 36 38,gp 39 36 0,gp 40 36 1,gp 41 36 2,ah 10 39,ah 11 40,ah 12 41] (.seq (aK [ah 42 12] (.cond (.t 42) (aK [ah 44 11,bg 45 (.call bl [(.t 44),(.c (.str [93]))]),ah 43 45,gp 46 43 0,gp 47 43 1,ah 13 46,ah 14 47] (aK [ah 49 13,bg 50 (.call dN [(.t 49)]),ah 48 50,gp 51 48 0,gp 52 48 1,ah 15 51,ah 16 52] (.seq (aK [ah 53 14,vU 54 53,ah 55 54,e8 56 55 16,jJ 57 55 (.te true (.t 56) (.c .ee)),nS 58 55 57,ah 59 58,e8 60 59 15,jJ 61 59 (.call dO [(.t 60)]),e8 62 59 13,jJ 63 59 (.bin .neq (.t 61) (.t 62)),nS 64 59 63,ah 65 64,e8 66 65 15,jJ 67 65 (.bin .lss (.t 66) (iJ 1)),nS 68 65 67] (.cond (.t 68) (aK [py 2,iK 3 1] .ret) .skip)) (.fU [ah 69 15,mo 70 9 1,mq (.store 1 (.t 70) (.t 69))])))) .skip)) (aK [ah 71 10,mo 72 9 0,mq (.store 1 (.t 72) (.t 71))] (.seq (aK [ah 73 10] (.block 2 (aK [bg 75 (.bin .eql (.t 73) (.c (.str []))),ah 74 75] (.cond (.t 74) (aK [py 2,iK 3 1] .ret) (aK [bg 77 (.bin .eql (.t 73) (.c (.str [35]))),ah 76 77] (.cond (.t 76) (.fU [mo 78 9 0,mq (.store 1 (.t 78) (.c (.str [])))]) .skip)))))) (.fU [ah 79 6,qP 80 2 9,bg 81 (.lits 1 2 [(.str []),(.int .i64 0)] [(0,(.t 80))]),bg 82 (.app (.t 79) (.t 81) 2 24),ah 6 82])))))))) (.fU [ew 83 .add 32 1,ah 32 83]))))))) (.seq (.gh (.zp (.loc 6) 6) (aK [ah 84 6,bg 85 (.call c7 [(.t 84)]),vU 86 85] (.cond (.t 86) (aK [py 2,iK 3 1] .ret) .skip))) (aK [ah 87 6,ah 2 87,iK 3 0] .ret))))))))
def oB {bp bj bS cq bl dN dO c7:Nat} (hF:aM P G bp=some (88,[(none,2),(none,3)],(fK bj bS cq bl dN dO c7).bare)) (s:Bs) (hs:s.length≤2^24)
  (EP:aw P G bj [.str s,.str [47]] (.dG [.str (if [47].isPrefixOf s then s.drop 1 else s),.bool ([47].isPrefixOf s)]))
  (ER:aw P G bS [.str (s.drop 1),.str [47]] (.list ((aO 47 (s.drop 1)).map IV.str)))
  (Dw:∀w∈aO 47 (s.drop 1),aw P G cq [.str w,.str [91]] (.dG [.str (bn 91 w).1,.str (bn 91 w).2.1,.bool (bn 91 w).2.2]))
  (Dx:∀w∈aO 47 (s.drop 1),aw P G bl [.str (bn 91 w).2.1,.str [93]] (.dG [.str (je [93] (bn 91 w).2.1),.bool ([93].isSuffixOf (bn 91 w).2.1)]))
  (hA:∀w∈aO 47 (s.drop 1),∃k e,aw P G dN [.str (je [93] (bn 91 w).2.1)] (.dG [.int .i64 k,e])∧((e= .ee∧Lib.atoiAll (je [93] (bn 91 w).2.1)= .ok k)∨((∃t,e= .ifc t .any)∧∀v,Lib.atoiAll (je [93] (bn 91 w).2.1)≠ .ok v)))
  (hI:sZ P G dO) (hG:∀l:List Step,l.length≤B→(∀x∈l,x.name.length≤s.length)→aw P G c7 [.list (l.map Step.iv)] (.bool (aV l))) :
  aw P G bp [.str s] (eu s):=by
 refine aG hF (by simp) (by simp[af,AV.ax]) (by unfold eu;split<;>simp[AV.ax,af]) ?_;have wD:B=1073741824:=rfl;unfold fK;simp only[↓aX,mX,seval];refine ae EP ?_;simp only[↓aX,mX,seval];cases hp:([47]:Bs).isPrefixOf s with
 |false=>simp only[↓aX,mX,seval,F8,↓ba,eu,gn,hp,Gt,false_and,Hg]
 |true=>
 simp only[↓aX,mX,seval,Ge];rcases Nat.lt_or_ge 2500 s.length with hlen|hlen
 ·simp only[↓aX,mX,seval,show decide ((s.length:Int)>2500)=true by simp;omega,↓ba,eu,gn,show ¬s.length≤2500 by omega,and_false,Hg]
 simp only[↓aX,mX,seval,show decide ((s.length:Int)>2500)=false by simp;omega];refine ae ER ?_;obtain⟨ws,BF⟩:∃ws,aO 47 (s.drop 1)=ws:=⟨_,rfl⟩;have Fm:ws.length≤2501:=by
  rw[←BF,qv];have:=HR (a:=(47:UInt8)) (l:=s.drop 1);simp only[Gm] at this;omega
 have zS:gn s=(bH ws).bind fun l=>if aV l then some l else none:=by simp only[gn,hp,show s.length≤2500 from hlen,BF,Gp,HS]
 rw[BF] at Dw Dx hA ⊢;simp only[↓aX,mX,seval,FT];refine fB (σ:=yN ws) (fun _=>[.loc 6]) (fun _ _=>false) (jF ws) (jG ws) (fun q=>ws.length - q.i) ⟨0,[],by omega,rfl⟩ (fun _=>rfl) (fun q=>by simp[af,AV.ax,jF]) ?_ ⟨[],?_⟩ ?_
 ·intro q w hw cs bt z hz;simp only[jG,FN] at hw;subst hw;rw[dX bt] at hz;simp at hz
 ·refine⟨?_,?_,?_,by simp[cP],fun l _=>⟨id,fun _=>rfl⟩⟩
  ·intro l hf hu;exfalso;apply hu;cases l<;>simp_all[Lb.fresh,al,Hp.none]
  ·simp[iZ,cP,bw,put,jF]
  simp[jR,cP,al,cC,bo,bw,bK,jG]
 rintro⟨i,l,hi,h⟩;rw[nk];have tj:l.length=i:=by have:=kz h;simp only[F0] at this;omega
 have hr:∀(ρ:Lb→Lb) (xs:List IV),cC ρ ⟨2,bK xs⟩=⟨2,bK xs⟩:=fun ρ xs=>bI _ _ _;simp only[↓aX,mX,seval,jF,jG,dJ,cY];by_cases cD:i<ws.length
 ·obtain⟨w,hw⟩:∃w,ws[i]?=some w:=⟨_,FF cD⟩;have BG:=Fx hw;have n5:IntKind.i64.wrap ((i:Int)+1)=((i+1:Nat):Int):=wrap64 (by omega) (by omega);have ES:(ws.map IV.str)[i]?=some (.str w):=by simp[hw]
  have jM:jK 1 (ws.map IV.str):=by intro y hy;simp only[F2] at hy;obtain⟨w',_,rfl⟩:=hy;rfl
  have jr:cj w=none→eu s= .dG [.nil0,.int .i64 1]:=fun e=>by simp only[eu,zS,jD BG e];rfl
  have next:∀x:Step,cj w=some x→bH (ws.take (i+1))=some (l++[x]):=fun x e=>by rw[nD hw h,e];rfl
  simp only[↓aX,mX,seval,show decide ((i:Int)<(ws.length:Int))=true by simpa using cD,ES,jM,IV.cells,Gb,FQ,tj];refine ae (Dw w BG) ?_;simp only[↓aX,mX,seval];cases mz:(bn 91 w).2.2 with
  |false=>
   have db:fY w=some 0:=(by simp only[fY,mz];rfl);simp only[↓aX,mX,seval];cases kX:((bn 91 w).1==[]) with
   |true=>
    have kB:dU (bn 91 w).1=none:=(by simp only[dU,show(bn 91 w).1=[] by simpa using kX,HS]);simp only[↓aX,mX,seval,↓ba,jr (by simp only[cj,kB];cases fY w<;>rfl)]
   |false=>
   have tL:(bn 91 w).1≠[]:=(by intro e;simp[e] at kX);cases mv:((bn 91 w).1==[35]) with
   |true=>
    have kB:dU (bn 91 w).1=some []:=(by simp only[dU,show(bn 91 w).1=[35] by simpa using mv];rfl);simp only[↓aX,mX,seval,mv];rw[iE 2 24 82 6 (l.map Step.iv) (.agg [.str [],.int .i64 0]) (by simp[al]) (by simp[tj]) rfl (by simp[IV.cells]) (by omega) (by omega) (by omega) (by simp[al,Hp.none])];simp only[↓aX,mX,seval,n5];refine⟨⟨i+1,l++[⟨[],0⟩],cD,next _ (by simp only[cj,db,kB];rfl)⟩,by simp only;omega,[(.loc 6,.loc 82)],?_⟩;refine⟨?_,?_,?_,by simp[cP],?_⟩
    ·intro l hf hu;exfalso;apply hu;cases l<;>simp_all[Lb.fresh,al,Hp.none]
    ·simp[iZ,cP,bw,put,jF]
    ·simp only[jR,hr,jG];simp[cP,al,cC,bo,bw,Step.iv,Step.cs]
    intro l hl;simp only[FN] at hl;subst hl;exact⟨fun _=>rfl,fun h=>by simp[Lb.fresh] at h⟩
   |false=>
   have CN:(bn 91 w).1≠[35]:=(by intro e;simp[e] at mv);have kB:dU (bn 91 w).1=some (bn 91 w).1:=(by simp only[dU,tL,CN,Hg]);simp only[↓aX,mX,seval,mv];rw[iE 2 24 82 6 (l.map Step.iv) (.agg [.str (bn 91 w).1,.int .i64 0]) (by simp[al]) (by simp[tj]) rfl (by simp[IV.cells]) (by omega) (by omega) (by omega) (by simp[al,Hp.none])];simp only[↓aX,mX,seval,n5];refine⟨⟨i+1,l++[⟨(bn 91 w).1,0⟩],cD,next _ (by simp only[cj,db,kB];rfl)⟩,by simp only;omega,[(.loc 6,.loc 82)],?_⟩;refine⟨?_,?_,?_,by simp[cP],?_⟩
   ·intro l hf hu;exfalso;apply hu;cases l<;>simp_all[Lb.fresh,al,Hp.none]
   ·simp[iZ,cP,bw,put,jF]
   ·simp only[jR,hr,jG];simp[cP,al,cC,bo,bw,Step.iv,Step.cs]
   intro l hl;simp only[FN] at hl;subst hl;exact⟨fun _=>rfl,fun h=>by simp[Lb.fresh] at h⟩
  |true=>
  simp only[↓aX,mX,seval];refine ae (Dx w BG) ?_;simp only[↓aX,mX,seval];obtain⟨k,e,Dv,bt⟩:=hA w BG;refine ae Dv ?_;have jM:e.ax=[]:=by rcases bt with⟨rfl,_⟩|⟨⟨t,rfl⟩,_⟩<;>rfl
  cases vK:([93]:Bs).isSuffixOf (bn 91 w).2.1 with
  |false=>
   have db:fY w=none:=(by simp only[fY,mz,vK];rfl);simp only[↓aX,mX,seval,F8,↓ba,jr (by simp only[cj,db];rfl)]
  |true=>
  have tn:fY w=jf (je [93] (bn 91 w).2.1):=by simp only[fY,mz,vK,Gv]
  rcases bt with⟨rfl,jw⟩|⟨⟨t,rfl⟩,CO⟩
  ·obtain⟨ra,ET⟩:=Lib.atoiAll_bounds jw;simp only[↓aX,mX,seval,Ge];refine ae (hI k ra ET) ?_;cases hit:(Lib.itoa k==je [93] (bn 91 w).2.1) with
   |false=>
    have db:fY w=none:=(by rw[tn];simp only[jf,jw,show ¬Lib.itoa k=je [93] (bn 91 w).2.1 by intro e;simp[e] at hit,false_and,Hg]);simp only[↓aX,mX,seval,hit,F8,↓ba,jr (by simp only[cj,db];rfl)]
   |true=>
   have A3:Lib.itoa k=je [93] (bn 91 w).2.1:=(by simpa using hit);by_cases hk:k<1
   ·have db:fY w=none:=(by rw[tn];simp only[jf,jw,A3,show ¬1≤k by omega,and_false,Hg]);simp only[↓aX,mX,seval,hit,Ge,hk,Gj,↓ba,jr (by simp only[cj,db];rfl)]
   have db:fY w=some k:=(by rw[tn];simp only[jf,jw,A3,show 1≤k by omega,and_self,HS]);simp only[↓aX,mX,seval,hit,Ge,hk,Gi];cases kX:((bn 91 w).1==[]) with
   |true=>
    have kB:dU (bn 91 w).1=none:=(by simp only[dU,show(bn 91 w).1=[] by simpa using kX,HS]);simp only[↓aX,mX,seval,↓ba,jr (by simp only[cj,kB];cases fY w<;>rfl)]
   |false=>
   have tL:(bn 91 w).1≠[]:=(by intro e;simp[e] at kX);cases mv:((bn 91 w).1==[35]) with
   |true=>
    have kB:dU (bn 91 w).1=some []:=(by simp only[dU,show(bn 91 w).1=[35] by simpa using mv];rfl);simp only[↓aX,mX,seval,mv];rw[iE 2 24 82 6 (l.map Step.iv) (.agg [.str [],.int .i64 k]) (by simp[al]) (by simp[tj]) rfl (by simp[IV.cells]) (by omega) (by omega) (by omega) (by simp[al,Hp.none])];simp only[↓aX,mX,seval,n5];refine⟨⟨i+1,l++[⟨[],k⟩],cD,next _ (by simp only[cj,db,kB];rfl)⟩,by simp only;omega,[(.loc 6,.loc 82)],?_⟩;refine⟨?_,?_,?_,by simp[cP],?_⟩
    ·intro l hf hu;exfalso;apply hu;cases l<;>simp_all[Lb.fresh,al,Hp.none]
    ·simp[iZ,cP,bw,put,jF]
    ·simp only[jR,hr,jG];simp[cP,al,cC,bo,bw,Step.iv,Step.cs]
    intro l hl;simp only[FN] at hl;subst hl;exact⟨fun _=>rfl,fun h=>by simp[Lb.fresh] at h⟩
   |false=>
   have CN:(bn 91 w).1≠[35]:=(by intro e;simp[e] at mv);have kB:dU (bn 91 w).1=some (bn 91 w).1:=(by simp only[dU,tL,CN,Hg]);simp only[↓aX,mX,seval,mv];rw[iE 2 24 82 6 (l.map Step.iv) (.agg [.str (bn 91 w).1,.int .i64 k]) (by simp[al]) (by simp[tj]) rfl (by simp[IV.cells]) (by omega) (by omega) (by omega) (by simp[al,Hp.none])];simp only[↓aX,mX,seval,n5];refine⟨⟨i+1,l++[⟨(bn 91 w).1,k⟩],cD,next _ (by simp only[cj,db,kB];rfl)⟩,by simp only;omega,[(.loc 6,.loc 82)],?_⟩;refine⟨?_,?_,?_,by simp[cP],?_⟩
   ·intro l hf hu;exfalso;apply hu;cases l<;>simp_all[Lb.fresh,al,Hp.none]
   ·simp[iZ,cP,bw,put,jF]
   ·simp only[jR,hr,jG];simp[cP,al,cC,bo,bw,Step.iv,Step.cs]
   intro l hl;simp only[FN] at hl;subst hl;exact⟨fun _=>rfl,fun h=>by simp[Lb.fresh] at h⟩
  have db:fY w=none:=by
   rw[tn];unfold jf;split
   ·rename_i v hv;exact absurd hv (CO v)
   rfl
  simp only[↓aX,mX,seval,Ge,↓ba,jr (by simp only[cj,db];rfl)]
 have EU:i=ws.length:=by omega
 subst EU;have cL:bH ws=some l:=by rw[GB] at h;exact h
 simp only[↓aX,mX,seval,show decide ((ws.length:Int)<(ws.length:Int))=false by simp];have vF:List.take ws.length (l.map Step.iv)=l.map Step.iv:=F_ (by simp[tj]);refine⟨2,l.map Step.iv,0,ws.length,rfl,rfl,by simp[tj],sQ _,?_⟩;simp only[↓aX,mX,seval,GK,vF];refine ae (hG l (by omega) (fun x hx=>by
  obtain⟨w,hw,hq⟩:=jE cL x hx;have h2:=jg 47 (s.drop 1) w (by rw[BF];exact hw);rw[Gm] at h2;omega)) ?_
 cases hg:aV l with
 |false=>simp only[↓aX,mX,seval,F8,↓ba,eu,zS,cL,Fy,hg,Gt,Hg]
 |true=>simp only[↓aX,mX,seval,Ge,↓ba,vF,eu,zS,cL,Fy,hg,HS]
end

def kC:List Step:=[⟨[97],0⟩,⟨[42],2⟩,⟨[],0⟩]
section
variable {P:Program} {G:Nat→Option (List IV)}
end

section
variable {P:Program}
structure EV (P:Program) (T:wA P) where
 tI:TypeId
 tP:TypeId
 EW:TypeId
 fP:Array Field
 uI:P.underlying tI=some (.int .i64)
 uP:P.underlying tP=some (.struct fP)
 Fo:P.underlying EW=some (.slice tP)
 sP:fP.toList.map (·.type)=[T.tS,tI]
def Sh.step {T:wA P} (D:EV P T) {y:IV} (h:Sh P D.tP y):∃x:Step,y=x.iv∧1+x.name.length≤y.wt:=by
 obtain⟨ys,rfl,hl,o1⟩:=h.sE D.uP;have hs:D.fP.size=2:=by have:=FK List.length D.sP;simpa using this
 match ys,hl.trans hs,o1 with
 |[y0,y1],_,o1=>
  obtain⟨f0,e0,t0⟩:=dL D.sP 0 T.tS rfl;obtain⟨f1,e1,t1⟩:=dL D.sP 1 D.tI rfl;have h0:=o1 0 f0 y0 e0 rfl;have h1:=o1 1 f1 y1 e1 rfl;rw[t0] at h0;rw[t1] at h1;obtain⟨s,rfl⟩:=h0.np T.uS;obtain⟨p,rfl,_⟩:=h1.sC D.uI;exact⟨⟨s,p⟩,rfl,by simp only[IV.wt,kQ];omega⟩
end
end Go.Am
