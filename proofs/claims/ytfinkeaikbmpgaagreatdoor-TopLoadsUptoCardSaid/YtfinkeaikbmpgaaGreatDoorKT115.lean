import Derived.Test.YtfinkeaikbmpgaaGreatDoorT114
import Derived.Test.YtfinkeaikbmpgaaGreatDoorKC7
set_option linter.unusedSimpArgs false
set_option linter.unusedVariables false
set_option linter.unnecessarySimpa false
set_option linter.defProp false
/- What acts do, in plain words: what is refused, loaded, shown; how many. -/
namespace Go.Am
open Go Go.RowKit
def Whole (d:Doc) (a:bK) (e:Doc) (r:l9):Prop:=
 (r.code≠0∧e=d∧r.n=0∧r.text=[])∨(r.code=0∧a.kind=3∧e=d)∨(r.code=0∧a.kind=2∧r.n=0∧e=d)∨(r.code=0∧a.kind≠3∧(a.kind=2→r.n≠0)∧0<r.n∧r.text=[])
def Ti {d:Doc} (h:cW d=true):0<d.length:=by
 obtain⟨t,ht,rfl⟩:=hZ.1 h;rw[jU];exact t.dH
def Eh {d:Doc} (hd:cW d=true) (a:bK) (h:a.kind=2):Whole d a (adl d a.lines).1 (adl d a.lines).2:=by
 unfold adl;split
 ·exact .inl ⟨by simp,rfl,rfl,rfl⟩
 split
 ·rename_i e he;by_cases h0:e=0
  ·exact .inr (.inr (.inl ⟨h0,h,rfl,rfl⟩))
  exact .inl ⟨h0,rfl,rfl,rfl⟩
 rename_i l hl;split
 ·by_cases h0:l=[]
  ·subst h0;exact .inr (.inr (.inl ⟨rfl,h,rfl,by simp only[Ik hd]⟩))
  have:=afs.2 h0;exact .inr (.inr (.inr ⟨rfl,by omega,fun _=>by simp only;omega,by simp only;omega,rfl⟩))
 rename_i h1;exact .inl ⟨h1,rfl,rfl,rfl⟩
def Md {d:Doc} (hd:cW d=true) (a:bK):Whole d a (kt d a).1 (kt d a).2:=by
 by_cases k1:a.kind=1
 ·unfold kt;rw[adv k1];split
  ·split
   ·rename_i h;have hg:=qb h;have hp:0<(jJ (dQ _).1).1.length:=Ti (by unfold jJ;rw[adv hg];exact mc hg);exact .inr (.inr (.inr ⟨rfl,by omega,fun _=>by omega,by simp only;omega,rfl⟩))
   rename_i h;exact .inl ⟨h,rfl,rfl,rfl⟩
  exact .inl ⟨by simp,rfl,rfl,rfl⟩
 by_cases k2:a.kind=2
 ·have:=Eh hd a k2;unfold kt;rw[ag8 k1,adv k2];exact this
 unfold kt;rw[ag8 k1,ag8 k2];split
 ·split
  ·rename_i k3 _;exact .inr (.inl ⟨rfl,k3,rfl⟩)
  rename_i h;exact .inl ⟨h,rfl,rfl,rfl⟩
 exact .inl ⟨by simp,rfl,rfl,rfl⟩
def Gy {d:Doc} (hd:cW d=true) (n:Int) (a:bK):Whole d a (mQ d n a).1.1 (mQ d n a).2:=by
 unfold mQ;split
 ·exact .inl ⟨by simp,rfl,rfl,rfl⟩
 exact Md hd a
theorem uf (l:List bK):∀i:Nat,i≤l.length→i≤100→(gF l i).2=i
 |0,_,_=>rfl
 |i+1,h,h2=>by
  have ih:=uf l i (by omega) (by omega);rw[u0 (ag7 (show i<l.length by omega))];unfold mQ;rw[ag8 (by omega)];simp only;omega
def Tj {d:Doc} {n:Int} (h:n<100):mQ d n ⟨0,[]⟩=((d,n+1),⟨4,0,[]⟩):=by
 unfold mQ kt;rw[ag8 (by omega)];rfl
def Tl (d:Doc) {n:Int} (h:100≤n) (a:bK):mQ d n a=((d,n),⟨7,0,[]⟩):=by
 unfold mQ;rw[adv h]
def u5 {t:Tree} (h:t.fZ=true):jJ t=(aK t,0)∧e_ (aK t) 0=(t,0):=by
 refine⟨?_,tq h (Sub.self 0 (-1) t)⟩;unfold jJ;rw[adv h]
def Kh {d:Doc} {n:Int} (h:n<100) {s:Bs} (hp:(dQ s).2=0):mQ d n ⟨1,[s]⟩=((aK (dQ s).1,n+1),⟨0,(aK (dQ s).1).length,[]⟩):=by
 unfold mQ kt;rw[ag8 (by omega)];simp only[adH,hp,(u5 (qb hp)).1]
def Qe {d:Doc} {n:Int} (h:n<100) {s:Bs} (hp:(dQ s).2≠0):mQ d n ⟨1,[s]⟩=((d,n+1),⟨(dQ s).2,0,[]⟩):=by
 unfold mQ kt;rw[ag8 (by omega)];simp only[adH,ag8 hp]
def Tm {t:Tree} (ht:t.fZ=true) {n:Int} (h:n<100):mQ (aK t) n ⟨3,[]⟩=((aK t,n+1),if(dZ t).2=0 then⟨0,(aK t).length,(dZ t).1⟩ else⟨(dZ t).2,0,[]⟩):=by
 unfold mQ kt;rw[ag8 (by omega),ag8 (by decide),ag8 (by decide),adv rfl];simp only[(u5 ht).2];split<;>rfl
def Gz {t:Tree} (ht:t.fZ=true) (h:(dZ t).2=0):dQ (dZ t).1=(t,0)∧(dZ t).1.length≤2500:=by
 by_cases hl:t.sh.length≤2500
 ·rw[By ht hl];exact⟨PO ht hl,hl⟩
 rw[Iw ht (by omega)] at h;simp at h

section
variable {P:Program} {G:Nat→Option (List IV)}
abbrev II (P:Program) (G:Nat→Option (List IV)) (f:Nat):Prop:=∀(d:Doc) (n:Int),cW d=true→ez P G f [.ptr (.par 0) 2 0 0] (dL d n) (fun x cs=>x=Doc.av d∧cs=dL d n)
abbrev UK (P:Program) (G:Nat→Option (List IV)) (f:Nat) (a:bK):Prop:=∀(d:Doc) (n:Int),cW d=true→0≤n→n≤100→ez P G f [.ptr (.par 0) 2 0 0,a.av] (dL d n) (fun x cs=>x=(mQ d n a).2.av∧cs=dL (mQ d n a).1.1 (mQ d n a).1.2)
abbrev BB (P:Program) (G:Nat→Option (List IV)) (f:Nat):Prop:=∀d e:Doc,cW d=true→cW e=true→aw P G f [Doc.av d,Doc.av e] (.bool (GM d e))
end
end Go.Am
