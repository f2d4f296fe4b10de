import Derived.Test.YtfinkeaikbmpgaaGreatDoorE23
import Derived.Test.YtfinkeaikbmpgaaGreatDoorE24
import Derived.Test.YtfinkeaikbmpgaaGreatDoorE25
import Derived.Test.YtfinkeaikbmpgaaGreatDoorE28
import Derived.Test.YtfinkeaikbmpgaaGreatDoorKAm53
import Derived.Test.YtfinkeaikbmpgaaGreatDoorKT102
set_option linter.unusedSimpArgs false
set_option linter.unusedVariables false
set_option linter.unnecessarySimpa false
set_option linter.defProp false
/- Functions of this seat, read: paths as texts; the law PathSelects. -/
namespace Go.Proofs.YtfinkeaikbmpgaaGreatDoor
open Go Go.Am Go.ChangeShapes
variable {t1 t2:Nat}
theorem B6:aB Tryz.prog (gZ t1 t2) 116=some (21,[(none,4)],fe.bare):=by kernel_rfl
theorem B7:aB Tryz.prog (gZ t1 t2) 41=some (44,[(none,2)],(ff 79).bare):=by kernel_rfl
theorem zN:aB Tryz.prog (gZ t1 t2) 78=some (86,[(none,6)],(eS 116 78).bare):=by kernel_rfl
theorem w8:aB Tryz.prog (gZ t1 t2) 38=some (32,[(none,4),(none,5)],(et 77 41 78).bare):=by kernel_rfl
theorem w9:aB Tryz.prog (gZ t1 t2) 42=some (28,[(none,0)],(fx 80).bare):=by kernel_rfl
theorem q_:aB Tryz.prog (gZ t1 t2) 7=some (48,[(none,4)],(dM 30 37 38 39 40 41 34 42).bare):=by kernel_rfl
theorem G9:CE Tryz.prog (gZ t1 t2) 121:=G3 Tryz.zI (t1:=t1) (t2:=t2) rfl rfl
theorem G':zF Tryz.prog (gZ t1 t2) 122:=G4 Tryz.zJ G1 rfl
theorem qf (l:List Step) (hl:l.length≤B) (hn:∀x∈l,x.name.length≤B):ai Tryz.prog (gZ t1 t2) 40 [.list (l.map Step.iv)] (.bool (aT l)):=wN qb l hl (fun x hx=>zH _ (hn x hx))
theorem uL (s:Bs) (hs:s.length≤2^24):ai Tryz.prog (gZ t1 t2) 80 [.str s] (jS s):=by
 have rn:B=1073741824:=rfl
 have hw:∀w∈bV 47 (s.drop 1),w.length≤2^24:=fun w h=>by
  have:=mL 47 (s.drop 1) w h;simp only[List.length_drop] at this;omega
 exact uw EL s hs (uE s [47]) (EP (s.drop 1) 47 (by simp only[List.length_drop];omega)) (fun w h=>Jc w 91 (by have:=hw w h;omega))
  (fun w h=>uF _ [93] (by have:=hw w h;have:=(o8 91 w).2;omega) (by simp;omega))
  (fun w h=>G9 _ (by have:=hw w h;have:=(o8 91 w).2;have:=zE [93] (cA 91 w).2.1;omega)) G'
  (fun l hl hn=>qf l hl fun x hx=>by have:=hn x hx;omega)
theorem w_:ai Tryz.prog (gZ t1 t2) 42 [] (.bool true):=w7 w9 (uL _ (by decide))
theorem vK (l:List Step) (hl:l.length≤B) (hn:∀x∈l,x.name.length≤B):ai Tryz.prog (gZ t1 t2) 41 [.list (l.map Step.iv)] (.bool (aT l)):=B3 B7 l hl (fun x hx=>qO _ (hn x hx))
theorem zO (d:Doc) (hd:gO d≤B) (hi:cq d=true):∀(k:Nat) (l:List Step),l.length=k→l≠[]→l.length≤1000→∀m:Nat,m<d.length→ai Tryz.prog (gZ t1 t2) 78 [Doc.av d,.int .i64 (m:Int),.list (l.map Step.iv)] (.bool (bn d l.reverse m)):=by
 intro k
 induction k with
 |zero=>intro l h eg;exact absurd (List.length_eq_zero_iff.1 h) eg
 |succ k ih=>
  intro l hk eg hl m hm;obtain⟨l',s,rfl⟩:∃l' s,l=l'++[s]:=⟨_,_,(List.dropLast_concat_getLast eg).symm⟩;simp only[List.length_append,List.length_singleton] at hk hl;obtain⟨x,hx⟩:∃x,d[m]?=some x:=⟨_,List.getElem?_eq_getElem hm⟩
  have hp:x.parent<(m:Int):=by
   obtain⟨t,ht,rfl⟩:=fE.1 hi;rcases oX hx with⟨rfl,h⟩|⟨_,_,h⟩
   ·omega
   ·exact h
  exact zM zN d hd l' s (by omega) m x hx hp (fun y _=>B2 B6 y s.name) (fun h0 m' HF=>ih l' (by omega) h0 (by omega) m' (by omega))
theorem ra (d:Doc) (hd:2*gO d≤B) (l:List Step) (hl:l.length≤2^22) (hn:∀x∈l,x.name.length≤B):ai Tryz.prog (gZ t1 t2) 7 [Doc.av d,.list (l.map Step.iv)] (.bool true):=by
 have rn:B=1073741824:=rfl;have C4:∀x∈l,ai Tryz.prog (gZ t1 t2) 53 [.str x.name] (.bool (named x.name)):=fun x hx=>zH _ (hn x hx)
 refine qZ q_ d (by omega) l hl (y8 zv d (by omega))
  (w6 B1 d (by omega) l (by omega) (zr d (by omega)) (uJ qb l (by omega) C4) (fun s hs ks h1 h2=>BZ B0 d (by omega) s ks h1 h2 (fun x _=>GR GX x s)))
  ?_ (fun xs hx=> ?_) (qf l (by omega) hn) (vK l (by omega) hn) (by have:=sC (t1:=t1) (t2:=t2) d d (by omega);rwa[show qC d d=true from qD.2 rfl] at this) w_
 ·rw[←B5];refine w5 w8 d (by omega) l (Ez d hd) (vK l (by omega) hn) fun hi hg m hm=> ?_
  have eg:l≠[]:=by intro e;subst e;simp[aT] at hg
  have hlen:l.length≤5:=by simp only[aT,Bool.and_eq_true,decide_eq_true_eq] at hg;omega
  exact zO d (by omega) hi l.length l rfl eg (by omega) m hm
 ·have:=mg (P:=Tryz.prog) (G:=gZ t1 t2) mj xs xs hx
  rwa[show qC xs xs=true from qD.2 rfl] at this
end Go.Proofs.YtfinkeaikbmpgaaGreatDoor
