import Derived.Test.YtfinkeaikbmpgaaDoorKM7
import Derived.Test.YtfinkeaikbmpgaaDoorKT21
import Derived.Lib.IndexMore
import Derived.Lib.IndexLaws
import Derived.Test.YtfinkeaikbmpgaaDoorKT1
import Derived.Test.YtfinkeaikbmpgaaDoorKT26
import Derived.Test.YtfinkeaikbmpgaaDoorKT64
import Derived.Test.YtfinkeaikbmpgaaDoorKT61
import Derived.Test.YtfinkeaikbmpgaaDoorKD2
set_option linter.unusedSimpArgs false
set_option linter.unusedVariables false
set_option linter.unnecessarySimpa false
set_option linter.defProp false
/- topiaryref.meant. -/
namespace Go.Am
open Go Go.RowKit
def OD (c:UInt8):dI c=ga c:=by
 have wH:(c==10)=(c.toNat==10):=by
  rw[VY];simp only[V8];exact⟨fun h=>by rw[h];rfl,fun h=>XE (by simpa using h)⟩
 rw[VY];simp only[dI,ga,wH,Wb,Wc,W8,WM,Yf,Wd,Wg,V8,Vc,Vn,UInt8.reduceToNat];omega
def Q6 (v:Bool):MY v []=some []:=by unfold MY;rw[vW]
def Po {v:Bool} {c:UInt8} (hc:yu v c) (r:Bs):MY v (c::r)=none:=by unfold MY;rw[tr hc]
theorem PI {v:Bool} (r:Bs):MY v (38::r)=match og (38::r) with
  |some (e,q)=>(MY v q).map fun t=>e::t
  |none=>none:=by
 have h1:bm v (38::r)=match og (38::r) with
   |some (e,q)=>(bm v q).map fun x=>(e::x.1,x.2)
   |none=>none:=by
  rw[bm,U8 (by rintro(h|⟨h,_⟩)<;>cases h),Vd rfl];split
  ·rename_i e q h;rw[h]
  rename_i h;rw[h]
 unfold MY;rw[h1];cases og (38::r) with
 |none=>rfl
 |some x=>
 obtain⟨e,q⟩:=x;simp only;cases bm v q with
 |none=>rfl
 |some y=>obtain⟨t,r'⟩:=y;cases r'<;>rfl
def PJ {v:Bool} {c:UInt8} (h1:¬yu v c) (h2:c≠38) (h3:c=62∨ga c=false) (r:Bs):MY v (c::r)=none:=by
 unfold MY;rw[bm,U8 h1,U8 h2,Vd h3]
def QC {v:Bool} {c:UInt8} (h1:¬yu v c) (h2:c≠38) (h3:¬(c=62∨ga c=false)) (r:Bs):MY v (c::r)=(MY v r).map fun t=>c::t:=by
 unfold MY;rw[bm,U8 h1,U8 h2,U8 h3];cases bm v r with
 |none=>rfl
 |some y=>obtain⟨t,r'⟩:=y;cases r'<;>rfl
def Pq:Bs:=[32,108,116,59,32,103,116,59,32,97,109,112,59,32,113,117,111,116,59,32]
def SG:List (Int×Bs):=[(0,[60]),(4,[62]),(8,[38]),(13,[34])]
def PK (s:Bs) (m:Nat):Int:=Lib.index Pq (32::((s.take m).drop 1++[32]))
def SH (w:Bs) (e:UInt8) (h:(w,e)∈[(qH,(60:UInt8)),(rC,62),(kD,38),(jc,34)]) (q:Bs) :
  Lib.indexByte (w++q) 59+1=(w.length:Int)∧1<w.length∧0≤PK (w++q) w.length∧(SG.lookup (PK (w++q) w.length)).getD []=[e]:=by
 unfold PK;simp only[Vg,U6,VN,Vy] at h;rcases h with⟨rfl,rfl⟩|⟨rfl,rfl⟩|⟨rfl,rfl⟩|⟨rfl,rfl⟩
 all_goals
  rw[YG rfl];refine⟨?_,by decide,by decide,by decide⟩;simp[qH,rC,kD,jc,Lib.indexByte]
def TK {y A z B:Bs} (h1:(59:UInt8)∉y) (h2:(59:UInt8)∉A) (h:y++59::z=A++59::B):y=A:=by
 have e1:=Rr (b:=z) h1;have e2:=Rr (b:=B) h2;rw[h,e2] at e1;simp only[di,U6] at e1;exact e1.1.symm
def Se (y r:Bs) (hy:(59:UInt8)∉y) (he:og (38::(y++59::r))=none):Lib.index Pq (32::(y++[59]++[32]))<0:=by
 rcases Lib.index_spec Pq (32::(y++[59]++[32])) with⟨h,_⟩|⟨i,h,hi,ho,_⟩
 ·rw[h];decide
 exfalso;obtain⟨z,hz⟩:=Vt.1 ho;have key:∀(A B:Bs),(59:UInt8)∉A→Pq.drop i=32::(A++59::B)→(38::(A++[59]))∈[qH,rC,kD,jc]→False:=by
  intro A B hA hd hm;rw[hd] at hz;simp only[Vb,VP,Vj,V9,VH] at hz;have:=TK hy hA hz;subst this;unfold og at he;have hp:∀w∈[qH,rC,kD,jc],w=38::(y++[59])→w.isPrefixOf (38::(y++59::r))=true:=fun w _ hw=>by
   rw[hw,Vt];exact⟨r,by simp⟩
  simp only[Vg,VN,Vy] at hm;rcases hm with hm|hm|hm|hm<;>rw[hp _ (by simp) hm.symm] at he<;>simp at he
  ·split at he<;>simp at he
  ·split at he
   ·simp at he
   split at he<;>simp at he
  split at he
  ·simp at he
  split at he
  ·simp at he
  split at he<;>simp at he
 have hlen:i≤20:=hi;have h0:∀d,Pq.drop i=d→d.head?=some 32:=by
  intro d hd;rw[hd] at hz;rw[←hz];rfl
 have cs:i=0∨i=4∨i=8∨i=13∨i=19:=by
  have:(Pq.drop i).head?=some 32:=h0 _ rfl
  match i,hlen,this with
  |0,_,_|4,_,_|8,_,_|13,_,_|19,_,_=>simp
  |1,_,h|2,_,h|3,_,h|5,_,h|6,_,h|7,_,h|9,_,h|10,_,h|11,_,h|12,_,h|14,_,h|15,_,h|16,_,h|17,_,h|18,_,h|20,_,h=>exact absurd h (by decide)
 rcases cs with rfl|rfl|rfl|rfl|rfl
 ·exact key [108,116] _ (by decide) rfl (by decide)
 ·exact key [103,116] _ (by decide) rfl (by decide)
 ·exact key [97,109,112] _ (by decide) rfl (by decide)
 ·exact key [113,117,111,116] _ (by decide) rfl (by decide)
 have:Pq.drop 19=[32]:=rfl;rw[this] at hz;simp at hz
theorem Rt {c:UInt8} {z:Bs}:∀{y:Bs},c∉y→Lib.indexByte (y++c::z) c=(y.length:Int)
 |[],_=>by simp[Lib.indexByte]
 |b::y,h=>by
  simp only[Vg,Xd] at h;have:(b==c)=false:=by simpa using V7 h.1
  simp only[Vb,Lib.indexByte,Vo,Rt h.2];simp[this]
def Sf {c:UInt8} {s:Bs} (h:c∉s):Lib.indexByte s c= -1:=by
 rcases pC c s with⟨h1,_⟩|⟨m,h1,_⟩
 ·exact h1
 exact absurd (U_ (Lib.indexByte_some h1).1) h
theorem Ta (r:Bs):match og (38::r) with
  |some (e,q)=>∃m:Nat,Lib.indexByte (38::r) 59+1=(m:Int)∧1<m∧m≤r.length+1∧q=(38::r).drop m∧0≤PK (38::r) m∧(SG.lookup (PK (38::r) m)).getD []=[e]
  |none=>Lib.indexByte (38::r) 59+1=0∨∃m:Nat,Lib.indexByte (38::r) 59+1=(m:Int)∧1<m∧m≤r.length+1∧PK (38::r) m<0:=by
 have hit:∀(w:Bs) (e:UInt8),(w,e)∈[(qH,(60:UInt8)),(rC,62),(kD,38),(jc,34)]→w.isPrefixOf (38::r)=true →
   ∃m:Nat,Lib.indexByte (38::r) 59+1=(m:Int)∧1<m∧m≤r.length+1∧(38::r).drop w.length=(38::r).drop m∧0≤PK (38::r) m∧(SG.lookup (PK (38::r) m)).getD []=[e]:=by
  intro w e hm hp;obtain⟨q,hq⟩:=Vt.1 hp;obtain⟨g1,g2,g3,g4⟩:=SH w e hm q;rw[hq] at g1 g3 g4;have hl:(w++q).length=(38::r).length:=by rw[hq]
  simp only[Vw,Vo] at hl;exact⟨w.length,g1,g2,by omega,rfl,g3,g4⟩
 cases he:og (38::r) with
 |some x=>
  obtain⟨e,q⟩:=x;simp only;unfold og at he;split at he
  ·rename_i hp;simp only[di,U6] at he;obtain⟨rfl,rfl⟩:=he;exact hit qH 60 (by simp) hp
  split at he
  ·rename_i hp;simp only[di,U6] at he;obtain⟨rfl,rfl⟩:=he;exact hit rC 62 (by simp) hp
  split at he
  ·rename_i hp;simp only[di,U6] at he;obtain⟨rfl,rfl⟩:=he;exact hit kD 38 (by simp) hp
  split at he
  ·rename_i hp;simp only[di,U6] at he;obtain⟨rfl,rfl⟩:=he;exact hit jc 34 (by simp) hp
  cases he
 |none=>
 simp only;cases hc:Nh [59] r with
 |none=>
  left;have:=NC.1 hc;rw[Sf (by simpa using this)];rfl
 |some x=>
 obtain⟨y,z⟩:=x;obtain⟨e,hy⟩:=Nn hc;subst e;right;have S3:Lib.indexByte (38::(y++59::z)) 59+1=((y.length+2:Nat):Int):=by
  have:=Rt (c:=59) (y:=38::y) (z:=z) (by simpa using hy);simp only[Vb,Vo] at this;rw[this];rfl
 refine⟨y.length+2,S3,by omega,by simp,?_⟩;unfold PK;rw[show((38::(y++59::z)).take (y.length+2)).drop 1=y++[59] by
  simp[List.take_append,Vq]]
 exact Se y z hy he
def T' (c:UInt8) (n:Nat) (hn:n<256):(((c.toNat:Int))==(n:Int))=(c==UInt8.ofNat n):=by
 rw[VY];simp only[V8];constructor
 ·intro h;refine XE ?_;simp only[Yp];omega
 rintro rfl;simp only[Yp];omega

def Nx (v:Bool) (s:Bs):AV:=match MY v s with
 |some t=> .gf [.str t,.bool true]
 |none=> .gf [.str [],.bool false]
section
variable {P:Program} {G:Nat→Option (List IV)}
def N1 (MT NY bR:Nat):AC:=
(aM [aQ 4 (.iC (.c (.str []))),jM 5 false] (aM [aQ 6 (.iC (.c (.str [])))] (.seq (.block 0 (.loop (.seq (aM [MR 10 0,aQ 11 (.bin .neq (.t 10) (.c (.str [])))] (.cond (.t 11) .skip (.exit 0))) (.block 1 (aM [MR 12 0,aQ 13 (.lj (.t 12) (jS 0)),MR 7 13] (aM [gH 8 1] (.seq (.block 2 (aM [MR 19 7,aQ 20 (.bin .eql (.t 19) (.c (.int .u8 38))),MR 18 20] (.cond (.t 18) (aM [MR 21 0,aQ 22 (.call MT [(.t 21),(.c (.int .u8 59))]),eY 23 .add 22 1,MR 8 23] (aM [MR 24 0,MR 25 8,aQ 26 (.max (.t 25) (jS 1)),aQ 27 (.kB (.t 24) (some (jS 1)) (some (.t 26))),aQ 28 (.bin .add (.c (.str [32])) (.t 27)),aQ 29 (.bin .add (.t 28) (.c (.str [32]))),aQ 30 (.call NY [(.c (.str [32,108,116,59,32,103,116,59,32,97,109,112,59,32,113,117,111,116,59,32])),(.t 29)]),MR 9 30] (.seq (aM [MR 31 8,eY 32 .eql 31 0,MR 33 32,gV 34 33 9,iR 35 33 (.bin .lss (.t 34) (jS 0)),sj 36 33 35] (.cond (.t 36) (aM [aQ 4 (.iC (.c (.str []))),jM 5 false] .ret) .skip)) (.cq [MR 37 6,aQ 38 (.qM [(0,[60]),(4,[62]),(8,[38]),(13,[34])]),MR 39 38,MR 40 9,aQ 41 (.sy (.t 39) (.t 40)),et 42 .add 37 41,MR 6 42])))) (aM [MR 44 7,aQ 45 (.bin .eql (.t 44) (.c (.int .u8 60))),MR 46 45,gV 47 46 7,iR 48 46 (.bin .eql (.t 47) (.c (.int .u8 62))),sj 49 46 48,MR 50 49,gV 51 50 7,iR 52 50 (.bin .eql (.t 51) (.c (.int .u8 34))),gV 53 50 52,cU 54 53 1,iR 55 50 (.pick (.t 53) (.t 54) (me false)),sj 56 50 55,MR 57 56,gV 58 57 7,iR 59 57 (.call bR [(.t 58)]),iR 60 57 (.not (.t 59)),sj 61 57 60,MR 43 61] (.cond (.t 43) (aM [aQ 4 (.iC (.c (.str []))),jM 5 false] .ret) (.cq [MR 14 6,MR 15 0,aQ 16 (.kB (.t 15) none (some (jS 1))),et 17 .add 14 16,MR 6 17])))))) (.cq [MR 62 0,MR 63 8,aQ 64 (.kB (.t 62) (some (.t 63)) none),MR 0 64])))))))) (aM [MR 65 6,MR 4 65,jM 5 true] .ret))))
set_option maxHeartbeats 1000000 in
def Tc {MS MT NY bR : Nat} (hF : aw P G MS = some (66,[(none,4),(none,5)],(N1 MT NY bR).bare)) (v : Bool) (s : Bs) (hs : s.length ≤ 4096)
   (hB : ∀ s : Bs,s.length ≤ 4096 → au P G MT [.str s,.int .u8 59] (.int .i64 (Lib.indexByte s 59)))
   (hI : ∀ t : Bs,t.length ≤ 5000 → au P G NY [.str Pq,.str t] (.int .i64 (Lib.index Pq t)))
   (hP : ∀ c : UInt8,au P G bR [.int .u8 (c.toNat : Int)] (.bool (dI c))) : au P G MS [.str s,.bool v] (Nx v s) := by
 refine aR hF (by simp) (by simp [ah,AV.an]) (by unfold Nx; cases MY v s <;> simp [AV.an,ah]) ?_
 unfold N1
 simp only [↓aX,mX,reduceCtorEq,Nat.reduceEqDiff,Nat.reduceLT,Nat.reduceLeDiff,Nat.reduceAdd,Nat.reduceMul,Int.reduceToNat,Int.reduceLE,Int.reduceLT]
 refine kk (σ := { q : Bs × Bs // q.1.length + q.2.length ≤ 4096 ∧ MY v s = (MY v q.1).map fun t => q.2 ++ t }) (fun q => [(0,.str q.1.1),(1,.bool v),(6,.str q.1.2)]) (fun q => q.1.1.length) ⟨(s,[]),by simpa using hs,by simp⟩ (fun _ => rfl) ?_ ?_
 · exact ⟨by simp only [↓aX,mX,reduceCtorEq,Nat.reduceEqDiff,Nat.reduceLT,Nat.reduceLeDiff,Nat.reduceAdd,Nat.reduceMul,Int.reduceToNat,Int.reduceLE,Int.reduceLT],by repeat' constructor⟩
 · rintro ⟨⟨x,out⟩,hl,hm⟩
   simp only at hl hm
   have no : MY v x = none → Nx v s = .gf [.str [],.bool false] := fun h => by unfold Nx; rw [hm,h]; rfl
   simp only [↓aX,mX,reduceCtorEq,Nat.reduceEqDiff,Nat.reduceLT,Nat.reduceLeDiff,Nat.reduceAdd,Nat.reduceMul,Int.reduceToNat,Int.reduceLE,Int.reduceLT]
   cases x with
   | nil =>
     have : Nx v s = .gf [.str out,.bool true] := by unfold Nx; rw [hm,Q6]; simp
     simp only [↓aX,mX,reduceCtorEq,Nat.reduceEqDiff,Nat.reduceLT,Nat.reduceLeDiff,Nat.reduceAdd,Nat.reduceMul,Int.reduceToNat,Int.reduceLE,Int.reduceLT,show (([] : Bs) == []) = true from rfl,↓h_,this]
   | cons c r =>
     simp only [List.length_cons] at hl
     simp only [↓aX,mX,reduceCtorEq,Nat.reduceEqDiff,Nat.reduceLT,Nat.reduceLeDiff,Nat.reduceAdd,Nat.reduceMul,Int.reduceToNat,Int.reduceLE,Int.reduceLT,show (c :: r == []) = false from rfl,show (0 : Int) ≤ 0 from Int.le_refl 0,List.getElem?_cons_zero,Option.map_some]
     rw [show ((c.toNat : Int) == 38) = (c == 38) from T' c 38 (by decide)]
     by_cases qv : c = 38
     · subst qv
       simp only [↓aX,mX,reduceCtorEq,Nat.reduceEqDiff,Nat.reduceLT,Nat.reduceLeDiff,Nat.reduceAdd,Nat.reduceMul,Int.reduceToNat,Int.reduceLE,Int.reduceLT,beq_self_eq_true]
       refine ay (hB (38 :: r) (by simp; omega)) ?_
       simp only [↓aX,mX,reduceCtorEq,Nat.reduceEqDiff,Nat.reduceLT,Nat.reduceLeDiff,Nat.reduceAdd,Nat.reduceMul,Int.reduceToNat,Int.reduceLE,Int.reduceLT]
       have S3 := Ta r
       have hlen : (38 :: r).length = r.length + 1 := rfl
       have fin : ∀ n : Nat,n ≤ r.length + 1 → ((List.take n (38 :: r)).drop 1).length ≤ 4096 := fun n hn => by simp; omega
       have v8 : ∀ x : Bs,x.length ≤ 4096 → 1 + x.length ≤ 9223372036854775807 ∧ x.length + 1 + 1 ≤ 9223372036854775807 := fun x h => by omega
       cases he : og (38 :: r) with
       | none =>
         rw [he] at S3
         have FQ := no (by rw [PI,he])
         simp only at S3
         rcases S3 with h0 | ⟨m,h0,h1,h2,h3⟩
         · have hw : IntKind.i64.wrap (Lib.indexByte (38 :: r) 59 + 1) = 0 := by rw [h0]; rfl
           simp only [↓aX,mX,reduceCtorEq,Nat.reduceEqDiff,Nat.reduceLT,Nat.reduceLeDiff,Nat.reduceAdd,Nat.reduceMul,Int.reduceToNat,Int.reduceLE,Int.reduceLT,hw,show ((1 : Int) > 0) = True by simp,lk,show (0 : Int) ≤ 1 by decide,show (1 : Int).toNat = 1 from rfl,true_and,hlen,show 1 ≤ r.length + 1 by omega,Option.bind_some,Option.map_some,Nat.le_refl,List.take_succ_cons,List.take_zero,List.drop_succ_cons,List.drop_nil,List.length_cons,List.length_nil,List.append_nil,show 1 + 0 ≤ 9223372036854775807 by decide,show 0 + 1 + (0 + 1) ≤ 9223372036854775807 by decide,List.cons_append,List.nil_append]
           refine ay (hI [32,32] (by simp)) ?_
           simp only [↓aX,mX,reduceCtorEq,Nat.reduceEqDiff,Nat.reduceLT,Nat.reduceLeDiff,Nat.reduceAdd,Nat.reduceMul,Int.reduceToNat,Int.reduceLE,Int.reduceLT,hw,show ((0 : Int) == 0) = true from rfl,↓h_,FQ]
         · have hw : IntKind.i64.wrap (Lib.indexByte (38 :: r) 59 + 1) = (m : Int) := by rw [h0]; exact wrap64 (by omega) (by omega)
           obtain ⟨x,hx⟩ : ∃ x,x = ((38 :: r).take m).drop 1 := ⟨_,rfl⟩
           have Ms := fin m h2
           rw [← hx] at Ms
           unfold PK at h3
           rw [← hx] at h3
           simp only [↓aX,mX,reduceCtorEq,Nat.reduceEqDiff,Nat.reduceLT,Nat.reduceLeDiff,Nat.reduceAdd,Nat.reduceMul,Int.reduceToNat,Int.reduceLE,Int.reduceLT,hw,show ((1 : Int) > (m : Int)) = False by simp; omega,if_false,lk,Int.natCast_nonneg,Int.toNat_natCast,true_and,hlen,h2,Option.bind_some,Option.map_some,show (0 : Int) ≤ 1 by decide,show (1 : Int).toNat = 1 from rfl,show 1 ≤ m by omega,← hx,List.length_cons,List.length_nil,List.cons_append,List.nil_append,v8 x Ms]
           refine ay (hI (32 :: (x ++ [32])) (by simp; omega)) ?_
           simp only [↓aX,mX,reduceCtorEq,Nat.reduceEqDiff,Nat.reduceLT,Nat.reduceLeDiff,Nat.reduceAdd,Nat.reduceMul,Int.reduceToNat,Int.reduceLE,Int.reduceLT,hw,show ((m : Int) == 0) = false by simp; omega,show decide (Lib.index Pq (32 :: (x ++ [32])) < 0) = true by simpa using h3,↓h_,FQ]
       | some y =>
         obtain ⟨e,q⟩ := y
         rw [he] at S3
         simp only at S3
         obtain ⟨m,h0,h1,h2,rfl,h4,h5⟩ := S3
         have hw : IntKind.i64.wrap (Lib.indexByte (38 :: r) 59 + 1) = (m : Int) := by rw [h0]; exact wrap64 (by omega) (by omega)
         obtain ⟨x,hx⟩ : ∃ x,x = ((38 :: r).take m).drop 1 := ⟨_,rfl⟩
         have Ms := fin m h2
         rw [← hx] at Ms
         unfold PK at h4 h5
         rw [← hx] at h4 h5
         unfold SG at h5
         simp only [↓aX,mX,reduceCtorEq,Nat.reduceEqDiff,Nat.reduceLT,Nat.reduceLeDiff,Nat.reduceAdd,Nat.reduceMul,Int.reduceToNat,Int.reduceLE,Int.reduceLT,hw,show ((1 : Int) > (m : Int)) = False by simp; omega,if_false,lk,Int.natCast_nonneg,Int.toNat_natCast,true_and,hlen,h2,Option.bind_some,Option.map_some,show (0 : Int) ≤ 1 by decide,show (1 : Int).toNat = 1 from rfl,show 1 ≤ m by omega,← hx,List.length_cons,List.length_nil,List.cons_append,List.nil_append,v8 x Ms]
         refine ay (hI (32 :: (x ++ [32])) (by simp; omega)) ?_
         simp only [↓aX,mX,reduceCtorEq,Nat.reduceEqDiff,Nat.reduceLT,Nat.reduceLeDiff,Nat.reduceAdd,Nat.reduceMul,Int.reduceToNat,Int.reduceLE,Int.reduceLT,hw,show ((m : Int) == 0) = false by simp; omega,show decide (Lib.index Pq (32 :: (x ++ [32])) < 0) = false by simpa using h4,h5,List.length_cons,List.length_nil,show out.length + (0 + 1) ≤ 9223372036854775807 by omega,show out.length + 1 ≤ 9223372036854775807 by omega,lk,Int.natCast_nonneg,Int.toNat_natCast,true_and,hlen,h2,Option.bind_some,Option.map_some,Nat.le_refl,List.take_length]
         have I9 : ((38 :: r).drop m).length = r.length + 1 - m := by simp
         refine ⟨⟨((38 :: r).drop m,out ++ [e]),by simp only [List.length_append,List.length_singleton,I9]; omega,?_⟩,by simp only [I9]; omega,?_⟩
         · rw [hm,PI,he]
           simp only
           cases MY v ((38 :: r).drop m) <;> simp
         · exact ⟨by simp only [↓aX,mX,reduceCtorEq,Nat.reduceEqDiff,Nat.reduceLT,Nat.reduceLeDiff,Nat.reduceAdd,Nat.reduceMul,Int.reduceToNat,Int.reduceLE,Int.reduceLT],by repeat' constructor⟩
     · have UC : (c == 38) = false := by simpa using qv
       have nb : ∀ n : Nat,n < 256 → ((c.toNat : Int) == (n : Int)) = (c == UInt8.ofNat n) := T' c
       have cons : ¬ yu v c → ¬ (c = 62 ∨ ga c = false) → MY v (c :: r) = (MY v r).map fun t => c :: t := fun h1 h2 => QC h1 qv h2 r
       simp only [↓aX,mX,reduceCtorEq,Nat.reduceEqDiff,Nat.reduceLT,Nat.reduceLeDiff,Nat.reduceAdd,Nat.reduceMul,Int.reduceToNat,Int.reduceLE,Int.reduceLT,UC]
       rw [show ((c.toNat : Int) == 60) = (c == 60) from nb 60 (by decide)]
       by_cases tv : c = 60
       · simp only [↓aX,mX,reduceCtorEq,Nat.reduceEqDiff,Nat.reduceLT,Nat.reduceLeDiff,Nat.reduceAdd,Nat.reduceMul,Int.reduceToNat,Int.reduceLE,Int.reduceLT,show (c == 60) = true by simpa using tv,↓h_,no (Po (.inl tv) r)]
       · simp only [↓aX,mX,reduceCtorEq,Nat.reduceEqDiff,Nat.reduceLT,Nat.reduceLeDiff,Nat.reduceAdd,Nat.reduceMul,Int.reduceToNat,Int.reduceLE,Int.reduceLT,show (c == 60) = false by simpa using tv]
         rw [show ((c.toNat : Int) == 62) = (c == 62) from nb 62 (by decide)]
         have Q7 : ∀ b,v = b → (c = 34 → b = false) → ¬ yu v c := fun b hb h h2 => by
           rcases h2 with h2 | ⟨h2,h3⟩
           · exact tv h2
           · rw [hb,h h2] at h3; cases h3
         by_cases yH : c = 62
         · simp only [↓aX,mX,reduceCtorEq,Nat.reduceEqDiff,Nat.reduceLT,Nat.reduceLeDiff,Nat.reduceAdd,Nat.reduceMul,Int.reduceToNat,Int.reduceLE,Int.reduceLT,show (c == 62) = true by simpa using yH,↓h_,no (PJ (by rintro (h | ⟨h,_⟩) <;> simp [yH] at h) qv (.inl yH) r)]
         · have Td : (c == 62) = false := by simpa using yH
           have Ty : (c == 60) = false := by simpa using tv
           simp only [↓aX,mX,reduceCtorEq,Nat.reduceEqDiff,Nat.reduceLT,Nat.reduceLeDiff,Nat.reduceAdd,Nat.reduceMul,Int.reduceToNat,Int.reduceLE,Int.reduceLT,Td]
           rw [show ((c.toNat : Int) == 34) = (c == 34) from nb 34 (by decide)]
           cases GO : (c == 34) with
           | true =>
             have Sg : c = 34 := by simpa using GO
             cases hv : v with
             | true => simp only [↓aX,mX,reduceCtorEq,Nat.reduceEqDiff,Nat.reduceLT,Nat.reduceLeDiff,Nat.reduceAdd,Nat.reduceMul,Int.reduceToNat,Int.reduceLE,Int.reduceLT,GO,hv,Ty,Td,↓h_,show Nx true s = .gf [.str [],.bool false] from by rw [← hv]; exact no (Po (.inr ⟨Sg,hv⟩) r)]
             | false =>
               have hp : dI c = true := by rw [Sg]; decide
               simp only [↓aX,mX,reduceCtorEq,Nat.reduceEqDiff,Nat.reduceLT,Nat.reduceLeDiff,Nat.reduceAdd,Nat.reduceMul,Int.reduceToNat,Int.reduceLE,Int.reduceLT,GO,hv,Ty,Td]
               refine ay (hP c) ?_
               subst hv
               simp only [↓aX,mX,reduceCtorEq,Nat.reduceEqDiff,Nat.reduceLT,Nat.reduceLeDiff,Nat.reduceAdd,Nat.reduceMul,Int.reduceToNat,Int.reduceLE,Int.reduceLT,GO,Ty,Td,hp,Bool.not_true,lk,show (0 : Int) ≤ 1 by decide,show (1 : Int).toNat = 1 from rfl,true_and,List.length_cons,show 1 ≤ r.length + 1 by omega,Option.bind_some,Option.map_some,Nat.zero_le,List.take_succ_cons,List.take_zero,List.drop_zero,List.length_nil,show out.length + (0 + 1) ≤ 9223372036854775807 by omega,show out.length + 1 ≤ 9223372036854775807 by omega,List.drop_succ_cons,Nat.le_refl,List.take_length]
               refine ⟨⟨(r,out ++ [c]),by simp only [List.length_append,List.length_singleton]; omega,?_⟩,by simp only; omega,?_⟩
               · rw [hm,cons (Q7 false rfl fun _ => rfl) (by rintro (h | h); exact yH h; rw [← OD,hp] at h; cases h)]
                 cases MY false r <;> simp
               · exact ⟨by simp only [↓aX,mX,reduceCtorEq,Nat.reduceEqDiff,Nat.reduceLT,Nat.reduceLeDiff,Nat.reduceAdd,Nat.reduceMul,Int.reduceToNat,Int.reduceLE,Int.reduceLT],by repeat' constructor⟩
           | false =>
             have Sg : c ≠ 34 := by simpa using GO
             simp only [↓aX,mX,reduceCtorEq,Nat.reduceEqDiff,Nat.reduceLT,Nat.reduceLeDiff,Nat.reduceAdd,Nat.reduceMul,Int.reduceToNat,Int.reduceLE,Int.reduceLT,GO,Ty,Td]
             refine ay (hP c) ?_
             cases hp : dI c with
             | false => simp only [↓aX,mX,reduceCtorEq,Nat.reduceEqDiff,Nat.reduceLT,Nat.reduceLeDiff,Nat.reduceAdd,Nat.reduceMul,Int.reduceToNat,Int.reduceLE,Int.reduceLT,GO,Ty,Td,hp,Bool.not_false,↓h_,no (PJ (Q7 v rfl fun h => absurd h Sg) qv (.inr (by rw [← OD]; exact hp)) r)]
             | true =>
               simp only [↓aX,mX,reduceCtorEq,Nat.reduceEqDiff,Nat.reduceLT,Nat.reduceLeDiff,Nat.reduceAdd,Nat.reduceMul,Int.reduceToNat,Int.reduceLE,Int.reduceLT,GO,Ty,Td,hp,Bool.not_true,lk,show (0 : Int) ≤ 1 by decide,show (1 : Int).toNat = 1 from rfl,true_and,List.length_cons,show 1 ≤ r.length + 1 by omega,Option.bind_some,Option.map_some,Nat.zero_le,List.take_succ_cons,List.take_zero,List.drop_zero,List.length_nil,show out.length + (0 + 1) ≤ 9223372036854775807 by omega,show out.length + 1 ≤ 9223372036854775807 by omega,List.drop_succ_cons,Nat.le_refl,List.take_length]
               refine ⟨⟨(r,out ++ [c]),by simp only [List.length_append,List.length_singleton]; omega,?_⟩,by simp only; omega,?_⟩
               · rw [hm,cons (Q7 v rfl fun h => absurd h Sg) (by rintro (h | h); exact yH h; rw [← OD,hp] at h; cases h)]
                 cases MY v r <;> simp
               · exact ⟨by simp only [↓aX,mX,reduceCtorEq,Nat.reduceEqDiff,Nat.reduceLT,Nat.reduceLeDiff,Nat.reduceAdd,Nat.reduceMul,Int.reduceToNat,Int.reduceLE,Int.reduceLT],by repeat' constructor⟩
end

def Ob:M8 []=some []:=by rw[M8]
theorem OL {q:Bs}:M8 (60::q)=match Nh [62] (60::q) with
  |some (a,b)=>(M8 b).map fun l=>(a++[62])::l
  |none=>none:=by
 rw[M8,Vd rfl];split
 ·rename_i a b h;rw[h]
 rename_i h;rw[h]
theorem OM {c:UInt8} {q:Bs} (h:c≠60):M8 (c::q)=match Nh [60] (c::q) with
  |some (a,b)=>(M8 (60::b)).map fun l=>a::l
  |none=>some [c::q]:=by
 rw[M8,U8 h];cases hc:Nh [60] (c::q) with
 |none=>
  have hn:=NC.1 hc;have h1:∀s:Bs,60∉s→(s.takeWhile fun x=> !(x==60))=s∧(s.dropWhile fun x=> !(x==60))=[]:=by
   intro s;induction s with
   |nil=>simp
   |cons d s ih=>
   intro hs;simp only[Vg,Xd] at hs;have hd:(!(d==60))=true:=(by simpa using V7 hs.1);simp[hd,ih hs.2]
  rw[(h1 _ hn).1,(h1 _ hn).2,Ob];rfl
 |some x=>
 obtain⟨a,b⟩:=x;obtain⟨e,ha⟩:=Nn hc;have h1:∀a:Bs,60∉a→((a++60::b).takeWhile fun x=> !(x==60))=a∧((a++60::b).dropWhile fun x=> !(x==60))=60::b:=by
  intro s;induction s with
  |nil=>simp
  |cons d s ih=>
  intro hs;simp only[Vg,Xd] at hs;have hd:(!(d==60))=true:=by simpa using V7 hs.1
  simp[hd,ih hs.2]
 rw[e,(h1 a ha).1,(h1 a ha).2]
def Of (s:Bs):AV:=match M8 s with
 |some l=> .gf [.list (l.map IV.str),.bool true]
 |none=> .gf [.nil0,.bool false]
def Si (l:List Bs):Flat (l.map IV.str):=fun y hy z hz cs e=>by
 simp only[VC] at hy;obtain⟨s,_,rfl⟩:=hy;simp only[IV.cells,Vm] at hz;subst hz;cases e
section
variable {P:Program} {G:Nat→Option (List IV)}
def NS (MT:Nat):AC:=
(aM [zi 2,jM 3 false] (aM [zi 4] (.gh (.own 4 1) (.seq (.block 0 (.loop (.seq (aM [MR 6 0,aQ 7 (.bin .neq (.t 6) (.c (.str [])))] (.cond (.t 7) .skip (.exit 0))) (.block 1 (aM [MR 8 0,aQ 9 (.call MT [(.t 8),(.c (.int .u8 60))]),MR 5 9] (.seq (aM [MR 10 5,eY 11 .eql 10 0] (.cond (.t 11) (aM [MR 12 0,aQ 13 (.call MT [(.t 12),(.c (.int .u8 62))]),eY 14 .add 13 1,MR 5 14] (aM [MR 15 5,eY 16 .eql 15 0] (.cond (.t 16) (aM [zi 2,jM 3 false] .ret) .skip))) .skip)) (.seq (aM [MR 17 5,eY 18 .lss 17 0] (.cond (.t 18) (.cq [MR 19 0,oF 20 19,MR 5 20]) .skip)) (aM [MR 21 4,MR 22 0,MR 23 5,aQ 24 (.kB (.t 22) none (some (.t 23))),aQ 25 (.lits 1 1 [(.str [])] [(0,(.t 24))]),aQ 26 (.app (.t 21) (.t 25) 1 16),MR 4 26] (.cq [MR 27 0,MR 28 5,aQ 29 (.kB (.t 27) (some (.t 28)) none),MR 0 29]))))))))) (.gh (.zS (.loc 4) 4) (aM [MR 30 4,MR 2 30,jM 3 true] .ret))))))
set_option maxHeartbeats 1000000 in
def SI {M_ MT:Nat} (hF:aw P G M_=some (31,[(none,2),(none,3)],(NS MT).bare)) (s:Bs) (hs:s.length≤4096)
  (hB:∀(c:UInt8) (s:Bs),s.length≤4096→au P G MT [.str s,.int .u8 (c.toNat:Int)] (.int .i64 (Lib.indexByte s c))):au P G M_ [.str s] (Of s):=by
 refine aR hF (by simp) (by simp[ah,AV.an]) (by unfold Of;cases M8 s<;>simp[AV.an,ah]) ?_;unfold NS;simp only[↓aX,mX,reduceCtorEq,Nat.reduceEqDiff,Nat.reduceLT,Nat.reduceLeDiff,Nat.reduceAdd,Nat.reduceMul,Int.reduceToNat,Int.reduceLE,Int.reduceLT];have T_:∀s:Bs,s.length≤4096→au P G MT [.str s,.int .u8 60] (.int .i64 (Lib.indexByte s 60)):=hB 60;have Ua:∀s:Bs,s.length≤4096→au P G MT [.str s,.int .u8 62] (.int .i64 (Lib.indexByte s 62)):=hB 62;refine xL 4 1 (σ:={q:Bs×List Bs // q.1.length+q.2.length≤4096∧M8 s=(M8 q.1).map fun t=>q.2++t}) (fun q=>[(0,.str q.1.1)]) (fun q=>q.1.2.map IV.str) (fun q=>q.1.1.length) ⟨(s,[]),by simpa using hs,by simp⟩ (fun _=>rfl) ?_ ?_
 ·simp only[Gi,↓aX,mX,reduceCtorEq,Nat.reduceEqDiff,Nat.reduceLT,Nat.reduceLeDiff,Nat.reduceAdd,Nat.reduceMul,Int.reduceToNat,Int.reduceLE,Int.reduceLT];exact⟨4,[],rfl,rfl,rfl⟩
 rintro⟨⟨x,l⟩,hl,hm⟩;simp only at hl hm;have no:M8 x=none→Of s= .gf [.nil0,.bool false]:=fun h=>by unfold Of;rw[hm,h];rfl
 simp only[↓aX,mX,reduceCtorEq,Nat.reduceEqDiff,Nat.reduceLT,Nat.reduceLeDiff,Nat.reduceAdd,Nat.reduceMul,Int.reduceToNat,Int.reduceLE,Int.reduceLT];cases x with
 |nil=>
  simp only[↓aX,mX,reduceCtorEq,Nat.reduceEqDiff,Nat.reduceLT,Nat.reduceLeDiff,Nat.reduceAdd,Nat.reduceMul,Int.reduceToNat,Int.reduceLE,Int.reduceLT,show(([]:Bs)==[])=true from rfl];refine⟨1,l.map IV.str,0,_,rfl,rfl,by simp,Si l,?_⟩;have:Of s= .gf [.list (l.map IV.str),.bool true]:=by unfold Of;rw[hm,Ob];simp
  simp only[↓aX,mX,reduceCtorEq,Nat.reduceEqDiff,Nat.reduceLT,Nat.reduceLeDiff,Nat.reduceAdd,Nat.reduceMul,Int.reduceToNat,Int.reduceLE,Int.reduceLT,↓h_,List.drop_zero,this,List.take_of_length_le (show(l.map IV.str).length≤l.length by simp)]
 |cons c q=>
 simp only[List.length_cons] at hl;have hlen:(c::q).length=q.length+1:=rfl;simp only[↓aX,mX,reduceCtorEq,Nat.reduceEqDiff,Nat.reduceLT,Nat.reduceLeDiff,Nat.reduceAdd,Nat.reduceMul,Int.reduceToNat,Int.reduceLE,Int.reduceLT,show(c::q==[])=false from rfl];refine ay (T_ (c::q) (by simp;omega)) ?_;simp only[↓aX,mX,reduceCtorEq,Nat.reduceEqDiff,Nat.reduceLT,Nat.reduceLeDiff,Nat.reduceAdd,Nat.reduceMul,Int.reduceToNat,Int.reduceLE,Int.reduceLT];by_cases tv:c=60
 ·subst tv;have h0:Lib.indexByte (60::q) 60=0:=by simp[Lib.indexByte]
  simp only[↓aX,mX,reduceCtorEq,Nat.reduceEqDiff,Nat.reduceLT,Nat.reduceLeDiff,Nat.reduceAdd,Nat.reduceMul,Int.reduceToNat,Int.reduceLE,Int.reduceLT,h0,show((0:Int)==0)=true from rfl];refine ay (Ua (60::q) (by simp;omega)) ?_;cases hc:Nh [62] (60::q) with
  |none=>
   have h1:=Sf (NC.1 hc);simp only[↓aX,mX,reduceCtorEq,Nat.reduceEqDiff,Nat.reduceLT,Nat.reduceLeDiff,Nat.reduceAdd,Nat.reduceMul,Int.reduceToNat,Int.reduceLE,Int.reduceLT,h1,show IntKind.i64.wrap (-1+1)=0 from rfl,show((0:Int)==0)=true from rfl,↓h_,no (by rw[OL,hc])]
  |some y=>
  obtain⟨a,b⟩:=y;obtain⟨e,ha⟩:=Nn hc;have h1:Lib.indexByte (60::q) 62=(a.length:Int):=by rw[e];exact Rt ha
  have II:a.length+1+b.length=q.length+1:=by
   have:=congrArg List.length e;simp at this;omega
  have h2:(60::q).take (a.length+1)=a++[62]∧(60::q).drop (a.length+1)=b:=by
   rw[e];constructor
   ·rw[show a++62::b=(a++[62])++b by simp];exact List.take_left' (by simp)
   rw[show a++62::b=(a++[62])++b by simp];exact List.drop_left' (by simp)
  have hw:IntKind.i64.wrap ((a.length:Int)+1)=((a.length+1:Nat):Int):=wrap64 (by omega) (by omega);simp only[↓aX,mX,reduceCtorEq,Nat.reduceEqDiff,Nat.reduceLT,Nat.reduceLeDiff,Nat.reduceAdd,Nat.reduceMul,Int.reduceToNat,Int.reduceLE,Int.reduceLT,h1,hw,show(((a.length+1:Nat):Int)==0)=false by simp;omega,show decide (((a.length+1:Nat):Int)<0)=false by simp;omega,lk,Int.natCast_nonneg,Int.toNat_natCast,true_and,hlen,show a.length+1≤q.length+1 by omega,Option.bind_some,Option.map_some,Nat.zero_le,List.drop_zero,h2.1];rw[qg 1 16 26 4 (l.map IV.str) (.str (a++[62])) (by simp[ae]) (by simp) rfl (by simp[IV.cells]) (by omega) (by decide) (by decide) (by simp[ae,Hp.none])];simp only[↓aX,mX,reduceCtorEq,Nat.reduceEqDiff,Nat.reduceLT,Nat.reduceLeDiff,Nat.reduceAdd,Nat.reduceMul,Int.reduceToNat,Int.reduceLE,Int.reduceLT,h1,hw,lk,Int.natCast_nonneg,Int.toNat_natCast,true_and,hlen,show a.length+1≤q.length+1 by omega,Option.bind_some,Option.map_some,Nat.zero_le,Nat.le_refl,List.take_length,h2.2];refine⟨⟨(b,l++[a++[62]]),by simp only[List.length_append,List.length_singleton];omega,?_⟩,by simp only;omega,?_⟩
  ·rw[hm,OL,hc];simp only;cases M8 b<;>simp
  exact Gj 26 (by simp only[↓aX,mX,reduceCtorEq,Nat.reduceEqDiff,Nat.reduceLT,Nat.reduceLeDiff,Nat.reduceAdd,Nat.reduceMul,Int.reduceToNat,Int.reduceLE,Int.reduceLT]) ⟨rfl,trivial⟩ (by simp[put]) (by simp)
 cases hc:Nh [60] (c::q) with
 |none=>
  have h1:=Sf (NC.1 hc);simp only[↓aX,mX,reduceCtorEq,Nat.reduceEqDiff,Nat.reduceLT,Nat.reduceLeDiff,Nat.reduceAdd,Nat.reduceMul,Int.reduceToNat,Int.reduceLE,Int.reduceLT,h1,show((-1:Int)==0)=false from rfl,decide_true,lk,Int.natCast_nonneg,Int.toNat_natCast,true_and,hlen,Option.bind_some,Option.map_some,Nat.zero_le,List.drop_zero,Nat.le_refl,show List.take (q.length+1) (c::q)=c::q from List.take_length (l:=c::q)];rw[qg 1 16 26 4 (l.map IV.str) (.str (c::q)) (by simp[ae]) (by simp) rfl (by simp[IV.cells]) (by omega) (by decide) (by decide) (by simp[ae,Hp.none])];simp only[↓aX,mX,reduceCtorEq,Nat.reduceEqDiff,Nat.reduceLT,Nat.reduceLeDiff,Nat.reduceAdd,Nat.reduceMul,Int.reduceToNat,Int.reduceLE,Int.reduceLT,h1,lk,Int.natCast_nonneg,Int.toNat_natCast,true_and,hlen,Option.bind_some,Option.map_some,Nat.zero_le,Nat.le_refl,show List.take (q.length+1) (c::q)=c::q from List.take_length (l:=c::q),show List.drop (q.length+1) (c::q)=[] from List.drop_length (l:=c::q)];refine⟨⟨([],l++[c::q]),by simp only[List.length_append,List.length_singleton,List.length_nil];omega,?_⟩,by simp only[List.length_nil];omega,?_⟩
  ·rw[hm,OM tv,hc,Ob];simp
  exact Gj 26 (by simp only[↓aX,mX,reduceCtorEq,Nat.reduceEqDiff,Nat.reduceLT,Nat.reduceLeDiff,Nat.reduceAdd,Nat.reduceMul,Int.reduceToNat,Int.reduceLE,Int.reduceLT]) ⟨rfl,trivial⟩ (by simp[put]) (by simp)
 |some y=>
 obtain⟨a,b⟩:=y;obtain⟨e,ha⟩:=Nn hc;have h1:Lib.indexByte (c::q) 60=(a.length:Int):=by rw[e];exact Rt ha
 have II:a.length+1+b.length=q.length+1:=by
  have:=congrArg List.length e;simp at this;omega
 have U2:a.length≠0:=fun h=>by
  have:=List.length_eq_zero_iff.1 h;subst this;simp at e;exact tv e.1
 have h2:(c::q).take a.length=a∧(c::q).drop a.length=60::b:=by
  rw[e];exact⟨List.take_left' rfl,List.drop_left' rfl⟩
 simp only[↓aX,mX,reduceCtorEq,Nat.reduceEqDiff,Nat.reduceLT,Nat.reduceLeDiff,Nat.reduceAdd,Nat.reduceMul,Int.reduceToNat,Int.reduceLE,Int.reduceLT,h1,show((a.length:Int)==0)=false by rw[beq_eq_false_iff_ne];omega,show decide ((a.length:Int)<0)=false by rw[decide_eq_false_iff_not];omega,lk,Int.natCast_nonneg,Int.toNat_natCast,true_and,hlen,show a.length≤q.length+1 by omega,Option.bind_some,Option.map_some,Nat.zero_le,List.drop_zero,h2.1];rw[qg 1 16 26 4 (l.map IV.str) (.str a) (by simp[ae]) (by simp) rfl (by simp[IV.cells]) (by omega) (by decide) (by decide) (by simp[ae,Hp.none])];simp only[↓aX,mX,reduceCtorEq,Nat.reduceEqDiff,Nat.reduceLT,Nat.reduceLeDiff,Nat.reduceAdd,Nat.reduceMul,Int.reduceToNat,Int.reduceLE,Int.reduceLT,h1,lk,Int.natCast_nonneg,Int.toNat_natCast,true_and,hlen,show a.length≤q.length+1 by omega,Option.bind_some,Option.map_some,Nat.zero_le,Nat.le_refl,List.take_length,h2.2,show List.take (q.length+1) (c::q)=c::q from List.take_length (l:=c::q)];refine⟨⟨(60::b,l++[a]),by simp only[List.length_append,List.length_singleton,List.length_cons,List.length_nil];omega,?_⟩,by simp only[List.length_cons];omega,?_⟩
 ·rw[hm,OM tv,hc];simp only;cases M8 (60::b)<;>simp
 exact Gj 26 (by simp only[↓aX,mX,reduceCtorEq,Nat.reduceEqDiff,Nat.reduceLT,Nat.reduceLeDiff,Nat.reduceAdd,Nat.reduceMul,Int.reduceToNat,Int.reduceLE,Int.reduceLT]) ⟨rfl,trivial⟩ (by simp[put]) (by simp)
end

def Oc (acc:List Attr) (m:Bs):List Attr×Bool:=
 if m.all isSp then(acc,true)
 else if(m.dropWhile isSp).length=m.length then(acc,false)
 else match h:Nj (m.dropWhile isSp) with
  |some (a,r)=>Oc (gF acc a) r
  |none=>(acc,false)
termination_by m.length
decreasing_by
 have:=OT h;have:=jf isSp m;omega
def O1 {m:Bs} (acc:List Attr) (h:m.all isSp=true):Oc acc m=(acc,true):=by rw[Oc,Vd h]
def Ph {m:Bs} (acc:List Attr) (h:m.all isSp=false) (h2:(m.dropWhile isSp).length=m.length∨Nj (m.dropWhile isSp)=none):Oc acc m=(acc,false):=by
 rw[Oc,U8 (by simp[h])];split
 ·rfl
 rename_i hl;have h3:=h2.resolve_left hl;split
 ·rename_i a r h4;rw[h3] at h4;cases h4
 rfl
def P9 {m r:Bs} {a:Attr} (acc:List Attr) (h:m.all isSp=false) (h2:¬(m.dropWhile isSp).length=m.length) (h3:Nj (m.dropWhile isSp)=some (a,r)):Oc acc m=Oc (gF acc a) r:=by
 rw[Oc,U8 (by simp[h]),U8 h2];split
 ·rename_i a' r' h4;rw[h3] at h4;simp only[di,U6] at h4;obtain⟨rfl,rfl⟩:=h4;rfl
 rename_i h4;rw[h3] at h4;cases h4
theorem Sj:∀(n:Nat) (m:Bs) (acc:List Attr),m.length≤n→match Nc m with
  |some as=>Oc acc m=(as.foldl gF acc,true)
  |none=>(Oc acc m).2=false:=by
 intro n;induction n with
 |zero=>
  intro m acc hm;have:m=[]:=Vv.1 (by omega);subst this;rw[Nc,Vd (by rfl)];exact O1 acc (by rfl)
 |succ n ih=>
 intro m acc hm;cases h1:m.all isSp with
 |true=>rw[Nc,Vd h1];exact O1 acc h1
 |false=>
 by_cases h2:(m.dropWhile isSp).length=m.length
 ·rw[Nc,U8 (by simp[h1]),Vd h2];simp only[Ph acc h1 (.inl h2)]
 cases h3:Nj (m.dropWhile isSp) with
 |none=>
  rw[Nc,U8 (by simp[h1]),U8 h2];split
  ·rename_i h4;split at h4
   ·rename_i a r h5;rw[h3] at h5;cases h5
   cases h4
  simp only[Ph acc h1 (.inr h3)]
 |some x=>
 obtain⟨a,r⟩:=x;have bI:=OT h3;have hle:=jf isSp m;have:=ih r (gF acc a) (by omega);rw[P9 acc h1 h2 h3];have e:Nc m=(Nc r).map fun l=>a::l:=by
  rw[Nc,U8 (by simp[h1]),U8 h2];split
  ·rename_i a' r' h4;rw[h3] at h4;simp only[di,U6] at h4;obtain⟨rfl,rfl⟩:=h4;rfl
  rename_i h4;rw[h3] at h4;cases h4
 rw[e];cases hr:Nc r with
 |none=>rw[hr] at this;exact this
 |some as=>rw[hr] at this;exact this
def Pj (m:Bs):Bs:=Lib.trimSuffix (Lib.trimPrefix m [60]) [62]
def PT (m:Bs):Bool:=[47].isSuffixOf (Pj m)
def Om (m:Bs):Bs:=if PT m then(Pj m).take ((Pj m).length - 1) else Pj m
def NP (m:Bs):Bs:=(Om m).takeWhile bz
def Q8 (m:Bs):List Attr×Bool:=Oc [] ((Om m).dropWhile bz)
def ON (m:Bs):AV:= .gf [.agg [.bool false,.str (NP m),.list (cD (Q8 m).1),.nil0],.bool (PT m),.bool ((Q8 m).2&&named (NP m))]
def QD (a:Bs):let m:=60::(a++[62]);match Oa ((m.drop 1).dropLast) with
  |some (nm,as,e)=>NP m=nm∧(Q8 m).1=as∧PT m=e∧((Q8 m).2&&named (NP m))=true
  |none=>((Q8 m).2&&named (NP m))=false:=by
 have h1:Pj (60::(a++[62]))=a:=by
  unfold Pj Lib.trimPrefix Lib.trimSuffix Lib.hasPrefix Lib.hasSuffix;simp
 have h2:((60::(a++[62])).drop 1).dropLast=a:=by simp
 have h3:PT (60::(a++[62]))=(a.getLast?==some 47):=by
  unfold PT;rw[h1,VY,Xf];simp only[V8];constructor
  ·rintro⟨t,rfl⟩;simp
  intro h;have fO:a≠[]:=by rintro rfl;simp at h
  rw[XH fO,di] at h;exact⟨a.dropLast,by rw[←h];exact XN fO⟩
 have h4:Om (60::(a++[62]))=if a.getLast?==some 47 then a.dropLast else a:=by
  unfold Om;rw[h3,h1,List.dropLast_eq_take]
 simp only[h2];unfold Oa;simp only;rw[←h4];have hR:=Sj _ ((Om (60::(a++[62]))).dropWhile bz) [] (Va _);unfold Q8 NP;cases hA:Nc ((Om (60::(a++[62]))).dropWhile bz) with
 |none=>
  rw[hA] at hR;simp only[W5,hR,WV]
 |some as=>
 rw[hA] at hR;simp only[U7,hR,WQ];cases hn:named ((Om (60::(a++[62]))).takeWhile bz) with
 |true=>simp[h3];rfl
 |false=>simp
def TL (a b:Bs):(!(Op.bytesLess a b||a==b))=Op.bytesLess b a:=by
 rcases tl a b with h|h|h
 ·rw[h,ny h];rfl
 ·subst h;simp[qq]
 rw[h,ny h];have:(a==b)=false:=by
  rw[VX];rintro rfl;rw[qq] at h;cases h
 rw[this];rfl
def Sk {a y z:Bs} (h1:Op.bytesLess a y=true) (h2:Op.bytesLess z y=false):Op.bytesLess a z=true:=by
 rcases tl z y with h|h|h
 ·rw[h] at h2;cases h2
 ·rw[h];exact h1
 exact rG h1 h
def PL {l:List Attr} {a:Attr} {k:Nat} (hs:qx l) (hk:∀y∈l.drop k,Op.bytesLess a.name y.name=true) (h0:k=0∨∃z,l[k - 1]?=some z∧0<k∧Op.bytesLess a.name z.name=false):gF l a=l.take k++a::l.drop k:=by
 have:=uX (x:=a) (pre:=l.take k) (suf:=l.drop k) (fun y hy=> ?_) hk
 ·rwa[VM] at this
 rcases h0 with rfl|⟨z,hz,sr,bI⟩
 ·simp at hy
 have Hm:k - 1<l.length:=(U9.1 hz).1;have e:l.take k=l.take (k - 1)++[z]:=by
  have:=V2 (l:=l) (i:=k - 1);rw[show k - 1+1=k by omega,hz] at this;exact this
 rw[e] at hy;rcases Vi.1 hy with hy|hy
 ·have LV:qx (l.take (k - 1)++l.drop (k - 1)):=by rw[VM];exact hs
  have h3:=(rT LV).2 y hy z (by rw[Wi Hm,(U9.1 hz).2];simp);cases hc:Op.bytesLess a.name y.name with
  |false=>rfl
  |true=>rw[Sk hc h3] at bI;cases bI
 simp only[Vm] at hy;subst hy;exact bI

theorem S4 {p:Bs} (hp:p≠[]):∀s:Bs,Lib.cut s p=match Nh p s with
  |some (a,b)=>(a,b,true)
  |none=>(s,[],false):=by
 have key:∀s:Bs,match Nh p s with
   |some (a,b)=>Lib.index s p=(a.length:Int)∧s.take a.length=a∧s.drop (a.length+p.length)=b
   |none=>Lib.index s p= -1:=by
  intro s;induction s with
  |nil=>
   simp only[Nh];rcases Lib.index_spec [] p with⟨h,_⟩|⟨i,h,hi,ho,_⟩
   ·exact h
   have:i=0:=(by simpa using hi);subst this;unfold Lib.occAt at ho;cases p with
   |nil=>exact absurd rfl hp
   |cons c p=>simp at ho
  |cons c r ih=>
  unfold Nh;by_cases h:p.isPrefixOf (c::r)=true
  ·rw[Vd h];simp only[VR,VT];exact⟨Lib.index_first (i:=0) (WC _) h (fun _ h=>absurd h (Nat.not_lt_zero _)),by simp⟩
  rw[U8 h];have h1:Lib.index (c::r) p=if Lib.index r p== -1 then -1 else Lib.index r p+1:=by
   have:=Lib.index_drop (s:=c::r) (sub:=p) (i:=1) (fun j hj=>by
    have:j=0:=(by omega);subst this;exact Xq.2 h) (by simp)
   simpa using this
  cases hc:Nh p r with
  |none=>
   rw[hc] at ih;simp only at ih;simp only[XF];rw[h1,ih];rfl
  |some x=>
  obtain⟨a,b⟩:=x;rw[hc] at ih;simp only at ih;obtain⟨i1,i2,i3⟩:=ih;simp only[Vf,Vo];have e:((a.length:Int)== -1)=false:=by rw[VX];omega
  refine⟨?_,by rw[Wv,i2],?_⟩
  ·rw[h1,i1,e];simp
  rw[show a.length+1+p.length=(a.length+p.length)+1 by omega,Wj,i3]
 intro s;have:=key s;unfold Lib.cut;cases hc:Nh p s with
 |none=>rw[hc] at this;simp only at this ⊢;rw[this,U8 (by decide)]
 |some x=>
 obtain⟨a,b⟩:=x;rw[hc] at this;simp only at this ⊢;rw[this.1,Vd (by omega)];simp[this.2.1,this.2.2]
def Sl (s p:Bs):(Lib.cut s p).1.length≤s.length∧(Lib.cut s p).2.1.length≤s.length:=by
 unfold Lib.cut;split<;>simp;omega
def Pk {env:Env} {H:Hp} {l:Lb} {cs:List AV} (h1:env 2= .ptr l 4 0 0) (h2:H l= .live ⟨4,[cs]⟩) (h3:cs.length=4) (R:AV→Hp→Prop) :
  fX [(some (some 4),2),(none,3),(none,4)] R .ret env H=R (.gf [.agg cs,env 3,env 4]) H:=by
 simp[fX,ef,oO,gD,ee,h1,h2,h3,Vq]
section
variable {P:Program} {G:Nat→Option (List IV)}
abbrev TM (P:Program) (G:Nat→Option (List IV)) (f:Nat):Prop:=∀s t:Bs,s.length≤4096→au P G f [.str s,.str t] (.gf [.str (Lib.cut s t).1,.str (Lib.cut s t).2.1,.bool (Lib.cut s t).2.2])
def N2 (Nt M1 M9 cf de NX MS bd:Nat):AC:=
(aM [aQ 2 (.new [(.bool false),(.str []),.nil0,.nil0]),jM 3 false,jM 4 false] (aM [MR 18 0,aQ 19 (.call Nt [(.t 18),(.c (.str [60]))]),aQ 20 (.call M1 [(.t 19),(.c (.str [62]))]),MR 0 20] (aM [MR 22 0,aQ 23 (.call M9 [(.t 22),(.c (.str [47]))]),MR 21 23,ox 24 21 0,ox 25 21 1,MR 0 24,MR 5 25] (aM [MR 26 0,oF 27 26,MR 28 0,aQ 29 (.call cf [(.t 28),(.c (.str [97,98,99,100,101,102,103,104,105,106,107,108,109,110,111,112,113,114,115,116,117,118,119,120,121,122]))]),oF 30 29,et 31 .sub 27 30,MR 6 31] (aM [MR 32 0,MR 33 6,aQ 34 (.kB (.t 32) none (some (.t 33))),aQ 35 (.sg [(.bool false),(.str []),.nil0,.nil0] [(1,(1,(.t 34)))]),aQ 7 (.new [(.bool false),(.str []),.nil0,.nil0]),gg (.store 4 (.t 7) (.t 35))] (.gh .vk (aM [MR 36 0,MR 37 6,aQ 38 (.kB (.t 36) (some (.t 37)) none),MR 0 38] (.seq (.block 0 (.loop (.seq (aM [MR 39 0,aQ 40 (.call de [(.t 39),(.c (.str [32,10]))]),aQ 41 (.bin .neq (.t 40) (.c (.str [])))] (.cond (.t 41) .skip (.exit 0))) (.block 1 (aM [MR 42 0,aQ 43 (.call cf [(.t 42),(.c (.str [32,10]))]),MR 8 43] (aM [MR 45 8,aQ 46 (.call NX [(.t 45),(.c (.str [61,34]))]),MR 44 46,ox 47 44 0,ox 48 44 1,ox 49 44 2,MR 9 47,MR 10 48,MR 11 49] (aM [MR 51 10,aQ 52 (.call NX [(.t 51),(.c (.str [34]))]),MR 50 52,ox 53 50 0,ox 54 50 1,ox 55 50 2,MR 12 53,MR 13 54,MR 14 55] (aM [MR 57 12,aQ 58 (.call MS [(.t 57),(me true)]),MR 56 58,ox 59 56 0,ox 60 56 1,MR 15 59,MR 16 60] (.seq (aM [MR 61 8,oF 62 61,MR 63 0,oF 64 63,et 65 .eql 62 64,MR 66 65,gV 67 66 11,iR 68 66 (.not (.t 67)),sj 69 66 68,MR 70 69,gV 71 70 14,iR 72 70 (.not (.t 71)),sj 73 70 72,MR 74 73,gV 75 74 16,iR 76 74 (.not (.t 75)),sj 77 74 76,MR 78 77,gV 79 78 9,iR 80 78 (.call bd [(.t 79)]),iR 81 78 (.not (.t 80)),sj 82 78 81] (.cond (.t 82) (.gh (.xd (.loc 1) (.loc 7) 2) (aM [gz 83 4 7,MR 84 5,gg (.store 4 (.t 2) (.t 83)),MR 3 84,jM 4 false] .ret)) .skip)) (aM [ep 85 7 2,fm 86 85,oy 87 86,MR 17 87] (aM [ep 88 7 2,fm 89 88,MR 90 9,MR 91 15,aQ 92 (.sg [(.str []),(.str [])] [(0,(1,(.t 90))),(1,(1,(.t 91)))]),aQ 93 (.lits 1 2 [(.str []),(.str [])] [(0,(.t 92))]),aQ 94 (.app (.t 89) (.t 93) 2 32),ep 95 7 2,gg (.store 1 (.t 95) (.t 94))] (.seq (.block 2 (.loop (.seq (aM [MR 96 17,eY 97 .gtr 96 0,MR 98 97,jn 99 98 7 2,jm 100 98 99,cU 101 98 17,dW 102 98 (.bin .sub (.t 101) (jS 1)),dW 103 98 (.tR (.t 100) (.t 102) 2),jn 104 98 103 0,jm 105 98 104,cU 106 98 9,dW 107 98 (.bin .gtr (.t 105) (.t 106)),jT 108 98 107] (.cond (.t 108) .skip (.exit 2))) (.seq (.block 3 (.fK [ep 111 7 2,fm 112 111,MR 113 17,ep 114 7 2,fm 115 114,MR 116 17,eY 117 .sub 116 1,ep 118 7 2,fm 119 118,MR 120 17,eY 121 .sub 120 1,jL 122 119 121 2,gz 123 2 122,ep 124 7 2,fm 125 124,MR 126 17,jL 127 125 126 2,gz 128 2 127,jL 129 112 113 2,gg (.store 2 (.t 129) (.t 123)),jL 130 115 117 2,gg (.store 2 (.t 130) (.t 128))] [[],[0],[],[],[3],[],[5],[],[7],[],[9],[8,10],[11],[],[13],[],[14,15],[16],[1,2,0,1,2,7,8,9,10,11,12,17],[18,12,0,1,2,7,8,9,10,11,12,17],[4,6,0,1,2,3,4,5,6,7,8,9,10,11,12,13,14,15,16,17,18,19],[20,17,19,0,1,2,3,4,5,6,7,8,9,10,11,12,13,14,15,16,17,18,19]] [.no,.rw [.loc 7] [],.no,.no,.rw [.loc 7] [],.no,.no,.no,.rw [.loc 7] [],.no,.no,.no,(.rw [(.loc 94)] []),.no,.rw [.loc 7] [],.no,.no,(.rw [(.loc 94)] []),.no,(.rw [] [(.loc 94)]),.no,(.rw [] [(.loc 94)])])) (.cq [MR 109 17,eY 110 .sub 109 1,MR 17 110]))))) (.cq [MR 131 13,MR 0 131]))))))))))))) (.gh (.xd (.loc 1) (.loc 7) 2) (.seq (.fK [gz 132 4 7,MR 133 5,ep 134 7 1,fm 135 134,aQ 136 (.call bd [(.t 135)]),gg (.store 4 (.t 2) (.t 132)),MR 3 133,MR 4 136] [[],[],[],[2],[3],[0,4,0],[1,5,0,1,5],[4,6,0,1,2,3,4,5,6]] [.rw [.loc 7] [],.no,.no,.rw [.loc 7] [],.no,.rw [] [.loc 2],.no,.no]) .ret))))))))))
set_option maxHeartbeats 4000000 in
def Te {Nb Nt M1 M9 cf de NX MS bd:Nat} (hF:aw P G Nb=some (137,[((some (some 4)),2),(none,3),(none,4)],(N2 Nt M1 M9 cf de NX MS bd).bare)) (M:Bs) (hM:M.length≤4096)
  (UD:∀s:Bs,s.length≤4096→au P G Nt [.str s,.str [60]] (.str (Lib.trimPrefix s [60])))
  (Ub:∀s:Bs,s.length≤4096→au P G M1 [.str s,.str [62]] (.str (Lib.trimSuffix s [62])))
  (UE:∀s:Bs,s.length≤4096→au P G M9 [.str s,.str [47]] (.gf [.str (if [47].isSuffixOf s then s.take (s.length - 1) else s),.bool ([47].isSuffixOf s)]))
  (UF:∀s:Bs,s.length≤4096→au P G cf [.str s,.str cY] (.str (s.dropWhile bz)))
  (UG:∀s:Bs,s.length≤4096→au P G cf [.str s,.str [32,10]] (.str (s.dropWhile isSp)))
  (hT:∀s:Bs,s.length≤4096→∃t:Bs,au P G de [.str s,.str [32,10]] (.str t)∧(t==[])=s.all isSp)
  (hC:TM P G NX) (TN:∀s:Bs,s.length≤4096→au P G MS [.str s,.bool true] (Nx true s))
  (hN:∀s:Bs,s.length≤4096→au P G bd [.str s] (.bool (named s))):au P G Nb [.str M] (ON M):=by
 refine aR hF (by simp) (by simp[ah,AV.an]) (by simp[AV.an,ah,ON]) ?_;have l1:∀s p:Bs,(Lib.trimPrefix s p).length≤s.length:=fun s p=>by unfold Lib.trimPrefix;split<;>simp
 have l2:∀s p:Bs,(Lib.trimSuffix s p).length≤s.length:=fun s p=>by
  unfold Lib.trimSuffix;split
  ·simp only[List.length_take];omega
  exact Nat.le_refl _
 have hX:(Pj M).length≤4096:=Nat.le_trans (l2 _ _) (Nat.le_trans (l1 _ _) hM);have hY:(Om M).length≤4096:=by
  unfold Om;split
  ·simp only[List.length_take];omega
  exact hX
 have hD:((Om M).dropWhile bz).length≤(Om M).length:=jf _ _;have UH:(NP M).length+((Om M).dropWhile bz).length=(Om M).length:=by
  rw[NP,←List.length_append,List.takeWhile_append_dropWhile]
 have E0:(Om M).take (NP M).length=NP M∧(Om M).drop (NP M).length=(Om M).dropWhile bz:=by
  have e:Om M=NP M++(Om M).dropWhile bz:=List.takeWhile_append_dropWhile.symm;constructor
  ·conv=>lhs;rw[e]
   exact List.take_left' rfl
  conv=>lhs;rw[e]
  exact List.drop_left' rfl
 have HV:IntKind.i64.wrap (((Om M).length:Int) - (((Om M).dropWhile bz).length:Int))=((NP M).length:Int):=by rw[wrap64 (by omega) (by omega)];omega
 unfold N2;simp only[↓aX,mX,seval];refine ay (UD M hM) ?_;simp only[↓aX,mX,seval];refine ay (Ub _ (Nat.le_trans (l1 _ _) hM)) ?_;rw[show Lib.trimSuffix (Lib.trimPrefix M [60]) [62]=Pj M from rfl];simp only[↓aX,mX,seval];refine ay (UE _ hX) ?_;rw[show(if [47].isSuffixOf (Pj M) then(Pj M).take ((Pj M).length - 1) else Pj M)=Om M from rfl,show [47].isSuffixOf (Pj M)=PT M from rfl];simp only[↓aX,mX,seval];refine ay (UF _ hY) ?_;simp only[↓aX,mX,seval,HV,lk,Int.natCast_nonneg,Int.toNat_natCast,true_and,show(NP M).length≤(Om M).length by omega,Option.bind_some,Option.map_some,Nat.zero_le,List.drop_zero,E0.1];rw[Ox];refine⟨_,_,Qm (q:= .loc 7) (cs:=[.bool false,.str (NP M),.nil0,.nil0]) (j:=2) (d:=1) (sz:=2) rfl rfl (by simp[ae,Hp.none]) (by decide),?_⟩;simp only[↓aX,mX,seval,HV,lk,Int.natCast_nonneg,Int.toNat_natCast,true_and,show(NP M).length≤(Om M).length by omega,Option.bind_some,Option.map_some,Nat.zero_le,Nat.le_refl,List.take_length,E0.2];refine pe (σ:={q:Bs×List Attr // q.1.length+q.2.length≤4096∧Q8 M=Oc q.2 q.1∧qx q.2}) (fun _=>[.loc 2,.loc 7,.loc 1]) (fun _ _=>false)
  (fun q=>[(0,.str q.1.1),(2,.ptr (.loc 2) 4 0 0),(5,.bool (PT M)),(7,.ptr (.loc 7) 4 0 0)])
  (fun q=>[(.loc 2,⟨4,[[.bool false,.str [],.nil0,.nil0]]⟩),(.loc 7,⟨4,[[.bool false,.str (NP M),.sl (.loc 1) 2 0 q.1.2.length,.nil0]]⟩),(.loc 1,⟨2,aB (cD q.1.2)⟩)])
  (fun q=>q.1.1.length) ⟨((Om M).dropWhile bz,[]),by simp only[List.length_nil];omega,rfl,trivial⟩ (fun _=>rfl) (fun q=>by simp[ah,AV.an]) ?_ ⟨[],?_⟩ ?_
 ·rintro q r hr cs bV l hl;simp only[List.mem_cons,List.not_mem_nil,or_false] at hr;rcases hr with rfl|rfl|rfl
  ·simp only[List.mem_singleton] at bV;subst bV;simp[ah,AV.an] at hl
  ·simp only[List.mem_singleton] at bV;subst bV;simp[ah,AV.an] at hl;subst hl;simp
  rw[bU bV] at hl;simp at hl
 ·refine⟨?_,?_,?_,by simp[dn],fun l _=>⟨id,fun _=>rfl⟩⟩
  ·intro l hf hu;exfalso;apply hu;cases l<;>simp_all[Lb.fresh,ae,Hp.none]
  ·simp[k_,dn,bJ,put]
  simp[tc,dn,ae,dO,bu,bJ,aB,cD]
 rintro⟨⟨m,l⟩,Uc,hA,hs⟩;simp only at Uc hA hs;rw[Cf];obtain⟨t,ht,T1⟩:=hT m (by omega);simp only[↓aX,mX,seval,cF,bW];refine ay ht ?_;have out:∀b:Bool,Oc l m=(l,b)→ON M= .gf [.agg [.bool false,.str (NP M),.list (cD l),.nil0],.bool (PT M),.bool (b&&named (NP M))]:=fun b h=>by unfold ON;rw[hA,h]
 cases wu:m.all isSp with
 |true=>
  rw[wu] at T1;simp only[↓aX,mX,seval,T1];refine⟨2,cD l,0,l.length,[.bool false,.str (NP M),.sl (.loc 1) 2 0 l.length,.nil0],rfl,rfl,rfl,by simp,by rw[bp];omega,nW _,?_⟩;simp only[↓aX,mX,seval,List.drop_zero,List.take_of_length_le (show(cD l).length≤l.length by rw[bp];exact Nat.le_refl _)];refine⟨rfl,jw (hN (NP M) (by omega)) ?_⟩;have e:=out true (O1 l wu);simp only[Bool.true_and] at e;simp only[↓aX,mX,seval];rw[Pk (l:= .loc 2) (cs:=[.bool false,.str (NP M),.list (cD l),.nil0]) rfl (by simp[ae]) rfl];simp only[↓aX,mX,seval,e]
 |false=>
 rw[wu] at T1;have zR:=jf isSp m;obtain⟨w,hw⟩:∃w,w=m.dropWhile isSp:=⟨_,rfl⟩;rw[←hw] at zR;simp only[↓aX,mX,seval,T1];refine ay (UG m (by omega)) ?_;rw[←hw];simp only[↓aX,mX,seval];refine ay (hC w [61,34] (by omega)) ?_;have c1:=S4 (p:=[61,34]) (by simp) w;obtain⟨⟨nm,af,ok⟩,iS⟩:∃r,Lib.cut w [61,34]=r:=⟨_,rfl⟩;have g1:=Sl w [61,34];rw[iS] at c1 g1;rw[iS];simp only at g1;simp only[↓aX,mX,seval];refine ay (hC af [34] (by omega)) ?_;have c2:=S4 (p:=[34]) (by simp) af;obtain⟨⟨va,ne,th⟩,T0⟩:∃r,Lib.cut af [34]=r:=⟨_,rfl⟩;have g2:=Sl af [34];rw[T0] at c2 g2;rw[T0];simp only at g2;simp only[↓aX,mX,seval];refine ay (TN va (by omega)) ?_;obtain⟨mv,mg,UI,UJ⟩:∃mv mg,Nx true va= .gf [.str mv,.bool mg]∧MY true va=if mg then some mv else none:=by
  unfold Nx;cases MY true va with
  |none=>exact⟨[],false,rfl,rfl⟩
  |some t=>exact⟨t,true,rfl,rfl⟩
 rw[UI];simp only[↓aX,mX,seval];have UK:ok=false→Nj w=none:=fun h=>by
  unfold Nj;cases hq:Nh [61,34] w with
  |none=>rfl
  |some y=>rw[hq] at c1;simp only[Prod.mk.injEq] at c1;rw[h] at c1;simp at c1
 have UL:th=false→Nj w=none:=fun h=>by
  unfold Nj;cases hq:Nh [61,34] w with
  |none=>rfl
  |some y=>
  rw[hq] at c1;simp only[Prod.mk.injEq] at c1;simp only[Option.bind_some,←c1.2.1];cases wx:Nh [34] af with
  |none=>rfl
  |some z=>rw[wx] at c2;simp only[Prod.mk.injEq] at c2;rw[h] at c2;simp at c2
 have yes:ok=true→th=true→Nj w=if mg then(if named nm=true then some (⟨nm,mv⟩,ne) else none) else none:=fun h1 h2=>by
  unfold Nj;cases hq:Nh [61,34] w with
  |none=>rw[hq] at c1;simp only[Prod.mk.injEq] at c1;rw[h1] at c1;simp at c1
  |some y=>
  rw[hq] at c1;simp only[Prod.mk.injEq] at c1;simp only[Option.bind_some,←c1.2.1,←c1.1];cases wx:Nh [34] af with
  |none=>rw[wx] at c2;simp only[Prod.mk.injEq] at c2;rw[h2] at c2;simp at c2
  |some z=>
  rw[wx] at c2;simp only[Prod.mk.injEq] at c2;simp only[Option.bind_some,←c2.1,←c2.2.1,UJ];cases mg<;>simp
 have bad:w.length=m.length∨Nj w=none→ON M= .gf [.agg [.bool false,.str (NP M),.list (cD l),.nil0],.bool (PT M),.bool false]:=fun h=>out false (Ph l wu (by rw[←hw];exact h));have Lc:∀b:Bool,(((w.length:Nat):Int)==((m.length:Nat):Int))=b→(b=true↔w.length=m.length):=fun b h=>by rw[←h];simp;omega
 have CM:=List.take_of_length_le (show(cD l).length≤l.length by rw[bp];exact Nat.le_refl _);cases h1:(((w.length:Nat):Int)==((m.length:Nat):Int)) with
 |true=>
  simp only[↓aX,mX,seval,h1];refine⟨2,cD l,0,l.length,[.bool false,.str (NP M),.sl (.loc 1) 2 0 l.length,.nil0],rfl,rfl,rfl,by simp,by rw[bp];omega,nW _,?_⟩;simp only[↓aX,mX,seval,List.drop_zero,CM];rw[Pk (l:= .loc 2) (cs:=[.bool false,.str (NP M),.list (cD l),.nil0]) rfl (by simp[ae]) rfl];simp only[↓aX,mX,seval,bad (.inl ((Lc _ h1).1 rfl))]
 |false=>
 have wL:¬w.length=m.length:=fun h=>by have:=(Lc _ h1).2 h;cases this
 cases j4:ok with
 |false=>
  simp only[↓aX,mX,seval,h1,j4];refine⟨2,cD l,0,l.length,[.bool false,.str (NP M),.sl (.loc 1) 2 0 l.length,.nil0],rfl,rfl,rfl,by simp,by rw[bp];omega,nW _,?_⟩;simp only[↓aX,mX,seval,List.drop_zero,CM];rw[Pk (l:= .loc 2) (cs:=[.bool false,.str (NP M),.list (cD l),.nil0]) rfl (by simp[ae]) rfl];simp only[↓aX,mX,seval,bad (.inr (UK j4))]
 |true=>
 cases Tf:th with
 |false=>
  simp only[↓aX,mX,seval,h1,j4,Tf];refine⟨2,cD l,0,l.length,[.bool false,.str (NP M),.sl (.loc 1) 2 0 l.length,.nil0],rfl,rfl,rfl,by simp,by rw[bp];omega,nW _,?_⟩;simp only[↓aX,mX,seval,List.drop_zero,CM];rw[Pk (l:= .loc 2) (cs:=[.bool false,.str (NP M),.list (cD l),.nil0]) rfl (by simp[ae]) rfl];simp only[↓aX,mX,seval,bad (.inr (UL Tf))]
 |true=>
 have yes:=yes j4 Tf;cases Q9:mg with
 |false=>
  simp only[↓aX,mX,seval,h1,j4,Tf,Q9];refine⟨2,cD l,0,l.length,[.bool false,.str (NP M),.sl (.loc 1) 2 0 l.length,.nil0],rfl,rfl,rfl,by simp,by rw[bp];omega,nW _,?_⟩;simp only[↓aX,mX,seval,List.drop_zero,CM];rw[Pk (l:= .loc 2) (cs:=[.bool false,.str (NP M),.list (cD l),.nil0]) rfl (by simp[ae]) rfl];simp only[↓aX,mX,seval,bad (.inr (by rw[yes,Q9];rfl))]
 |true=>
 simp only[↓aX,mX,seval,h1,j4,Tf,Q9];refine ay (hN nm (by omega)) ?_;cases QM:named nm with
 |false=>
  simp only[↓aX,mX,seval,h1,j4,Tf,Q9,QM];refine⟨2,cD l,0,l.length,[.bool false,.str (NP M),.sl (.loc 1) 2 0 l.length,.nil0],rfl,rfl,rfl,by simp,by rw[bp];omega,nW _,?_⟩;simp only[↓aX,mX,seval,List.drop_zero,CM];rw[Pk (l:= .loc 2) (cs:=[.bool false,.str (NP M),.list (cD l),.nil0]) rfl (by simp[ae]) rfl];simp only[↓aX,mX,seval,bad (.inr (by rw[yes,Q9,QM];rfl))]
 |true=>
 have wv:=P9 l wu (by rw[←hw];exact wL) (by rw[←hw,yes,Q9,QM];rfl);simp only[↓aX,mX,seval,h1,j4,Tf,Q9,QM];rw[qg 2 32 94 1 (cD l) (.agg [.str nm,.str mv]) (by simp[ae]) (bp _) rfl (by simp[IV.cells]) (by omega) (by decide) (by decide) (by simp[ae,Hp.none])];simp only[↓aX,mX,seval];have zB:cD l++[IV.agg [.str nm,.str mv]]=cD (l++[⟨nm,mv⟩]):=by simp[cD,Attr.iv,Attr.cs]
 rw[zB];refine pe (σ:={k:Nat // k≤l.length∧∀y∈l.drop k,Op.bytesLess nm y.name=true}) (fun _=>[.loc 2,.loc 7,.loc 94]) (fun _ _=>false)
  (fun q=>[(2,.ptr (.loc 2) 4 0 0),(5,.bool (PT M)),(7,.ptr (.loc 7) 4 0 0),(9,.str nm),(13,.str ne),(17,.int .i64 (q.1:Int))])
  (fun q=>[(.loc 2,⟨4,[[.bool false,.str [],.nil0,.nil0]]⟩),(.loc 7,⟨4,[[.bool false,.str (NP M),.sl (.loc 94) 2 0 (l.length+1),.nil0]]⟩),(.loc 94,⟨2,aB (cD (l.take q.1++⟨nm,mv⟩::l.drop q.1))⟩)])
  (fun q=>q.1) ⟨l.length,Nat.le_refl _,by simp⟩ (fun _=>rfl) (fun q=>by simp[ah,AV.an]) ?_ ⟨[],?_⟩ ?_
 ·rintro q r hr cs bV z hz;simp only[List.mem_cons,List.not_mem_nil,or_false] at hr;rcases hr with rfl|rfl|rfl
  ·simp only[List.mem_singleton] at bV;subst bV;simp[ah,AV.an] at hz
  ·simp only[List.mem_singleton] at bV;subst bV;simp[ah,AV.an] at hz;subst hz;simp
  rw[bU bV] at hz;simp at hz
 ·refine⟨?_,?_,?_,by simp[dn],fun l _=>⟨id,fun _=>rfl⟩⟩
  ·intro l hf hu;exfalso;apply hu;cases l<;>simp_all[Lb.fresh,ae,Hp.none]
  ·simp[k_,dn,bJ,put]
  simp[tc,dn,ae,dO,bu,bJ,dy,List.take_of_length_le,List.drop_of_length_le];simp[aB,nT]
 rintro⟨k,hk,PS⟩;rw[Cf];simp only[↓aX,mX,seval,cF,bW];obtain⟨L,hL⟩:∃L,L=l.take k++(⟨nm,mv⟩:Attr)::l.drop k:=⟨_,rfl⟩;have E0:(l.take k).length=k:=by rw[List.length_take];omega
 have LU:L.length=l.length+1:=by rw[hL];simp only[List.length_append,List.length_cons,List.length_drop,E0];omega
 have hx:L[k]?=some ⟨nm,mv⟩:=by rw[hL,List.getElem?_append_right (by omega),E0,Nat.sub_self];rfl
 rw[←hL];by_cases sr:0<k
 ·have Ju:IntKind.i64.wrap ((k:Int) - 1)=((k - 1:Nat):Int):=by rw[wrap64 (by omega) (by omega)];omega
  obtain⟨z,hz⟩:∃z,l[k - 1]?=some z:=⟨_,List.getElem?_eq_getElem (by omega)⟩;have hy:L[k - 1]?=some z:=by rw[hL,List.getElem?_append_left (by omega),List.getElem?_take_of_lt (by omega)];exact hz
  simp only[↓aX,mX,seval,show decide (((k:Nat):Int)>0)=true by simpa using sr,Ju,Int.natCast_nonneg,Int.toNat_natCast,Nat.zero_add,ik hx,ik hy,show k<l.length+1 by omega,show k - 1<l.length+1 by omega,TL];cases nn:Op.bytesLess nm z.name with
  |true=>
   simp only[↓aX,mX,seval,nn];refine⟨by decide +kernel,?_⟩;simp only[↓aX,mX,seval,Ju,Int.natCast_nonneg,Int.toNat_natCast,Nat.zero_add,ik hx,ik hy,show k<l.length+1 by omega,show k - 1<l.length+1 by omega,eP];have D1:(L.set k z)[k - 1]?=some z:=(by rw[List.getElem?_set_ne (by omega)];exact hy);rw[m_ L k z];simp only[↓aX,mX,seval,ik D1,Ju];rw[show(aB (cD (L.set k z))).set (k - 1) [.str nm,.str mv]=aB (cD ((L.set k z).set (k - 1) ⟨nm,mv⟩)) from m_ _ _ ⟨nm,mv⟩];have e1:l.take k=l.take (k - 1)++[z]:=by
    have:=List.take_add_one (l:=l) (i:=k - 1);rw[show k - 1+1=k by omega,hz] at this;exact this
   have e2:l.drop (k - 1)=z::l.drop k:=by
    have:=drop_eq hz;rw[show k - 1+1=k by omega] at this;exact this
   have UM:(L.set k z).set (k - 1) ⟨nm,mv⟩=l.take (k - 1)++(⟨nm,mv⟩:Attr)::l.drop (k - 1):=by
    obtain⟨p,hp⟩:∃p,p=l.take (k - 1):=⟨_,rfl⟩;have BS:p.length=k - 1:=(by rw[hp,List.length_take];omega);rw[hL,e1,e2,←hp];have UN:k=p.length+1:=(by omega);rw[UN];simp[List.set_append_right]
   rw[UM];refine⟨⟨k - 1,by omega,fun y hy=> ?_⟩,by simp only;omega,[],?_⟩
   ·rw[e2] at hy;rcases List.mem_cons.1 hy with rfl|hy
    ·exact nn
    exact PS y hy
   refine⟨?_,?_,?_,by simp[dn],fun l _=>⟨id,fun _=>rfl⟩⟩
   ·intro l hf hu;exfalso;apply hu;cases l<;>simp_all[Lb.fresh,ae,Hp.none]
   ·simp[k_,dn,bJ,put]
   have hr:∀xs:List IV,dO (dn []) ⟨2,aB xs⟩=⟨2,aB xs⟩:=fun xs=>dy _ _ _;simp only[tc,hr];simp[dn,ae,dO,bu,bJ]
  |false=>
  have Tg:gF l ⟨nm,mv⟩=L:=by rw[hL];exact PL hs PS (.inr ⟨z,hz,sr,nn⟩)
  simp only[↓aX,mX,seval,nn];refine⟨⟨(ne,gF l ⟨nm,mv⟩),by rw[yK];simp only;omega,by rw[hA,wv],yS _ hs⟩,by simp only;omega,[(.loc 1,.loc 94)],?_⟩;refine⟨?_,?_,?_,by simp[dn],?_⟩
  ·intro l hf hu;exfalso;apply hu;cases l<;>simp_all[Lb.fresh,ae,Hp.none]
  ·simp[k_,dn,bJ,put]
  ·have hr:∀xs:List IV,dO (dn [(.loc 1,.loc 94)]) ⟨2,aB xs⟩=⟨2,aB xs⟩:=fun xs=>dy _ _ _;simp only[tc,hr,yK];simp[dn,ae,dO,bu,bJ,Tg]
  intro l hl;simp only[List.mem_cons,List.not_mem_nil,or_false] at hl;rcases hl with rfl|rfl|rfl
  ·exact⟨fun _=>rfl,fun _=>rfl⟩
  ·exact⟨fun _=>rfl,fun _=>rfl⟩
  exact⟨fun _=>rfl,fun h=>by simp[Lb.fresh] at h⟩
 have Ud:k=0:=by omega
 have Tg:gF l ⟨nm,mv⟩=L:=by rw[hL];exact PL hs PS (.inl Ud)
 simp only[↓aX,mX,seval,show decide (((k:Nat):Int)>0)=false by simpa using sr];refine⟨⟨(ne,gF l ⟨nm,mv⟩),by rw[yK];simp only;omega,by rw[hA,wv],yS _ hs⟩,by simp only;omega,[(.loc 1,.loc 94)],?_⟩;refine⟨?_,?_,?_,by simp[dn],?_⟩
 ·intro l hf hu;exfalso;apply hu;cases l<;>simp_all[Lb.fresh,ae,Hp.none]
 ·simp[k_,dn,bJ,put]
 ·have hr:∀xs:List IV,dO (dn [(.loc 1,.loc 94)]) ⟨2,aB xs⟩=⟨2,aB xs⟩:=fun xs=>dy _ _ _;simp only[tc,hr,yK];simp[dn,ae,dO,bu,bJ,Tg]
 intro l hl;simp only[List.mem_cons,List.not_mem_nil,or_false] at hl;rcases hl with rfl|rfl|rfl
 ·exact⟨fun _=>rfl,fun _=>rfl⟩
 ·exact⟨fun _=>rfl,fun _=>rfl⟩
 exact⟨fun _=>rfl,fun h=>by simp[Lb.fresh] at h⟩
end
end Go.Am
