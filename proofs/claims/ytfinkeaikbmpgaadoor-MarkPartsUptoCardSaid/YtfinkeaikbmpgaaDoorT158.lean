import Derived.Test.YtfinkeaikbmpgaaDoorKT156
import Derived.Shelf.Strconv.AtoiAll
import Derived.Shelf.Strconv.Itoa3
import Derived.Shelf.Strings.Cut
import Derived.Shelf.Strings.Prefix
set_option linter.unusedSimpArgs false
set_option linter.unusedVariables false
set_option linter.unnecessarySimpa false
set_option linter.defProp false
/- The laws MarkParses, MarkParts; the kit's contracts of strings.Index, Cut, TrimPrefix, TrimSuffix. -/
namespace Go.Am
open Go Go.RowKit Go.Shelf Go.Proofs
section
variable {P:Program} {G:Nat→Option (List IV)} {ρ:Ren}
def Qk (s:Bs):(⟨s.toArray⟩:ByteArray).size=s.length:=by simp[ByteArray.size]
def QG {w:World} {I:Nat→Prop} {g:Nat} {m:Int} (hG:zb G I w) (h1:G g=some [.int .i64 m]):w.cell? ⟨g,0,none⟩=some (.int .i64 m):=by
 obtain⟨⟨⟨v,e1,e2⟩,_⟩,_⟩:=hG _ _ h1;simp only[NN] at e2;rw[e1,e2]
def To (L:Lays.n143 P ρ) {m:Int} (h1:G (ρ.g 1)=some [.int .i64 m]) (s t:Bs) (hs:s.length≤2^24):au P G (ρ.f 143) [.str s,.str t] (.int .i64 (Lib.index s t)):=by
 refine oT (by simp[ah,AV.an]) (by simp[AV.an]) fun w I vs hG hv=> ?_;simp only[br,RV] at hv;obtain⟨v1,u1,rfl,rfl,v2,u2,rfl,rfl,rfl⟩:=hv;refine(Any.strings_Index L ⟨s.toArray⟩ ⟨t.toArray⟩ m w (by rw[Qk];omega) (QG hG h1)).mono ?_;rintro e w' ⟨rfl,rfl⟩;exact⟨_,rfl,Below.refl _ _,fun I'=>by simp[RV]⟩
def Um (L:Lays.n145 P ρ) {m:Int} (h1:G (ρ.g 1)=some [.int .i64 m]):TM P G (ρ.f 145):=by
 intro s t hs;refine oT (by simp[ah,AV.an]) (by simp[AV.an,ah]) fun w I vs hG hv=> ?_;simp only[br,RV] at hv;obtain⟨v1,u1,rfl,rfl,v2,u2,rfl,rfl,rfl⟩:=hv;refine(Any.strings_Cut L ⟨s.toArray⟩ ⟨t.toArray⟩ m w (by rw[Qk];omega) (QG hG h1)).mono ?_;rintro e w' ⟨rfl,n,rfl⟩;exact⟨_,rfl,⟨rfl,rfl,rfl,Va _,fun _ _=>rfl⟩,fun I'=>by simp[RV,br]⟩
def Tq (L:Lays.n101 P ρ) (s t:Bs):au P G (ρ.f 101) [.str s,.str t] (.str (Lib.trimPrefix s t)):=by
 refine oT (by simp[ah,AV.an]) (by simp[AV.an]) fun w I vs hG hv=> ?_;simp only[br,RV] at hv;obtain⟨v1,u1,rfl,rfl,v2,u2,rfl,rfl,rfl⟩:=hv;refine(Any.strings_TrimPrefix L ⟨s.toArray⟩ ⟨t.toArray⟩ w).mono ?_;rintro e w' ⟨rfl,rfl⟩;exact⟨_,rfl,Below.refl _ _,fun I'=>by simp[RV]⟩
def Tr (L:Lays.n102 P ρ) (s t:Bs) (hs:s.length≤4096):au P G (ρ.f 102) [.str s,.str t] (.str (Lib.trimSuffix s t)):=by
 refine oT (by simp[ah,AV.an]) (by simp[AV.an]) fun w I vs hG hv=> ?_;simp only[br,RV] at hv;obtain⟨v1,u1,rfl,rfl,v2,u2,rfl,rfl,rfl⟩:=hv;refine(Any.strings_TrimSuffix L ⟨s.toArray⟩ ⟨t.toArray⟩ w (by rw[Qk];omega)).mono ?_;rintro e w' ⟨rfl,rfl⟩;exact⟨_,rfl,Below.refl _ _,fun I'=>by simp[RV]⟩
def Sr (c:UInt8):er cY c.toNat=bz c:=by
 have:∀n:Fin 256,er cY (UInt8.ofNat n.val).toNat=bz (UInt8.ofNat n.val):=by decide +kernel
 have h:=this ⟨c.toNat,c.toNat_lt⟩;simpa using h
def RY (s:Bs):dB (er cY) s=s.dropWhile bz:=by
 unfold dB;congr 1;funext c;exact Sr c
theorem PR {p:UInt8→Bool}:∀s:Bs,(s.dropWhile p==[])=s.all p
 |[]=>rfl
 |c::q=>by
  rw[Wl,Xt];cases h:p c with
  |true=>simp only[Vp,WQ];exact PR q
  |false=>simp
theorem P_ {p:UInt8→Bool}:∀s:Bs,(s.dropWhile p).all p=s.all p
 |[]=>rfl
 |c::q=>by
  rw[Wl];cases h:p c with
  |true=>simp only[Vp,Xt,h,WQ];exact P_ q
  |false=>simp[h]
def RZ (s:Bs):(dB (er [32,10]) (eM (er [32,10]) s)==[])=s.all isSp:=by
 rw[Bm,PR];unfold eM;rw[Xw,Bm,P_,Xw]
def Ss (s:Bs):(jD s).1.wt≤2^22:=by
 unfold jD;split
 ·decide
 unfold lh;split
 ·split
  ·rename_i hg;have:=ze hg;simp only;omega
  decide
 decide
def Su (s:Bs) (h:s.length≤B):dE (NQ s).1≤2^22:=by
 unfold NQ;split
 ·decide
 unfold Pm;split
 ·rename_i hk;split
  ·have:=vP (fun s t r h=>l9 8 s t r h) _ _ _ _ (Va _) hk;simp only[VR] at this;simp only;omega
  decide
 decide
end
section
variable {P:Program} {G:Nat→Option (List IV)}
def NW (MU:Nat):AC:=
(aM [gH 4 0] (aM [MR 5 0,MR 6 1,aQ 7 (.call MU [(.t 5),(.t 6)]),MR 4 7] .ret))
def Un {MT MU:Nat} (hF:aw P G MT=some (8,[(none,4)],(NW MU).bare)) (s:Bs) (c:UInt8)
  (h:au P G MU [.str s,.int .u8 (c.toNat:Int)] (.int .i64 (Lib.indexByte s c))):au P G MT [.str s,.int .u8 (c.toNat:Int)] (.int .i64 (Lib.indexByte s c)):=by
 refine aR hF (by simp) (by simp[ah,AV.an]) (by simp[AV.an]) ?_;unfold NW;simp only[↓aX,mX,seval];refine ay h ?_;simp only[↓aX,mX,seval]
def Nu (eb M6 Nr cn:Nat):AC:=
(aM [jM 2 false] (aM [MR 8 0,aQ 9 (.call eb [(.t 8)]),MR 7 9,ox 10 7 0,ox 11 7 1,aQ 3 (.new [(.bool false),(.str []),.nil0,.nil0]),gg (.store 4 (.t 3) (.t 10)),MR 4 11] (aM [MR 13 0,aQ 14 (.call M6 [(.t 13)]),MR 12 14,ox 15 12 0,ox 16 12 1,aQ 5 (.new [(.bool false),(.str []),.nil0,.nil0]),gg (.store 4 (.t 5) (.t 15)),MR 6 16] (aM [gz 17 4 3,gz 18 4 5,aQ 19 (.call Nr [(.t 17),(.t 18)]),MR 20 19,cU 21 20 4,cU 22 20 6,dW 23 20 (.bin .eql (.t 21) (.t 22)),jT 24 20 23,MR 25 24,dW 26 25 (.call cn []),jT 27 25 26,MR 2 27] .ret))))
def QH {N7 eb M6 Nr cn:Nat} (hF:aw P G N7=some (28,[(none,2)],(Nu eb M6 Nr cn).bare)) (s:Bs)
  (h1:au P G eb [.str s] (.gf [(jD s).1.av,.int .i64 (jD s).2])) (h2:au P G M6 [.str s] (.gf [(jD s).1.av,.int .i64 (jD s).2]))
  (h3:au P G Nr [(jD s).1.av,(jD s).1.av] (.bool true)) (h4:au P G cn [] (.bool true)):au P G N7 [.str s] (.bool true):=by
 refine aR hF (by simp) (by simp[ah,AV.an]) (by simp[AV.an]) ?_;unfold Nu;simp only[Tree.av] at h1 h2 h3;simp only[↓aX,mX,seval];refine ay h1 ?_;simp only[↓aX,mX,seval];refine ay h2 ?_;simp only[↓aX,mX,seval];refine ay h3 ?_;simp only[↓aX,mX,seval,show((jD s).2==(jD s).2)=true by simp];refine ay h4 ?_;simp only[↓aX,mX,seval]
def NA (Nq M0 NM M7 Nl cn:Nat):AC:=
(aM [jM 2 false] (aM [MR 12 0,aQ 13 (.call Nq [(.t 12)]),MR 11 13,ox 14 11 0,ox 15 11 1,MR 3 14,MR 4 15] (aM [MR 17 0,aQ 18 (.call M0 [(.t 17)]),MR 16 18,ox 19 16 0,ox 20 16 1,MR 5 19,MR 6 20] (aM [MR 22 0,aQ 23 (.call NM [(.t 22)]),MR 21 23,ox 24 21 0,ox 25 21 1,MR 7 24,MR 8 25] (aM [MR 27 0,aQ 28 (.call M7 [(.t 27)]),MR 26 28,ox 29 26 0,ox 30 26 1,MR 9 29,MR 10 30] (aM [MR 31 3,MR 32 5,aQ 33 (.call Nl [(.t 31),(.t 32)]),MR 34 33,cU 35 34 4,cU 36 34 6,dW 37 34 (.bin .eql (.t 35) (.t 36)),jT 38 34 37,MR 39 38,cU 40 39 7,cU 41 39 9,dW 42 39 (.bin .eql (.t 40) (.t 41)),jT 43 39 42,MR 44 43,cU 45 44 8,cU 46 44 10,dW 47 44 (.bin .eql (.t 45) (.t 46)),jT 48 44 47,MR 49 48,dW 50 49 (.call cn []),jT 51 49 50,MR 2 51] .ret))))))
def Rh {N' Nq M0 NM M7 Nl cn:Nat} (hF:aw P G N'=some (52,[(none,2)],(NA Nq M0 NM M7 Nl cn).bare)) (s:Bs)
  (h1:au P G Nq [.str s] (.gf [.list (dq (NQ s).1),.int .i64 (NQ s).2])) (h2:au P G M0 [.str s] (.gf [.list (dq (NQ s).1),.int .i64 (NQ s).2]))
  (h3:au P G NM [.str s] (.gf [.str (OF s).1,.int .i64 (OF s).2])) (h4:au P G M7 [.str s] (.gf [.str (OF s).1,.int .i64 (OF s).2]))
  (h5:au P G Nl [.list (dq (NQ s).1),.list (dq (NQ s).1)] (.bool true)) (h6:au P G cn [] (.bool true)):au P G N' [.str s] (.bool true):=by
 refine aR hF (by simp) (by simp[ah,AV.an]) (by simp[AV.an]) ?_;unfold NA;simp only[↓aX,mX,seval];refine ay h1 ?_;simp only[↓aX,mX,seval];refine ay h2 ?_;simp only[↓aX,mX,seval];refine ay h3 ?_;simp only[↓aX,mX,seval];refine ay h4 ?_;simp only[↓aX,mX,seval];refine ay h5 ?_;simp only[↓aX,mX,seval,show((NQ s).2==(NQ s).2)=true by simp,show((OF s).1==(OF s).1)=true by simp,show((OF s).2==(OF s).2)=true by simp];refine ay h6 ?_;simp only[↓aX,mX,seval]
end
end Go.Am
