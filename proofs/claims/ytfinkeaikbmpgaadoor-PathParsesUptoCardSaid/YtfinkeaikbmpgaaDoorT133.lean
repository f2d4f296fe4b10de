import Derived.Test.YtfinkeaikbmpgaaDoorKAm53
set_option linter.unusedSimpArgs false
set_option linter.unusedVariables false
set_option linter.unnecessarySimpa false
set_option linter.defProp false
/- topiaryref.ParsePath, walked. -/
namespace Go.Am
open Go Go.RowKit
def ct:AC:=
(.fU [ah 161 5,qP 162 2 7,bg 163 (.lits 1 2 [(.str []),(.int .i64 0)] [(0,(.t 162))]),bg 164 (.app (.t 161) (.t 163) 2 24),ah 5 164])
def cu:AC:=
(.seq (aK [ah 92 6,ah 93 0,ia 94 93,ga 95 .lss 92 94,ah 96 95,cm 97 96 0,cm 98 96 6,dC 99 96 (.f_ (.t 97) (.t 98)),dC 100 96 (.bin .eql (.t 99) (.c (.int .u8 91))),jk 101 96 100] (.cond (.t 101) (aK [ah 102 6,ew 103 .add 102 1,ah 6 103] (aK [ah 104 6,ah 8 104] (.seq (.block 5 (.loop (.seq (aK [ah 105 6,ah 106 0,ia 107 106,ga 108 .lss 105 107,ah 109 108,cm 110 109 0,cm 111 109 6,dC 112 109 (.f_ (.t 110) (.t 111)),dC 113 109 (.bin .geq (.t 112) (.c (.int .u8 48))),jk 114 109 113,ah 115 114,cm 116 115 0,cm 117 115 6,dC 118 115 (.f_ (.t 116) (.t 117)),dC 119 115 (.bin .leq (.t 118) (.c (.int .u8 57))),jk 120 115 119] (.cond (.t 120) .skip (.exit 5))) (.block 6 (.seq (.ix [mo 121 7 1,oT 122 121,bg 123 (.bin .mul (iJ 10) (.t 122)),ah 124 0,ah 125 6,bg 126 (.f_ (.t 124) (.t 125)),bg 127 (.bin .sub (.t 126) (.c (.int .u8 48))),bg 128 (.tf .i64 (.t 127)),ga 129 .add 123 128,bg 130 (.min (.t 129) (iJ 1000)),mo 131 7 1,mq (.store 1 (.t 131) (.t 130))] [[],[0],[1],[],[],[3,4],[5],[6],[2,7],[8],[0,1,2,3,4,5,6,7,8,9],[10,9,0,1,2,3,4,5,6,7,8,9]] [.no,.rw [.loc 7] [],.no,.no,.no,.no,.no,.no,.no,.no,.no,.rw [] [.loc 7]]) (.fU [ah 132 6,ew 133 .add 132 1,ah 6 133])))))) (.seq (aK [ah 134 6,ah 135 8,ga 136 .eql 134 135,ah 137 136,e8 138 137 0,e8 139 137 8,jJ 140 137 (.f_ (.t 138) (.t 139)),jJ 141 137 (.bin .eql (.t 140) (.c (.int .u8 48))),nS 142 137 141,ah 143 142,e8 144 143 6,e8 145 143 0,jJ 146 143 (.lens (.t 145)),jJ 147 143 (.bin .eql (.t 144) (.t 146)),nS 148 143 147,ah 149 148,e8 150 149 0,e8 151 149 6,jJ 152 149 (.f_ (.t 150) (.t 151)),jJ 153 149 (.bin .neq (.t 152) (.c (.int .u8 93))),nS 154 149 153] (.cond (.t 154) (aK [ah 155 4,bg 156 (.eg (.t 155) []),gp 157 156 0,gp 158 156 1,ah 2 157,ah 3 158] .ret) .skip)) (.fU [ah 159 6,ew 160 .add 159 1,ah 6 160]))))) .skip)) ct)
def cJ (az bm:Nat):AC:=
(aK [py 2,iK 3 0] (aK [bg 4 (.gG (.c (.fn az [] [])))] (.seq (aK [ah 9 0,ia 10 9,ew 11 .gtr 10 2500,ah 12 11,e8 13 12 0,jJ 14 12 (.bin .eql (.t 13) (.c (.str []))),nS 15 12 14] (.cond (.t 15) (aK [ah 16 4,bg 17 (.eg (.t 16) []),gp 18 17 0,gp 19 17 1,ah 2 18,ah 3 19] .ret) .skip)) (aK [py 5] (.gh (.own 5 2) (.seq (aK [iK 6 0] (.block 0 (.loop (.seq (aK [ah 20 6,ah 21 0,ia 22 21,ga 23 .lss 20 22] (.cond (.t 23) .skip (.exit 0))) (.block 1 (.seq (aK [ah 24 0,ah 25 6,bg 26 (.f_ (.t 24) (.t 25)),bg 27 (.bin .neq (.t 26) (.c (.int .u8 47)))] (.cond (.t 27) (aK [ah 28 4,bg 29 (.eg (.t 28) []),gp 30 29 0,gp 31 29 1,ah 2 30,ah 3 31] .ret) .skip)) (aK [ah 32 6,ew 33 .add 32 1,ah 6 33] (aK [bg 7 (.new [(.str []),(.int .i64 0)])] (.seq (.block 2 (aK [ah 69 6,ah 70 0,ia 71 70,ga 72 .lss 69 71,ah 73 72,cm 74 73 0,cm 75 73 6,dC 76 73 (.f_ (.t 74) (.t 75)),dC 77 73 (.bin .eql (.t 76) (.c (.int .u8 42))),cm 78 73 77,e8 79 78 0,e8 80 78 6,jJ 81 78 (.f_ (.t 79) (.t 80)),jJ 82 78 (.bin .eql (.t 81) (.c (.int .u8 35))),dC 83 73 (.pick (.t 78) (Bg true) (.t 82)),jk 84 73 83,ah 68 84] (.cond (.t 68) (.seq (aK [ah 85 0,ah 86 6,bg 87 (.f_ (.t 85) (.t 86)),bg 88 (.bin .eql (.t 87) (.c (.int .u8 42)))] (.cond (.t 88) (.fU [mo 89 7 0,mq (.store 1 (.t 89) (.c (.str [42])))]) .skip)) (.fU [ah 90 6,ew 91 .add 90 1,ah 6 91])) (.seq (.block 3 (.loop (.seq (aK [ah 34 6,ah 35 0,ia 36 35,ga 37 .lss 34 36,ah 38 37,cm 39 38 0,cm 40 38 6,dC 41 38 (.f_ (.t 39) (.t 40)),dC 42 38 (.bin .geq (.t 41) (.c (.int .u8 97))),jk 43 38 42,ah 44 43,cm 45 44 0,cm 46 44 6,dC 47 44 (.f_ (.t 45) (.t 46)),dC 48 44 (.bin .leq (.t 47) (.c (.int .u8 122))),jk 49 44 48] (.cond (.t 49) .skip (.exit 3))) (.block 4 (.seq (.ix [mo 50 7 0,oT 51 50,ah 52 0,ah 53 6,ah 54 6,ew 55 .add 54 1,bg 56 (.en (.t 52) (some (.t 53)) (some (.t 55))),ga 57 .add 51 56,mo 58 7 0,mq (.store 1 (.t 58) (.t 57))] [[],[0],[],[],[],[4],[2,3,5],[1,6],[0,1,2,3,4,5,6,7],[8,7,0,1,2,3,4,5,6,7]] [.no,.rw [.loc 7] [],.no,.no,.no,.no,.no,.no,.no,.rw [] [.loc 7]]) (.fU [ah 59 6,ew 60 .add 59 1,ah 6 60])))))) (aK [mo 61 7 0,oT 62 61,bg 63 (.bin .eql (.t 62) (.c (.str [])))] (.cond (.t 63) (aK [ah 64 4,bg 65 (.eg (.t 64) []),gp 66 65 0,gp 67 65 1,ah 2 66,ah 3 67] .ret) .skip)))))) cu))))))))) (.seq (.gh (.zp (.loc 5) 5) (aK [ah 165 5,bg 166 (.call bm [(.t 165)]),vU 167 166] (.cond (.t 167) (aK [ah 168 4,bg 169 (.eg (.t 168) []),gp 170 169 0,gp 171 169 1,ah 2 170,ah 3 171] .ret) .skip))) (aK [ah 172 5,ah 2 172,iK 3 0] .ret))))))))
def drop_at {s:Bs} {i:Nat} {c:UInt8} (h:s[i]?=some c):s.drop i=c::s.drop (i+1):=by
 obtain⟨hi,e⟩:=Fw.1 h;rw[←e];exact List.drop_eq_getElem_cons hi
def vO {c:UInt8} {r:Bs} (h:c≠91):cr (c::r)=some (0,c::r):=by
 unfold cr;split
 ·rename_i e;cases e;exact absurd rfl h
 rfl
def eY (c:UInt8) (n:Nat) (hn:n<256):(((c.toNat:Int))==(n:Int))=(c==UInt8.ofNat n):=by
 rw[Hs];simp only[Hj];constructor
 ·intro h;exact u8 (by rw[wF hn];omega)
 rintro rfl;rw[wF hn]
def jj {p:UInt8→Bool} {s:Bs} {f j:Nat} (h1:f≤j) (h2:j≤s.length) (bG:∀c∈(s.drop f).take (j - f),p c=true) (vK:∀c,s[j]?=some c→p c=false) :
  (s.drop f).takeWhile p=(s.drop f).take (j - f)∧(s.drop f).dropWhile p=s.drop j:=by
 have tU:(s.drop f).take (j - f)++s.drop j=s.drop f:=by
  have:=FZ (j - f) (s.drop f);rw[G',show f+(j - f)=j by omega] at this;exact this
 have:=mn (p:=p) (z:=s.drop j) bG (fun c r e=>by
  refine vK c ?_;have:=FK List.head? e;rw[Hl] at this;simpa using this)
 rw[tU] at this;exact this
def take_one {s:Bs} {f j:Nat} {c:UInt8} (h1:f≤j) (hc:s[j]?=some c):(s.drop f).take (j+1 - f)=(s.drop f).take (j - f)++[c]:=by
 rw[show j+1 - f=(j - f)+1 by omega,Gy,F6,show f+(j - f)=j by omega,hc];rfl
def vP (t:Bs):dc t≤1000:=by
 have h:∀(t:Bs) (n:Nat),n≤1000→t.foldl (fun n c=>min (10*n+(c.toNat - 48)) 1000) n≤1000:=by
  intro t;induction t with
  |nil=>intro n h;exact h
  |cons c t ih=>intro n h;exact ih _ (Ib _ _)
 exact h t 0 (by decide)
def qD (t:Bs) (c:UInt8):dc (t++[c])=min (10*dc t+(c.toNat - 48)) 1000:=by simp[dc]
set_option maxHeartbeats 4000000 in
def eZ {S : St} {Q : eQ} {k : List It} {env : Env} {H : Hp} {s nm : Bs} {i1 : Nat} {l : List Step} {f1 : Nat} (hN : S.N = 173) (hs : s.length ≤ 2500) (hi : i1 ≤ s.length) (hl : l.length ≤ 2500)
   (hB : fC S.P f1 = true) (hZ : aw S.P S.G f1 [] (.dG [.nil0,.int .i64 1]))
   (h0 : env 0 = .str s) (h4 : env 4 = .fn f1 [] []) (h5 : env 5 = .sl (.loc 5) 2 0 l.length) (h6 : env 6 = .int .i64 i1) (h7 : env 7 = .ptr (.loc 7) 2 0 0)
   (H7 : H (.loc 7) = .live ⟨2,[[.str nm,.int .i64 0]]⟩) (H5 : H (.loc 5) = .live ⟨2,bK (l.map Step.iv)⟩) (hE : ∀ q : Lb,q.fresh = false → H q = .unused) (A8 : H (.loc 164) = .unused)
   (jU : cr (s.drop i1) = none → ∀ (E : Env) (H' : Hp),E 2 = .nil0 → E 3 = .int .i64 1 → Q .ret E H')
   (hk : ∀ (n i2 : Nat),cr (s.drop i1) = some (n,s.drop i2) → i1 ≤ i2 → i2 ≤ s.length → ∀ (E : Env) (H' : Hp),E 0 = .str s → E 4 = .fn f1 [] [] → E 5 = .sl (.loc 164) 2 0 (l.length + 1) → E 6 = .int .i64 i2 →
     H' (.loc 164) = .live ⟨2,bK ((l ++ [(⟨nm,(n : Int)⟩ : Step)]).map Step.iv)⟩ → (∀ q : Lb,q.fresh = false → H' q = .unused) → go S Q k E H') : go S Q (.code cu :: k) env H := by
 unfold cu
 have fin : ∀ (n i2 : Nat),cr (s.drop i1) = some (n,s.drop i2) → i1 ≤ i2 → i2 ≤ s.length → ∀ (E : Env) (H' : Hp),E 0 = .str s → E 4 = .fn f1 [] [] → E 5 = .sl (.loc 5) 2 0 l.length → E 6 = .int .i64 i2 → E 7 = .ptr (.loc 7) 2 0 0 →
     H' (.loc 7) = .live ⟨2,[[.str nm,.int .i64 n]]⟩ → H' (.loc 5) = .live ⟨2,bK (l.map Step.iv)⟩ → (∀ q : Lb,q.fresh = false → H' q = .unused) → H' (.loc 164) = .unused →
     go S Q (.code ct :: k) E H' := by
   intro n i2 hn CR Dy E H' e0 e4 e5 e6 e7 g7 g5 gE g1
   unfold ct
   simp only [↓aX,mX,reduceCtorEq,Nat.reduceEqDiff,Nat.reduceLT,Nat.reduceLeDiff,Nat.reduceAdd,Nat.reduceMul,Int.reduceToNat,Int.reduceLE,Int.reduceLT,hN,e0,e4,e5,e6,e7,g7]
   rw [iE 2 24 164 5 (l.map Step.iv) (.agg [.str nm,.int .i64 n]) g5 (by simp) rfl (by simp [IV.cells]) (by omega) (by omega) (by omega) g1]
   simp only [↓aX,mX,reduceCtorEq,Nat.reduceEqDiff,Nat.reduceLT,Nat.reduceLeDiff,Nat.reduceAdd,Nat.reduceMul,Int.reduceToNat,Int.reduceLE,Int.reduceLT,hN]
   refine hk n i2 hn CR Dy _ _ ?_ ?_ ?_ ?_ ?_ fun q hq => ?_
   · exact e0
   · exact e4
   · rfl
   · exact e6
   · simp [al,Step.iv,Step.cs]
   · rw [ai _ _ (by rintro rfl; simp [Lb.fresh] at hq),ai _ _ (by rintro rfl; simp [Lb.fresh] at hq)]; exact gE q hq
 by_cases cD : i1 < s.length
 · obtain ⟨c,hc⟩ : ∃ c,s[i1]? = some c := ⟨_,List.getElem?_eq_getElem cD⟩
   have hd := drop_at hc
   simp only [↓aX,mX,reduceCtorEq,Nat.reduceEqDiff,Nat.reduceLT,Nat.reduceLeDiff,Nat.reduceAdd,Nat.reduceMul,Int.reduceToNat,Int.reduceLE,Int.reduceLT,hN,h0,h4,h5,h6,h7,show decide ((i1 : Int) < (s.length : Int)) = true by simpa using cD,Int.natCast_nonneg,Int.toNat_natCast,hc,Option.map_some]
   rw [show ((c.toNat : Int) == 91) = (c == 91) from eY c 91 (by decide)]
   by_cases zy : c = 91
   · subst zy
     obtain ⟨f,hf⟩ : ∃ f,f = i1 + 1 := ⟨_,rfl⟩
     have CT : IntKind.i64.wrap ((i1 : Int) + 1) = ((f : Nat) : Int) := by rw [hf]; exact wrap64 (by omega) (by omega)
     simp only [↓aX,mX,reduceCtorEq,Nat.reduceEqDiff,Nat.reduceLT,Nat.reduceLeDiff,Nat.reduceAdd,Nat.reduceMul,Int.reduceToNat,Int.reduceLE,Int.reduceLT,hN,beq_self_eq_true,h6,CT]
     refine fB (σ := { j : Nat // f ≤ j ∧ j ≤ s.length ∧ ∀ c ∈ (s.drop f).take (j - f),nQ c = true }) (fun _ => [.loc 7,.loc 5]) (fun _ _ => false)
       (fun q => [(0,.str s),(4,.fn f1 [] []),(5,.sl (.loc 5) 2 0 l.length),(6,.int .i64 q.1),(7,.ptr (.loc 7) 2 0 0),(8,.int .i64 f)])
       (fun q => [(.loc 7,⟨2,[[.str nm,.int .i64 (dc ((s.drop f).take (q.1 - f)))]]⟩),(.loc 5,⟨2,bK (l.map Step.iv)⟩)]) (fun q => s.length - q.1) ⟨f,Nat.le_refl _,by omega,by simp⟩ (fun _ => rfl) (fun q => by simp [af,AV.ax]) ?_ ⟨[],?_⟩ ?_
     · intro q w hw cs bt z hz
       simp only [List.mem_cons,List.not_mem_nil,or_false] at hw
       rcases hw with rfl | rfl
       · simp only [List.mem_singleton] at bt; subst bt
         simp [af,AV.ax] at hz
       · rw [dX bt] at hz; simp at hz
     · refine ⟨fun q hq hu => absurd (hE q hq) hu,?_,?_,by simp [cP],fun l _ => ⟨id,fun _ => rfl⟩⟩
       · simp [iZ,cP,bw,bo,put,h0,h4,h5,h7]
       · simp only [jR,bI]
         simp [cP,cC,bo,bw,H7,H5,dc]
     · rintro ⟨j,pG,t_,bG⟩
       rw [nk]
       obtain ⟨t,ht⟩ : ∃ t,(s.drop f).take (j - f) = t := ⟨_,rfl⟩
       rw [ht] at bG
       have qY := vP t
       simp only [↓aX,mX,reduceCtorEq,Nat.reduceEqDiff,Nat.reduceLT,Nat.reduceLeDiff,Nat.reduceAdd,Nat.reduceMul,Int.reduceToNat,Int.reduceLE,Int.reduceLT,dJ,cY,hN,ht]
       by_cases hj : j < s.length
       · obtain ⟨b,hb⟩ : ∃ b,s[j]? = some b := ⟨_,List.getElem?_eq_getElem hj⟩
         have Ft := b.toNat_lt
         have hw : IntKind.i64.wrap ((j : Int) + 1) = ((j + 1 : Nat) : Int) := wrap64 (by omega) (by omega)
         cases nH : nQ b with
         | true =>
           obtain ⟨b1,b2⟩ := fM.1 nH
           simp only [↓aX,mX,reduceCtorEq,Nat.reduceEqDiff,Nat.reduceLT,Nat.reduceLeDiff,Nat.reduceAdd,Nat.reduceMul,Int.reduceToNat,Int.reduceLE,Int.reduceLT,hN,show decide ((j : Int) < (s.length : Int)) = true by simpa using hj,hb,Option.map_some,Int.natCast_nonneg,Int.toNat_natCast,show decide ((b.toNat : Int) ≥ 48) = true by simp; omega,show decide ((b.toNat : Int) ≤ 57) = true by simp; omega]
           refine ⟨by decide +kernel,?_⟩
           have w1 : IntKind.i64.wrap (10 * (dc t : Int)) = ((10 * dc t : Nat) : Int) := by rw [wrap64 (by omega) (by omega)]; omega
           have w2 : IntKind.u8.wrap ((b.toNat : Int) - 48) = ((b.toNat - 48 : Nat) : Int) := by rw [IntKind.wrap_u8]; omega
           have w3 : IntKind.i64.wrap ((b.toNat - 48 : Nat) : Int) = ((b.toNat - 48 : Nat) : Int) := wrap64 (by omega) (by omega)
           have w4 : IntKind.i64.wrap (((10 * dc t : Nat) : Int) + ((b.toNat - 48 : Nat) : Int)) = ((10 * dc t + (b.toNat - 48) : Nat) : Int) := by rw [wrap64 (by omega) (by omega)]; omega
           have w5 : (if (1000 : Int) < ((10 * dc t + (b.toNat - 48) : Nat) : Int) then (1000 : Int) else ((10 * dc t + (b.toNat - 48) : Nat) : Int)) = ((min (10 * dc t + (b.toNat - 48)) 1000 : Nat) : Int) := by split <;> omega
           have cx := take_one pG hb
           rw [ht] at cx
           simp only [↓aX,mX,reduceCtorEq,Nat.reduceEqDiff,Nat.reduceLT,Nat.reduceLeDiff,Nat.reduceAdd,Nat.reduceMul,Int.reduceToNat,Int.reduceLE,Int.reduceLT,hN,hb,Option.map_some,Int.natCast_nonneg,Int.toNat_natCast,hw,w1,w2,w3,w4,w5]
           refine ⟨⟨j + 1,by omega,hj,fun c hc => ?_⟩,by simp only; omega,[],?_⟩
           · rw [cx] at hc
             rcases List.mem_append.1 hc with hc | hc
             · exact bG c hc
             · rw [List.mem_singleton.1 hc]; exact nH
           refine ⟨?_,?_,?_,by simp [cP],fun l _ => ⟨id,fun _ => rfl⟩⟩
           · intro l hf hu
             exfalso; apply hu
             cases l <;> simp_all [Lb.fresh,al,Hp.none]
           · simp [iZ,cP,bw,bo,put]
           · simp only [jR,bI,cx,qD]
             simp [cP,al,cC,bo,bw,ht]
             rw [w1,w4]; exact w5
         | false =>
           have cL := jj pG t_ (by rw [ht]; exact bG) (fun c hc => by rw [hb] at hc; cases hc; exact nH)
           rw [ht] at cL
           have e2 : (decide ((b.toNat : Int) ≥ 48) = false) ∨ (decide ((b.toNat : Int) ≥ 48) = true ∧ decide ((b.toNat : Int) ≤ 57) = false) := by
             have : ¬ (48 ≤ b.toNat ∧ b.toNat ≤ 57) := fun h => by rw [fM.2 h] at nH; cases nH
             simp only [decide_eq_false_iff_not,decide_eq_true_eq]; omega
           rcases e2 with e2 | ⟨e2,e3⟩
           · simp only [↓aX,mX,reduceCtorEq,Nat.reduceEqDiff,Nat.reduceLT,Nat.reduceLeDiff,Nat.reduceAdd,Nat.reduceMul,Int.reduceToNat,Int.reduceLE,Int.reduceLT,hN,show decide ((j : Int) < (s.length : Int)) = true by simpa using hj,hb,Option.map_some,Int.natCast_nonneg,Int.toNat_natCast,e2]
             have db : cr (s.drop i1) = if t = [] ∨ t.head? = some 48 then none else match s.drop j with
               | 93 :: r2 => some (dc t,r2)
               | _ => none := by rw [hd,← hf]; simp only [cr,cL.1,cL.2]; rfl
             by_cases wI : j = f
             · have iN : cr (s.drop i1) = none := by rw [db,if_pos (.inl (by rw [← ht,wI]; simp))]
               simp only [↓aX,mX,reduceCtorEq,Nat.reduceEqDiff,Nat.reduceLT,Nat.reduceLeDiff,Nat.reduceAdd,Nat.reduceMul,Int.reduceToNat,Int.reduceLE,Int.reduceLT,hN,show ((j : Int) == (f : Int)) = true by simp [wI]]
               simp only [bf,b_,↓aX,mX,reduceCtorEq,Nat.reduceEqDiff,Nat.reduceLT,Nat.reduceLeDiff,Nat.reduceAdd,Nat.reduceMul,Int.reduceToNat,Int.reduceLE,Int.reduceLT,List.nil_append,List.append_nil,hN]
               refine ⟨hB,ae hZ ?_⟩
               simp only [↓aX,mX,reduceCtorEq,Nat.reduceEqDiff,Nat.reduceLT,Nat.reduceLeDiff,Nat.reduceAdd,Nat.reduceMul,Int.reduceToNat,Int.reduceLE,Int.reduceLT,hN]
               exact jU iN _ _ rfl rfl
             · obtain ⟨c0,pI⟩ : ∃ c0,s[f]? = some c0 := ⟨_,List.getElem?_eq_getElem (by omega)⟩
               have mz : t.head? = some c0 := by rw [← ht,List.head?_eq_getElem?,List.getElem?_take,if_pos (by omega),List.getElem?_drop,Nat.add_zero,pI]
               have A9 : t ≠ [] := fun e => by rw [e] at mz; cases mz
               have A' : ((c0.toNat : Int) == 48) = (c0 == 48) := eY c0 48 (by decide)
               simp only [↓aX,mX,reduceCtorEq,Nat.reduceEqDiff,Nat.reduceLT,Nat.reduceLeDiff,Nat.reduceAdd,Nat.reduceMul,Int.reduceToNat,Int.reduceLE,Int.reduceLT,hN,show ((j : Int) == (f : Int)) = false by simp; omega,pI,Option.map_some,Int.natCast_nonneg,Int.toNat_natCast,A']
               by_cases oL : c0 = 48
               · have iN : cr (s.drop i1) = none := by rw [db,if_pos (.inr (by rw [mz,oL]))]
                 simp only [↓aX,mX,reduceCtorEq,Nat.reduceEqDiff,Nat.reduceLT,Nat.reduceLeDiff,Nat.reduceAdd,Nat.reduceMul,Int.reduceToNat,Int.reduceLE,Int.reduceLT,hN,show (c0 == 48) = true by simpa using oL]
                 simp only [bf,b_,↓aX,mX,reduceCtorEq,Nat.reduceEqDiff,Nat.reduceLT,Nat.reduceLeDiff,Nat.reduceAdd,Nat.reduceMul,Int.reduceToNat,Int.reduceLE,Int.reduceLT,List.nil_append,List.append_nil,hN]
                 refine ⟨hB,ae hZ ?_⟩
                 simp only [↓aX,mX,reduceCtorEq,Nat.reduceEqDiff,Nat.reduceLT,Nat.reduceLeDiff,Nat.reduceAdd,Nat.reduceMul,Int.reduceToNat,Int.reduceLE,Int.reduceLT,hN]
                 exact jU iN _ _ rfl rfl
               · have A_ : ¬ (t = [] ∨ t.head? = some 48) := by rintro (e | e); exact A9 e; rw [mz] at e; exact oL (Option.some.inj e)
                 rw [if_neg A_] at db
                 simp only [↓aX,mX,reduceCtorEq,Nat.reduceEqDiff,Nat.reduceLT,Nat.reduceLeDiff,Nat.reduceAdd,Nat.reduceMul,Int.reduceToNat,Int.reduceLE,Int.reduceLT,hN,show (c0 == 48) = false by simpa using oL]
                 by_cases wJ : j = s.length
                 · have iN : cr (s.drop i1) = none := by rw [db,wJ,List.drop_length]
                   simp only [↓aX,mX,reduceCtorEq,Nat.reduceEqDiff,Nat.reduceLT,Nat.reduceLeDiff,Nat.reduceAdd,Nat.reduceMul,Int.reduceToNat,Int.reduceLE,Int.reduceLT,hN,show ((j : Int) == (s.length : Int)) = true by simp [wJ]]
                   simp only [bf,b_,↓aX,mX,reduceCtorEq,Nat.reduceEqDiff,Nat.reduceLT,Nat.reduceLeDiff,Nat.reduceAdd,Nat.reduceMul,Int.reduceToNat,Int.reduceLE,Int.reduceLT,List.nil_append,List.append_nil,hN]
                   refine ⟨hB,ae hZ ?_⟩
                   simp only [↓aX,mX,reduceCtorEq,Nat.reduceEqDiff,Nat.reduceLT,Nat.reduceLeDiff,Nat.reduceAdd,Nat.reduceMul,Int.reduceToNat,Int.reduceLE,Int.reduceLT,hN]
                   exact jU iN _ _ rfl rfl
                 · obtain ⟨b',iQ⟩ : ∃ b',s[j]? = some b' := ⟨_,List.getElem?_eq_getElem (by omega)⟩
                   have Ba : ((b'.toNat : Int) != 93) = !(b' == 93) := by rw [bne,show ((b'.toNat : Int) == 93) = (b' == 93) from eY b' 93 (by decide)]
                   have hw : IntKind.i64.wrap ((j : Int) + 1) = ((j + 1 : Nat) : Int) := wrap64 (by omega) (by omega)
                   simp only [↓aX,mX,reduceCtorEq,Nat.reduceEqDiff,Nat.reduceLT,Nat.reduceLeDiff,Nat.reduceAdd,Nat.reduceMul,Int.reduceToNat,Int.reduceLE,Int.reduceLT,hN,show ((j : Int) == (s.length : Int)) = false by simp; omega,iQ,Option.map_some,Int.natCast_nonneg,Int.toNat_natCast,Ba]
                   by_cases pw : b' = 93
                   · have mv : cr (s.drop i1) = some (dc t,s.drop (j + 1)) := by rw [db,drop_at iQ,pw]; rfl
                     simp only [↓aX,mX,reduceCtorEq,Nat.reduceEqDiff,Nat.reduceLT,Nat.reduceLeDiff,Nat.reduceAdd,Nat.reduceMul,Int.reduceToNat,Int.reduceLE,Int.reduceLT,hN,show (b' == 93) = true by simpa using pw,Bool.not_true,hw]
                     refine fin (dc t) (j + 1) mv (by omega) (by omega) _ _ ?_ ?_ ?_ ?_ ?_ ?_ ?_ (fun q hq => ?_) ?_
                     · rfl
                     · rfl
                     · rfl
                     · rfl
                     · rfl
                     · simp [al,ht]
                     · simp [al,ht]
                     · cases q <;> simp_all [Lb.fresh,al,Hp.none]
                     · simp [al,Hp.none]
                   · have iN : cr (s.drop i1) = none := by
                       rw [db,drop_at iQ]
                       split
                       · rename_i e; cases e; exact absurd rfl pw
                       · rfl
                     simp only [↓aX,mX,reduceCtorEq,Nat.reduceEqDiff,Nat.reduceLT,Nat.reduceLeDiff,Nat.reduceAdd,Nat.reduceMul,Int.reduceToNat,Int.reduceLE,Int.reduceLT,hN,show (b' == 93) = false by simpa using pw,Bool.not_false]
                     simp only [bf,b_,↓aX,mX,reduceCtorEq,Nat.reduceEqDiff,Nat.reduceLT,Nat.reduceLeDiff,Nat.reduceAdd,Nat.reduceMul,Int.reduceToNat,Int.reduceLE,Int.reduceLT,List.nil_append,List.append_nil,hN]
                     refine ⟨hB,ae hZ ?_⟩
                     simp only [↓aX,mX,reduceCtorEq,Nat.reduceEqDiff,Nat.reduceLT,Nat.reduceLeDiff,Nat.reduceAdd,Nat.reduceMul,Int.reduceToNat,Int.reduceLE,Int.reduceLT,hN]
                     exact jU iN _ _ rfl rfl
           · simp only [↓aX,mX,reduceCtorEq,Nat.reduceEqDiff,Nat.reduceLT,Nat.reduceLeDiff,Nat.reduceAdd,Nat.reduceMul,Int.reduceToNat,Int.reduceLE,Int.reduceLT,hN,show decide ((j : Int) < (s.length : Int)) = true by simpa using hj,hb,Option.map_some,Int.natCast_nonneg,Int.toNat_natCast,e2,e3]
             have db : cr (s.drop i1) = if t = [] ∨ t.head? = some 48 then none else match s.drop j with
               | 93 :: r2 => some (dc t,r2)
               | _ => none := by rw [hd,← hf]; simp only [cr,cL.1,cL.2]; rfl
             by_cases wI : j = f
             · have iN : cr (s.drop i1) = none := by rw [db,if_pos (.inl (by rw [← ht,wI]; simp))]
               simp only [↓aX,mX,reduceCtorEq,Nat.reduceEqDiff,Nat.reduceLT,Nat.reduceLeDiff,Nat.reduceAdd,Nat.reduceMul,Int.reduceToNat,Int.reduceLE,Int.reduceLT,hN,show ((j : Int) == (f : Int)) = true by simp [wI]]
               simp only [bf,b_,↓aX,mX,reduceCtorEq,Nat.reduceEqDiff,Nat.reduceLT,Nat.reduceLeDiff,Nat.reduceAdd,Nat.reduceMul,Int.reduceToNat,Int.reduceLE,Int.reduceLT,List.nil_append,List.append_nil,hN]
               refine ⟨hB,ae hZ ?_⟩
               simp only [↓aX,mX,reduceCtorEq,Nat.reduceEqDiff,Nat.reduceLT,Nat.reduceLeDiff,Nat.reduceAdd,Nat.reduceMul,Int.reduceToNat,Int.reduceLE,Int.reduceLT,hN]
               exact jU iN _ _ rfl rfl
             · obtain ⟨c0,pI⟩ : ∃ c0,s[f]? = some c0 := ⟨_,List.getElem?_eq_getElem (by omega)⟩
               have mz : t.head? = some c0 := by rw [← ht,List.head?_eq_getElem?,List.getElem?_take,if_pos (by omega),List.getElem?_drop,Nat.add_zero,pI]
               have A9 : t ≠ [] := fun e => by rw [e] at mz; cases mz
               have A' : ((c0.toNat : Int) == 48) = (c0 == 48) := eY c0 48 (by decide)
               simp only [↓aX,mX,reduceCtorEq,Nat.reduceEqDiff,Nat.reduceLT,Nat.reduceLeDiff,Nat.reduceAdd,Nat.reduceMul,Int.reduceToNat,Int.reduceLE,Int.reduceLT,hN,show ((j : Int) == (f : Int)) = false by simp; omega,pI,Option.map_some,Int.natCast_nonneg,Int.toNat_natCast,A']
               by_cases oL : c0 = 48
               · have iN : cr (s.drop i1) = none := by rw [db,if_pos (.inr (by rw [mz,oL]))]
                 simp only [↓aX,mX,reduceCtorEq,Nat.reduceEqDiff,Nat.reduceLT,Nat.reduceLeDiff,Nat.reduceAdd,Nat.reduceMul,Int.reduceToNat,Int.reduceLE,Int.reduceLT,hN,show (c0 == 48) = true by simpa using oL]
                 simp only [bf,b_,↓aX,mX,reduceCtorEq,Nat.reduceEqDiff,Nat.reduceLT,Nat.reduceLeDiff,Nat.reduceAdd,Nat.reduceMul,Int.reduceToNat,Int.reduceLE,Int.reduceLT,List.nil_append,List.append_nil,hN]
                 refine ⟨hB,ae hZ ?_⟩
                 simp only [↓aX,mX,reduceCtorEq,Nat.reduceEqDiff,Nat.reduceLT,Nat.reduceLeDiff,Nat.reduceAdd,Nat.reduceMul,Int.reduceToNat,Int.reduceLE,Int.reduceLT,hN]
                 exact jU iN _ _ rfl rfl
               · have A_ : ¬ (t = [] ∨ t.head? = some 48) := by rintro (e | e); exact A9 e; rw [mz] at e; exact oL (Option.some.inj e)
                 rw [if_neg A_] at db
                 simp only [↓aX,mX,reduceCtorEq,Nat.reduceEqDiff,Nat.reduceLT,Nat.reduceLeDiff,Nat.reduceAdd,Nat.reduceMul,Int.reduceToNat,Int.reduceLE,Int.reduceLT,hN,show (c0 == 48) = false by simpa using oL]
                 by_cases wJ : j = s.length
                 · have iN : cr (s.drop i1) = none := by rw [db,wJ,List.drop_length]
                   simp only [↓aX,mX,reduceCtorEq,Nat.reduceEqDiff,Nat.reduceLT,Nat.reduceLeDiff,Nat.reduceAdd,Nat.reduceMul,Int.reduceToNat,Int.reduceLE,Int.reduceLT,hN,show ((j : Int) == (s.length : Int)) = true by simp [wJ]]
                   simp only [bf,b_,↓aX,mX,reduceCtorEq,Nat.reduceEqDiff,Nat.reduceLT,Nat.reduceLeDiff,Nat.reduceAdd,Nat.reduceMul,Int.reduceToNat,Int.reduceLE,Int.reduceLT,List.nil_append,List.append_nil,hN]
                   refine ⟨hB,ae hZ ?_⟩
                   simp only [↓aX,mX,reduceCtorEq,Nat.reduceEqDiff,Nat.reduceLT,Nat.reduceLeDiff,Nat.reduceAdd,Nat.reduceMul,Int.reduceToNat,Int.reduceLE,Int.reduceLT,hN]
                   exact jU iN _ _ rfl rfl
                 · obtain ⟨b',iQ⟩ : ∃ b',s[j]? = some b' := ⟨_,List.getElem?_eq_getElem (by omega)⟩
                   have Ba : ((b'.toNat : Int) != 93) = !(b' == 93) := by rw [bne,show ((b'.toNat : Int) == 93) = (b' == 93) from eY b' 93 (by decide)]
                   have hw : IntKind.i64.wrap ((j : Int) + 1) = ((j + 1 : Nat) : Int) := wrap64 (by omega) (by omega)
                   simp only [↓aX,mX,reduceCtorEq,Nat.reduceEqDiff,Nat.reduceLT,Nat.reduceLeDiff,Nat.reduceAdd,Nat.reduceMul,Int.reduceToNat,Int.reduceLE,Int.reduceLT,hN,show ((j : Int) == (s.length : Int)) = false by simp; omega,iQ,Option.map_some,Int.natCast_nonneg,Int.toNat_natCast,Ba]
                   by_cases pw : b' = 93
                   · have mv : cr (s.drop i1) = some (dc t,s.drop (j + 1)) := by rw [db,drop_at iQ,pw]; rfl
                     simp only [↓aX,mX,reduceCtorEq,Nat.reduceEqDiff,Nat.reduceLT,Nat.reduceLeDiff,Nat.reduceAdd,Nat.reduceMul,Int.reduceToNat,Int.reduceLE,Int.reduceLT,hN,show (b' == 93) = true by simpa using pw,Bool.not_true,hw]
                     refine fin (dc t) (j + 1) mv (by omega) (by omega) _ _ ?_ ?_ ?_ ?_ ?_ ?_ ?_ (fun q hq => ?_) ?_
                     · rfl
                     · rfl
                     · rfl
                     · rfl
                     · rfl
                     · simp [al,ht]
                     · simp [al,ht]
                     · cases q <;> simp_all [Lb.fresh,al,Hp.none]
                     · simp [al,Hp.none]
                   · have iN : cr (s.drop i1) = none := by
                       rw [db,drop_at iQ]
                       split
                       · rename_i e; cases e; exact absurd rfl pw
                       · rfl
                     simp only [↓aX,mX,reduceCtorEq,Nat.reduceEqDiff,Nat.reduceLT,Nat.reduceLeDiff,Nat.reduceAdd,Nat.reduceMul,Int.reduceToNat,Int.reduceLE,Int.reduceLT,hN,show (b' == 93) = false by simpa using pw,Bool.not_false]
                     simp only [bf,b_,↓aX,mX,reduceCtorEq,Nat.reduceEqDiff,Nat.reduceLT,Nat.reduceLeDiff,Nat.reduceAdd,Nat.reduceMul,Int.reduceToNat,Int.reduceLE,Int.reduceLT,List.nil_append,List.append_nil,hN]
                     refine ⟨hB,ae hZ ?_⟩
                     simp only [↓aX,mX,reduceCtorEq,Nat.reduceEqDiff,Nat.reduceLT,Nat.reduceLeDiff,Nat.reduceAdd,Nat.reduceMul,Int.reduceToNat,Int.reduceLE,Int.reduceLT,hN]
                     exact jU iN _ _ rfl rfl
       · have cL := jj pG t_ (by rw [ht]; exact bG) (fun c hc => by
           have := (List.getElem?_eq_some_iff.1 hc).1
           omega)
         rw [ht] at cL
         simp only [↓aX,mX,reduceCtorEq,Nat.reduceEqDiff,Nat.reduceLT,Nat.reduceLeDiff,Nat.reduceAdd,Nat.reduceMul,Int.reduceToNat,Int.reduceLE,Int.reduceLT,hN,show decide ((j : Int) < (s.length : Int)) = false by simpa using hj]
         have db : cr (s.drop i1) = if t = [] ∨ t.head? = some 48 then none else match s.drop j with
           | 93 :: r2 => some (dc t,r2)
           | _ => none := by rw [hd,← hf]; simp only [cr,cL.1,cL.2]; rfl
         by_cases wI : j = f
         · have iN : cr (s.drop i1) = none := by rw [db,if_pos (.inl (by rw [← ht,wI]; simp))]
           simp only [↓aX,mX,reduceCtorEq,Nat.reduceEqDiff,Nat.reduceLT,Nat.reduceLeDiff,Nat.reduceAdd,Nat.reduceMul,Int.reduceToNat,Int.reduceLE,Int.reduceLT,hN,show ((j : Int) == (f : Int)) = true by simp [wI]]
           simp only [bf,b_,↓aX,mX,reduceCtorEq,Nat.reduceEqDiff,Nat.reduceLT,Nat.reduceLeDiff,Nat.reduceAdd,Nat.reduceMul,Int.reduceToNat,Int.reduceLE,Int.reduceLT,List.nil_append,List.append_nil,hN]
           refine ⟨hB,ae hZ ?_⟩
           simp only [↓aX,mX,reduceCtorEq,Nat.reduceEqDiff,Nat.reduceLT,Nat.reduceLeDiff,Nat.reduceAdd,Nat.reduceMul,Int.reduceToNat,Int.reduceLE,Int.reduceLT,hN]
           exact jU iN _ _ rfl rfl
         · obtain ⟨c0,pI⟩ : ∃ c0,s[f]? = some c0 := ⟨_,List.getElem?_eq_getElem (by omega)⟩
           have mz : t.head? = some c0 := by rw [← ht,List.head?_eq_getElem?,List.getElem?_take,if_pos (by omega),List.getElem?_drop,Nat.add_zero,pI]
           have A9 : t ≠ [] := fun e => by rw [e] at mz; cases mz
           have A' : ((c0.toNat : Int) == 48) = (c0 == 48) := eY c0 48 (by decide)
           simp only [↓aX,mX,reduceCtorEq,Nat.reduceEqDiff,Nat.reduceLT,Nat.reduceLeDiff,Nat.reduceAdd,Nat.reduceMul,Int.reduceToNat,Int.reduceLE,Int.reduceLT,hN,show ((j : Int) == (f : Int)) = false by simp; omega,pI,Option.map_some,Int.natCast_nonneg,Int.toNat_natCast,A']
           by_cases oL : c0 = 48
           · have iN : cr (s.drop i1) = none := by rw [db,if_pos (.inr (by rw [mz,oL]))]
             simp only [↓aX,mX,reduceCtorEq,Nat.reduceEqDiff,Nat.reduceLT,Nat.reduceLeDiff,Nat.reduceAdd,Nat.reduceMul,Int.reduceToNat,Int.reduceLE,Int.reduceLT,hN,show (c0 == 48) = true by simpa using oL]
             simp only [bf,b_,↓aX,mX,reduceCtorEq,Nat.reduceEqDiff,Nat.reduceLT,Nat.reduceLeDiff,Nat.reduceAdd,Nat.reduceMul,Int.reduceToNat,Int.reduceLE,Int.reduceLT,List.nil_append,List.append_nil,hN]
             refine ⟨hB,ae hZ ?_⟩
             simp only [↓aX,mX,reduceCtorEq,Nat.reduceEqDiff,Nat.reduceLT,Nat.reduceLeDiff,Nat.reduceAdd,Nat.reduceMul,Int.reduceToNat,Int.reduceLE,Int.reduceLT,hN]
             exact jU iN _ _ rfl rfl
           · have A_ : ¬ (t = [] ∨ t.head? = some 48) := by rintro (e | e); exact A9 e; rw [mz] at e; exact oL (Option.some.inj e)
             rw [if_neg A_] at db
             simp only [↓aX,mX,reduceCtorEq,Nat.reduceEqDiff,Nat.reduceLT,Nat.reduceLeDiff,Nat.reduceAdd,Nat.reduceMul,Int.reduceToNat,Int.reduceLE,Int.reduceLT,hN,show (c0 == 48) = false by simpa using oL]
             by_cases wJ : j = s.length
             · have iN : cr (s.drop i1) = none := by rw [db,wJ,List.drop_length]
               simp only [↓aX,mX,reduceCtorEq,Nat.reduceEqDiff,Nat.reduceLT,Nat.reduceLeDiff,Nat.reduceAdd,Nat.reduceMul,Int.reduceToNat,Int.reduceLE,Int.reduceLT,hN,show ((j : Int) == (s.length : Int)) = true by simp [wJ]]
               simp only [bf,b_,↓aX,mX,reduceCtorEq,Nat.reduceEqDiff,Nat.reduceLT,Nat.reduceLeDiff,Nat.reduceAdd,Nat.reduceMul,Int.reduceToNat,Int.reduceLE,Int.reduceLT,List.nil_append,List.append_nil,hN]
               refine ⟨hB,ae hZ ?_⟩
               simp only [↓aX,mX,reduceCtorEq,Nat.reduceEqDiff,Nat.reduceLT,Nat.reduceLeDiff,Nat.reduceAdd,Nat.reduceMul,Int.reduceToNat,Int.reduceLE,Int.reduceLT,hN]
               exact jU iN _ _ rfl rfl
             · obtain ⟨b',iQ⟩ : ∃ b',s[j]? = some b' := ⟨_,List.getElem?_eq_getElem (by omega)⟩
               have Ba : ((b'.toNat : Int) != 93) = !(b' == 93) := by rw [bne,show ((b'.toNat : Int) == 93) = (b' == 93) from eY b' 93 (by decide)]
               have hw : IntKind.i64.wrap ((j : Int) + 1) = ((j + 1 : Nat) : Int) := wrap64 (by omega) (by omega)
               simp only [↓aX,mX,reduceCtorEq,Nat.reduceEqDiff,Nat.reduceLT,Nat.reduceLeDiff,Nat.reduceAdd,Nat.reduceMul,Int.reduceToNat,Int.reduceLE,Int.reduceLT,hN,show ((j : Int) == (s.length : Int)) = false by simp; omega,iQ,Option.map_some,Int.natCast_nonneg,Int.toNat_natCast,Ba]
               by_cases pw : b' = 93
               · have mv : cr (s.drop i1) = some (dc t,s.drop (j + 1)) := by rw [db,drop_at iQ,pw]; rfl
                 simp only [↓aX,mX,reduceCtorEq,Nat.reduceEqDiff,Nat.reduceLT,Nat.reduceLeDiff,Nat.reduceAdd,Nat.reduceMul,Int.reduceToNat,Int.reduceLE,Int.reduceLT,hN,show (b' == 93) = true by simpa using pw,Bool.not_true,hw]
                 refine fin (dc t) (j + 1) mv (by omega) (by omega) _ _ ?_ ?_ ?_ ?_ ?_ ?_ ?_ (fun q hq => ?_) ?_
                 · rfl
                 · rfl
                 · rfl
                 · rfl
                 · rfl
                 · simp [al,ht]
                 · simp [al,ht]
                 · cases q <;> simp_all [Lb.fresh,al,Hp.none]
                 · simp [al,Hp.none]
               · have iN : cr (s.drop i1) = none := by
                   rw [db,drop_at iQ]
                   split
                   · rename_i e; cases e; exact absurd rfl pw
                   · rfl
                 simp only [↓aX,mX,reduceCtorEq,Nat.reduceEqDiff,Nat.reduceLT,Nat.reduceLeDiff,Nat.reduceAdd,Nat.reduceMul,Int.reduceToNat,Int.reduceLE,Int.reduceLT,hN,show (b' == 93) = false by simpa using pw,Bool.not_false]
                 simp only [bf,b_,↓aX,mX,reduceCtorEq,Nat.reduceEqDiff,Nat.reduceLT,Nat.reduceLeDiff,Nat.reduceAdd,Nat.reduceMul,Int.reduceToNat,Int.reduceLE,Int.reduceLT,List.nil_append,List.append_nil,hN]
                 refine ⟨hB,ae hZ ?_⟩
                 simp only [↓aX,mX,reduceCtorEq,Nat.reduceEqDiff,Nat.reduceLT,Nat.reduceLeDiff,Nat.reduceAdd,Nat.reduceMul,Int.reduceToNat,Int.reduceLE,Int.reduceLT,hN]
                 exact jU iN _ _ rfl rfl
   · simp only [↓aX,mX,reduceCtorEq,Nat.reduceEqDiff,Nat.reduceLT,Nat.reduceLeDiff,Nat.reduceAdd,Nat.reduceMul,Int.reduceToNat,Int.reduceLE,Int.reduceLT,show (c == 91) = false by simpa using zy]
     refine fin 0 i1 (by rw [hd]; exact vO zy) (Nat.le_refl _) hi _ _ ?_ ?_ ?_ ?_ ?_ H7 H5 hE A8
     · exact h0
     · exact h4
     · exact h5
     · exact h6
     · exact h7
 · have qZ : i1 = s.length := by omega
   have kX : cr (s.drop i1) = some (0,s.drop i1) := by rw [qZ,List.drop_length]; rfl
   simp only [↓aX,mX,reduceCtorEq,Nat.reduceEqDiff,Nat.reduceLT,Nat.reduceLeDiff,Nat.reduceAdd,Nat.reduceMul,Int.reduceToNat,Int.reduceLE,Int.reduceLT,hN,h0,h4,h5,h6,h7,show decide ((i1 : Int) < (s.length : Int)) = false by simpa using cD,Int.natCast_nonneg,Int.toNat_natCast]
   refine fin 0 i1 kX (Nat.le_refl _) hi _ _ ?_ ?_ ?_ ?_ ?_ H7 H5 hE A8
   · exact h0
   · exact h4
   · exact h5
   · exact h6
   · exact h7
end Go.Am
