import Derived.Test.YtfinkeaikbmpgaaKC6
set_option linter.unusedSimpArgs false
set_option linter.unusedVariables false
set_option linter.unnecessarySimpa false
set_option linter.defProp false
/- Changes: called otherwise and as it was again; an attribute set and dropped. -/
namespace Go.Am
open Go Go.RowKit
abbrev Say := Nat → Bool → Bs → List Attr → Bs × List Attr
def Say.seq (f g : Say) : Say := fun n t s as => g n t (f n t s as).1 (f n t s as).2
mutual
def Tree.mapN (f : Say) (off : Nat) : Tree → Tree
 | .mk t s as ks => .mk t (f off t s as).1 (f off t s as).2 (mapsN f (off + 1) ks)
def mapsN (f : Say) (off : Nat) : List Tree → List Tree
 | [] => []
 | k :: r => k.mapN f off :: mapsN f (off + k.cnt) r
end
mutual
theorem mapN_cnt (f : Say) : ∀ (x : Tree) (off : Nat),(x.mapN f off).cnt = x.cnt
 | .mk t s as ks,off => by simp only [Tree.mapN,Tree.cnt,mapsN_cnt f ks]
theorem mapsN_cnt (f : Say) : ∀ (xs : List Tree) (off : Nat),cntT (mapsN f off xs) = cntT xs
 | [],_ => rfl
 | x :: r,off => by simp only [mapsN,cntT,mapN_cnt f x,mapsN_cnt f r]
end
mutual
theorem mapN_seq (f g : Say) : ∀ (x : Tree) (off : Nat),(x.mapN f off).mapN g off = x.mapN (f.seq g) off
 | .mk t s as ks,off => by simp only [Tree.mapN,mapsN_seq f g ks,Say.seq]
theorem mapsN_seq (f g : Say) : ∀ (xs : List Tree) (off : Nat),mapsN g off (mapsN f off xs) = mapsN (f.seq g) off xs
 | [],_ => rfl
 | x :: r,off => by simp only [mapsN,mapN_cnt,mapN_seq f g x,mapsN_seq f g r]
end
mutual
theorem mapN_id {f : Say} : ∀ (x : Tree) (off : Nat) (p : Int),(∀ i q y,Sub off p x i q y → f i y.text y.s y.attrs = (y.s,y.attrs)) → x.mapN f off = x
 | .mk t s as ks,off,p,h => by
   have h1 : f off t s as = (s,as) := h off p _ (.self off p _)
   have h2 : mapsN f (off + 1) ks = ks := mapsN_id ks (off + 1) off fun a k b e i q y hs => h i q y (.kid a b k (by simpa [Tree.kids] using e) hs)
   simp only [Tree.mapN,h1,h2]
theorem mapsN_id {f : Say} : ∀ (ks : List Tree) (off : Nat) (p : Int),(∀ a k b,ks = a ++ k :: b → ∀ i q y,Sub (off + cntT a) p k i q y → f i y.text y.s y.attrs = (y.s,y.attrs)) → mapsN f off ks = ks
 | [],_,_,_ => rfl
 | k :: r,off,p,h => by
   have h1 : k.mapN f off = k := mapN_id k off p fun i q y hs => h [] k r rfl i q y (by simpa [cntT] using hs)
   have h2 : mapsN f (off + k.cnt) r = r := mapsN_id r (off + k.cnt) p fun a z b e i q y hs => h (k :: a) z b (by rw [e]; rfl) i q y (by
     have : off + cntT (k :: a) = off + k.cnt + cntT a := by simp only [cntT]; omega
     rw [this]; exact hs)
   simp only [mapsN,h1,h2]
end
theorem mapsN_app (f : Say) : ∀ (a b : List Tree) (off : Nat),mapsN f off (a ++ b) = mapsN f off a ++ mapsN f (off + cntT a) b
 | [],b,off => by simp [mapsN,cntT]
 | x :: r,b,off => by simp only [List.cons_append,mapsN,mapsN_app f r b,cntT,Nat.add_assoc]
theorem Sub.mapN (f : Say) {off : Nat} {p : Int} {t : Tree} {n : Nat} {q : Int} {y : Tree} (h : Sub off p t n q y) : Sub off p (t.mapN f off) n q (y.mapN f n) := by
 induction h with
 | self off p t => exact .self _ _ _
 | @kid off p t n q y a b k e hs ih =>
   refine .kid (mapsN f (off + 1) a) (mapsN f (off + 1 + cntT a + k.cnt) b) (k.mapN f (off + 1 + cntT a)) ?_ ?_
   · cases t with
     | mk t s as ks =>
       simp only [Tree.kids] at e
       subst e
       simp only [Tree.mapN,Tree.kids,mapsN_app,mapsN]
   · rw [mapsN_cnt]; exact ih
mutual
theorem mapN_jd {f : Say} (hf : ∀ n s as,(f n true s as).1 = s) : ∀ (x : Tree) (off : Nat),(x.mapN f off).jd = x.jd
 | .mk t s as ks,off => by simp only [Tree.mapN,Tree.jd,mapsN_jd hf ks]
theorem mapsN_jd {f : Say} (hf : ∀ n s as,(f n true s as).1 = s) : ∀ (ks : List Tree) (off : Nat) (p : Bool),jds p (mapsN f off ks) = jds p ks
 | [],_,_ => rfl
 | x :: r,off,p => by
   have h1 := mapN_jd hf x off
   have h2 := mapsN_jd hf r (off + x.cnt)
   have h3 : (x.mapN f off).text = x.text := by cases x; rfl
   have h4 : x.text = true → (x.mapN f off).s = x.s := by
     cases x with
     | mk t s as ks => intro h; simp only [Tree.text] at h; subst h; exact hf _ _ _
   simp only [mapsN,jds,h1,h2,h3]
   cases h : x.text with
   | true => rw [h4 h]
   | false => rfl
end
def fO (l : List Op) : Say := fun n t s as => (if t then valS l n s else namS l n s,attrsO l n as)
def Hi (l : List Op) : Prop := ∀ o ∈ l,8 ≤ o.kind
theorem ofK_hi {l : List Op} (h : Hi l) {k : Int} (hk : k < 8) (n : Nat) : ofK l k n = [] := by
 unfold ofK
 rw [List.filter_eq_nil_iff]
 intro o ho
 have := h o ho
 simp only [Bool.and_eq_true,beq_iff_eq]; omega
theorem putIn_hi {l : List Op} (h : Hi l) {k : Int} (hk : k < 8) (n : Nat) : putIn l k n = [] := by unfold putIn; rw [ofK_hi h hk]; rfl
theorem hasK_hi {l : List Op} (h : Hi l) {k : Int} (hk : k < 8) (n : Nat) : hasK l k n = false := by unfold hasK; rw [ofK_hi h hk]; rfl
theorem valS_hi {l : List Op} (h : Hi l) (n : Nat) (s : Bs) : valS l n s = s := by unfold valS; rw [ofK_hi h (by omega)]; rfl
mutual
theorem turn_map {l : List Op} (h : Hi l) : ∀ (x : Tree) (off : Nat),x.fine = true → x.turn l off = [x.mapN (fO l) off]
 | .mk t s as ks,off,hf => by
   have hk := turns_map h ks (off + 1) fun x hx => fines_mem (Tree.fine_kids hf) x hx
   have e : putIn l 1 off = [] ∧ putIn l 2 off = [] ∧ putIn l 3 off = [] ∧ putIn l 4 off = [] ∧ hasK l 5 off = false ∧ hasK l 6 off = false ∧ hasK l 7 off = false :=
     ⟨putIn_hi h (by omega) _,putIn_hi h (by omega) _,putIn_hi h (by omega) _,putIn_hi h (by omega) _,hasK_hi h (by omega) _,hasK_hi h (by omega) _,hasK_hi h (by omega) _⟩
   cases t with
   | true =>
     have := (Tree.fine_text hf rfl).1
     simp only [Tree.kids] at this
     subst this
     simp [Tree.turn,e,Tree.mapN,mapsN,fO]
   | false => simp [Tree.turn,e,hk,Tree.mapN,fO]
theorem turns_map {l : List Op} (h : Hi l) : ∀ (xs : List Tree) (off : Nat),(∀ x ∈ xs,x.fine = true) → turns l off xs = mapsN (fO l) off xs
 | [],_,_ => rfl
 | x :: r,off,hf => by simp [turns,mapsN,turn_map h x off (hf x (by simp)),turns_map h r (off + x.cnt) fun z hz => hf z (by simp [hz])]
end
theorem applyT_map {t : Tree} (ht : t.good = true) {l : List Op} (h : Hi l) : applyT t l = t.mapN (fO l) 0 := by
 obtain ⟨_,_,_,hf⟩ := (good_iff t).1 ht
 have h1 : t.turn1 l 0 = t.mapN (fO l) 0 := turn1_of (turn_map h t 0 hf) (putIn_hi h (by omega) _) (putIn_hi h (by omega) _) (hasK_hi h (by omega) _) (hasK_hi h (by omega) _)
 unfold applyT
 rw [h1]
 have h2 : jds false (t.mapN (fO l) 0).kids = true := by
   rw [← Tree.jd_eq,mapN_jd (fun n s as => by simp [fO,valS_hi h])]
   exact (Tree.fine_jd t hf).1
 rw [joined_id h2]
 cases t; rfl
theorem one_ok {t : Tree} (ht : t.good = true) (o : Op) : checkF (docOf t) [o] = 0 ↔ OpOk t o := by
 rw [check_zero ht]
 simp
theorem undo_ok {t : Tree} (ht : t.good = true) {n : Nat} {q : Int} {y : Tree} (hy : Sub 0 (-1) t n q y) (a b : Op) (ha : 8 ≤ a.kind) (hb : 8 ≤ b.kind) (hat : a.target = (n : Int)) (hbt : b.target = (n : Int))
   (hw : OpOk t a → wrongF ((y.mapN (fO [a]) n).node n q) b = 0) (hb10 : b.kind ≤ 10)
   (hu : (fO [a]).seq (fO [b]) n y.text y.s y.attrs = (y.s,y.attrs)) (h : (applyF (docOf t) [a]).2 = 0) :
   applyF (applyF (docOf t) [a]).1 [b] = (docOf t,0) ∧ (applyF (docOf t) [a]).1 = docOf (t.mapN (fO [a]) 0) ∧ (t.mapN (fO [a]) 0).good = true := by
 have hA : Hi [a] := by intro o ho; simp only [List.mem_singleton] at ho; subst ho; exact ha
 have hB : Hi [b] := by intro o ho; simp only [List.mem_singleton] at ho; subst ho; exact hb
 obtain ⟨t',ht',he,hc,hg,h1⟩ := applyF_ok h
 have : t' = t := by rw [← treeOfN_doc ht',← he,treeOfN_doc ht]
 subst this
 rw [applyT_map ht hA] at hg h1
 have hok := (one_ok ht a).1 hc
 have hc2 : checkF (docOf (t'.mapN (fO [a]) 0)) [b] = 0 := (one_ok hg b).2 ⟨⟨n,q,_,hy.mapN _,hbt,hw hok⟩,by omega,hb10⟩
 have hT : applyT (t'.mapN (fO [a]) 0) [b] = t' := by
   rw [applyT_map hg hB,mapN_seq]
   refine mapN_id t' 0 (-1) fun i q' y' hs => ?_
   by_cases e : i = n
   · subst e
     obtain ⟨rfl,_⟩ := sub_uniq hs hy
     exact hu
   · have e2 : ¬ (a.kind = 8 ∧ a.target = (i : Int)) := by rintro ⟨_,h⟩; omega
     have e3 : ∀ (o : Op),o.target = (n : Int) → 8 ≤ o.kind → ∀ t s as,fO [o] i t s as = (s,as) := by
       intro o ho hk t s as
       have hH : Hi [o] := by intro z hz; simp only [List.mem_singleton] at hz; subst hz; exact hk
       have h5 : namS [o] i s = s := by
         have := namS_snoc [] o i s
         rw [List.nil_append] at this
         rw [this,if_neg (by rintro ⟨_,h⟩; omega)]; rfl
       have h6 : attrsO [o] i as = as := by
         unfold attrsO attrS
         simp only [List.foldl_cons,List.foldl_nil]
         rw [if_neg (by rintro ⟨h,_⟩; omega)]
       simp only [fO,valS_hi hH,h5,h6,ite_self]
     unfold Say.seq
     rw [e3 a hat ha,e3 b hbt hb]
 rw [h1,applyF_doc hg hc2,hT,if_pos ht]
 exact ⟨rfl,rfl,hg⟩
theorem back_name {t : Tree} (ht : t.good = true) {n : Nat} {q : Int} {y : Tree} (hy : Sub 0 (-1) t n q y) (hT : y.text = false) (name : Bs) (h : (applyF (docOf t) [⟨8,n,[],name,[]⟩]).2 = 0) :
   applyF (applyF (docOf t) [⟨8,n,[],name,[]⟩]).1 [⟨8,n,[],y.s,[]⟩] = (docOf t,0) ∧ ∃ z : Tree,(applyF (docOf t) [⟨8,n,[],name,[]⟩]).1[n]? = some (z.node n q) ∧ z.s = name := by
 obtain ⟨_,_,_,hf⟩ := (good_iff t).1 ht
 have hyf := hy.fine hf
 rw [Tree.fine_e y hT] at hyf
 have hn : named y.s = true := (Bool.and_eq_true_iff.1 hyf).1
 have hT2 : (y.mapN (fO [(⟨8,n,[],name,[]⟩ : Op)]) n).text = false := by cases y; exact hT
 obtain ⟨h1,h2,h3⟩ := undo_ok ht hy ⟨8,n,[],name,[]⟩ ⟨8,n,[],y.s,[]⟩ (by simp) (by simp) rfl rfl
   (fun _ => by simp [wrongF,kC,kN,kT,kB,hn,Tree.node,hT2]) (by simp)
   (by
     have e1 : ∀ (v s : Bs),namS [(⟨8,n,[],v,[]⟩ : Op)] n s = v := by intro v s; simp [namS,ofK]
     have e2 : ∀ (v : Bs) as,attrsO [(⟨8,n,[],v,[]⟩ : Op)] n as = as := by intro v as; simp [attrsO,attrS]
     simp [Say.seq,fO,hT,e1,e2]) h
 refine ⟨h1,y.mapN (fO [(⟨8,n,[],name,[]⟩ : Op)]) n,?_,?_⟩
 · rw [h2]; exact ((hy.mapN (fO [(⟨8,n,[],name,[]⟩ : Op)])).lies _ ⟨[],by simp [docOf]⟩).node
 · cases y with
   | mk t s as ks =>
     simp only [Tree.text] at hT
     subst hT
     simp [Tree.mapN,Tree.s,fO,namS,ofK]
theorem back_attr {t : Tree} (ht : t.good = true) {n : Nat} {q : Int} {y : Tree} (hy : Sub 0 (-1) t n q y) (hT : y.text = false) (name v : Bs) (hno : ∀ a ∈ y.attrs,a.name ≠ name) (h : (applyF (docOf t) [⟨9,n,[],name,v⟩]).2 = 0) :
   applyF (applyF (docOf t) [⟨9,n,[],name,v⟩]).1 [⟨10,n,[],name,[]⟩] = (docOf t,0) := by
 obtain ⟨_,_,_,hf⟩ := (good_iff t).1 ht
 have hr := fine_ris (hy.fine hf)
 have hT2 : (y.mapN (fO [(⟨9,n,[],name,v⟩ : Op)]) n).text = false := by cases y; exact hT
 refine (undo_ok ht hy ⟨9,n,[],name,v⟩ ⟨10,n,[],name,[]⟩ (by simp) (by simp) rfl rfl (fun hok => ?_) (by simp) ?_ h).1
 · obtain ⟨n',q',y',hs,he,hw⟩ := hok.ex
   have hn : named name = true := by
     refine Classical.byContradiction fun hne => ?_
     simp only [Bool.not_eq_true] at hne
     simp [wrongF,kC,kN,kT,kB,hne] at hw
   simp [wrongF,kC,kN,kT,kB,hn,Tree.node,hT2]
 · have e1 : ∀ (s : Bs) (o : Op),o.kind ≠ 8 → namS [o] n s = s := by
     intro s o ho
     have := namS_snoc [] o n s
     rw [List.nil_append] at this
     rw [this,if_neg (by rintro ⟨h,_⟩; exact ho h)]; rfl
   have e2 : ∀ as,attrsO [(⟨9,n,[],name,v⟩ : Op)] n as = attrB as ⟨9,n,[],name,v⟩ := by intro as; simp [attrsO,attrS]
   have e3 : ∀ as,attrsO [(⟨10,n,[],name,[]⟩ : Op)] n as = attrB as ⟨10,n,[],name,[]⟩ := by intro as; simp [attrsO,attrS]
   have e4 : attrB (attrB y.attrs ⟨9,n,[],name,v⟩) ⟨10,n,[],name,[]⟩ = y.attrs := by
     refine ris_ext (attrB_ris (attrB_ris hr _) _) hr fun x => ?_
     rw [attrB_eq (attrB_ris hr _),attrB_eq hr]
     simp only [if_true,show ¬ ((9 : Int) = 10) by decide,if_false,mem_dropA,mem_putA]
     constructor
     · rintro ⟨rfl | ⟨h1,h2⟩,h3⟩
       · exact absurd rfl h3
       · exact h1
     · intro h1
       exact ⟨.inr ⟨h1,hno x h1⟩,hno x h1⟩
   simp only [Say.seq,fO,hT,e2,e3,e4]
   simp [e1]
end Go.Am

/- topiarykeep: called otherwise and as it was again. -/
set_option pp.deepTerms false
set_option pp.deepTerms.threshold 5
set_option maxRecDepth 20000
namespace Go.Am
open Go Go.RowKit
theorem opsB_one (o : Op) (h1 : wtT o.content ≤ 2 ^ 22) (h2 : o.name.length ≤ 2 ^ 22) (h3 : o.s.length ≤ 2 ^ 22) : opsB [o] := by
 refine ⟨by simp,fun x hx => ?_⟩
 simp only [List.mem_singleton] at hx
 subst hx
 exact ⟨h1,h2,h3⟩
theorem applyF_wt {d : Doc} (hd : wtN d ≤ 2 ^ 22) (l : List Op) : wtN (applyF d l).1 ≤ 2 ^ 22 := by
 by_cases he : (applyF d l).2 = 0
 · obtain ⟨t,ht,rfl,hc,hg,h1⟩ := applyF_ok he
   rw [h1]; have := wt_docOf (applyT t l); have := good_wt hg; have h22 : (2 : Nat) ^ 22 = 4194304 := by decide
   omega
 · rw [applyF_bad he]; exact hd
section
variable {P : Program} {G : Nat → Option (List IV)}
def c_topiarykeep_ChangeBack (f_doc_Good f_topiarykeep_changes f_change_Apply f_topiarykeep_sameDoc : Nat) : AC :=
(.seq (.reg [⟨some 4,none,.box (.t 0)⟩,⟨some 8,none,.mov (.c (.bool false))⟩]) (.seq (.seq (.reg [⟨some 15,none,.load (some 1) (.t 4)⟩,⟨some 16,none,.call f_doc_Good [(.t 15)]⟩,⟨some 17,none,.not (.t 16)⟩,⟨some 18,none,.mov (.t 17)⟩,⟨some 19,(some (18,false)),(.mov (.t 1))⟩,⟨some 20,(some (18,false)),(.bin .lss (.t 19) (.c (.int .i64 0)))⟩,⟨some 21,none,.pick (.t 18) (.c (.bool true)) (.t 20)⟩,⟨some 22,none,.mov (.t 21)⟩,⟨some 23,(some (22,false)),(.mov (.t 1))⟩,⟨some 24,(some (22,false)),(.fld (.t 4) 0)⟩,⟨some 25,(some (22,false)),(.load none (.t 24))⟩,⟨some 26,(some (22,false)),(.len (.t 25))⟩,⟨some 27,(some (22,false)),(.bin .geq (.t 23) (.t 26))⟩,⟨some 28,none,.pick (.t 22) (.c (.bool true)) (.t 27)⟩,⟨some 29,none,.mov (.t 28)⟩,⟨some 30,(some (29,false)),(.fld (.t 4) 0)⟩,⟨some 31,(some (29,false)),(.load none (.t 30))⟩,⟨some 32,(some (29,false)),(.mov (.t 1))⟩,⟨some 33,(some (29,false)),(.ixa (.t 31) (.t 32) 5)⟩,⟨some 34,(some (29,false)),(.fld (.t 33) 0)⟩,⟨some 35,(some (29,false)),(.load none (.t 34))⟩,⟨some 36,none,.pick (.t 29) (.c (.bool true)) (.t 35)⟩]) (.cond (.t 36) (.seq (.reg [⟨some 37,none,.call f_topiarykeep_changes []⟩,⟨some 8,none,.mov (.t 37)⟩]) .ret) .skip)) (.seq (.reg [⟨some 39,none,.load (some 1) (.t 4)⟩,⟨some 40,none,.mov (.t 1)⟩,⟨some 41,none,.mov (.t 2)⟩,⟨some 42,none,(.bld [(.int .i64 0),(.int .i64 0),.nil0,(.str []),(.str [])] [(0,(1,(.c (.int .i64 8)))),(1,(1,(.t 40))),(3,(1,(.t 41)))])⟩,⟨some 43,none,.lits 1 5 [(.int .i64 0),(.int .i64 0),.nil0,(.str []),(.str [])] [(0,(.t 42))]⟩,⟨some 44,none,.call f_change_Apply [(.t 39),(.t 43)]⟩,⟨some 38,none,.mov (.t 44)⟩,⟨some 45,none,.ext (.t 38) 0⟩,⟨some 46,none,.ext (.t 38) 1⟩,⟨some 9,none,.new [.nil0]⟩,⟨none,none,.store 1 (.t 9) (.t 45)⟩,⟨some 10,none,.mov (.t 46)⟩]) (.seq (.dreg [⟨some 48,none,.load (some 1) (.t 9)⟩,⟨some 49,none,.mov (.t 1)⟩,⟨some 50,none,.fld (.t 4) 0⟩,⟨some 51,none,.load none (.t 50)⟩,⟨some 52,none,.mov (.t 1)⟩,⟨some 53,none,.ixa (.t 51) (.t 52) 5⟩,⟨some 54,none,.fld (.t 53) 1⟩,⟨some 55,none,.load none (.t 54)⟩,⟨some 56,none,(.bld [(.int .i64 0),(.int .i64 0),.nil0,(.str []),(.str [])] [(0,(1,(.c (.int .i64 8)))),(1,(1,(.t 49))),(3,(1,(.t 55)))])⟩,⟨some 57,none,.lits 1 5 [(.int .i64 0),(.int .i64 0),.nil0,(.str []),(.str [])] [(0,(.t 56))]⟩,⟨some 58,none,.call f_change_Apply [(.t 48),(.t 57)]⟩,⟨some 47,none,.mov (.t 58)⟩,⟨some 59,none,.ext (.t 47) 0⟩,⟨some 60,none,.ext (.t 47) 1⟩,⟨some 11,none,.new [.nil0]⟩,⟨none,none,.store 1 (.t 11) (.t 59)⟩,⟨some 12,none,.mov (.t 60)⟩] [[],[],[],[2],[],[3,4],[5],[6],[1,7],[8],[0,9],[10],[11],[11],[],[14,12,10,0,1,2,3,4,5,6,7,8,9,10,11,12,14],[13,15,0,1,2,3,4,5,6,7,8,9,10,11,12,13,14,15]] [.rw [.loc 9] [],.no,.no,.rw [.loc 4] [],.no,.no,.no,.no,.no,.no,.no,.no,.no,.no,.rw [] [.loc 11],.rw [] [.loc 11],.no]) (.seq (.seq (.reg [⟨some 61,none,.mov (.t 10)⟩,⟨some 62,none,.bin .eql (.t 61) (.c (.int .i64 0))⟩,⟨some 63,none,.mov (.t 62)⟩,⟨some 64,(some (63,true)),(.mov (.t 12))⟩,⟨some 65,(some (63,true)),(.bin .neq (.t 64) (.c (.int .i64 0)))⟩,⟨some 66,(some (63,true)),(.mov (.t 65))⟩,⟨some 67,(some (66,false)),(.load (some 1) (.t 11))⟩,⟨some 68,(some (66,false)),(.load (some 1) (.t 4))⟩,⟨some 69,(some (66,false)),(.call f_topiarykeep_sameDoc [(.t 67),(.t 68)])⟩,⟨some 70,(some (66,false)),(.not (.t 69))⟩,⟨some 71,(some (63,true)),(.pick (.t 66) (.c (.bool true)) (.t 70))⟩,⟨some 72,(some (63,true)),(.mov (.t 71))⟩,⟨some 73,(some (72,false)),(.fld (.t 9) 0)⟩,⟨some 74,(some (72,false)),(.load none (.t 73))⟩,⟨some 75,(some (72,false)),(.mov (.t 1))⟩,⟨some 76,(some (72,false)),(.ixa (.t 74) (.t 75) 5)⟩,⟨some 77,(some (72,false)),(.fld (.t 76) 1)⟩,⟨some 78,(some (72,false)),(.load none (.t 77))⟩,⟨some 79,(some (72,false)),(.mov (.t 2))⟩,⟨some 80,(some (72,false)),(.bin .neq (.t 78) (.t 79))⟩,⟨some 81,(some (63,true)),(.pick (.t 72) (.c (.bool true)) (.t 80))⟩,⟨some 82,none,.pick (.t 63) (.t 81) (.c (.bool false))⟩]) (.cond (.t 82) (.seq (.reg [⟨some 8,none,.mov (.c (.bool false))⟩]) .ret) .skip)) (.seq (.seq (.reg [⟨some 83,none,.fld (.t 4) 0⟩,⟨some 84,none,.load none (.t 83)⟩,⟨some 85,none,.mov (.t 1)⟩,⟨some 86,none,.ixa (.t 84) (.t 85) 5⟩,⟨some 87,none,.fld (.t 86) 2⟩,⟨some 88,none,.load none (.t 87)⟩,⟨some 89,none,.len (.t 88)⟩,⟨some 90,none,.mov (.c (.int .i64 0))⟩]) (.block 0 (.loop (.seq (.reg [⟨some 91,none,.bin .lss (.t 90) (.t 89)⟩]) (.seq (.cond (.t 91) .skip (.exit 0)) (.seq (.block 1 (.seq (.reg [⟨some 92,none,.ixa (.t 88) (.t 90) 2⟩,⟨some 93,none,.load (some 2) (.t 92)⟩,⟨some 14,none,.new [(.str []),(.str [])]⟩,⟨none,none,.store 2 (.t 14) (.t 93)⟩]) (.seq (.reg [⟨some 94,none,.fld (.t 14) 0⟩,⟨some 95,none,.load none (.t 94)⟩,⟨some 96,none,.mov (.t 2)⟩,⟨some 97,none,.bin .eql (.t 95) (.t 96)⟩]) (.cond (.t 97) (.seq (.reg [⟨some 98,none,.call f_topiarykeep_changes []⟩,⟨some 8,none,.mov (.t 98)⟩]) .ret) .skip)))) (.reg [⟨some 99,none,.bin .add (.t 90) (.c (.int .i64 1))⟩,⟨some 90,none,.mov (.t 99)⟩]))))))) (.seq (.reg [⟨some 101,none,.load (some 1) (.t 4)⟩,⟨some 102,none,.mov (.t 1)⟩,⟨some 103,none,.mov (.t 2)⟩,⟨some 104,none,.mov (.t 3)⟩,⟨some 105,none,(.bld [(.int .i64 0),(.int .i64 0),.nil0,(.str []),(.str [])] [(0,(1,(.c (.int .i64 9)))),(1,(1,(.t 102))),(3,(1,(.t 103))),(4,(1,(.t 104)))])⟩,⟨some 106,none,.lits 1 5 [(.int .i64 0),(.int .i64 0),.nil0,(.str []),(.str [])] [(0,(.t 105))]⟩,⟨some 107,none,.call f_change_Apply [(.t 101),(.t 106)]⟩,⟨some 100,none,.mov (.t 107)⟩,⟨some 108,none,.ext (.t 100) 0⟩,⟨some 109,none,.ext (.t 100) 1⟩,⟨none,none,.store 1 (.t 9) (.t 108)⟩,⟨some 10,none,.mov (.t 109)⟩]) (.seq (.reg [⟨some 111,none,.load (some 1) (.t 9)⟩,⟨some 112,none,.mov (.t 1)⟩,⟨some 113,none,.mov (.t 2)⟩,⟨some 114,none,(.bld [(.int .i64 0),(.int .i64 0),.nil0,(.str []),(.str [])] [(0,(1,(.c (.int .i64 10)))),(1,(1,(.t 112))),(3,(1,(.t 113)))])⟩,⟨some 115,none,.lits 1 5 [(.int .i64 0),(.int .i64 0),.nil0,(.str []),(.str [])] [(0,(.t 114))]⟩,⟨some 116,none,.call f_change_Apply [(.t 111),(.t 115)]⟩,⟨some 110,none,.mov (.t 116)⟩,⟨some 117,none,.ext (.t 110) 0⟩,⟨some 118,none,.ext (.t 110) 1⟩,⟨none,none,.store 1 (.t 11) (.t 117)⟩,⟨some 12,none,.mov (.t 118)⟩]) (.seq (.reg [⟨some 119,none,.mov (.t 10)⟩,⟨some 120,none,.bin .neq (.t 119) (.c (.int .i64 0))⟩,⟨some 121,none,.mov (.t 120)⟩,⟨some 122,(some (121,false)),(.mov (.t 12))⟩,⟨some 123,(some (121,false)),(.bin .eql (.t 122) (.c (.int .i64 0)))⟩,⟨some 124,(some (121,false)),(.mov (.t 123))⟩,⟨some 125,(some (124,true)),(.load (some 1) (.t 11))⟩,⟨some 126,(some (124,true)),(.load (some 1) (.t 4))⟩,⟨some 127,(some (124,true)),(.call f_topiarykeep_sameDoc [(.t 125),(.t 126)])⟩,⟨some 128,(some (121,false)),(.pick (.t 124) (.t 127) (.c (.bool false)))⟩,⟨some 129,none,.pick (.t 121) (.c (.bool true)) (.t 128)⟩,⟨some 130,none,.mov (.t 129)⟩,⟨some 131,(some (130,true)),(.call f_topiarykeep_changes [])⟩,⟨some 132,none,.pick (.t 130) (.t 131) (.c (.bool false))⟩,⟨some 8,none,.mov (.t 132)⟩]) .ret)))))))))
theorem pLawChangeBack {f_topiarykeep_ChangeBack f_doc_Good f_topiarykeep_changes f_change_Apply f_topiarykeep_sameDoc : Nat} (hF : compF P G f_topiarykeep_ChangeBack = some (133,[(none,8)],(c_topiarykeep_ChangeBack f_doc_Good f_topiarykeep_changes f_change_Apply f_topiarykeep_sameDoc).bare)) (d : Doc) (n : Int) (name s : Bs) (hd : wtN d ≤ 2 ^ 22) (hnm : name.length ≤ 2 ^ 22) (hs : s.length ≤ 2 ^ 22)
   (hA : ApplyC P G f_change_Apply) (hC : PureC P G f_topiarykeep_changes [] (.bool true)) (hS : SameDC P G f_topiarykeep_sameDoc) (hG : ∀ e : Doc,wtN e ≤ B → PureC P G f_doc_Good [Doc.av e] (.bool (isDoc e))) :
   PureC P G f_topiarykeep_ChangeBack [Doc.av d,.int .i64 n,.str name,.str s] (.bool true) := by
 refine pure_of_go hF (by simp) (by simp [lbss,AV.lbs,Doc.av]) (by simp [AV.lbs]) ?_
 have hBv : B = 1073741824 := rfl
 have h22 : (2 : Nat) ^ 22 = 4194304 := by decide
 unfold c_topiarykeep_ChangeBack
 simp only [↓aX,mX,reduceCtorEq,Nat.reduceEqDiff,Nat.reduceLT,Nat.reduceLeDiff,Nat.reduceAdd,Nat.reduceMul,Int.reduceToNat,Int.reduceLE,Int.reduceLT,Doc.av]
 refine callT_pure (hG d (by omega)) ?_
 cases hgd : isDoc d with
 | false =>
   simp only [↓aX,mX,reduceCtorEq,Nat.reduceEqDiff,Nat.reduceLT,Nat.reduceLeDiff,Nat.reduceAdd,Nat.reduceMul,Int.reduceToNat,Int.reduceLE,Int.reduceLT,Bool.not_false]
   refine callT_pure hC ?_
   simp only [↓aX,mX,reduceCtorEq,Nat.reduceEqDiff,Nat.reduceLT,Nat.reduceLeDiff,Nat.reduceAdd,Nat.reduceMul,Int.reduceToNat,Int.reduceLE,Int.reduceLT]
 | true =>
   simp only [↓aX,mX,reduceCtorEq,Nat.reduceEqDiff,Nat.reduceLT,Nat.reduceLeDiff,Nat.reduceAdd,Nat.reduceMul,Int.reduceToNat,Int.reduceLE,Int.reduceLT,Bool.not_true,List.length_map]
   have quit : PureC P G f_topiarykeep_changes [] (.bool true) := hC
   cases h0 : decide (n < 0) with
   | true =>
     simp only [↓aX,mX,reduceCtorEq,Nat.reduceEqDiff,Nat.reduceLT,Nat.reduceLeDiff,Nat.reduceAdd,Nat.reduceMul,Int.reduceToNat,Int.reduceLE,Int.reduceLT]
     refine callT_pure hC ?_
     simp only [↓aX,mX,reduceCtorEq,Nat.reduceEqDiff,Nat.reduceLT,Nat.reduceLeDiff,Nat.reduceAdd,Nat.reduceMul,Int.reduceToNat,Int.reduceLE,Int.reduceLT]
   | false =>
     obtain ⟨m,rfl⟩ : ∃ m : Nat,n = (m : Int) := ⟨n.toNat,by simp at h0; omega⟩
     simp only [↓aX,mX,reduceCtorEq,Nat.reduceEqDiff,Nat.reduceLT,Nat.reduceLeDiff,Nat.reduceAdd,Nat.reduceMul,Int.reduceToNat,Int.reduceLE,Int.reduceLT,List.length_map,ge_iff_le]
     cases h1 : decide ((d.length : Int) ≤ (m : Int)) with
     | true =>
       simp only [↓aX,mX,reduceCtorEq,Nat.reduceEqDiff,Nat.reduceLT,Nat.reduceLeDiff,Nat.reduceAdd,Nat.reduceMul,Int.reduceToNat,Int.reduceLE,Int.reduceLT]
       refine callT_pure hC ?_
       simp only [↓aX,mX,reduceCtorEq,Nat.reduceEqDiff,Nat.reduceLT,Nat.reduceLeDiff,Nat.reduceAdd,Nat.reduceMul,Int.reduceToNat,Int.reduceLE,Int.reduceLT]
     | false =>
       have hm : m < d.length := by simp at h1; omega
       obtain ⟨t,ht,rfl⟩ := isDoc_iff.1 hgd
       obtain ⟨q,y,hly,hy⟩ := lies_doc hm
       have hx := hly.node
       simp only [↓aX,mX,reduceCtorEq,Nat.reduceEqDiff,Nat.reduceLT,Nat.reduceLeDiff,Nat.reduceAdd,Nat.reduceMul,Int.reduceToNat,Int.reduceLE,Int.reduceLT,Doc.get_iv hx,elszN,Node.cells_eq,Node.cs]
       have e1 : (y.node m q).text = y.text := rfl
       have e2 : (y.node m q).s = y.s := rfl
       have e3 : (y.node m q).attrs = y.attrs := rfl
       simp only [e1,e2,e3]
       cases hT : y.text with
       | true =>
         simp only [↓aX,mX,reduceCtorEq,Nat.reduceEqDiff,Nat.reduceLT,Nat.reduceLeDiff,Nat.reduceAdd,Nat.reduceMul,Int.reduceToNat,Int.reduceLE,Int.reduceLT]
         refine callT_pure hC ?_
         simp only [↓aX,mX,reduceCtorEq,Nat.reduceEqDiff,Nat.reduceLT,Nat.reduceLeDiff,Nat.reduceAdd,Nat.reduceMul,Int.reduceToNat,Int.reduceLE,Int.reduceLT]
       | false =>
         simp only [↓aX,mX,reduceCtorEq,Nat.reduceEqDiff,Nat.reduceLT,Nat.reduceLeDiff,Nat.reduceAdd,Nat.reduceMul,Int.reduceToNat,Int.reduceLE,Int.reduceLT]
         have hys : y.s.length ≤ 2 ^ 22 := by
           have := wtN_mem (List.mem_of_getElem? hx)
           simp only [Node.wt,e2] at this
           omega
         have hyl : y.attrs.length ≤ 2 ^ 22 := by
           have := wtN_mem (List.mem_of_getElem? hx)
           have h3 := wtA_len (y.node m q).attrs
           simp only [Node.wt,e3] at this h3
           omega
         have ho1 : opsB [(⟨8,m,[],name,[]⟩ : Op)] := opsB_one _ (by simp [wtT]) hnm (by simp)
         have ho2 : opsB [(⟨8,m,[],y.s,[]⟩ : Op)] := opsB_one _ (by simp [wtT]) hys (by simp)
         have ho3 : opsB [(⟨9,m,[],name,s⟩ : Op)] := opsB_one _ (by simp [wtT]) hnm hs
         have ho4 : opsB [(⟨10,m,[],name,[]⟩ : Op)] := opsB_one _ (by simp [wtT]) hnm (by simp)
         refine callT_pure ((hA _ _ hd ho1).of rfl) ?_
         have hb := back_name ht hy hT name
         have hw1 := applyF_wt hd [(⟨8,m,[],name,[]⟩ : Op)]
         have hbad := @applyF_bad (docOf t) [(⟨8,m,[],name,[]⟩ : Op)]
         generalize hA1 : applyF (docOf t) [(⟨8,m,[],name,[]⟩ : Op)] = A1 at *
         obtain ⟨D1,r1⟩ := A1
         simp only [] at hb hw1 hbad
         simp only [↓aX,mX,reduceCtorEq,Nat.reduceEqDiff,Nat.reduceLT,Nat.reduceLeDiff,Nat.reduceAdd,Nat.reduceMul,Int.reduceToNat,Int.reduceLE,Int.reduceLT,Doc.av,Doc.get_iv hx,elszN,Node.cells_eq,Node.cs,e2]
         refine ⟨rfl,?_⟩
         try simp only [↓aX,mX,reduceCtorEq,Nat.reduceEqDiff,Nat.reduceLT,Nat.reduceLeDiff,Nat.reduceAdd,Nat.reduceMul,Int.reduceToNat,Int.reduceLE,Int.reduceLT]
         have hA2 := (hA D1 _ hw1 ho2)
         generalize hA3 : applyF D1 [(⟨8,m,[],y.s,[]⟩ : Op)] = A2 at *
         obtain ⟨D2,r2⟩ := A2
         simp only [] at hb hA2
         refine puK_in (hA2.of rfl) ?_
         simp only [↓aX,mX,reduceCtorEq,Nat.reduceEqDiff,Nat.reduceLT,Nat.reduceLeDiff,Nat.reduceAdd,Nat.reduceMul,Int.reduceToNat,Int.reduceLE,Int.reduceLT,Doc.av]
         have hw2 : wtN D2 ≤ B := by
           have := applyF_wt hw1 [(⟨8,m,[],y.s,[]⟩ : Op)]
           rw [hA3] at this; simp only [] at this; omega
         by_cases e : r1 = 0
         all_goals first
           | (subst e
              obtain ⟨h5,z,hz,hzn⟩ := hb rfl
              obtain ⟨h6,h7⟩ := Prod.mk.inj h5
              have f2 : (z.node m q).s = name := hzn
              simp only [h7,↓aX,mX,reduceCtorEq,Nat.reduceEqDiff,Nat.reduceLT,Nat.reduceLeDiff,Nat.reduceAdd,Nat.reduceMul,Int.reduceToNat,Int.reduceLE,Int.reduceLT,Int.reduceBEq,Int.reduceBNe]
              refine callT_pure (hS D2 (docOf t) hw2) ?_
              rw [show eqB D2 (docOf t) = true by rw [h6]; exact eqB_self _]
              simp only [↓aX,mX,reduceCtorEq,Nat.reduceEqDiff,Nat.reduceLT,Nat.reduceLeDiff,Nat.reduceAdd,Nat.reduceMul,Int.reduceToNat,Int.reduceLE,Int.reduceLT,Bool.not_true,Doc.get_iv hz,Doc.get_iv hx,elszN,Node.cells_eq,Node.cs,f2,e3,ivA_len,show (name != name) = false by simp])
           | (rw [show (r1 == 0) = false by simpa using e]
              simp only [↓aX,mX,reduceCtorEq,Nat.reduceEqDiff,Nat.reduceLT,Nat.reduceLeDiff,Nat.reduceAdd,Nat.reduceMul,Int.reduceToNat,Int.reduceLE,Int.reduceLT,Doc.get_iv hx,elszN,Node.cells_eq,Node.cs,e3,ivA_len])
         all_goals
           clear hb hbad hA2
           refine loop_same (σ := { i : Nat // i ≤ y.attrs.length ∧ ∀ j a,j < i → y.attrs[j]? = some a → a.name ≠ name }) [.loc 4,.loc 9,.loc 11]
             (fun p => [(1,.int .i64 m),(2,.str name),(3,.str s),(4,.ptr (.loc 4) 1 0 0),(9,.ptr (.loc 9) 1 0 0),(11,.ptr (.loc 11) 1 0 0),(88,.list (ivA y.attrs)),(89,.int .i64 y.attrs.length),(90,.int .i64 p.1)])
             (fun _ => [(.loc 4,⟨1,[[.list ((docOf t).map Node.iv)]]⟩),(.loc 9,⟨1,[[.list (D1.map Node.iv)]]⟩),(.loc 11,⟨1,[[.list (D2.map Node.iv)]]⟩)])
             (fun p => y.attrs.length - p.1) ⟨0,by simp⟩ (fun _ => rfl) (by decide) (by simp [lbss,AV.lbs]) (by
               intro p r hr cs hcs l hl
               simp only [List.mem_cons,List.not_mem_nil,or_false] at hr
               rcases hr with rfl | rfl | rfl <;> (simp only [List.mem_singleton] at hcs; subst hcs; simp [lbss,AV.lbs] at hl)) ?_ ?_
           · refine WS_mk ?_ (by repeat' constructor) ?_
             · intro l hl hu
               exfalso; apply hu
               cases l <;> simp_all [Lb.fresh,upd_at,Hp.none]
             · simp [RwI_cons,RwI_nil,upd_at]
           · rintro ⟨i,hi,hi2⟩
             simp only [↓aX,mX,reduceCtorEq,Nat.reduceEqDiff,Nat.reduceLT,Nat.reduceLeDiff,Nat.reduceAdd,Nat.reduceMul,Int.reduceToNat,Int.reduceLE,Int.reduceLT,ofH_nil,ofH_cons]
             by_cases hlt : i < y.attrs.length
             · rw [show decide ((i : Int) < (y.attrs.length : Int)) = true by simpa using hlt]
               obtain ⟨a,ha⟩ : ∃ a,y.attrs[i]? = some a := ⟨_,List.getElem?_eq_getElem hlt⟩
               have hw3 : IntKind.i64.wrap ((i : Int) + 1) = ((i + 1 : Nat) : Int) := wrap64 (by omega) (by omega)
               simp only [↓aX,mX,reduceCtorEq,Nat.reduceEqDiff,Nat.reduceLT,Nat.reduceLeDiff,Nat.reduceAdd,Nat.reduceMul,Int.reduceToNat,Int.reduceLE,Int.reduceLT,ivA_get,ha,Option.map_some,elszA,Attr.cells_eq,Attr.cs]
               cases h9 : (a.name == name) with
               | true =>
                 simp only [↓aX,mX,reduceCtorEq,Nat.reduceEqDiff,Nat.reduceLT,Nat.reduceLeDiff,Nat.reduceAdd,Nat.reduceMul,Int.reduceToNat,Int.reduceLE,Int.reduceLT]
                 refine callT_pure hC ?_
                 simp only [↓aX,mX,reduceCtorEq,Nat.reduceEqDiff,Nat.reduceLT,Nat.reduceLeDiff,Nat.reduceAdd,Nat.reduceMul,Int.reduceToNat,Int.reduceLE,Int.reduceLT]
               | false =>
                 simp only [↓aX,mX,reduceCtorEq,Nat.reduceEqDiff,Nat.reduceLT,Nat.reduceLeDiff,Nat.reduceAdd,Nat.reduceMul,Int.reduceToNat,Int.reduceLE,Int.reduceLT,hw3]
                 refine ⟨⟨i + 1,hlt,fun j b hj hb => ?_⟩,by simp only; omega,WS_mk ?_ (by repeat' constructor) ⟨rfl,rfl,rfl,trivial⟩⟩
                 · by_cases ej : j = i
                   · subst ej
                     rw [ha] at hb
                     cases hb
                     simpa using h9
                   · exact hi2 j b (by omega) hb
                 · intro l hl hu
                   exfalso; apply hu
                   cases l <;> simp_all [Lb.fresh,upd_at,Hp.none]
             · rw [show decide ((i : Int) < (y.attrs.length : Int)) = false by simpa using hlt]
               have hno : ∀ b ∈ y.attrs,b.name ≠ name := by
                 intro b hb
                 obtain ⟨j,hj⟩ := List.getElem?_of_mem hb
                 have := (List.getElem?_eq_some_iff.1 hj).1
                 exact hi2 j b (by omega) hj
               have hk := back_attr ht hy hT name s hno
               simp only [↓aX,mX,reduceCtorEq,Nat.reduceEqDiff,Nat.reduceLT,Nat.reduceLeDiff,Nat.reduceAdd,Nat.reduceMul,Int.reduceToNat,Int.reduceLE,Int.reduceLT]
               refine callT_pure ((hA _ _ hd ho3).of rfl) ?_
               have hwk := applyF_wt hd [(⟨9,m,[],name,s⟩ : Op)]
               generalize hA5 : applyF (docOf t) [(⟨9,m,[],name,s⟩ : Op)] = A5 at *
               obtain ⟨D3,r3⟩ := A5
               simp only [] at hk hwk
               simp only [↓aX,mX,reduceCtorEq,Nat.reduceEqDiff,Nat.reduceLT,Nat.reduceLeDiff,Nat.reduceAdd,Nat.reduceMul,Int.reduceToNat,Int.reduceLE,Int.reduceLT,Doc.av]
               have hA6 := (hA D3 _ hwk ho4)
               have hwl := applyF_wt hwk [(⟨10,m,[],name,[]⟩ : Op)]
               generalize hA7 : applyF D3 [(⟨10,m,[],name,[]⟩ : Op)] = A7 at *
               obtain ⟨D4,r4⟩ := A7
               simp only [] at hk hA6 hwl
               refine callT_pure (hA6.of rfl) ?_
               simp only [↓aX,mX,reduceCtorEq,Nat.reduceEqDiff,Nat.reduceLT,Nat.reduceLeDiff,Nat.reduceAdd,Nat.reduceMul,Int.reduceToNat,Int.reduceLE,Int.reduceLT,Doc.av]
               by_cases e9 : r3 = 0
               · obtain ⟨h6,h7⟩ := Prod.mk.inj (hk e9)
                 simp only [e9,h7,↓aX,mX,reduceCtorEq,Nat.reduceEqDiff,Nat.reduceLT,Nat.reduceLeDiff,Nat.reduceAdd,Nat.reduceMul,Int.reduceToNat,Int.reduceLE,Int.reduceLT,Int.reduceBEq,Int.reduceBNe]
                 refine callT_pure (hS D4 (docOf t) (by omega)) ?_
                 rw [show eqB D4 (docOf t) = true by rw [h6]; exact eqB_self _]
                 simp only [e9,h7,↓aX,mX,reduceCtorEq,Nat.reduceEqDiff,Nat.reduceLT,Nat.reduceLeDiff,Nat.reduceAdd,Nat.reduceMul,Int.reduceToNat,Int.reduceLE,Int.reduceLT,Int.reduceBEq,Int.reduceBNe]
                 refine callT_pure hC ?_
                 simp only [↓aX,mX,reduceCtorEq,Nat.reduceEqDiff,Nat.reduceLT,Nat.reduceLeDiff,Nat.reduceAdd,Nat.reduceMul,Int.reduceToNat,Int.reduceLE,Int.reduceLT]
               · rw [show (r3 != 0) = true by simpa using e9]
                 simp only [↓aX,mX,reduceCtorEq,Nat.reduceEqDiff,Nat.reduceLT,Nat.reduceLeDiff,Nat.reduceAdd,Nat.reduceMul,Int.reduceToNat,Int.reduceLE,Int.reduceLT]
                 refine callT_pure hC ?_
                 simp only [↓aX,mX,reduceCtorEq,Nat.reduceEqDiff,Nat.reduceLT,Nat.reduceLeDiff,Nat.reduceAdd,Nat.reduceMul,Int.reduceToNat,Int.reduceLE,Int.reduceLT]
end
end Go.Am
