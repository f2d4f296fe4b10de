import Derived.Test.YtfinkeaikbmpgaaDoorKAm40
import Derived.Test.YtfinkeaikbmpgaaDoorKD2
import Derived.Test.YtfinkeaikbmpgaaDoorKT26
import Derived.Lib.Bytealg
set_option linter.unusedSimpArgs false
set_option linter.unusedVariables false
set_option linter.unnecessarySimpa false
set_option linter.defProp false
/- Elements and texts by a stack of those that are open: the same. -/
namespace Go.Am
open Go Go.RowKit
def M8 (s:Bs):Option (List Bs):=
 match s with
 |[]=>some []
 |c::q=>
  if c=60 then match h:Nh [62] (c::q) with
   |some (a,b)=>(M8 b).map fun l=>(a++[62])::l
   |none=>none
  else(M8 ((c::q).dropWhile fun x=> !(x==60))).map fun l=>((c::q).takeWhile fun x=> !(x==60))::l
termination_by s.length
decreasing_by
 ·exact Qc (by simp) h
 rename_i h;have:=jf (fun x=> !(x==60)) q;simp[Wl,h];omega
def Ov (s:Bs):Bs:=(s.reverse.dropWhile isSp).reverse
def Tree.MZ (x:Tree) (ks:List Tree):Tree:= .mk x.text x.s x.attrs (x.kids++ks)
def Ni (o:List Tree) (m:Bs):Option (List Tree):=
 match o with
 |[]=>none
 |top::rest=>
  if m.head?≠some 60 then(MY false m).map fun v=>top.MZ [.mk true v [] []]::rest
  else if [60,47].isPrefixOf m then match rest with
   |[]=>none
   |up::rest=>if Ov (m.drop 2).dropLast=top.s then some (up.MZ [top]::rest) else none
  else(Oa (m.drop 1).dropLast).bind fun x=>if 8<(top::rest).length then none else
   if x.2.2 then some (top.MZ [.mk false x.1 x.2.1 []]::rest) else some (.mk false x.1 x.2.1 []::top::rest)
def Sa (o:List Tree):Option (List Tree):=match o with
 |[b]=>some b.kids
 |_=>none
def runs (o:List Tree) (s:Bs):Option (List Tree):=(M8 s).bind fun l=>(l.foldlM Ni o).bind Sa
def N0:Tree:= .mk false [] [] []
def Oe (s:Bs):Option (List Tree):=runs [N0] s
def Qu (o:List Tree):runs o []=Sa o:=by unfold runs;rw[M8];rfl
def Pf {o:List Tree} {q a b:Bs} (h:Nh [62] (60::q)=some (a,b)):runs o (60::q)=(Ni o (a++[62])).bind fun o'=>runs o' b:=by
 unfold runs;rw[M8,Vd rfl];split
 ·rename_i a' b' h';rw[h] at h';simp only[di,U6] at h';obtain⟨rfl,rfl⟩:=h';cases M8 b with
  |none=>cases Ni o (a++[62])<;>rfl
  |some l=>simp only[Vf,U7,XW];cases Ni o (a++[62])<;>rfl
 rename_i h';rw[h] at h';cases h'
def O0 {o:List Tree} {q:Bs} (h:Nh [62] (60::q)=none):runs o (60::q)=none:=by
 unfold runs;rw[M8,Vd rfl];split
 ·rename_i a' b' h';rw[h] at h';cases h'
 rfl
def RH {o:List Tree} {c:UInt8} {q:Bs} (h:c≠60):runs o (c::q)=(Ni o ((c::q).takeWhile fun x=> !(x==60))).bind fun o'=>runs o' ((c::q).dropWhile fun x=> !(x==60)):=by
 unfold runs;rw[M8,U8 h];cases M8 ((c::q).dropWhile fun x=> !(x==60)) with
 |none=>cases Ni o ((c::q).takeWhile fun x=> !(x==60))<;>rfl
 |some l=>simp only[Vf,U7,XW];cases Ni o ((c::q).takeWhile fun x=> !(x==60))<;>rfl
def OJ (x:Tree):x.MZ []=x:=by cases x;simp[Tree.MZ,Tree.text,Tree.s,Tree.attrs,Tree.kids]
def OK (x:Tree) (a b:List Tree):(x.MZ a).MZ b=x.MZ (a++b):=by simp[Tree.MZ,Tree.text,Tree.s,Tree.attrs,Tree.kids]
def Sb {nm:Bs} (h:named nm=true):∀c∈nm,isSp c=false:=fun c hc=>by
 have:=((mF nm).1 h).1 c hc;simp only[bz,Vc,Vn,Wb] at this;simp only[isSp,WM,VX];constructor<;>(rintro rfl;revert this;decide)
def RI {nm sp:Bs} (h:named nm=true) (hs:∀c∈sp,isSp c=true):Ov (nm++sp)=nm:=by
 unfold Ov;rw[XI,(kv sp.reverse nm.reverse (by simpa using hs) (by
  intro c q hq;have hm:c∈nm.reverse:=by rw[hq];simp
  exact Sb h c (by simpa using hm))).2]
 simp
def Qv (w:Bs):∃sp,w=Ov w++sp∧∀c∈sp,isSp c=true:=by
 refine⟨(w.reverse.takeWhile isSp).reverse,?_,fun c hc=> ?_⟩
 ·unfold Ov;rw[←XI,WG,List.reverse_reverse]
 exact Vx.1 Xm c (by simpa using hc)
def RJ {nm w b:Bs} (hn:named nm=true) (hw:(62:UInt8)∉w):ka nm ([60,47]++(w++62::b))=if Ov w=nm then some b else none:=by
 by_cases h:Ov w=nm
 ·rw[Vd h];obtain⟨sp,e,hs⟩:=Qv w;rw[h] at e;subst e;unfold ka;rw[gR];simp only[U7];have hl:l6 (nm++sp++62::b)=some (nm,sp++62::b):=by
   rw[VP];refine mG hn ?_;intro c q hq;cases sp with
   |nil=>simp only[VH,Vj] at hq;rw[←hq.1];rfl
   |cons d sp=>
   simp only[Vb,Vj] at hq;have:=hs d (by simp);rw[hq.1] at this;simp only[isSp,Wg,V8] at this;rcases this with rfl|rfl<;>rfl
  rw[hl];simp only[U7,Vp];rw[(kv sp (62::b) hs (by intro c q hq;simp only[Vj] at hq;rw[←hq.1];rfl)).2];exact gR [62] b
 rw[U8 h];cases hc:ka nm ([60,47]++(w++62::b)) with
 |none=>rfl
 |some q=>
 exfalso;apply h;unfold ka at hc;rw[gR] at hc;simp only[U7] at hc;obtain⟨⟨n,r⟩,h1,h2⟩:=U5.1 hc;split at h2
 ·rename_i QM;simp only at QM;subst QM;obtain⟨k1,k2,k3⟩:=OU.1 h1;have hr:r=w.drop n.length++62::b∧w=n++w.drop n.length:=by
   rcases XT.1 k2 with⟨z,h6,h7⟩|⟨z,h6,h7⟩
   ·cases z with
    |nil=>simp only[V5,VH] at h6 h7;subst h6;simp[←h7]
    |cons z0 z=>
     simp only[Vb,Vj] at h7;exfalso;exact PG k1 (c:=62) rfl (by rw[h6,h7.1];simp)
   subst h6;simp[h7]
  obtain⟨e1,e2⟩:=hr;have hd:(w.drop n.length).dropWhile isSp=[]:=by
   have hT:Tl (62::b):= .inl ⟨b,rfl⟩;rw[e1] at h2;simp only at h2;rw[Pe hT] at h2;cases hx:(w.drop n.length).dropWhile isSp with
   |nil=>rfl
   |cons c z=>
   exfalso;rw[hx] at h2;unfold iA at h2;split at h2
   ·rename_i hp;simp[List.isPrefixOf] at hp;have:c∈w:=by
     rw[e2];have:c∈w.drop n.length:=(Wa isSp).subset (by rw[hx];simp);simp[this]
    rw[←hp] at this;exact hw this
   simp at h2
  rw[e2];exact RI k1 (OV.1 hd)
 simp at h2
def P7 {el:Bs→Option (Tree×Bs)}:∀(n:Nat) (s:Bs) (ks:List Tree) (r:Bs),s.length≤n→dM el s=some (ks,r)→r.length≤s.length∧(r=[]∨∃q,r=60::47::q):=by
 intro n;induction n with
 |zero=>
  intro s l r hn h;have:s=[]:=Vv.1 (by omega);subst this;rw[dM] at h;simp at h;obtain⟨rfl,rfl⟩:=h;simp
 |succ n ih=>
 intro s l r hn h;cases s with
 |nil=>rw[dM] at h;simp at h;obtain⟨rfl,rfl⟩:=h;simp
 |cons c q=>
 rw[dM] at h;split at h
 ·rename_i hp;simp only[di,U6] at h;obtain⟨rfl,rfl⟩:=h;refine⟨Va _,.inr ?_⟩;obtain⟨z,hz⟩:=Vt.1 hp;exact⟨z,by rw[←hz];rfl⟩
 split at h
 ·rename_i t r1 h1;split at h
  ·rename_i bI;obtain⟨⟨l',r'⟩,h2,h3⟩:=oA.1 h;simp only[U6] at h3;obtain⟨rfl,rfl⟩:=h3;obtain⟨e1,e2⟩:=ih r1 l' r' (by omega) h2;exact⟨by omega,e2⟩
  simp at h
 simp at h
def Qw {d:Nat} {s r:Bs} {t:Tree} (h:bG d s=some (t,r)):r.length<s.length:=by
 have h1:=l9 d s t r h;have h2:=t.gx;omega
def Qx {d:Nat} {q:Bs} (h:¬[60,47].isPrefixOf (60::q)=true):dM (bG d) (60::q)=(bG d (60::q)).bind fun x=>(dM (bG d) x.2).map fun y=>(x.1::y.1,y.2):=by
 rw[dM,U8 h,Vd rfl];cases he:bG d (60::q) with
 |none=>rfl
 |some x=>
 obtain⟨t,r⟩:=x;simp only[U7];rw[XM (Qw he)]
def Qd {m nm:Bs} {as:List Attr} {e:Bool} (h:Oa m=some (nm,as,e)):named nm=true:=by
 unfold Oa at h;simp only at h;obtain⟨U0,_,h2⟩:=U5.1 h;by_cases h3:named ((if(m.getLast?==some 47)=true then m.dropLast else m).takeWhile bz)=true
 ·rw[Vd h3] at h2;simp only[di,U6] at h2;rw[←h2.1];exact h3
 rw[U8 h3] at h2;cases h2
def RL {p s r:Bs} (h:iA p s=some r):s=p++r:=by
 unfold iA at h;split at h
 ·rename_i hp;obtain⟨q,rfl⟩:=Vt.1 hp;simp only[di] at h;subst h;simp
 simp at h
theorem RM : ∀ (n : Nat) (s : Bs),s.length ≤ n → ∀ (d : Nat) (top : Tree) (rest : List Tree),rest.length + d = 8 →
   runs (top :: rest) s = match dM (bG d) s with
     | none => none
     | some (ks,r) => runs (top.MZ ks :: rest) r := by
 intro n
 induction n with
 | zero =>
   intro s hn d top rest hd
   have : s = [] := Vv.1 (by omega)
   subst this
   rw [dM]; simp only [OJ]
 | succ n ih =>
   intro s hn d top rest hd
   cases s with
   | nil => rw [dM]; simp only [OJ]
   | cons c q =>
     by_cases hc : c = 60
     · subst hc
       by_cases hp : [60,47].isPrefixOf (60 :: q) = true
       · rw [dM,Vd hp]; simp only [OJ]
       · rw [Qx hp]
         cases wJ : Nh [62] (60 :: q) with
         | none =>
           rw [O0 wJ]
           have yH := NC.1 wJ
           have : bG d (60 :: q) = none := by
             cases d with
             | zero => rfl
             | succ d => rw [OX,QZ yH]; rfl
           rw [this]; rfl
         | some x =>
           obtain ⟨a,b⟩ := x
           rw [Pf wJ]
           obtain ⟨e,ha⟩ := Nn wJ
           obtain ⟨m,rfl⟩ : ∃ m,a = 60 :: m := by
             cases a with
             | nil => simp at e
             | cons a0 m => simp only [Vb,Vj] at e; exact ⟨m,by rw [← e.1]⟩
           have hm : (62 : UInt8) ∉ m := fun h => ha (by simp [h])
           have hq : q = m ++ 62 :: b := by simpa using e
           have UA : ¬ [60,47].isPrefixOf (60 :: m ++ [62]) = true := by
             intro h
             apply hp
             rw [hq]
             cases m with
             | nil => simp [List.isPrefixOf] at h
             | cons m0 m => simp [List.isPrefixOf] at h ⊢; exact h
           have mV : Ni (top :: rest) (60 :: m ++ [62]) = (Oa m).bind fun x => if 8 < (top :: rest).length then none else
               if x.2.2 then some (top.MZ [.mk false x.1 x.2.1 []] :: rest) else some (.mk false x.1 x.2.1 [] :: top :: rest) := by
             unfold Ni
             simp only
             rw [U8 (by simp),U8 UA]
             simp
           rw [mV]
           have hb : b.length < (60 :: q).length := by rw [hq]; simp; omega
           cases d with
           | zero =>
             have : 8 < (top :: rest).length := by simp; omega
             simp only [Vd this,bG]
             cases Oa m <;> rfl
           | succ d =>
             have h8 : ¬ 8 < (top :: rest).length := by simp; omega
             simp only [U8 h8]
             rw [OX]
             have hh : Pl (60 :: q) = (Oa m).map fun x => (x.1,x.2.1,x.2.2,b) := by rw [hq]; exact R_ m b hm
             rw [hh]
             cases TZ : Oa m with
             | none => rfl
             | some x =>
               obtain ⟨nm,as,en⟩ := x
               simp only [U7,Vf]
               have QM : named nm = true := Qd TZ
               cases en with
               | true =>
                 simp only [Vp,U7]
                 rw [ih b (by simp at hn hb; omega) (d + 1) _ rest hd]
                 cases dM (bG (d + 1)) b with
                 | none => rfl
                 | some y => obtain ⟨ks,r⟩ := y; simp only [Vf,OK,Ww]
               | false =>
                 simp only [Vl,Vk,U7]
                 rw [ih b (by simp at hn hb; omega) d (.mk false nm as []) (top :: rest) (by simp; omega)]
                 cases hk : dM (bG d) b with
                 | none => rfl
                 | some y =>
                   obtain ⟨ks,r2⟩ := y
                   simp only [U7]
                   obtain ⟨II,T0⟩ := P7 _ _ _ _ (Va _) hk
                   rcases T0 with rfl | ⟨w0,rfl⟩
                   · rw [Qu]
                     have : ka nm [] = none := rfl
                     rw [this]; rfl
                   · cases Rs : Nh [62] (60 :: 47 :: w0) with
                     | none =>
                       rw [O0 Rs]
                       have yH := NC.1 Rs
                       have : ka nm (60 :: 47 :: w0) = none := by
                         cases hc : ka nm (60 :: 47 :: w0) with
                         | none => rfl
                         | some q' =>
                           exfalso
                           unfold ka at hc
                           obtain ⟨r1,g1,H5⟩ := U5.1 hc
                           obtain ⟨⟨n1,r3⟩,g2,MH⟩ := U5.1 H5
                           split at MH
                           · have e1 : r1 = w0 := by have := gR [60,47] w0; simp only [Vb,VH] at this; rw [this] at g1; simpa using g1.symm
                             subst e1
                             obtain ⟨g3,_⟩ := mE g2
                             have hz := RL MH
                             have : (62 : UInt8) ∈ r3 := (Wa isSp).subset (by rw [hz]; simp)
                             exact yH (by rw [g3]; simp [this])
                           · simp at MH
                       rw [this]; rfl
                     | some x2 =>
                       obtain ⟨a2,b2⟩ := x2
                       rw [Pf Rs]
                       obtain ⟨e2,UB⟩ := Nn Rs
                       obtain ⟨w,rfl⟩ : ∃ w,a2 = 60 :: 47 :: w := by
                         cases a2 with
                         | nil => simp at e2
                         | cons a0 a2 =>
                           simp only [Vb,Vj] at e2
                           cases a2 with
                           | nil => simp at e2
                           | cons a1 a2 => simp only [Vb,Vj] at e2; exact ⟨a2,by rw [← e2.1,← e2.2.1]⟩
                       have hw : (62 : UInt8) ∉ w := fun h => UB (by simp [h])
                       have zO : w0 = w ++ 62 :: b2 := by simpa using e2
                       have qT : ka nm (60 :: 47 :: w0) = if Ov w = nm then some b2 else none := by rw [zO]; exact RJ QM hw
                       have T9 : Ni ((Tree.mk false nm as []).MZ ks :: top :: rest) (60 :: 47 :: w ++ [62]) = if Ov w = nm then some (top.MZ [(Tree.mk false nm as []).MZ ks] :: rest) else none := by
                         unfold Ni
                         simp only
                         rw [U8 (by simp),Vd (by simp [List.isPrefixOf])]
                         simp [Tree.MZ,Tree.s]
                       rw [T9,qT]
                       by_cases ht : Ov w = nm
                       · simp only [Vd ht,U7,Vf]
                         have nL : b2.length < (60 :: 47 :: w0).length := by rw [zO]; simp; omega
                         rw [ih b2 (by simp at hn hb nL II; omega) (d + 1) _ rest hd]
                         cases dM (bG (d + 1)) b2 with
                         | none => rfl
                         | some y =>
                           obtain ⟨U1,r⟩ := y
                           simp only [Vf,OK,Ww]
                           rfl
                       · simp only [U8 ht]; rfl
     · -- a text
       rw [RH hc]
       have OZ : (c :: q).takeWhile (fun x => !(x == 60)) ++ (c :: q).dropWhile (fun x => !(x == 60)) = c :: q := WG
       have g_ : ∀ d ∈ (c :: q).takeWhile (fun x => !(x == 60)),¬ yu false d := by
         intro d hd
         have := Vx.1 Xm d hd
         rintro (rfl | ⟨_,h⟩)
         · simp at this
         · cases h
       have fO : (c :: q).takeWhile (fun x => !(x == 60)) = c :: q.takeWhile (fun x => !(x == 60)) := by simp [List.takeWhile_cons,hc]
       have mV : Ni (top :: rest) ((c :: q).takeWhile fun x => !(x == 60)) = (MY false ((c :: q).takeWhile fun x => !(x == 60))).map fun v => top.MZ [.mk true v [] []] :: rest := by
         unfold Ni
         rw [fO]
         simp only
         rw [Vd (by simp [hc])]
       rw [mV]
       have v_ : bm false (c :: q) = (MY false ((c :: q).takeWhile fun x => !(x == 60))).map fun t => (t,(c :: q).dropWhile fun x => !(x == 60)) := by
         cases hd : (c :: q).dropWhile (fun x => !(x == 60)) with
         | nil =>
           rw [hd,V5] at OZ
           rw [OZ] at g_ ⊢
           exact Qb g_
         | cons e r =>
           have he : e = 60 := by
             have := Xl (fun x : UInt8 => !(x == 60)) (c :: q)
             rw [hd] at this; simpa using this
           subst he
           rw [hd] at OZ
           conv => lhs; rw [← OZ]
           exact Oz (.inl rfl) g_ r
       rw [dM,U8 (by simp [List.isPrefixOf,V7 hc]),U8 hc,v_]
       cases MY false ((c :: q).takeWhile fun x => !(x == 60)) with
       | none => rfl
       | some v =>
         simp only [Vf,U7]
         have bI : ((c :: q).dropWhile fun x => !(x == 60)).length < (c :: q).length := by
           have := VW List.length OZ
           rw [Vw,fO] at this
           simp at this ⊢; omega
         rw [XM bI,ih _ (by omega) d _ rest hd]
         cases dM (bG d) ((c :: q).dropWhile fun x => !(x == 60)) with
         | none => rfl
         | some y => obtain ⟨ks,r⟩ := y; simp only [Vf,OK,Ww]
theorem OC (s:Bs):Oe s=match dM (bG 8) s with
  |some (ks,[])=>some ks
  |_=>none:=by
 unfold Oe;rw[RM _ s (Va _) 8 N0 [] rfl];cases hk:dM (bG 8) s with
 |none=>rfl
 |some y=>
 obtain⟨ks,r⟩:=y;obtain⟨_,hr⟩:=P7 _ _ _ _ (Va _) hk;rcases hr with rfl|⟨q,rfl⟩
 ·simp only[Qu,Sa,Tree.MZ,Tree.kids,N0,VH]
 simp only;cases hc:Nh [62] (60::47::q) with
 |none=>rw[O0 hc]
 |some x=>
 obtain⟨a,b⟩:=x;rw[Pf hc];obtain⟨e,ha⟩:=Nn hc;have:Ni [N0.MZ ks] (a++[62])=none:=by
  cases a with
  |nil=>simp at e
  |cons a0 a=>
  simp only[Vb,Vj] at e;cases a with
  |nil=>simp at e
  |cons a1 a=>
  simp only[Vb,Vj] at e;unfold Ni;simp only;rw[U8 (by simp[←e.1]),Vd (by simp[List.isPrefixOf,←e.1,←e.2.1])]
 rw[this];rfl

def a7 (s:Bs):List IV:=s.map fun c=>IV.int .u8 c.toNat
def a_ (s:Bs):(a7 s).length=s.length:=by simp[a7]
def rK (s t:Bs):a7 (s++t)=a7 s++a7 t:=by simp[a7]
def jh (s:Bs):Flat (a7 s):=by
 intro x hx z hz cs;obtain⟨c,_,rfl⟩:=VC.1 hx;simp only[IV.cells,Vm] at hz;subst hz;simp
def Bh (s:Bs):aB (a7 s)=s.map fun c=>[AV.int .u8 c.toNat]:=by
 simp[aB,a7,IV.cells,IV.dQ]
def gj {H:Hp} {l:Lb} {d n:Nat} {xs:List IV} {t:Bs} (hl:H l= .live ⟨1,aB xs⟩) (hn:n=xs.length) (hb:n+t.length≤140737488355328) (hd:l≠l.app d) (hu:H (l.app d)= .unused) :
  jN 1 1 d (.sl l 1 0 n) (.str t) H=some (.sl (l.app d) 1 0 (n+t.length),bD (bD H l .dead) (l.app d) (.live ⟨1,aB (xs++a7 t)⟩)):=by
 unfold jN;have h1:(aB xs).length=n:=by rw[lQ,hn]
 have e:aB (xs++a7 t)=aB xs++t.map fun c=>[AV.int .u8 c.toNat]:=by rw[lR,Bh]
 have ho:∀cs∈t.map (fun c=>[AV.int .u8 (c.toNat:Int)]),AV.oJ cs:=by
  intro cs bV;obtain⟨c,_,rfl⟩:=VC.1 bV;intro x hx;simp only[Vm] at hx;subst hx;rfl
 simp only[kU,Vp,U7];rw[U8 (by simpa using ho)];simp only[hl,V9,Wo,h1,Va,X6,hb,Nat.lt_irrefl,show 0<1 by decide,ne_eq,hd,Ys,hu,Vp,e];rw[Vq (XU h1)]
def fH {H:Hp} {l:Lb} {d n:Nat} {xs:List IV} {c:UInt8} (hl:H l= .live ⟨1,aB xs⟩) (hn:n=xs.length) (hb:n+1≤140737488355328) (hd:l≠l.app d) (hu:H (l.app d)= .unused) :
  jN 1 1 d (.sl l 1 0 n) (.list [.int .u8 (c.toNat:Int)]) H=some (.sl (l.app d) 1 0 (n+1),bD (bD H l .dead) (l.app d) (.live ⟨1,aB (xs++a7 [c])⟩)):=by
 rw[ux hl (by rw[lQ,hn]) rfl (by intro z hz cs;simp only[IV.cells,Vm] at hz;subst hz;simp) (by omega) (by decide) hd hu,lR];rfl
def gT {H:Hp} {l:Lb} {d n:Nat} {xs:List IV} (c:UInt8) {z:Int} (hz:(c.toNat:Int)=z) (hl:H l= .live ⟨1,aB xs⟩) (hn:n=xs.length) (hb:n+1≤140737488355328) (hd:l≠l.app d) (hu:H (l.app d)= .unused) :
  jN 1 1 d (.sl l 1 0 n) (.list [.int .u8 z]) H=some (.sl (l.app d) 1 0 (n+1),bD (bD H l .dead) (l.app d) (.live ⟨1,aB (xs++a7 [c])⟩)):=by
 subst hz;exact fH hl hn hb hd hu
def rL {s:Bs} {i:Nat} (h:i<s.length):∃c,s[i]?=some c:=⟨_,U' h⟩
def rM {v:Bool} {s:Bs} {i:Nat} {c:UInt8} (h:s[i]?=some c):fG v (s.take (i+1))=fG v (s.take i)++jQ v c:=by
 unfold fG;rw[V2,h,Yg];simp
def yv (v:Bool) (c:UInt8):(jQ v c).length≤6:=by
 unfold jQ;split<;>(try split)<;>(try split)<;>(try split)<;>simp[qH,rC,kD,jc]
theorem iB (v:Bool):∀s:Bs,(fG v s).length≤6*s.length
 |[]=>by simp[fG]
 |c::s=>by
  have:=iB v s;have:=yv v c;simp only[fG,WO,Vw,Vo] at *;omega
section
variable {P:Program} {G:Nat→Option (List IV)}
def iN:AC:=
(aM [zi 6] (.seq (aM [MR 9 1,oF 10 9,gH 11 0] (.block 0 (.loop (aM [et 12 .lss 11 10] (.seq (.cond (.t 12) .skip (.exit 0)) (.seq (.block 1 (aM [MR 13 11,MR 7 13] (aM [MR 14 1,MR 15 7,aQ 16 (.lj (.t 14) (.t 15)),MR 8 16] (.block 2 (aM [MR 22 8,aQ 23 (.bin .eql (.t 22) (.c (.int .u8 60))),MR 21 23] (.cond (.t 21) (.cq [MR 24 0,aQ 25 (.app (.t 24) (.c (.str [38,108,116,59])) 1 1),MR 0 25]) (aM [MR 27 8,aQ 28 (.bin .eql (.t 27) (.c (.int .u8 62))),MR 26 28] (.cond (.t 26) (.cq [MR 29 0,aQ 30 (.app (.t 29) (.c (.str [38,103,116,59])) 1 1),MR 0 30]) (aM [MR 32 8,aQ 33 (.bin .eql (.t 32) (.c (.int .u8 38))),MR 31 33] (.cond (.t 31) (.cq [MR 34 0,aQ 35 (.app (.t 34) (.c (.str [38,97,109,112,59])) 1 1),MR 0 35]) (aM [MR 37 8,aQ 38 (.bin .eql (.t 37) (.c (.int .u8 34))),MR 39 38,cU 40 39 2,jT 41 39 40,MR 36 41] (.cond (.t 36) (.cq [MR 42 0,aQ 43 (.app (.t 42) (.c (.str [38,113,117,111,116,59])) 1 1),MR 0 43]) (.cq [MR 17 0,MR 18 8,aQ 19 (.lits 1 1 [(.int .u8 0)] [(0,(.t 18))]),aQ 20 (.app (.t 17) (.t 19) 1 1),MR 0 20]))))))))))))) (.cq [eY 44 .add 11 1,MR 11 44]))))))) (aM [MR 45 0,MR 6 45] .ret)))
def Bi {c_:Nat} (hF:aw P G c_=some (46,[(none,6)],iN.bare)) (xs:List IV) (s:Bs) (v:Bool) (hb:xs.length+6*s.length≤2^40) :
  tq P G 1 c_ [.sl (.par 0) 1 0 xs.length,.str s,.bool v] xs (xs++a7 (fG v s)):=by
 refine pA hF (by simp) (by simp[ah,AV.an]) ?_;have Ko:(2:Nat)^40=1099511627776:=by decide
 unfold iN;simp only[↓aX,mX,seval,df];refine gb (σ:={i:Nat // i≤s.length}) (fun _=>[.gen 0]) (fun _ l=>l== .par 0)
  (fun q=>[(0,.sl (.gen 0) 1 0 (xs.length+(fG v (s.take q.1)).length)),(1,.str s),(2,.bool v),(10,.int .i64 s.length),(11,.int .i64 q.1)])
  (fun q=>[(.gen 0,⟨1,aB (xs++a7 (fG v (s.take q.1)))⟩)]) (fun q=>s.length - q.1) ⟨0,WC _⟩ (fun _=>rfl) (fun q=>by simp[ah,AV.an]) ?_ ⟨[(.gen 0,.par 0)],?_⟩ ?_
 ·intro q w hw cs bV z hz;simp only[Vm] at hw;subst hw;rw[bU bV] at hz;simp at hz
 ·refine⟨?_,?_,?_,by simp[dn],?_⟩
  ·intro l hf hu;right;by_cases e:l= .par 0
   ·subst e;rfl
   exfalso;apply hu;simp[ae,e,Hp.none]
  ·simp[k_,dn,bJ,put,fG,jP]
  ·simp[tc,dn,ae,dy,fG,a7]
  simp[Lb.fresh,Lb.entry]
 rintro⟨i,hi⟩;have su:=iB v (s.take i);rw[V0,XA hi] at su;simp only[↓aX,mX,seval,Wo];by_cases bI:i<s.length
 ·rw[show decide (((i:Nat):Int)<((s.length:Nat):Int))=true by simpa using bI];obtain⟨c,hc⟩:=rL bI;have hw:IntKind.i64.wrap ((i:Int)+1)=((i+1:Nat):Int):=wrap64 (by omega) (by omega);have hU:∀d,ie (fun l=>l==Lb.par 0) [(Lb.gen 0,⟨1,aB (xs++a7 (fG v (s.take i)))⟩)] (.gen (d+1))= .unused:=fun d=>by
   rw[fE (by simp)];rfl
  have hL:ie (fun l=>l==Lb.par 0) [(Lb.gen 0,⟨1,aB (xs++a7 (fG v (s.take i)))⟩)] (.gen 0)= .live ⟨1,aB (xs++a7 (fG v (s.take i)))⟩:=cL.2 (by simp[kl,ae]);have hlen:xs.length+(fG v (s.take i)).length=(xs++a7 (fG v (s.take i))).length:=by rw[Vw,a_]
  simp only[↓aX,mX,seval,hc,VG,VJ];have fin:∀(w:Bs) (d:Nat) (env:Env),jQ v c=w→env 0= .sl (.gen d) 1 0 (xs.length+(fG v (s.take i)).length+w.length)→env 1= .str s→env 2= .bool v→env 10= .int .i64 s.length→env 11= .int .i64 ((i+1:Nat):Int) →
    ∃q:{i:Nat // i≤s.length},s.length - q.1<s.length - i∧∃m,WE [.gen 0] (fun l=>l== .par 0) [(0,.sl (.gen 0) 1 0 (xs.length+(fG v (s.take q.1)).length)),(1,.str s),(2,.bool v),(10,.int .i64 s.length),(11,.int .i64 q.1)]
     [(.gen 0,⟨1,aB (xs++a7 (fG v (s.take q.1)))⟩)] env (bD (bD (ie (fun l=>l==Lb.par 0) [(Lb.gen 0,⟨1,aB (xs++a7 (fG v (s.take i)))⟩)]) (.gen 0) .dead) (.gen d) (.live ⟨1,aB (xs++a7 (fG v (s.take i))++a7 w)⟩)) m:=by
   rintro w d env rfl h0 h1 h2 h3 h4;refine⟨⟨i+1,bI⟩,by simp only;omega,[(.gen 0,.gen d)],?_,?_,?_,by simp[dn],?_⟩
   ·intro l hf hu;right;by_cases e:l= .par 0
    ·subst e;rfl
    exfalso;apply hu;cases l<;>simp[Lb.entry] at hf;rename_i n;rw[aq _ _ (by simp),aq _ _ (by simp),fE (by simp)];simp only[V8,e,Vk]
   ·simp only[k_,h0,h1,h2,h3,h4,bJ,dn,rM hc,Vw,Vp];simp only[We,and_self]
   ·simp[tc,dn,ae,dy,rM hc,rK]
   simp[Lb.fresh,Lb.entry]
  have Ly:xs.length+(fG v (s.take i)).length+6≤140737488355328:=by omega
  have GL:((c.toNat:Int)==60)=(c==60):=by
   rw[VY];simp only[V8];rw[←Xi];show _↔_=60;omega
  have E6:((c.toNat:Int)==62)=(c==62):=by
   rw[VY];simp only[V8];rw[←Xi];show _↔_=62;omega
  have HF:((c.toNat:Int)==38)=(c==38):=by
   rw[VY];simp only[V8];rw[←Xi];show _↔_=38;omega
  have Jh:((c.toNat:Int)==34)=(c==34):=by
   rw[VY];simp only[V8];rw[←Xi];show _↔_=34;omega
  rw[GL];by_cases h1:c=60
  ·rw[show(c==60)=true by simp[h1]];simp only[↓aX,mX,seval];rw[gj (xs:=xs++a7 (fG v (s.take i))) hL hlen (by simp;omega) (by simp[Lb.app,Lb.fresh]) (hU 24)];simp only[↓aX,mX,seval,hw];exact fin qH 25 _ (by unfold jQ;rw[Vd h1]) rfl rfl rfl rfl rfl
  rw[show(c==60)=false by simp[h1]];simp only[↓aX,mX,seval,E6];by_cases h2:c=62
  ·rw[show(c==62)=true by simp[h2]];simp only[↓aX,mX,seval];rw[gj (xs:=xs++a7 (fG v (s.take i))) hL hlen (by simp;omega) (by simp[Lb.app,Lb.fresh]) (hU 29)];simp only[↓aX,mX,seval,hw];exact fin rC 30 _ (by unfold jQ;rw[U8 h1,Vd h2]) rfl rfl rfl rfl rfl
  rw[show(c==62)=false by simp[h2]];simp only[↓aX,mX,seval,HF];by_cases h3:c=38
  ·rw[show(c==38)=true by simp[h3]];simp only[↓aX,mX,seval];rw[gj (xs:=xs++a7 (fG v (s.take i))) hL hlen (by simp;omega) (by simp[Lb.app,Lb.fresh]) (hU 34)];simp only[↓aX,mX,seval,hw];exact fin kD 35 _ (by unfold jQ;rw[U8 h1,U8 h2,Vd h3]) rfl rfl rfl rfl rfl
  rw[show(c==38)=false by simp[h3]];simp only[↓aX,mX,seval,Jh];have last:∀(env:Env),¬(c=34∧v=true)→jQ v c=[c]:=fun _ h4=>by unfold jQ;rw[U8 h1,U8 h2,U8 h3,U8 h4]
  by_cases h4:c=34
  ·rw[show(c==34)=true by simp[h4]];simp only[↓aX,mX,seval];refine AU (fun hv=> ?_) (fun hv=> ?_)
   ·simp only[↓aX,mX,seval];rw[gj (xs:=xs++a7 (fG v (s.take i))) hL hlen (by simp;omega) (by simp[Lb.app,Lb.fresh]) (hU 42)];simp only[↓aX,mX,seval,hw];exact fin jc 43 _ (by unfold jQ;rw[U8 h1,U8 h2,U8 h3,Vd ⟨h4,hv⟩]) rfl rfl rfl rfl rfl
   simp only[↓aX,mX,seval];rw[fH (xs:=xs++a7 (fG v (s.take i))) hL hlen (by omega) (by simp[Lb.app,Lb.fresh]) (hU 19)];simp only[↓aX,mX,seval,hw];exact fin [c] 20 _ (last Env.any (by simp[hv])) rfl rfl rfl rfl rfl
  rw[show(c==34)=false by simp[h4]];simp only[↓aX,mX,seval];rw[fH (xs:=xs++a7 (fG v (s.take i))) hL hlen (by omega) (by simp[Lb.app,Lb.fresh]) (hU 19)];simp only[↓aX,mX,seval,hw];exact fin [c] 20 _ (last Env.any (by simp[h4])) rfl rfl rfl rfl rfl
 have oI:s.take i=s:=Vq (by omega);rw[show decide (((i:Nat):Int)<((s.length:Nat):Int))=false by simpa using bI,oI];simp only[↓aX,mX,seval,cN];refine⟨.gen 0,by rw[Vw,a_],?_⟩;exact cL.2 (by simp[kl,ae])
mutual
theorem yw:∀x:Tree,x.sh.length≤7*x.wt
 | .mk t s as ks=>by
  have h1:=iB false s;have h2:=gy as;have h3:=kx ks;cases t with
  |true=>
   rw[Tree.yh _ rfl];simp only[Tree.s,Tree.wt];omega
  |false=>
  rw[Tree.QO _ rfl];simp only[Tree.s,Tree.attrs,Tree.kids,Tree.wt,Vw,Vo];cases ks with
  |nil=>simp only[nj,Vo,VR];omega
  |cons k r=>simp only[nj,Vw,Vo,VR];omega
theorem kx:∀xs:List Tree,(je xs).length≤7*dE xs
 |[]=>by simp[je,dE]
 |x::r=>by
  have:=yw x;have:=kx r;simp only[je,dE,Vw];omega
theorem gy:∀as:List Attr,(bl as).length≤7*dX as
 |[]=>by simp[bl,dX]
 |a::r=>by
  have h1:=gy r;have h2:=iB true a.val;simp only[bl,WO,Vw,iK,dX,Attr.wt,Vo,VR] at *;omega
end
def qt {as:List Attr} {i:Nat} {a:Attr} (h:as[i]?=some a):bl (as.take (i+1))=bl (as.take i)++iK a:=by
 unfold bl;rw[V2,h,Yg];simp
theorem uU:∀xs ys:List Tree,je (xs++ys)=je xs++je ys
 |[],ys=>by simp[je]
 |x::r,ys=>by simp[je,uU r ys]
def yx {ks:List Tree} {i:Nat} {k:Tree} (h:ks[i]?=some k):je (ks.take (i+1))=je (ks.take i)++k.sh:=by
 rw[V2,h,uU];simp[je]
def vX (as:List Attr) (i:Nat):dX (as.take i)≤dX as:=by
 induction as generalizing i with
 |nil=>simp[dX]
 |cons a r ih=>
 cases i with
 |zero=>simp[dX]
 |succ i=>have:=ih i;simp[dX];omega
def vY (ks:List Tree) (i:Nat):dE (ks.take i)≤dE ks:=by
 induction ks generalizing i with
 |nil=>simp[dE]
 |cons a r ih=>
 cases i with
 |zero=>simp[dE]
 |succ i=>have:=ih i;simp[dE];omega
def yy {as:List Attr} {i:Nat} {a:Attr} (h:as[i]?=some a):dX (as.take i)+a.wt≤dX as:=by
 induction as generalizing i with
 |nil=>simp at h
 |cons b r ih=>
 cases i with
 |zero=>simp at h;subst h;simp[dX]
 |succ i=>have:=ih (i:=i) (by simpa using h);simp[dX];omega
def yz {ks:List Tree} {i:Nat} {k:Tree} (h:ks[i]?=some k):dE (ks.take i)+k.wt≤dE ks:=by
 induction ks generalizing i with
 |nil=>simp at h
 |cons b r ih=>
 cases i with
 |zero=>simp at h;subst h;simp[dE]
 |succ i=>have:=ih (i:=i) (by simpa using h);simp[dE];omega
def pB {x:Tree} {env:Env} {H:Hp} {d:Nat} {ys:List IV} {ps:List (Nat×AV)} (h1:H (.gen d)= .live ⟨1,aB ys⟩) (h2:H (.loc 3)= .live ⟨4,[x.cs.map IV.dQ]⟩) (B2:∀n,n≠0→H (.par n)= .unused) (he:k_ (dn [(.gen 0,.gen d)]) env ps) :
  WE [.gen 0,.loc 3] (fun l=>l== .par 0) ps [(.gen 0,⟨1,aB ys⟩),(.loc 3,⟨4,[x.cs.map IV.dQ]⟩)] env H [(.gen 0,.gen d)]:=by
 refine⟨?_,he,?_,by simp[dn],?_⟩
 ·intro l hf hu;right;cases l<;>simp[Lb.entry] at hf;rename_i n;by_cases e:n=0
  ·subst e;rfl
  exact absurd (B2 n e) hu
 ·refine⟨by simp[dn,dy,h1],?_,trivial⟩;have:dO (dn [(Lb.gen 0,Lb.gen d)]) ⟨4,[x.cs.map IV.dQ]⟩=⟨4,[x.cs.map IV.dQ]⟩:=by
   simp only[dO,VE,Wu];rw[nT]
  rw[this];simpa[dn] using h2
 intro l hl;simp only[Vg,VN,Vy] at hl;rcases hl with rfl|rfl
 ·simp[Lb.fresh,Lb.entry]
 simp[dn]
def ld (c_ dK:Nat):AC:=
(aM [sC 3 1,zi 4] (.seq (aM [ep 9 3 0,fm 10 9] (.cond (.t 10) (aM [MR 11 0,ep 12 3 1,fm 13 12,aQ 14 (.call c_ [(.t 11),(.t 13),(me false)]),MR 4 14] .ret) .skip)) (.seq (.fK [MR 15 0,aQ 16 (.lits 1 1 [(.int .u8 0)] [(0,(.c (.int .u8 60)))]),aQ 17 (.app (.t 15) (.t 16) 1 1),ep 18 3 1,fm 19 18,aQ 20 (.app (.t 17) (.t 19) 1 1),MR 0 20] [[],[],[0,1],[],[3],[2,4,2],[5,5,0,1,2,3,4,5]] [.no,.no,(.rw [] [(.par 0),(.gen 17)]),.no,.rw [.loc 3] [],(.rw [] [(.gen 17),(.gen 20)]),.no]) (.seq (aM [ep 21 3 2,fm 22 21,oy 23 22,gH 24 0] (.block 0 (.loop (aM [et 25 .lss 24 23] (.seq (.cond (.t 25) .skip (.exit 0)) (.seq (.block 1 (aM [jL 26 22 24 2,gz 27 2 26,aQ 6 (.new [(.str []),(.str [])]),gg (.store 2 (.t 6) (.t 27))] (.seq (.fK [MR 28 0,aQ 29 (.lits 1 1 [(.int .u8 0)] [(0,(.c (.int .u8 32)))]),aQ 30 (.app (.t 28) (.t 29) 1 1),ep 31 6 0,fm 32 31,aQ 33 (.app (.t 30) (.t 32) 1 1),MR 0 33] [[],[],[0,1],[],[3],[2,4,2],[5,5,0,1,2,3,4,5]] [.no,.no,(.rw [] [(.gen 0),(.gen 30)]),.no,.rw [.loc 6] [],(.rw [] [(.gen 30),(.gen 33)]),.no]) (.fK [MR 34 0,aQ 35 (.app (.t 34) (.c (.str [61,34])) 1 1),ep 36 6 1,fm 37 36,aQ 38 (.call c_ [(.t 35),(.t 37),(me true)]),aQ 39 (.lits 1 1 [(.int .u8 0)] [(0,(.c (.int .u8 34)))]),aQ 40 (.app (.t 38) (.t 39) 1 1),MR 0 40] [[],[0],[],[2],[1,3,1],[],[4,5,4],[6,6,0,1,2,3,4,5,6]] [.no,(.rw [] [(.gen 33),(.gen 35)]),.no,.rw [.loc 6] [],(.p_ []),.no,(.rw [] [(.gen 35),(.gen 38),(.gen 40)]),.no])))) (.cq [eY 41 .add 24 1,MR 24 41]))))))) (.seq (aM [ep 42 3 3,fm 43 42,oy 44 43,eY 45 .eql 44 0] (.cond (.t 45) (aM [MR 46 0,aQ 47 (.app (.t 46) (.c (.str [47,62])) 1 1),MR 4 47] .ret) .skip)) (aM [MR 48 0,aQ 49 (.lits 1 1 [(.int .u8 0)] [(0,(.c (.int .u8 62)))]),aQ 50 (.app (.t 48) (.t 49) 1 1),MR 0 50] (.seq (aM [ep 51 3 3,fm 52 51,oy 53 52,gH 54 0] (.block 2 (.loop (aM [et 55 .lss 54 53] (.seq (.cond (.t 55) .skip (.exit 2)) (.seq (.block 3 (aM [jL 56 52 54 4,gz 57 4 56,aQ 8 (.new [(.bool false),(.str []),.nil0,.nil0]),gg (.store 4 (.t 8) (.t 57))] (.cq [MR 58 0,gz 59 4 8,aQ 60 (.call dK [(.t 58),(.t 59)]),MR 0 60]))) (.cq [eY 61 .add 54 1,MR 54 61]))))))) (.seq (.fK [MR 62 0,aQ 63 (.app (.t 62) (.c (.str [60,47])) 1 1),ep 64 3 1,fm 65 64,aQ 66 (.app (.t 63) (.t 65) 1 1),aQ 67 (.lits 1 1 [(.int .u8 0)] [(0,(.c (.int .u8 62)))]),aQ 68 (.app (.t 66) (.t 67) 1 1),MR 4 68] [[],[0],[],[2],[1,3,1],[],[4,5,4],[6,6,0,1,2,3,4,5,6]] [.no,(.rw [] [(.gen 0),(.gen 63)]),.no,.rw [.loc 3] [],(.rw [] [(.gen 63),(.gen 66)]),.no,(.rw [] [(.gen 66),(.gen 68)]),.no]) .ret))))))))
def Ee {dK c_:Nat} (hF:aw P G dK=some (69,[(none,4)],(ld c_ dK).bare)) (hE:∀(xs:List IV) (s:Bs) (v:Bool),xs.length+6*s.length≤2^40→tq P G 1 c_ [.sl (.par 0) 1 0 xs.length,.str s,.bool v] xs (xs++a7 (fG v s))) :
  ∀(n:Nat) (x:Tree) (xs:List IV),x.wt≤n→xs.length+7*x.wt≤2^40→tq P G 1 dK [.sl (.par 0) 1 0 xs.length,x.av] xs (xs++a7 x.sh):=by
 intro n;induction n with
 |zero=>intro x xs hn;have:=x.gx;omega
 |succ n ih=>
 intro x xs hn hb;refine pA hF (by simp) (by simp[ah,AV.an,Tree.av]) ?_;have Ko:(2:Nat)^40=1099511627776:=by decide
 have MA:=x.gx;have MB:=iz x.attrs;have Hm:=eZ x.kids;unfold ld;simp only[↓aX,mX,seval,df,Tree.av,VE,Wu];refine AU (fun ht=> ?_) (fun ht=> ?_)
 ·simp only[↓aX,mX,seval];have h1:=iB false x.s;have hw:=x.gx;refine mI (l:= .par 0) (N:= .gen 14) (hE xs x.s false (by omega)) (by simp[bu,bJ,ft]) (by simp[ae]) (by simp[ae,Hp.none]) (by simp[Lb.fresh]) ?_ ?_
  ·simp only[↓aX,mX,seval,cN,x.yh ht];exact⟨.gen 14,rfl,by simp[ae]⟩
  simp only[↓aX,mX,seval,cN,x.yh ht];exact⟨.par 0,rfl,by simp[ae]⟩
 simp only[↓aX,mX,seval];have HG:x.sh=60::x.s++bl x.attrs++nj x.s x.kids:=x.QO ht;refine⟨by decide +kernel,?_⟩;rw[gT (z:=60) 60 rfl (xs:=xs) (by simp[ae]) rfl (by omega) (by simp[Lb.app,Lb.fresh]) (by simp[Lb.app,Lb.fresh,ae,Hp.none])];simp only[↓aX,mX,seval,Lb.app,Lb.fresh];rw[gj (xs:=xs++a7 [60]) (by simp[ae]) (by simp[a_]) (by omega) (by simp[Lb.app,Lb.fresh]) (by simp[Lb.app,Lb.fresh,ae,Hp.none])];simp only[↓aX,mX,seval,Lb.app,Lb.fresh];have Lz:∀(a b:Lb) (F:List Lb),a.iQ∈F→b.iQ∈F→∀l:Lb,l=a∨l=b→l.iQ∈F:=by rintro a b F h1 h2 l (rfl|rfl);exact h1;exact h2
 obtain⟨y1,zl⟩:∃y1:Nat→Bs,y1=fun j=>60::x.s++bl (x.attrs.take j):=⟨_,rfl⟩;have H9:∀j,(y1 j).length≤1+x.s.length+7*dX x.attrs:=fun j=>by
  have:=gy (x.attrs.take j);have:=vX x.attrs j;rw[zl];simp only[Vw,Vo];omega
 have bV:x.cs.map IV.dQ=[.bool x.text,.str x.s,.list (cD x.attrs),.list (dq x.kids)]:=rfl;refine⟨by rintro l (rfl|rfl);exact .inl rfl;exact .inr rfl,by rintro l (rfl|rfl);exact .inl rfl;exact .inr rfl,?_⟩;refine gb (σ:={j:Nat // j≤x.attrs.length}) (fun _=>[.gen 0,.loc 3]) (fun _ l=>l== .par 0)
  (fun q=>[(0,.sl (.gen 0) 1 0 (xs++a7 (y1 q.1)).length),(3,.ptr (.loc 3) 4 0 0),(22,.list (cD x.attrs)),(23,.int .i64 x.attrs.length),(24,.int .i64 q.1)])
  (fun q=>[(.gen 0,⟨1,aB (xs++a7 (y1 q.1))⟩),(.loc 3,⟨4,[x.cs.map IV.dQ]⟩)]) (fun q=>x.attrs.length - q.1) ⟨0,WC _⟩ (fun _=>rfl) (fun q=>by simp[ah,AV.an]) ?_ ⟨[(.gen 0,.gen 20)],?_⟩ ?_
 ·intro q w hw cs jB z hz;simp only[Vg,VN,Vy] at hw;rcases hw with rfl|rfl
  ·rw[bU jB] at hz;simp at hz
  simp only[Vm] at jB;subst jB;rw[lN] at hz;simp at hz
 ·refine pB (x:=x) ?_ ?_ ?_ ?_
  ·simp[ae,zl,bl,a7]
  ·simp[ae,bV]
  ·intro n hn;simp[ae,Hp.none,hn]
  simp[k_,dn,bJ,put,zl,bl,a_,bp,We,Yj]
 rintro⟨j,hj⟩;have MC:=H9 j;have Kp:ie (fun l=>l==Lb.par 0) [(Lb.gen 0,⟨1,aB (xs++a7 (y1 j))⟩),(Lb.loc 3,⟨4,[x.cs.map IV.dQ]⟩)] (.loc 6)= .unused:=by rw[fE (by simp)];rfl
 have uV:∀d,ie (fun l=>l==Lb.par 0) [(Lb.gen 0,⟨1,aB (xs++a7 (y1 j))⟩),(Lb.loc 3,⟨4,[x.cs.map IV.dQ]⟩)] (.gen (d+1))= .unused:=fun d=>by rw[fE (by simp)];rfl
 have nk:∀d,d≠0→ie (fun l=>l==Lb.par 0) [(Lb.gen 0,⟨1,aB (xs++a7 (y1 j))⟩),(Lb.loc 3,⟨4,[x.cs.map IV.dQ]⟩)] (.par d)= .unused:=fun d hd=>by rw[fE (by simp)];simp[hd]
 have ij:ie (fun l=>l==Lb.par 0) [(Lb.gen 0,⟨1,aB (xs++a7 (y1 j))⟩),(Lb.loc 3,⟨4,[x.cs.map IV.dQ]⟩)] (.gen 0)= .live ⟨1,aB (xs++a7 (y1 j))⟩:=cL.2 (by simp[kl,ae]);have qI:ie (fun l=>l==Lb.par 0) [(Lb.gen 0,⟨1,aB (xs++a7 (y1 j))⟩),(Lb.loc 3,⟨4,[x.cs.map IV.dQ]⟩)] (.loc 3)= .live ⟨4,[x.cs.map IV.dQ]⟩:=cL.2 (by simp[kl,ae]);simp only;generalize ie (fun l=>l==Lb.par 0) [(Lb.gen 0,⟨1,aB (xs++a7 (y1 j))⟩),(Lb.loc 3,⟨4,[x.cs.map IV.dQ]⟩)]=H0 at *;simp only[↓aX,mX,seval,Wo];by_cases bI:j<x.attrs.length
 ·rw[show decide (((j:Nat):Int)<((x.attrs.length:Nat):Int))=true by simpa using bI];obtain⟨a,ha⟩:∃a,x.attrs[j]?=some a:=⟨_,U' bI⟩;have hw:IntKind.i64.wrap ((j:Int)+1)=((j+1:Nat):Int):=wrap64 (by omega) (by omega);have Ef:=yy ha;have BY:=gy (x.attrs.take j);have LA:(y1 j).length=1+x.s.length+(bl (x.attrs.take j)).length:=by rw[zl];simp;omega
  simp only[Attr.wt] at Ef;simp only[↓aX,mX,seval,lS,ha,rq,Attr.cJ,Attr.cs,Vf];refine⟨Kp,by decide +kernel,?_⟩;rw[gT (z:=32) 32 rfl (xs:=xs++a7 (y1 j)) (by simp[ae,ij]) rfl (by simp[a_];omega) (by simp[Lb.app,Lb.fresh]) (by simp[Lb.app,Lb.fresh,ae,uV])];simp only[↓aX,mX,seval,Lb.app,Lb.fresh];rw[gj (xs:=xs++a7 (y1 j)++a7 [32]) (by simp[ae]) (by simp[a_,We]) (by simp[a_];omega) (by simp[Lb.app,Lb.fresh]) (by simp[Lb.app,Lb.fresh,ae,uV])];simp only[↓aX,mX,seval,Lb.app,Lb.fresh];refine⟨by rintro l (rfl|rfl);exact .inl rfl;exact .inr rfl,by rintro l (rfl|rfl);exact .inl rfl;exact .inr rfl,rfl,?_⟩;rw[gj (xs:=xs++a7 (y1 j)++a7 [32]++a7 a.name) (t:=[61,34]) (by simp[ae]) (by simp[a_,We]) (by simp[a_];omega) (by simp[Lb.app,Lb.fresh]) (by simp[Lb.app,Lb.fresh,ae,uV])];simp only[↓aX,mX,seval,Lb.app,Lb.fresh];refine⟨by rintro l (rfl|rfl);exact .inl rfl;exact .inr rfl,?_⟩;have gr:y1 (j+1)=y1 j++([32]++a.name++[61,34]++fG true a.val++[34]):=by rw[zl];simp only[qt ha,iK];simp
  have MD:=iB true a.val;refine Bg (l:= .gen 35) (N:= .gen 38) (hE (xs++a7 (y1 j)++a7 [32]++a7 a.name++a7 [61,34]) a.val true (by simp[a_];omega)) (by simp[bu,bJ,ft,a_,We]) (by simp[ae]) (by simp[ae,uV]) (by simp[Lb.fresh]) (by simp) (by simp) ?_ ?_
  ·simp only[↓aX,mX,seval,Lb.app,Lb.fresh];rw[gT (z:=34) 34 rfl (xs:=xs++a7 (y1 j)++a7 [32]++a7 a.name++a7 [61,34]++a7 (fG true a.val)) (by simp[ae]) rfl (by simp[a_];omega) (by simp[Lb.app,Lb.fresh]) (by simp[Lb.app,Lb.fresh,ae,uV])];simp only[↓aX,mX,seval,Lb.app,Lb.fresh,hw];refine⟨by rintro l (rfl|rfl);exact .inr (.inl rfl);exact .inr (.inr rfl),⟨j+1,bI⟩,by simp only;omega,[(.gen 0,.gen 40)],?_⟩;refine pB (x:=x) ?_ ?_ ?_ ?_
   ·simp[ae,gr,a7]
   ·simp[ae,qI]
   ·intro n hn;simp[ae,nk n hn]
   simp[k_,dn,bJ,put,gr,a_];omega
  simp only[↓aX,mX,seval,Lb.app,Lb.fresh];rw[gT (z:=34) 34 rfl (xs:=xs++a7 (y1 j)++a7 [32]++a7 a.name++a7 [61,34]++a7 (fG true a.val)) (by simp[ae]) rfl (by simp[a_];omega) (by simp[Lb.app,Lb.fresh]) (by simp[Lb.app,Lb.fresh,ae,uV])];simp only[↓aX,mX,seval,Lb.app,Lb.fresh,hw];refine⟨by rintro l (rfl|rfl);exact .inl rfl;exact .inr (.inr rfl),⟨j+1,bI⟩,by simp only;omega,[(.gen 0,.gen 40)],?_⟩;refine pB (x:=x) ?_ ?_ ?_ ?_
  ·simp[ae,gr,a7]
  ·simp[ae,qI]
  ·intro n hn;simp[ae,nk n hn]
  simp[k_,dn,bJ,put,gr,a_];omega
 have oI:x.attrs.take j=x.attrs:=Vq (by omega);rw[show decide (((j:Nat):Int)<((x.attrs.length:Nat):Int))=false by simpa using bI];have HI:y1 j=60::x.s++bl x.attrs:=by rw[zl];simp only[oI]
 simp only[↓aX,mX,seval,qI,bV,bF];have ME:(je x.kids).length≤7*dE x.kids:=kx _;have Ji:(y1 j).length=1+x.s.length+(bl x.attrs).length:=by rw[HI];simp;omega
 have LB:=gy x.attrs;by_cases sr:x.kids=[]
 ·rw[show(((x.kids.length:Nat):Int)==0)=true by simp[sr]];simp only[↓aX,mX,seval];rw[gj (xs:=xs++a7 (y1 j)) (t:=[47,62]) ij rfl (by simp[a_];omega) (by simp[Lb.app,Lb.fresh]) (by simp[Lb.app,Lb.fresh,uV])];simp only[↓aX,mX,seval,Lb.app,Lb.fresh,cN];refine⟨.gen 47,?_,?_⟩
  ·simp[HG,sr,nj,HI,a_];omega
  simp[ae,HG,sr,nj,HI,a7]
 have LC:x.kids.length≠0:=fun e=>sr (Vv.1 e);rw[show(((x.kids.length:Nat):Int)==0)=false by simp;exact sr];simp only[↓aX,mX,seval];rw[gT (z:=62) 62 rfl (xs:=xs++a7 (y1 j)) ij rfl (by simp[a_];omega) (by simp[Lb.app,Lb.fresh]) (by simp[Lb.app,Lb.fresh,uV])];simp only[↓aX,mX,seval,Lb.app,Lb.fresh,qI,bV,bF];obtain⟨y2,o8⟩:∃y2:Nat→Bs,y2=fun k=>y1 j++[62]++je (x.kids.take k):=⟨_,rfl⟩;have Jj:∀k,(y2 k).length=2+x.s.length+(bl x.attrs).length+(je (x.kids.take k)).length:=fun k=>by
  rw[o8];simp only[Vw,Vo,VR,Ji];omega
 refine gb (σ:={k:Nat // k≤x.kids.length}) (fun _=>[.gen 0,.loc 3]) (fun _ l=>l== .par 0)
  (fun q=>[(0,.sl (.gen 0) 1 0 (xs++a7 (y2 q.1)).length),(3,.ptr (.loc 3) 4 0 0),(52,.list (dq x.kids)),(53,.int .i64 x.kids.length),(54,.int .i64 q.1)])
  (fun q=>[(.gen 0,⟨1,aB (xs++a7 (y2 q.1))⟩),(.loc 3,⟨4,[x.cs.map IV.dQ]⟩)]) (fun q=>x.kids.length - q.1) ⟨0,WC _⟩ (fun _=>rfl) (fun q=>by simp[ah,AV.an]) ?_ ⟨[(.gen 0,.gen 50)],?_⟩ ?_
 ·intro q w hw cs jB z hz;simp only[Vg,VN,Vy] at hw;rcases hw with rfl|rfl
  ·rw[bU jB] at hz;simp at hz
  simp only[Vm] at jB;subst jB;rw[lN] at hz;simp at hz
 ·refine pB (x:=x) ?_ ?_ ?_ ?_
  ·simp[ae,o8,je,a7]
  ·simp[ae,qI]
  ·intro n hn;simp[ae,nk n hn]
  simp[k_,dn,bJ,put,o8,je,a_,bF];omega
 clear Kp uV nk ij qI;rintro⟨k,hk⟩;have FP:=Jj k;have MF:=kx (x.kids.take k);have LD:=vY x.kids k;have LF:ie (fun l=>l==Lb.par 0) [(Lb.gen 0,⟨1,aB (xs++a7 (y2 k))⟩),(Lb.loc 3,⟨4,[x.cs.map IV.dQ]⟩)] (.loc 8)= .unused:=by rw[fE (by simp)];rfl
 have uV:∀d,ie (fun l=>l==Lb.par 0) [(Lb.gen 0,⟨1,aB (xs++a7 (y2 k))⟩),(Lb.loc 3,⟨4,[x.cs.map IV.dQ]⟩)] (.gen (d+1))= .unused:=fun d=>by rw[fE (by simp)];rfl
 have nk:∀d,d≠0→ie (fun l=>l==Lb.par 0) [(Lb.gen 0,⟨1,aB (xs++a7 (y2 k))⟩),(Lb.loc 3,⟨4,[x.cs.map IV.dQ]⟩)] (.par d)= .unused:=fun d hd=>by rw[fE (by simp)];simp[hd]
 have ij:ie (fun l=>l==Lb.par 0) [(Lb.gen 0,⟨1,aB (xs++a7 (y2 k))⟩),(Lb.loc 3,⟨4,[x.cs.map IV.dQ]⟩)] (.gen 0)= .live ⟨1,aB (xs++a7 (y2 k))⟩:=cL.2 (by simp[kl,ae]);have qI:ie (fun l=>l==Lb.par 0) [(Lb.gen 0,⟨1,aB (xs++a7 (y2 k))⟩),(Lb.loc 3,⟨4,[x.cs.map IV.dQ]⟩)] (.loc 3)= .live ⟨4,[x.cs.map IV.dQ]⟩:=cL.2 (by simp[kl,ae]);simp only;generalize ie (fun l=>l==Lb.par 0) [(Lb.gen 0,⟨1,aB (xs++a7 (y2 k))⟩),(Lb.loc 3,⟨4,[x.cs.map IV.dQ]⟩)]=H1 at *;simp only[↓aX,mX,seval,Wo];by_cases iG:k<x.kids.length
 ·rw[show decide (((k:Nat):Int)<((x.kids.length:Nat):Int))=true by simpa using iG];obtain⟨t,GM⟩:∃t,x.kids[k]?=some t:=⟨_,U' iG⟩;have hw:IntKind.i64.wrap ((k:Int)+1)=((k+1:Nat):Int):=wrap64 (by omega) (by omega);have LG:=yz GM;have gr:y2 (k+1)=y2 k++t.sh:=by rw[o8];simp only[yx GM];simp
  simp only[↓aX,mX,seval,iy,GM,lT,Tree.cJ,Tree.cs,Vf];refine⟨LF,?_⟩;refine mI (l:= .gen 0) (N:= .gen 60) (ih t (xs++a7 (y2 k)) (by omega) (by simp[a_];omega)) (by simp[bu,bJ,ft,Tree.av]) (by simp[ae,ij]) (by simp[ae,uV]) (by simp[Lb.fresh]) ?_ ?_
  ·simp only[↓aX,mX,seval,hw];refine⟨⟨k+1,iG⟩,by simp only;omega,[(.gen 0,.gen 60)],?_⟩;refine pB (x:=x) ?_ ?_ ?_ ?_
   ·simp[ae,gr,a7]
   ·simp[ae,qI]
   ·intro n hn;simp[ae,nk n hn]
   simp[k_,dn,bJ,put,gr,a_]
  simp only[↓aX,mX,seval,hw];refine⟨⟨k+1,iG⟩,by simp only;omega,[(.gen 0,.gen 0)],?_⟩;refine pB (x:=x) ?_ ?_ ?_ ?_
  ·simp[ae,gr,a7]
  ·simp[ae,qI]
  ·intro n hn;simp[ae,nk n hn]
  simp[k_,dn,bJ,put,gr,a_]
 have Kq:x.kids.take k=x.kids:=Vq (by omega);rw[show decide (((k:Nat):Int)<((x.kids.length:Nat):Int))=false by simpa using iG];rw[Kq] at FP;simp only[↓aX,mX,seval,qI,bV];refine⟨by decide +kernel,?_⟩;rw[gj (xs:=xs++a7 (y2 k)) (t:=[60,47]) ij rfl (by simp[a_];omega) (by simp[Lb.app,Lb.fresh]) (by simp[Lb.app,Lb.fresh,uV])];simp only[↓aX,mX,seval,Lb.app,Lb.fresh,qI,bV];rw[gj (xs:=xs++a7 (y2 k)++a7 [60,47]) (by simp[ae]) (by simp[a_,We]) (by simp[a_];omega) (by simp[Lb.app,Lb.fresh]) (by simp[Lb.app,Lb.fresh,ae,uV])];simp only[↓aX,mX,seval,Lb.app,Lb.fresh];rw[gT (z:=62) 62 rfl (xs:=xs++a7 (y2 k)++a7 [60,47]++a7 x.s) (by simp[ae]) (by simp[a_,We]) (by simp[a_];omega) (by simp[Lb.app,Lb.fresh]) (by simp[Lb.app,Lb.fresh,ae,uV])];simp only[↓aX,mX,seval,Lb.app,Lb.fresh,cN];have GN:x.sh=y2 k++[60,47]++x.s++[62]:=by rw[HG,qp _ sr,o8];simp only[Kq,HI];simp
 refine⟨by rintro l (rfl|rfl);exact .inl rfl;exact .inr rfl,by rintro l (rfl|rfl);exact .inl rfl;exact .inr rfl,by rintro l (rfl|rfl);exact .inl rfl;exact .inr rfl,.gen 68,?_,?_⟩
 ·simp[GN,a_];omega
 simp[ae,GN,a7]
end

def Eg {S:St} {f:Nat} {fn:Func} {e:Array Value→Sem Value} {args:List AV} {H:Hp} {res:AV} (hf:S.P.funcs[f]?=some fn) (yA:(fn.name== "runtime.NumGoroutine")=false) (hb:fn.body.isNone=true)
  (hn:Extern.findNext fn=none) (he:Extern.find fn=some e) (hr:∀(w:World) (β:Lb→Option Nat) (I:Nat→Prop) (vs:List Value),br w β H I args vs→∃v,(e vs.toArray).run S.P w= .ok v w∧RV w β H I res v) (hl:res.an=[]) :
  sZ S f args H res:=by
 intro K β env a w vs hS ju hv;subst hS;obtain⟨v,h1,h2⟩:=hr w β _ vs hv;refine⟨v,w,?_,Below.refl _ _,h2,by simp[hl]⟩;rw[run_callFunc_extern hf yA hb hn he,h1];rfl
def Jk {w:World} {β:Lb→Option Nat} {H:Hp} {I:Nat→Prop} {x y:AV} {vs:List Value} (h:br w β H I [x,y] vs):∃u v,vs=[u,v]∧RV w β H I x u∧RV w β H I y v:=by
 match vs,h with
 |[u,v],h=>
  simp only[br] at h;obtain⟨_,_,h0,h1,_,_,h2,h3,h4⟩:=h;cases h0;cases h2;cases h4;exact⟨u,v,rfl,h1,h3⟩
def RN {S:St} {f:Nat} {fn:Func} (hf:S.P.funcs[f]?=some fn) (yA:(fn.name== "runtime.NumGoroutine")=false) (hb:fn.body.isNone=true)
  (hn:Extern.findNext fn=none) (he:Extern.find fn=some Extern.BytealgIndexByte.indexByte) (s:Bs) (c:UInt8) (H:Hp):sZ S f [.str s,.int .u8 (c.toNat:Int)] H (.int .i64 (Lib.indexByte s c)):=by
 refine Eg hf yA hb hn he (fun w β I vs hv=> ?_) rfl;obtain⟨u,v,rfl,h1,h2⟩:=Jk hv;simp only[RV] at h1 h2;subst h1;subst h2;exact⟨_,Lib.run_indexByteString _ _ _,by simp[RV]⟩
def rN {S:St} {f:Nat} {fn:Func} (hf:S.P.funcs[f]?=some fn) (yA:(fn.name== "runtime.NumGoroutine")=false) (hb:fn.body.isNone=true)
  (hn:Extern.findNext fn=none) (he:Extern.find fn=some Extern.BytealgCompare.compare) (s t:Bs) (H:Hp):sZ S f [.str s,.str t] H (.int .i64 (Lib.compareBytes s t)):=by
 refine Eg hf yA hb hn he (fun w β I vs hv=> ?_) rfl;obtain⟨u,v,rfl,h1,h2⟩:=Jk hv;simp only[RV] at h1 h2;subst h1;subst h2;exact⟨_,Lib.run_compareString _ _ _,by simp[RV]⟩
def ej (c:UInt8):Bs→List Bs
 |[]=>[[]]
 |b::r=>if b=c then []::ej c r else match ej c r with
  |w::ws=>(b::w)::ws
  |[]=>[[b]]
theorem pC (c:UInt8):∀s:Bs,(Lib.indexByte s c= -1∧s.count c=0∧ej c s=[s]) ∨
  ∃m:Nat,Lib.indexByte s c=(m:Int)∧m<s.length∧s.count c=(s.drop (m+1)).count c+1∧ej c s=s.take m::ej c (s.drop (m+1))
 |[]=> .inl ⟨rfl,rfl,rfl⟩
 |b::r=>by
  by_cases h:b=c
  ·subst h;refine .inr ⟨0,?_,by simp,by simp,?_⟩
   ·unfold Lib.indexByte;simp
   simp[ej]
  have hb:(b==c)=false:=by simpa using h
  rcases pC c r with⟨h1,h2,h3⟩|⟨m,h1,h2,h3,h4⟩
  ·refine .inl ⟨?_,?_,?_⟩
   ·unfold Lib.indexByte;rw[hb,h1];rfl
   ·rw[YD,h2,hb];rfl
   simp[ej,h,h3]
  refine .inr ⟨m+1,?_,by simp;omega,?_,?_⟩
  ·unfold Lib.indexByte;rw[hb,h1];have:((m:Int)== -1)=false:=(by rw[VX];omega);rw[this];simp
  ·rw[YD,hb];simpa using h3
  simp[ej,h,h4]
def yB (c s:Bs):(decide (c.length≤s.length)&&s.take c.length==c)=c.isPrefixOf s:=by
 rw[VY];simp only[Vc,Vn,V8,Vt];constructor
 ·rintro⟨_,h⟩;have:=VM c.length s;rw[h] at this;exact⟨s.drop c.length,this⟩
 rintro⟨t,rfl⟩;simp
section
variable {P:Program} {G:Nat→Option (List IV)}
def Nd (M5:Nat):AC:=
(aM [gH 4 0] (aM [MR 5 0,MR 6 1,aQ 7 (.kE M5 [(.t 5),(.t 6)]),MR 4 7] .ret))
def Q0 {MU M5:Nat} (hF:aw P G MU=some (8,[(none,4)],(Nd M5).bare))
  (hX:∀(N:Nat) (s:Bs) (c:UInt8) (H:Hp),sZ ⟨P,G,N⟩ M5 [.str s,.int .u8 (c.toNat:Int)] H (.int .i64 (Lib.indexByte s c))) (s:Bs) (c:UInt8) :
  au P G MU [.str s,.int .u8 (c.toNat:Int)] (.int .i64 (Lib.indexByte s c)):=by
 refine aR hF (by simp) (by simp[ah,AV.an]) (by simp[AV.an]) ?_;unfold Nd;simp only[↓aX,mX,seval];refine DZ (hX _ _ _ _) ?_;simp only[↓aX,mX,seval]
def cy:AC:=
(aM [jM 4 false] (aM [MR 5 0,oF 6 5,MR 7 1,oF 8 7,et 9 .geq 6 8,MR 10 9,cU 11 10 0,cU 12 10 1,dW 13 10 (.lens (.t 12)),dW 14 10 (.kB (.t 11) none (some (.t 13))),cU 15 10 1,dW 16 10 (.bin .eql (.t 14) (.t 15)),jT 17 10 16,MR 4 17] .ret))
def tt {ax:Nat} (hF:aw P G ax=some (18,[(none,4)],cy.bare)) (s t:Bs):au P G ax [.str s,.str t] (.bool (t.isPrefixOf s)):=by
 refine aR hF (by simp) (by simp[ah,AV.an]) (by simp[AV.an]) ?_;unfold cy;rw[←yB];simp only[↓aX,mX,seval];by_cases h:t.length≤s.length
 ·rw[show decide (((s.length:Nat):Int)≥((t.length:Nat):Int))=true by simpa using h,XK h];simp only[↓aX,mX,seval,lk,VG,VJ,V9,h]
 rw[show decide (((s.length:Nat):Int)≥((t.length:Nat):Int))=false by simpa using h,X3 h];simp only[↓aX,mX,seval,WV]
def cz (ax:Nat):AC:=
(aM [aQ 4 (.iC (.c (.str []))),jM 5 false] (.seq (aM [MR 6 0,MR 7 1,aQ 8 (.call ax [(.t 6),(.t 7)]),sB 9 8] (.cond (.t 9) (aM [MR 10 0,MR 4 10,jM 5 false] .ret) .skip)) (aM [MR 11 0,MR 12 1,oF 13 12,aQ 14 (.kB (.t 11) (some (.t 13)) none),MR 4 14,jM 5 true] .ret)))
def qu {aY ax:Nat} (hF:aw P G aY=some (15,[(none,4),(none,5)],(cz ax).bare)) (s t:Bs)
  (hX:au P G ax [.str s,.str t] (.bool (t.isPrefixOf s))) :
  au P G aY [.str s,.str t] (.gf [.str (if t.isPrefixOf s then s.drop t.length else s),.bool (t.isPrefixOf s)]):=by
 refine aR hF (by simp) (by simp[ah,AV.an]) (by simp[AV.an,ah]) ?_;unfold cz;simp only[↓aX,mX,seval];refine ay hX ?_;cases h:t.isPrefixOf s with
 |false=>simp only[↓aX,mX,seval,Ve,↓h_]
 |true=>
 have:t.length≤s.length:=by rw[Vt] at h;exact h.length_le
 simp only[↓aX,mX,seval,Vh,lk,VG,VJ,V9,this,VS,↓h_]
def eT (aY:Nat):AC:=
(aM [aQ 4 (.iC (.c (.str []))),jM 5 false] (aM [MR 6 0,MR 7 1,aQ 8 (.call aY [(.t 6),(.t 7)]),ox 9 8 0,ox 10 8 1,MR 4 9,MR 5 10] .ret))
def tu {bZ aY:Nat} (hF:aw P G bZ=some (11,[(none,4),(none,5)],(eT aY).bare)) (s t:Bs)
  (hX:au P G aY [.str s,.str t] (.gf [.str (if t.isPrefixOf s then s.drop t.length else s),.bool (t.isPrefixOf s)])) :
  au P G bZ [.str s,.str t] (.gf [.str (if t.isPrefixOf s then s.drop t.length else s),.bool (t.isPrefixOf s)]):=by
 refine aR hF (by simp) (by simp[ah,AV.an]) (by simp[AV.an,ah]) ?_;unfold eT;simp only[↓aX,mX,seval];refine ay hX ?_;simp only[↓aX,mX,seval,↓h_]
def Sc (c s:Bs):(decide (c.length≤s.length)&&s.drop (s.length - c.length)==c)=c.isSuffixOf s:=by
 rw[VY];simp only[Vc,Vn,V8,Xf];constructor
 ·rintro⟨_,h⟩;have:=VM (s.length - c.length) s;rw[h] at this;exact⟨_,this⟩
 rintro⟨t,rfl⟩;simp
def Nf:AC:=
(aM [jM 4 false] (aM [MR 5 0,oF 6 5,MR 7 1,oF 8 7,et 9 .geq 6 8,MR 10 9,cU 11 10 0,cU 12 10 0,dW 13 10 (.lens (.t 12)),cU 14 10 1,dW 15 10 (.lens (.t 14)),dW 16 10 (.bin .sub (.t 13) (.t 15)),dW 17 10 (.kB (.t 11) (some (.t 16)) none),cU 18 10 1,dW 19 10 (.bin .eql (.t 17) (.t 18)),jT 20 10 19,MR 4 20] .ret))
def Q1 {MV:Nat} (hF:aw P G MV=some (21,[(none,4)],Nf.bare)) (s t:Bs) (hs:s.length≤B) (ht:t.length≤B):au P G MV [.str s,.str t] (.bool (t.isSuffixOf s)):=by
 refine aR hF (by simp) (by simp[ah,AV.an]) (by simp[AV.an]) ?_;unfold Nf;rw[←Sc];simp only[↓aX,mX,seval];by_cases h:t.length≤s.length
 ·have hw:IntKind.i64.wrap ((s.length:Int) - (t.length:Int))=((s.length - t.length:Nat):Int):=by rw[wrap64 (by unfold B at hs ht;omega) (by unfold B at hs ht;omega)];omega
  rw[show decide (((s.length:Nat):Int)≥((t.length:Nat):Int))=true by simpa using h,XK h];simp only[↓aX,mX,seval,hw,lk,VG,VJ,V9,show s.length - t.length≤s.length by omega,VS]
 rw[show decide (((s.length:Nat):Int)≥((t.length:Nat):Int))=false by simpa using h,X3 h];simp only[↓aX,mX,seval,WV]
def Ng (MV:Nat):AC:=
(aM [aQ 4 (.iC (.c (.str []))),jM 5 false] (.seq (aM [MR 6 0,MR 7 1,aQ 8 (.call MV [(.t 6),(.t 7)]),sB 9 8] (.cond (.t 9) (aM [MR 10 0,MR 4 10,jM 5 false] .ret) .skip)) (aM [MR 11 0,MR 12 0,oF 13 12,MR 14 1,oF 15 14,et 16 .sub 13 15,aQ 17 (.kB (.t 11) none (some (.t 16))),MR 4 17,jM 5 true] .ret)))
def Qe {MW MV:Nat} (hF:aw P G MW=some (18,[(none,4),(none,5)],(Ng MV).bare)) (s t:Bs) (hs:s.length≤B) (ht:t.length≤B)
  (hX:au P G MV [.str s,.str t] (.bool (t.isSuffixOf s))) :
  au P G MW [.str s,.str t] (.gf [.str (if t.isSuffixOf s then s.take (s.length - t.length) else s),.bool (t.isSuffixOf s)]):=by
 refine aR hF (by simp) (by simp[ah,AV.an]) (by simp[AV.an,ah]) ?_;unfold Ng;simp only[↓aX,mX,seval];refine ay hX ?_;cases h:t.isSuffixOf s with
 |false=>simp only[↓aX,mX,seval,Ve,↓h_]
 |true=>
 have hl:t.length≤s.length:=by rw[Xf] at h;exact h.length_le
 have hw:IntKind.i64.wrap ((s.length:Int) - (t.length:Int))=((s.length - t.length:Nat):Int):=by rw[wrap64 (by unfold B at hs ht;omega) (by unfold B at hs ht;omega)];omega
 simp only[↓aX,mX,seval,Vh,hw,lk,VG,VJ,V9,show s.length - t.length≤s.length by omega,↓h_]
 try simp
def NR (MW:Nat):AC:=
(aM [aQ 4 (.iC (.c (.str []))),jM 5 false] (aM [MR 6 0,MR 7 1,aQ 8 (.call MW [(.t 6),(.t 7)]),ox 9 8 0,ox 10 8 1,MR 4 9,MR 5 10] .ret))
def Q2 {M9 MW:Nat} (hF:aw P G M9=some (11,[(none,4),(none,5)],(NR MW).bare)) (s t:Bs)
  (hX:au P G MW [.str s,.str t] (.gf [.str (if t.isSuffixOf s then s.take (s.length - t.length) else s),.bool (t.isSuffixOf s)])) :
  au P G M9 [.str s,.str t] (.gf [.str (if t.isSuffixOf s then s.take (s.length - t.length) else s),.bool (t.isSuffixOf s)]):=by
 refine aR hF (by simp) (by simp[ah,AV.an]) (by simp[AV.an,ah]) ?_;unfold NR;simp only[↓aX,mX,seval];refine ay hX ?_;simp only[↓aX,mX,seval,↓h_]
def Bj (c:UInt8) (s:Bs):Bs×Bs×Bool:=if 0≤Lib.indexByte s c then(s.take (Lib.indexByte s c).toNat,s.drop ((Lib.indexByte s c).toNat+1),true) else(s,[],false)
end
end Go.Am
