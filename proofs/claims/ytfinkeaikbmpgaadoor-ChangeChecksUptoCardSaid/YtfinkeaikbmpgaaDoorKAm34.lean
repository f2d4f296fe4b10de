import Derived.Test.YtfinkeaikbmpgaaDoorKAm33
import Derived.Test.YtfinkeaikbmpgaaDoorKAm24
set_option linter.unusedSimpArgs false
set_option linter.unusedVariables false
set_option linter.unnecessarySimpa false
set_option linter.defProp false
/- THE ABSTRACT MACHINE, part 34: a list of structs behind a pointer. -/
namespace Go.Am
open Go Go.RowKit
def afA (sz b d:Nat) (l:Lb) (xs:List IV) (x:IV) {n:Nat} {H:Hp} (hf:l.fresh=false) (hl:H l= .live ⟨sz,aB xs⟩) (hn:xs.length=n) (he:x.cells.length=sz) (FO:∀z∈x.cells,∀cs,z≠ .agg cs) (hb:(n+1)*b≤140737488355328) (h0:0<b)
  (hd:l≠ .gen d) (hu:H (.gen d)= .unused) :
  jN sz b d (.sl l sz 0 n) (.list [x]) H=some (.sl (.gen d) sz 0 (n+1),bD (bD H l .dead) (.gen d) (.live ⟨sz,aB (xs++[x])⟩)):=by
 have e:l.app d= .gen d:=by unfold Lb.app;rw[hf];rfl
 have:=ux (l:=l) (d:=d) hl (by rw[lQ];exact hn) he FO hb h0 (by rw[e];exact hd) (by rw[e];exact hu);rw[e] at this;rw[this,lR]
def ie (u:Lb→Bool) (rs:List (Lb×Row)):Hp:=fun q=>match kl rs q with
 | .unused=>if u q then .dead else .unused
 |s=>s
def cL {u:Lb→Bool} {rs:List (Lb×Row)} {l:Lb} {r:Row}:ie u rs l= .live r↔kl rs l= .live r:=by
 unfold ie;cases h:kl rs l with
 |unused=>by_cases hu:u l=true<;>simp[hu]
 |dead=>simp
 |live r'=>simp
def jb {u:Lb→Bool} {rs:List (Lb×Row)} {l:Lb} (h:l∈rs.map Prod.fst∨u l=true):ie u rs l≠ .unused:=by
 unfold ie;rcases h with h|h
 ·have:=lP h;cases h2:kl rs l with
  |unused=>exact absurd h2 this
  |dead=>simp
  |live r=>simp
 cases h2:kl rs l with
 |unused=>simp[h]
 |dead=>simp
 |live r=>simp
structure WU (ls:List Lb) (u:Lb→Bool) (ps:List (Nat×AV)) (rs:List (Lb×Row)) (env:Env) (H:Hp) (m:List (Lb×Lb)):Prop where
 nf:∀l:Lb,l.fresh=false→H l≠ .unused→l∈ls∨u l=true
 e:k_ (dn m) env ps
 r:tc (dn m) H rs
 inj:(ls.map (dn m)).Nodup
 fr:∀l∈ls,(l.fresh=true→(dn m l).fresh=true)∧(l.fresh=false→dn m l=l)
def WU.wk {ls:List Lb} {u:Lb→Bool} {ps:List (Nat×AV)} {rs:List (Lb×Row)} {env:Env} {H:Hp} {m:List (Lb×Lb)} (h:WU ls u ps rs env H m) (lr:rs.map Prod.fst=ls) (hp:∀l∈ah (ps.map Prod.snd),l∈ls)
  (hr:∀q∈rs,∀cs∈q.2.els,∀l∈ah cs,l∈ls):Wk (dn m) env H (o9 ps) (ie u rs):=by
 have sw:∀l,live (ie u rs) l→l∈ls:=fun l ⟨r,h⟩=>by rw[←lr];exact cO.2 ⟨_,fy (cL.1 h),rfl⟩
 refine⟨h.e.we,fun l r hl=>nr h.r (fy (cL.1 hl)),fun l l' h1 h2 e=>gi h.inj l (sw l h1) l' (sw l' h2) e,mu fun l hl=>jb (.inl (by rw[lr];exact hp l hl)),fun l r hl cs bV q hq=> ?_,
  fun l hf=>⟨fun hu=> ?_,fun hl=>(h.fr l (sw l hl)).2 (Lb.Og hf)⟩,fun l hl hf=>(h.fr l (sw l hl)).1 hf⟩
 ·exact jb (.inl (by rw[lr];exact hr _ (fy (cL.1 hl)) cs bV q hq))
 exact jb (by rw[lr];exact h.nf l (Lb.Og hf) hu)
def pe {σ:Type} {S:St} {Q:gI} {c:AC} {k:List It} {env:Env} {H:Hp} (ls:σ→List Lb) (u:σ→Lb→Bool) (ps:σ→List (Nat×AV)) (rs:σ→List (Lb×Row)) (μ:σ→Nat) (s0:σ)
  (lr:∀s,(rs s).map Prod.fst=ls s) (hp:∀s,∀l∈ah ((ps s).map Prod.snd),l∈ls s) (hr:∀s,∀q∈rs s,∀cs∈q.2.els,∀l∈ah cs,l∈ls s) (h0:∃m,WU (ls s0) (u s0) (ps s0) (rs s0) env H m)
  (round:∀s,go S (kM S Q k (fun env H s=>∃m,WU (ls s) (u s) (ps s) (rs s) env H m) μ (μ s)) [.code c] (o9 (ps s)) (ie (u s) (rs s))):lI S Q c k env H:=
 j7 (fun s=>o9 (ps s)) (fun s=>ie (u s) (rs s)) _ (fun _ _ s ⟨m,h⟩=>⟨_,h.wk (lr s) (hp s) (hr s)⟩) μ s0 h0 round
def ad7 (sz:Nat) (l:Lb) (o:Option Lb) (xs:List IV) (H:Hp):Prop:=match o with
 |none=>H l= .live ⟨1,[[.nil0]]⟩∧xs=[]
 |some L=>L≠l∧H l= .live ⟨1,[[.sl L sz 0 xs.length]]⟩∧H L= .live ⟨sz,aB xs⟩
def Xq (sz:Nat) (xs:List IV):Bool→Hp
 |false=>bD Hp.none (.par 0) (.live ⟨1,[[.nil0]]⟩)
 |true=>bD (bD Hp.none (.par 1) (.live ⟨sz,aB xs⟩)) (.par 0) (.live ⟨1,[[.sl (.par 1) sz 0 xs.length]]⟩)
def adm (P:Program) (G:Nat→Option (List IV)) (sz f:Nat) (args:List AV) (xs:List IV) (res:AV) (ys:List IV):Prop:=
 (∀l∈ah args,l= .par 0)∧res.an=[]∧∀b:Bool,(b=false→xs=[])→ey P G f args (Xq sz xs b) fun x H'=>x=res∧∃L,ad7 sz (.par 0) (some L) ys H'
def dy (ρ:Lb→Lb) (sz:Nat) (xs:List IV):dO ρ ⟨sz,aB xs⟩=⟨sz,aB xs⟩:=rk ρ sz xs
def ey.ahr {P:Program} {G:Nat→Option (List IV)} {f:Nat} {args:List AV} {H:Hp} {Q:AV→Hp→Prop} (h:ey P G f args H Q) (kp:Hp→Lb→Prop) :
  ey P G f args H fun x H'=>∃H1,Q x H1∧H'=eg (kp H1) H1:=by
 intro w A β vs hr hv;refine(h w A β vs hr hv).mono ?_;rintro e w' ⟨v,x,H1,β',rfl,hq,lz,hx,hm⟩;exact⟨v,x,eg (kp H1) H1,β',rfl,⟨H1,hq,rfl⟩,lz.eg _,hx.eg _,fun l hl=>by rw[Ne,N9];exact hm l hl⟩
mutual
theorem P4 {ρ ρ':Lb→Lb}:∀x:AV,(∀l∈x.an,ρ l=ρ' l)→bJ ρ x=bJ ρ' x
 | .sl l ..,h| .slk l ..,h| .ptr l ..,h=>by simp[bJ,h l (by simp[AV.an])]
 | .any,_| .un,_| .bool _,_| .int ..,_| .str _,_| .list _,_| .nil0,_| .jK,_| .iT,_| .lptr _,_| .mis _,_=>by simp[bJ]
 | .agg cs,h=>by simp only[AV.an] at h;simp[bJ,NZ cs h]
 | .gf cs,h=>by simp only[AV.an] at h;simp[bJ,NZ cs h]
 | .fn f fs cs,h=>by
  simp only[AV.an,aY] at h;simp[bJ,NZ fs (fun l hl=>h l (.inl hl)),NZ cs (fun l hl=>h l (.inr hl))]
 | .ifc t x,h=>by simp only[AV.an] at h;simp[bJ,P4 x h]
theorem NZ {ρ ρ':Lb→Lb}:∀xs:List AV,(∀l∈ah xs,ρ l=ρ' l)→bu ρ xs=bu ρ' xs
 |[],_=>by simp[bu]
 |x::r,h=>by
  simp only[ah,aY] at h;simp[bu,P4 x (fun l hl=>h l (.inl hl)),NZ r (fun l hl=>h l (.inr hl))]
end
def We {sz:Nat} {xs:List IV} {b:Bool} {q:Lb} {r:Row} (h:Xq sz xs b q= .live r) :
  (q= .par 0∧r=⟨1,[[if b then .sl (.par 1) sz 0 xs.length else .nil0]]⟩)∨(b=true∧q= .par 1∧r=⟨sz,aB xs⟩):=by
 cases b with
 |false=>
  simp only[Xq] at h;by_cases e:q= .par 0
  ·subst e;simp at h;exact .inl ⟨rfl,by rw[←h];rfl⟩
  rw[aq _ _ e] at h;simp[Hp.none] at h
 |true=>
 simp only[Xq] at h;by_cases e:q= .par 0
 ·subst e;simp at h;exact .inl ⟨rfl,by rw[←h];rfl⟩
 rw[aq _ _ e] at h;by_cases e1:q= .par 1
 ·subst e1;simp at h;exact .inr ⟨rfl,rfl,h.symm⟩
 rw[aq _ _ e1] at h;simp[Hp.none] at h
open Classical in
def Zf {S:St} {sz f:Nat} {args U6:List AV} {xs ys:List IV} {res:AV} {H:Hp} {k:AV→Hp→Prop} {u:Tw k} {l N:Lb} {o:Option Lb} (h:adm S.P S.G sz f U6 xs res ys)
  (ha:args=bu (ft l) U6) (hl:ad7 sz l o xs H) (hN:H N= .unused) (Jc:N.fresh=true→l.fresh=true∧∀L,o=some L→L.fresh=true)
  (hk:∀L' kK,(L'=N∨o=some L')→ad7 sz l (some L') ys kK→(∀q,q≠l→q≠N→o≠some q→kK q=H q)→(∀q,H q≠ .unused→kK q≠ .unused)→k res kK):C7 S f args H k u:=by
 obtain⟨h1,h2,h3⟩:=h;have hob:o.isSome=false→xs=[]:=by
  intro ho;cases o with
  |none=>exact hl.2
  |some L=>simp at ho
 have ahs:=(h3 o.isSome hob).ahr fun H1 q=>q= .par 0∨∃n,H1 (.par 0)= .live ⟨1,[[.sl q sz 0 n]]⟩
 let L0:Lb:=o.getD N
 let ρ:Lb→Lb:=fun q=>if q= .par 0 then l else if q= .par 1 then L0 else q
 have adn:ρ (.par 0)=l:=by simp[ρ]
 have ado:ρ (.par 1)=L0:=by simp[ρ]
 have Lv:H l≠ .unused:=by cases o with
  |none=>rw[hl.1];simp
  |some L=>rw[hl.2.1];simp
 have Mz:N≠l:=by rintro rfl;exact Lv hN
 have aht:L0≠l:=by cases o with
  |none=>exact Mz
  |some L=>exact hl.1
 refine .inr<| .inr ⟨⟨ρ,Xq sz xs o.isSome,U6,_,ahs,?_,?_,?_,?_,?_,?_,?_,?_⟩⟩
 ·rw[ha];exact NZ _ fun q hq=>by rw[h1 q hq];simp[ft,ρ]
 ·intro q r hq;rcases We hq with⟨rfl,rfl⟩|⟨hb,rfl,rfl⟩
  ·rw[adn];cases o with
   |none=>rw[hl.1];simp[dO,bu,bJ]
   |some L=>rw[hl.2.1];simp[dO,bu,bJ,ρ,L0]
  rw[ado,dy];cases o with
  |none=>simp at hb
  |some L=>exact hl.2.2
 ·intro q hq;cases hb:o.isSome with
  |false=>
   rw[hb] at hq;simp only[Xq] at hq;by_cases e:q= .par 0
   ·subst e;exact⟨_,by simp[Xq];rfl⟩
   rw[aq _ _ e] at hq;simp[Hp.none] at hq
  |true=>
  rw[hb] at hq;simp only[Xq] at hq;by_cases e:q= .par 0
  ·subst e;exact⟨_,by simp[Xq];rfl⟩
  rw[aq _ _ e] at hq;by_cases e1:q= .par 1
  ·subst e1;exact⟨_,by simp[Xq,bD];rfl⟩
  rw[aq _ _ e1] at hq;simp[Hp.none] at hq
 ·rintro q q' ⟨r,hq⟩ ⟨r',oX⟩ he;rcases We hq with⟨rfl,_⟩|⟨_,rfl,_⟩<;>rcases We oX with⟨rfl,_⟩|⟨_,rfl,_⟩
  ·rfl
  ·rw[adn,ado] at he;exact absurd he.symm aht
  ·rw[adn,ado] at he;exact absurd he aht
  rfl
 ·intro q hq;rw[h1 q hq];cases o.isSome<;>simp[Xq]
 ·rintro q ⟨r,hq⟩;rcases We hq with⟨rfl,_⟩|⟨_,rfl,_⟩<;>rfl
 ·intro q r hq cs bV z hz;rcases We hq with⟨rfl,rfl⟩|⟨hb,rfl,rfl⟩
  ·simp only[List.mem_singleton] at bV;subst bV;cases hb:o.isSome with
   |false=>rw[hb] at hz;simp[ah,AV.an] at hz
   |true=>rw[hb] at hz;simp[ah,AV.an] at hz;subst hz;simp[Xq,bD]
  rw[bU bV] at hz;simp at hz
 rintro x H' ⟨H1,⟨rfl,L,hLa⟩,rfl⟩;obtain⟨ij,hp,hLr⟩:=hLa
 let L1:Lb:=if L= .par 1∧o.isSome=true then L0 else N
 have Je:L1=N∨o=some L1:=by
  by_cases e:L= .par 1∧o.isSome=true
  ·right;simp only[L1,if_pos e,L0];cases o with
   |none=>simp at e
   |some Lo=>rfl
  left;simp only[L1,if_neg e]
 have afB:L1≠l:=by
  rcases Je with e|e
  ·rw[e];exact Mz
  intro e2;rw[e2] at e;cases o with
  |none=>simp at e
  |some Lo=>simp only[Option.some.injEq] at e;exact hl.1 e
 let ρ':Lb→Lb:=fun q=>if q= .par 0 then l else if q=L then L1 else q
 have acJ:ρ' (.par 0)=l:=by simp[ρ']
 have ZP:ρ' L=L1:=by simp[ρ',ij]
 let Hk:Hp:=match o with
  |some Lo=>bD H Lo .dead
  |none=>H
 have Hn:∀q,o≠some q→Hk q=H q:=by
  intro q hq;cases o with
  |none=>rfl
  |some Lo=>exact aq _ _ (fun e=>hq (by rw[e]))
 have ahu:∀q,o=some q→Hk q= .dead:=by
  intro q hq;subst hq;simp[Hk]
 have aK:∀q r,eg (fun q=>q= .par 0∨∃n,H1 (.par 0)= .live ⟨1,[[.sl q sz 0 n]]⟩) H1 q= .live r→(q= .par 0∧r=⟨1,[[.sl L sz 0 ys.length]]⟩)∨(q=L∧r=⟨sz,aB ys⟩):=by
  intro q r hq;obtain⟨g1,g2⟩:=dH.1 hq;rcases g2 with rfl|⟨n,g2⟩
  ·rw[hp] at g1;cases g1;exact .inl ⟨rfl,rfl⟩
  rw[hp] at g2;simp only[Slot.live.injEq,Row.mk.injEq,List.cons.injEq,and_true,true_and,AV.sl.injEq] at g2;obtain⟨rfl,_⟩:=g2;rw[hLr] at g1;cases g1;exact .inr ⟨rfl,rfl⟩
 have agI:eg (fun q=>q= .par 0∨∃n,H1 (.par 0)= .live ⟨1,[[.sl q sz 0 n]]⟩) H1 (.par 0)= .live ⟨1,[[.sl L sz 0 ys.length]]⟩:=dH.2 ⟨hp,.inl rfl⟩;have ad8:eg (fun q=>q= .par 0∨∃n,H1 (.par 0)= .live ⟨1,[[.sl q sz 0 n]]⟩) H1 L= .live ⟨sz,aB ys⟩:=dH.2 ⟨hLr,.inr ⟨_,hp⟩⟩
 let kK:Hp:=bD (bD Hk l (.live ⟨1,[[.sl L1 sz 0 ys.length]]⟩)) L1 (.live ⟨sz,aB ys⟩)
 have hH1:kK L1= .live ⟨sz,aB ys⟩:=by simp[kK]
 have agJ:kK l= .live ⟨1,[[.sl L1 sz 0 ys.length]]⟩:=by
  show bD _ L1 _ l=_;rw[aq _ _ (Ne.symm afB)];simp
 have hHo:∀q,q≠L1→q≠l→kK q=Hk q:=by
  intro q e1 e2;show bD _ L1 _ q=_;rw[aq _ _ e1,aq _ _ e2]
 have GJ:∀q,H q≠ .unused→kK q≠ .unused:=by
  intro q hq;by_cases e1:q=L1
  ·rw[e1,hH1];simp
  by_cases e2:q=l
  ·rw[e2,agJ];simp
  rw[hHo q e1 e2];by_cases e3:o=some q
  ·rw[ahu q e3];simp
  rw[Hn q e3];exact hq
 refine⟨ρ',kK,?_,?_,?_,GJ,?_,?_,?_,?_,?_⟩
 ·rintro q ⟨r,hq⟩ ⟨r',oX⟩;rcases We hq with⟨rfl,_⟩|⟨hb,rfl,_⟩
  ·rw[adn,acJ]
  rcases aK _ _ oX with⟨e,_⟩|⟨e,_⟩
  ·cases e
  rw[ado,e,ZP];simp only[L1,if_pos (⟨e.symm,hb⟩:L= .par 1∧o.isSome=true)]
 ·intro q r hq;by_cases e1:q=L1
  ·subst e1;rw[hH1] at hq;simp only[Slot.live.injEq] at hq;exact .inr ⟨L,_,ad8,ZP,by rw[dy];exact hq.symm⟩
  by_cases e2:q=l
  ·subst e2;rw[agJ] at hq;simp only[Slot.live.injEq] at hq;refine .inr ⟨.par 0,_,agI,acJ,?_⟩;rw[←hq];simp[dO,bu,bJ,ZP]
  rw[hHo q e1 e2] at hq;by_cases e3:o=some q
  ·rw[ahu q e3] at hq;cases hq
  rw[Hn q e3] at hq;refine .inl ⟨hq,?_⟩;rintro z ⟨r',hz⟩ hzq;rcases We hz with⟨rfl,_⟩|⟨hb,rfl,_⟩
  ·rw[adn] at hzq;exact e2 hzq.symm
  rw[ado] at hzq;apply e3;cases o with
  |none=>simp at hb
  |some Lo=>simp only[L0,Option.getD_some] at hzq;rw[hzq]
 ·rintro q q' ⟨r,hq⟩ ⟨r',oX⟩ he;rcases aK _ _ hq with⟨rfl,_⟩|⟨rfl,_⟩<;>rcases aK _ _ oX with⟨rfl,_⟩|⟨rfl,_⟩
  ·rfl
  ·rw[acJ,ZP] at he;exact absurd he.symm afB
  ·rw[acJ,ZP] at he;exact absurd he afB
  rfl
 ·intro q hq;rw[h2] at hq;simp at hq
 ·intro q r hq cs bV z hz;rcases aK _ _ hq with⟨rfl,rfl⟩|⟨rfl,rfl⟩
  ·simp only[List.mem_singleton] at bV;subst bV;simp only[ah,AV.an,List.append_nil,List.mem_singleton] at hz;subst hz;rw[ZP,hH1];simp
  rw[bU bV] at hz;simp at hz
 ·rintro q ⟨r,hq⟩;rcases aK _ _ hq with⟨rfl,_⟩|⟨rfl,_⟩
  ·left;cases o.isSome<;>exact⟨_,by simp[Xq];rfl⟩
  by_cases e:q= .par 1∧o.isSome=true
  ·left;rw[e.1,e.2];exact⟨_,by simp[Xq,bD];rfl⟩
  right;rw[ZP];simp only[L1,if_neg e];refine⟨hN,fun hf=> .inr ?_⟩;obtain⟨g1,g2⟩:=Jc hf;rintro z ⟨r',hz⟩;rcases We hz with⟨rfl,_⟩|⟨hb,rfl,_⟩
  ·rw[adn];exact g1
  rw[ado];cases o with
  |none=>simp at hb
  |some Lo=>exact g2 Lo rfl
 ·rintro q (hq|⟨l1,r1,cs,g1,g2,g3⟩) _
  ·rw[h2] at hq;simp at hq
  rcases aK _ _ g1 with⟨rfl,rfl⟩|⟨rfl,rfl⟩
  ·simp only[List.mem_singleton] at g2;subst g2;simp only[ah,AV.an,List.append_nil,List.mem_singleton] at g3;subst g3;exact⟨_,ad8⟩
  rw[bU g2] at g3;simp at g3
 rw[j8 _ _ h2];refine hk L1 kK Je ⟨afB,agJ,hH1⟩ ?_ GJ;intro q e1 e2 e3;have:q≠L1:=by
  rintro rfl;rcases Je with e|e
  ·exact e2 e
  exact e3 e
 rw[hHo q this e1,Hn q e3]
end Go.Am

namespace Go.Am
open Go Go.RowKit
def wk (d:Doc):Nat→Int→Int→Int→Option Int
 |0,_,_,_=>none
 |f+1,n,p,nx=>if n=nx then match d[n.toNat]? with
   |some x=>if x.parent=p then x.kids.foldlM (fun q k=>wk d f k n q) (nx+1) else none
   |none=>none
  else none
def ob {α:Type} {l:List α} {n:Nat} {x:α} {r:List α} (h:l.drop n=x::r):l[n]?=some x∧l.drop (n+1)=r:=by
 have h1:(l.drop n)[0]?=some x:=by rw[h];rfl
 refine⟨by simpa[fG] using h1,?_⟩;have:(l.drop n).drop 1=r:=by rw[h];rfl
 rwa[ma] at this
def drop_eq {α:Type} {l:List α} {n:Nat} {x:α} (h:l[n]?=some x):l.drop n=x::l.drop (n+1):=by
 obtain⟨hn,rfl⟩:=aI.1 h;exact oB hn
def acK (d:Doc):∀(f:Nat),
  (∀(m:Nat) (n p r:Int),wk d f n p m=some r→n=m∧∃x:Tree,x.dep≤f∧(∃post,d.drop m=x.flat m p++post)∧r=((m+x.jz:Nat):Int)):=by
 intro f;induction f with
 |zero=>intro m n p r h;simp[wk] at h
 |succ f ih=>
 intro m n p r h;unfold wk at h;split at h
 ·rename_i hn;subst hn;simp only[a7] at h;cases hx:d[m]? with
  |none=>rw[hx] at h;simp at h
  |some nd=>
  rw[hx] at h;simp only at h;split at h
  ·rename_i hp;refine⟨rfl,?_⟩;have kids:∀(ks:List Int) (q:Nat) (r:Int),ks.foldlM (fun q k=>wk d f k (m:Int) q) (q:Int)=some r→∃xs:List Tree,ks=mw q xs∧fB xs≤f∧(∃post,d.drop q=fC q m xs++post)∧r=((q+dP xs:Nat):Int):=by
    intro ks;induction ks with
    |nil=>intro q r h;simp at h;subst h;exact⟨[],rfl,by simp[fB],⟨_,by simp[fC];rfl⟩,by simp[dP]⟩
    |cons k ks Li=>
    intro q r h;rw[rJ] at h;obtain⟨q',h1,h2⟩:=aZ.1 h;obtain⟨rfl,x,x1,⟨post,x2⟩,rfl⟩:=ih q k m q' h1;obtain⟨xs,e1,e2,⟨ahv,e3⟩,rfl⟩:=Li _ _ h2;refine⟨x::xs,by simp only[mw,e1],by simp only[fB];omega,⟨ahv,?_⟩,by simp only[dP,gQ]⟩;have:d.drop (q+x.jz)=post:=by
     rw[←ma,x2,je (by rw[x.j9];exact bm _),nw (by rw[x.j9];exact bm _)];rfl
    rw[x2,←this,e3];simp[fC]
   obtain⟨xs,e1,e2,⟨post,e3⟩,rfl⟩:=kids nd.kids (m+1) r (by simpa using h);refine⟨.mk nd.text nd.s nd.attrs xs,by simp only[Tree.dep];omega,⟨post,?_⟩,by simp only[Tree.jz];congr 1;omega⟩;rw[drop_eq hx,e3];simp only[Tree.flat,List.cons_append,jD,rF];exact Node.ext' rfl rfl rfl hp e1
  simp at h
 simp at h
def Gq (d:Doc):∀(f:Nat) (x:Tree) (m:Nat) (p:Int),x.dep≤f→(∃post,d.drop m=x.flat m p++post)→wk d f m p m=some ((m+x.jz:Nat):Int):=by
 intro f;induction f with
 |zero=>intro x m p h;rw[x.n7] at h;omega
 |succ f ih=>
 intro x m p hd ⟨post,hx⟩;rw[x.qm] at hx;obtain⟨h1,h2⟩:=ob hx;unfold wk;rw[bf rfl,a7,h1];simp only[Tree.node,eT];have kids:∀(xs:List Tree) (q:Nat),fB xs≤f→(∃post,d.drop q=fC q m xs++post)→(mw q xs).foldlM (fun q k=>wk d f k (m:Int) q) (q:Int)=some ((q+dP xs:Nat):Int):=by
  intro xs;induction xs with
  |nil=>intro q _ _;simp[mw,dP]
  |cons y ys Li=>
  intro q hq ⟨post,hp⟩;simp only[fB] at hq;simp only[fC,eW] at hp;simp only[mw,rJ];rw[ih y q m (by omega) ⟨_,hp⟩];simp only[qt,cu];rw[Li (q+y.jz) (by omega) ⟨post,by rw[←ma,hp,je (by rw[y.j9];exact bm _),nw (by rw[y.j9];exact bm _)];rfl⟩];simp only[dP,gQ]
 have Lj:=x.n7;have:=kids x.kids (m+1) (by omega) ⟨post,h2⟩;rw[show((m:Int)+1)=((m+1:Nat):Int) by omega,this,x.n8];congr 2;omega
mutual
theorem Tree.ZQ:∀(x y:Tree) (off:Nat) (p:Int) (r r':List Node),x.flat off p++r=y.flat off p++r'→x=y
 | .mk t s as ks,.mk t' s' U0 Hj,off,p,r,r',h=>by
  simp only[Tree.flat,List.cons_append,jD,Node.mk.injEq] at h;obtain⟨⟨rfl,rfl,rfl,_,hk⟩,h⟩:=h;have hl:ks.length=Hj.length:=by have:=jR List.length hk;simpa[VS] using this
  rw[aay ks Hj (off+1) off r r' hl h]
theorem aay:∀(xs ys:List Tree) (off p:Nat) (r r':List Node),xs.length=ys.length→fC off p xs++r=fC off p ys++r'→xs=ys
 |[],[],_,_,_,_,_,_=>rfl
 |[],_::_,_,_,_,_,h,_=>by simp at h
 |_::_,[],_,_,_,_,h,_=>by simp at h
 |x::xs,y::ys,off,p,r,r',hl,h=>by
  simp only[fC,eW] at h;have e:=x.ZQ y off p _ _ h;subst e;have:=List.append_cancel_left h;rw[aay xs ys _ p r r' (by simpa using hl) this]
end
def adp {x y:Tree} (h:lW x=lW y):x=y:=x.ZQ y 0 (-1) [] [] (by simpa[lW] using h)
def pf (x:Tree):(lW x).length=x.jz:=x.j9 0 (-1)
def uF (d:Doc):Prop:=∃x:Tree,x.d_=true∧d=lW x
open Classical in
noncomputable def Vo (d:Doc):Bool:=decide (uF d)
def XW {d:Doc}:Vo d=true↔uF d:=by simp[Vo]
def Yj {x:Tree} (h:x.d_=true):Vo (lW x)=true:=XW.2 ⟨x,h,rfl⟩
def XX {d:Doc} (h:¬uF d):Vo d=false:=by simp[Vo,h]
def ia (x:Tree):x.d_=true↔x.text=false∧x.dep≤8∧x.jz≤80∧x.fu=true:=by
 simp only[Tree.d_,bw,kD,dj];constructor
 ·rintro⟨h1,h2,h3,h4⟩;exact⟨h1,by omega,by omega,h4⟩
 rintro⟨h1,h2,h3,h4⟩;exact⟨h1,by omega,by omega,h4⟩
def agK {d:Doc} (h:wk d 8 0 (-1) 0=some (d.length:Int)):∃x:Tree,x.dep≤8∧d=lW x:=by
 obtain⟨_,x,h1,⟨post,h2⟩,h3⟩:=acK d 8 0 0 (-1) _ h;refine⟨x,h1,?_⟩;simp only[e_,bM] at h2 h3;have hl:post=[]:=by
  have:=jR List.length h2;rw[cy,x.j9] at this;have:x.jz=d.length:=by omega
  exact gd.1 (by omega)
 rw[h2,hl,bO];rfl
def A3 {x:Tree} (h:x.dep≤8):wk (lW x) 8 0 (-1) 0=some ((lW x).length:Int):=by
 have:=Gq (lW x) 8 x 0 (-1) h ⟨[],by simp[lW]⟩;rw[pf];simpa using this
end Go.Am

namespace Go.Am
open Go Go.RowKit
def Tree.Gr (x:Tree) (s:Bs):Tree:= .mk x.text s x.attrs x.kids
def Cd (p:Bool):List Tree→Bool
 |[]=>p
 |x::r=>Cd x.text r
def grow (s:Bs):List Tree→List Tree
 |[]=>[]
 |[x]=>[x.Gr (x.s++s)]
 |x::y::r=>x::grow s (y::r)
def push (out:List Tree) (x:Tree):List Tree:=
 if x.text&&x.s==[] then out else if x.text&&Cd false out then grow x.s out else out++[x]
mutual
def Tree.jn:Tree→Tree
 | .mk t s as ks=> .mk t s as (Xc [] ks)
def Xc (out:List Tree):List Tree→List Tree
 |[]=>out
 |x::r=>Xc (push out x.jn) r
end
def Wf (l:List Tree):List Tree:=Xc [] l
def Tree.acL (x:Tree):x.jn= .mk x.text x.s x.attrs (Wf x.kids):=by cases x;simp[Tree.jn,Wf,Tree.text,Tree.s,Tree.attrs,Tree.kids]
def Tree.Yz (x:Tree):x.jn.text=x.text:=by rw[x.acL];rfl
def Tree.ad9 (x:Tree):x.jn.s=x.s:=by rw[x.acL];rfl
def Tree.ad_ (x:Tree):x.jn.attrs=x.attrs:=by rw[x.acL];rfl
def Tree.afC (x:Tree):x.jn.kids=Wf x.kids:=by rw[x.acL];rfl
theorem aaz:∀(xs ys out:List Tree),Xc out (xs++ys)=Xc (Xc out xs) ys
 |[],ys,out=>by simp[Xc]
 |x::r,ys,out=>by simp[Xc,aaz r ys]
theorem aaA (p:Bool):∀(xs:List Tree),xs≠[]→∃y,xs[xs.length - 1]?=some y∧Cd p xs=y.text
 |[],h=>absurd rfl h
 |[x],_=>⟨x,rfl,rfl⟩
 |x::y::r,_=>by
  obtain⟨z,h1,h2⟩:=aaA x.text (y::r) (by simp);exact⟨z,by simpa using h1,by simpa[Cd] using h2⟩
theorem abe (s:Bs):∀(xs:List Tree),(grow s xs).length=xs.length
 |[]=>rfl
 |[x]=>rfl
 |x::y::r=>by simp only[grow,cG,abe s (y::r)]
theorem acM (s:Bs):∀(xs:List Tree) (y:Tree),xs[xs.length - 1]?=some y→grow s xs=xs.set (xs.length - 1) (y.Gr (y.s++s))
 |[],y,h=>by simp at h
 |[x],y,h=>by simp at h;subst h;rfl
 |x::z::r,y,h=>by
  have:=acM s (z::r) y (by simpa using h);simp only[grow,this];simp
mutual
def Tree.jd:Tree→Bool
 | .mk _ _ _ ks=>Kf false ks
def Kf (p:Bool):List Tree→Bool
 |[]=>true
 |x::r=> !(x.text&&(p||x.s==[]))&&(x.jd&&Kf x.text r)
end
theorem abf (s:Bs):∀(xs:List Tree),dE (grow s xs)≤dE xs+s.length
 |[]=>by simp[grow,dE]
 |[x]=>by cases x;simp[grow,dE,Tree.Gr,Tree.wt,Tree.text,Tree.s,Tree.attrs,Tree.kids];omega
 |x::y::r=>by have:=abf s (y::r);simp only[grow,dE] at this ⊢;omega
def aea (out:List Tree) (x:Tree):dE (push out x)≤dE out+x.wt:=by
 unfold push;split
 ·omega
 split
 ·have:=abf x.s out;have:=x.gx;omega
 rw[kn];simp[dE]
mutual
theorem Tree.ahw:∀x:Tree,x.jn.wt≤x.wt
 | .mk t s as ks=>by have:=YA [] ks;simp only[Tree.jn,Tree.wt,dE] at this ⊢;omega
theorem YA:∀(out l:List Tree),dE (Xc out l)≤dE out+dE l
 |out,[]=>by simp[Xc,dE]
 |out,x::r=>by
  have:=YA (push out x.jn) r;have:=aea out x.jn;have:=x.ahw;simp only[Xc,dE];omega
end
def ab' (l:List Tree):dE (Wf l)≤dE l:=by have:=YA [] l;simp only[dE] at this;unfold Wf;omega

def Xi (mv:Nat):AC:=
(aM [zi 2] (aM [zi 3] (.gh (.own 3 4) (.seq (aM [MR 7 0,oy 8 7,gH 9 0] (.block 0 (.loop (aM [et 10 .lss 9 8] (.seq (.cond (.t 10) .skip (.exit 0)) (.seq (.block 1 (aM [jL 11 7 9 4,gz 12 4 11,aQ 5 (.new [(.bool false),(.str []),.nil0,.nil0]),gg (.store 4 (.t 5) (.t 12))] (aM [ep 13 5 3,fm 14 13,aQ 15 (.call mv [(.t 14)]),ep 16 5 3,gg (.store 1 (.t 16) (.t 15))] (aM [MR 17 3,oy 18 17,MR 6 18] (.block 2 (aM [ep 24 5 0,fm 25 24,MR 26 25,Wb 27 26 5 1,jm 28 26 27,dW 29 26 (.bin .eql (.t 28) (.c (.str []))),jT 30 26 29,MR 23 30] (.cond (.t 23) .skip (aM [ep 32 5 0,fm 33 32,MR 34 33,cU 35 34 6,dW 36 34 (.bin .gtr (.t 35) (jS 0)),jT 37 34 36,MR 38 37,cU 39 38 3,cU 40 38 6,dW 41 38 (.bin .sub (.t 40) (jS 1)),dW 42 38 (.Vc (.t 39) (.t 41) 4),Wb 43 38 42 0,jm 44 38 43,jT 45 38 44,MR 31 45] (.cond (.t 31) (.VL [MR 46 3,MR 47 6,eY 48 .sub 47 1,jL 49 46 48 4,ep 50 49 1,fm 51 50,ep 52 5 1,fm 53 52,et 54 .add 51 53,jL 55 46 48 4,ep 56 55 1,gg (.store 1 (.t 56) (.t 54))] [[],[],[1],[0,2],[3],[4],[],[6],[5,7],[0,2,0,1,2,3,4,5,6,7,8],[9,0,1,2,3,4,5,6,7,8],[10,8,0,1,2,3,4,5,6,7,8]] [.no,.no,.no,.no,.no,(.rw [.loc 3] []),.no,.rw [.loc 5] [],.no,.no,.no,(.rw [] [.loc 3])]) (.cq [MR 19 3,gz 20 4 5,aQ 21 (.lits 1 4 [(.bool false),(.str []),.nil0,.nil0] [(0,(.t 20))]),aQ 22 (.app (.t 19) (.t 21) 4 72),MR 3 22])))))))))) (.cq [eY 57 .add 9 1,MR 9 57]))))))) (aM [MR 58 3,MR 2 58] (.gh (.zS (.loc 3) 2) .ret))))))
def Tree.ahx (x:Tree):x.cs.map IV.dQ=[.bool x.text,.str x.s,.list (cD x.attrs),.list (dq x.kids)]:=rfl
def afD {P:Program} {G:Nat→Option (List IV)} {mv:Nat} (hF:aw P G mv=some (59,[(none,2)],(Xi mv).bare)) (l:List Tree) (hx:dE l≤B)
  (hJ:∀x∈l,au P G mv [.list (dq x.kids)] (.list (dq (Wf x.kids)))):au P G mv [.list (dq l)] (.list (dq (Wf l))):=by
 refine aR hF (by simp) (by simp[ah,AV.an]) (by simp[AV.an]) ?_;have hl:=eZ l;unfold Xi;simp only[↓aX,mX,reduceCtorEq,Nat.reduceEqDiff,Nat.reduceLT,Nat.reduceLeDiff,Nat.reduceAdd,Nat.reduceMul,Int.reduceToNat,Int.reduceLE,Int.reduceLT,bF];refine xL (σ:={i:Nat // i≤l.length}) 3 4 (fun q=>[(7,.list (dq l)),(8,.int .i64 l.length),(9,.int .i64 q.1)]) (fun q=>dq (Xc [] (l.take q.1))) (fun q=>l.length - q.1) ⟨0,by simp⟩ (fun _=>rfl) ?_ ?_
 ·simp only[Gi,↓aX,mX,reduceCtorEq,Nat.reduceEqDiff,Nat.reduceLT,Nat.reduceLeDiff,Nat.reduceAdd,Nat.reduceMul,Int.reduceToNat,Int.reduceLE,Int.reduceLT];exact⟨rfl,3,[],rfl,rfl,rfl⟩
 rintro⟨i,hi⟩;have zO:=YA [] (l.take i);have pU:=lV l i;have wB:=eZ (Xc [] (l.take i));simp only[dE] at zO;simp only[↓aX,mX,reduceCtorEq,Nat.reduceEqDiff,Nat.reduceLT,Nat.reduceLeDiff,Nat.reduceAdd,Nat.reduceMul,Int.reduceToNat,Int.reduceLE,Int.reduceLT,bF];refine AU (fun h=> ?_) (fun h=> ?_)
 ·have bI:i<l.length:=by simpa using h
  obtain⟨x,Ja⟩:∃x,l[i]?=some x:=⟨_,aC bI⟩;have hw:IntKind.i64.wrap ((i:Int)+1)=((i+1:Nat):Int):=wrap64 (by omega) (by unfold B at hx;omega);have gr:Xc [] (l.take (i+1))=push (Xc [] (l.take i)) x.jn:=by rw[fa,Ja,aaz];rfl
  simp only[↓aX,mX,reduceCtorEq,Nat.reduceEqDiff,Nat.reduceLT,Nat.reduceLeDiff,Nat.reduceAdd,Nat.reduceMul,Int.reduceToNat,Int.reduceLE,Int.reduceLT,h,hw,iy,Ja,lT,Tree.cJ,Tree.cs];generalize ai0:Xc [] (l.take i)=out at *;refine ay (hJ x (aV Ja)) ?_;have hlen:(dq out).length=out.length:=bF _;have agL:dq (out++[x.jn])=dq out++[.agg [.bool x.text,.str x.s,.list (cD x.attrs),.list (dq (Wf x.kids))]]:=by
   rw[qh];simp[dq,Tree.o_,Tree.cs,x.Yz,x.ad9,x.ad_,x.afC]
  have next:∀(afE:List Tree) (env:Env) (H:Hp) (n:Nat),push out x.jn=afE→NF H→env 7= .list (dq l)→env 8= .int .i64 l.length→env 9= .int .i64 ((i+1:Nat):Int)→env 3= .sl (.loc n) 4 0 afE.length→H (.loc n)= .live ⟨4,aB (dq afE)⟩ →
    ∃s:{i:Nat // i≤l.length},l.length - s.1<l.length - i∧WR 3 4 (fun q:{i:Nat // i≤l.length}=>[(7,.list (dq l)),(8,.int .i64 l.length),(9,.int .i64 q.1)]) (fun q=>dq (Xc [] (l.take q.1))) env H s:=by
   intro afE env H n h1 h2 h3 h4 h5 h6 h7;refine⟨⟨i+1,bI⟩,by simp only;omega,?_⟩;rw[Gi];simp only[xM,AT,rF,gr,h1,bF];exact⟨h2,⟨h3,h4,h5⟩,n,_,h6,h7,rfl⟩
  simp only[↓aX,mX,reduceCtorEq,Nat.reduceEqDiff,Nat.reduceLT,Nat.reduceLeDiff,Nat.reduceAdd,Nat.reduceMul,Int.reduceToNat,Int.reduceLE,Int.reduceLT,bF];cases ht:x.text with
  |false=>
   have hp:push out x.jn=out++[x.jn]:=(by unfold push;rw[x.Yz,ht];simp);simp only[↓aX,mX,reduceCtorEq,Nat.reduceEqDiff,Nat.reduceLT,Nat.reduceLeDiff,Nat.reduceAdd,Nat.reduceMul,Int.reduceToNat,Int.reduceLE,Int.reduceLT,bF];rw[qg 4 72 22 3 (dq out) (.agg [.bool false,.str x.s,.list (cD x.attrs),.list (dq (Wf x.kids))]) (by simp[ae]) hlen rfl (by simp[IV.cells]) (by unfold B at hx;omega) (by decide) (by decide) (by simp[ae,Hp.none])];simp only[↓aX,mX,reduceCtorEq,Nat.reduceEqDiff,Nat.reduceLT,Nat.reduceLeDiff,Nat.reduceAdd,Nat.reduceMul,Int.reduceToNat,Int.reduceLE,Int.reduceLT,hw];refine next _ _ _ 22 hp (by simp only[↓aX,mX,reduceCtorEq,Nat.reduceEqDiff,Nat.reduceLT,Nat.reduceLeDiff,Nat.reduceAdd,Nat.reduceMul,Int.reduceToNat,Int.reduceLE,Int.reduceLT]) rfl rfl rfl (by simp only[↓aX,mX,reduceCtorEq,Nat.reduceEqDiff,Nat.reduceLT,Nat.reduceLeDiff,Nat.reduceAdd,Nat.reduceMul,Int.reduceToNat,Int.reduceLE,Int.reduceLT];simp) ?_
   rw[agL,ht];simp only[↓aX,mX,reduceCtorEq,Nat.reduceEqDiff,Nat.reduceLT,Nat.reduceLeDiff,Nat.reduceAdd,Nat.reduceMul,Int.reduceToNat,Int.reduceLE,Int.reduceLT]
  |true=>
  simp only[↓aX,mX,reduceCtorEq,Nat.reduceEqDiff,Nat.reduceLT,Nat.reduceLeDiff,Nat.reduceAdd,Nat.reduceMul,Int.reduceToNat,Int.reduceLE,Int.reduceLT,bF];cases hs:(x.s==[]) with
  |true=>
   have hp:push out x.jn=out:=(by unfold push;rw[x.Yz,ht,x.ad9,hs];rfl);simp only[↓aX,mX,reduceCtorEq,Nat.reduceEqDiff,Nat.reduceLT,Nat.reduceLeDiff,Nat.reduceAdd,Nat.reduceMul,Int.reduceToNat,Int.reduceLE,Int.reduceLT,hw];exact next _ _ _ 3 hp (by simp only[↓aX,mX,reduceCtorEq,Nat.reduceEqDiff,Nat.reduceLT,Nat.reduceLeDiff,Nat.reduceAdd,Nat.reduceMul,Int.reduceToNat,Int.reduceLE,Int.reduceLT]) rfl rfl rfl (by simp only[↓aX,mX,reduceCtorEq,Nat.reduceEqDiff,Nat.reduceLT,Nat.reduceLeDiff,Nat.reduceAdd,Nat.reduceMul,Int.reduceToNat,Int.reduceLE,Int.reduceLT,bF]) rfl
  |false=>
  simp only[↓aX,mX,reduceCtorEq,Nat.reduceEqDiff,Nat.reduceLT,Nat.reduceLeDiff,Nat.reduceAdd,Nat.reduceMul,Int.reduceToNat,Int.reduceLE,Int.reduceLT];by_cases h0:out=[]
  ·have hp:push out x.jn=out++[x.jn]:=(by unfold push;rw[x.Yz,ht,x.ad9,hs,h0];rfl);rw[show decide ((out.length:Int)>0)=false by rw[h0];rfl];simp only[↓aX,mX,reduceCtorEq,Nat.reduceEqDiff,Nat.reduceLT,Nat.reduceLeDiff,Nat.reduceAdd,Nat.reduceMul,Int.reduceToNat,Int.reduceLE,Int.reduceLT,bF];rw[qg 4 72 22 3 (dq out) (.agg [.bool true,.str x.s,.list (cD x.attrs),.list (dq (Wf x.kids))]) (by simp[ae]) hlen rfl (by simp[IV.cells]) (by unfold B at hx;omega) (by decide) (by decide) (by simp[ae,Hp.none])];simp only[↓aX,mX,reduceCtorEq,Nat.reduceEqDiff,Nat.reduceLT,Nat.reduceLeDiff,Nat.reduceAdd,Nat.reduceMul,Int.reduceToNat,Int.reduceLE,Int.reduceLT,hw];refine next _ _ _ 22 hp (by simp only[↓aX,mX,reduceCtorEq,Nat.reduceEqDiff,Nat.reduceLT,Nat.reduceLeDiff,Nat.reduceAdd,Nat.reduceMul,Int.reduceToNat,Int.reduceLE,Int.reduceLT]) rfl rfl rfl (by simp only[↓aX,mX,reduceCtorEq,Nat.reduceEqDiff,Nat.reduceLT,Nat.reduceLeDiff,Nat.reduceAdd,Nat.reduceMul,Int.reduceToNat,Int.reduceLE,Int.reduceLT];simp) ?_
   rw[agL,ht];simp only[↓aX,mX,reduceCtorEq,Nat.reduceEqDiff,Nat.reduceLT,Nat.reduceLeDiff,Nat.reduceAdd,Nat.reduceMul,Int.reduceToNat,Int.reduceLE,Int.reduceLT]
  have xg:0<out.length:=qp.2 h0;obtain⟨y,hy,TI⟩:=aaA false out h0;have Es:IntKind.i64.wrap ((out.length:Int) - 1)=((out.length - 1:Nat):Int):=by rw[wrap64 (by omega) (by unfold B at hx;omega)];omega
  have jY:(aB (dq out))[out.length - 1]?=some [.bool y.text,.str y.s,.list (cD y.attrs),.list (dq y.kids)]:=by rw[xT,iy,hy];simp[Tree.cJ,Tree.cs,IV.dQ]
  have iG:out.length - 1<out.length:=by omega
  rw[show decide ((out.length:Int)>0)=true by simp;exact xg];simp only[↓aX,mX,reduceCtorEq,Nat.reduceEqDiff,Nat.reduceLT,Nat.reduceLeDiff,Nat.reduceAdd,Nat.reduceMul,Int.reduceToNat,Int.reduceLE,Int.reduceLT,Es,iG,jY,bF];cases hyt:y.text with
  |false=>
   have hp:push out x.jn=out++[x.jn]:=(by unfold push;rw[x.Yz,ht,x.ad9,hs,TI,hyt];rfl);simp only[↓aX,mX,reduceCtorEq,Nat.reduceEqDiff,Nat.reduceLT,Nat.reduceLeDiff,Nat.reduceAdd,Nat.reduceMul,Int.reduceToNat,Int.reduceLE,Int.reduceLT,bF];rw[qg 4 72 22 3 (dq out) (.agg [.bool true,.str x.s,.list (cD x.attrs),.list (dq (Wf x.kids))]) (by simp[ae]) hlen rfl (by simp[IV.cells]) (by unfold B at hx;omega) (by decide) (by decide) (by simp[ae,Hp.none])];simp only[↓aX,mX,reduceCtorEq,Nat.reduceEqDiff,Nat.reduceLT,Nat.reduceLeDiff,Nat.reduceAdd,Nat.reduceMul,Int.reduceToNat,Int.reduceLE,Int.reduceLT,hw];refine next _ _ _ 22 hp (by simp only[↓aX,mX,reduceCtorEq,Nat.reduceEqDiff,Nat.reduceLT,Nat.reduceLeDiff,Nat.reduceAdd,Nat.reduceMul,Int.reduceToNat,Int.reduceLE,Int.reduceLT]) rfl rfl rfl (by simp only[↓aX,mX,reduceCtorEq,Nat.reduceEqDiff,Nat.reduceLT,Nat.reduceLeDiff,Nat.reduceAdd,Nat.reduceMul,Int.reduceToNat,Int.reduceLE,Int.reduceLT];simp) ?_
   rw[agL,ht];simp only[↓aX,mX,reduceCtorEq,Nat.reduceEqDiff,Nat.reduceLT,Nat.reduceLeDiff,Nat.reduceAdd,Nat.reduceMul,Int.reduceToNat,Int.reduceLE,Int.reduceLT]
  |true=>
  have hp:push out x.jn=grow x.s out:=by unfold push;rw[x.Yz,ht,x.ad9,hs,TI,hyt];rfl
  have hg:=acM x.s out y hy;simp only[↓aX,mX,reduceCtorEq,Nat.reduceEqDiff,Nat.reduceLT,Nat.reduceLeDiff,Nat.reduceAdd,Nat.reduceMul,Int.reduceToNat,Int.reduceLE,Int.reduceLT,Es,iG,jY,bF,hyt];refine⟨rfl,?_⟩;have Tm:y.s.length+x.s.length≤9223372036854775807:=by
   have h1:=jx _ _ _ hy;have h2:=y.gx;have h3:=jx _ _ _ Ja;have h4:=x.gx;unfold B at hx;omega
  simp only[↓aX,mX,reduceCtorEq,Nat.reduceEqDiff,Nat.reduceLT,Nat.reduceLeDiff,Nat.reduceAdd,Nat.reduceMul,Int.reduceToNat,Int.reduceLE,Int.reduceLT,Tm,Es,iG,jY,bF,hyt,lQ,hw];refine next (grow x.s out) _ _ 3 hp (by simp only[↓aX,mX,reduceCtorEq,Nat.reduceEqDiff,Nat.reduceLT,Nat.reduceLeDiff,Nat.reduceAdd,Nat.reduceMul,Int.reduceToNat,Int.reduceLE,Int.reduceLT]) rfl rfl rfl (by simp only[↓aX,mX,reduceCtorEq,Nat.reduceEqDiff,Nat.reduceLT,Nat.reduceLeDiff,Nat.reduceAdd,Nat.reduceMul,Int.reduceToNat,Int.reduceLE,Int.reduceLT,bF,abe]) ?_
  have hiv:(y.Gr (y.s++x.s)).iv.cells.map IV.dQ=[.bool true,.str (y.s++x.s),.list (cD y.attrs),.list (dq y.kids)]:=by
   rw[Tree.cJ,Tree.ahx];simp[Tree.Gr,Tree.text,Tree.s,Tree.attrs,Tree.kids];rw[←hyt];rfl
  simp only[↓aX,mX,reduceCtorEq,Nat.reduceEqDiff,Nat.reduceLT,Nat.reduceLeDiff,Nat.reduceAdd,Nat.reduceMul,Int.reduceToNat,Int.reduceLE,Int.reduceLT];have vf:dq (out.set (out.length - 1) (y.Gr (y.s++x.s)))=(dq out).set (out.length - 1) (y.Gr (y.s++x.s)).iv:=by rw[ix,ix,rH]
  rw[hg,vf,←xU,hiv]
 simp only[↓aX,mX,reduceCtorEq,Nat.reduceEqDiff,Nat.reduceLT,Nat.reduceLeDiff,Nat.reduceAdd,Nat.reduceMul,Int.reduceToNat,Int.reduceLE,Int.reduceLT,h];refine⟨4,dq (Xc [] (l.take i)),0,_,rfl,rfl,by rw[bF];omega,pa _,?_⟩;have XV:i=l.length:=by simp at h;omega
 subst XV;simp only[Wf,ea,e_,bF];congr 1;exact bo (by rw[bF];exact bm _)

def Vl {α:Type} {l:List α} {i:Nat} {x:α} (h:l[i]?=some x):l.take (i+1)=l.take i++[x]:=by rw[fa,h];rfl

def A4 {M:List Tree→Prop} (step:∀l,(∀x∈l,M x.kids)→M l):∀l,M l:=by
 have key:∀(n:Nat) (l:List Tree),dE l≤n→M l:=by
  intro n;induction n with
  |zero=>
   intro l hn;refine step l fun x hx=> ?_;obtain⟨i,hi⟩:=c_ hx;have:=jx l i x hi;have:=x.gx;omega
  |succ n ih=>
  intro l hn;refine step l fun x hx=>ih _ ?_;obtain⟨i,hi⟩:=c_ hx;have:=jx l i x hi;have:=x.gx;omega
 exact fun l=>key _ l (bm _)
def j_ {l:List Tree} {x:Tree} (h:x∈l):x.wt≤dE l:=by
 obtain⟨i,hi⟩:=c_ h;exact jx l i x hi
def jA (x:Tree):dE x.kids≤x.wt:=by have:=x.gx;omega
def Gs (x:Tree):x.s.length≤x.wt:=by have:=x.gx;omega
def lY (x:Tree):dX x.attrs≤x.wt:=by have:=x.gx;omega
theorem lZ:∀{l:List Attr} {a:Attr},a∈l→a.wt≤dX l
 |[],a,h=>by simp at h
 |b::r,a,h=>by
  simp only[bb] at h;rcases h with rfl|h
  ·simp[dX]
  have:=lZ h;simp only[dX];omega
section
variable {P:Program} {G:Nat→Option (List IV)}
def afF {mv:Nat} (hF:aw P G mv=some (59,[(none,2)],(Xi mv).bare)) (l:List Tree):dE l≤B→au P G mv [.list (dq l)] (.list (dq (Wf l))):=
 A4 (M:=fun l=>dE l≤B→au P G mv [.list (dq l)] (.list (dq (Wf l)))) (fun l h hB=>afD hF l hB fun x hx=>h x hx (by have:=j_ hx;have:=jA x;omega)) l
def Gt {g:Nat} (hF:aw P G g=some (32,[(none,2),(none,3)],(uz g).bare)):∀x:Tree,x.wt≤B→au P G g [x.av] (.gf [.int .i64 x.dep,.int .i64 x.jz]):=by
 have key:=A4 (M:=fun l=>∀x∈l,x.wt≤B→au P G g [x.av] (.gf [.int .i64 x.dep,.int .i64 x.jz])) (fun l h x hx hB=>Gm hF x hB fun k hk=>h x hx k hk (by have:=j_ hk;have:=jA x;omega));exact fun x=>key [x] x (by simp)
def xY {fP fN zm fF wA:Nat} (hP:aw P G fP=some (29,[(none,2)],nZ.bare)) (hN:aw P G fN=some (28,[(none,2)],n4.bare)) (hA:aw P G zm=some (41,[(none,2)],(hZ fN fP).bare))
  (hF:aw P G fF=some (38,[(none,2)],(rr fP fN zm wA).bare)) (Gn:aw P G wA=some (32,[(none,2)],(n_ fF).bare)) (l:List Tree):dE l≤B→au P G wA [.list (dq l)] (.bool (bQ none l)):=by
 refine A4 (M:=fun l=>dE l≤B→au P G wA [.list (dq l)] (.bool (bQ none l))) (fun l h hB=>D2 Gn l (by have:=eZ l;omega) fun x hx=> ?_) l;have h1:=j_ hx;have h2:=jA x;have h3:=Gs x;have h4:=lY x;have h5:=iz x.attrs;refine Cc hF x (qj hP _ (by omega)) (qk hN _ (by omega)) (n6 hA _ (by omega) (fun a ha=>qk hN _ ?_) (fun a ha=>qj hP _ ?_)) (h x hx (by omega))
 ·have:=lZ ha;unfold Attr.wt at this;omega
 have:=lZ ha;unfold Attr.wt at this;omega
def Gu {fP fN zm fF wA:Nat} (hP:aw P G fP=some (29,[(none,2)],nZ.bare)) (hN:aw P G fN=some (28,[(none,2)],n4.bare)) (hA:aw P G zm=some (41,[(none,2)],(hZ fN fP).bare))
  (hF:aw P G fF=some (38,[(none,2)],(rr fP fN zm wA).bare)) (Gn:aw P G wA=some (32,[(none,2)],(n_ fF).bare)) (x:Tree) (hB:x.wt≤B):au P G fF [x.av] (.bool x.fu):=by
 have h2:=jA x;have h3:=Gs x;have h4:=lY x;have h5:=iz x.attrs;refine Cc hF x (qj hP _ (by omega)) (qk hN _ (by omega)) (n6 hA _ (by omega) (fun a ha=>qk hN _ ?_) (fun a ha=>qj hP _ ?_)) (xY hP hN hA hF Gn _ (by omega))
 ·have:=lZ ha;unfold Attr.wt at this;omega
 have:=lZ ha;unfold Attr.wt at this;omega
end

def YB (iJ Vt:Nat):AC:=
(aM [sC 4 1,gH 6 0] (aM [MR 11 0,aQ 12 (.dp (.t 11)),ep 13 12 0,fm 14 13,oy 15 14,MR 7 15] (.seq (.VL [MR 16 0,MR 17 0,aQ 18 (.dp (.t 17)),ep 19 18 0,fm 20 19,ep 21 4 0,fm 22 21,ep 23 4 1,fm 24 23,ep 25 4 2,fm 26 25,aQ 27 (.call iJ [(.t 26)]),MR 28 2,aQ 29 (.sg [(.bool false),(.str []),.nil0,(.int .i64 0),.nil0] [(0,(1,(.t 22))),(1,(1,(.t 24))),(2,(1,(.t 27))),(3,(1,(.t 28)))]),aQ 30 (.lits 1 5 [(.bool false),(.str []),.nil0,(.int .i64 0),.nil0] [(0,(.t 29))]),aQ 31 (.app (.t 20) (.t 30) 5 80),aQ 32 (.dp (.t 16)),ep 33 32 0,gg (.store 1 (.t 33) (.t 31))] [[],[],[1],[2],[3],[],[5],[],[7],[],[9],[10],[],[6,8,11,12],[13],[4,14,11],[0,0,1,2,3,4,5,6,7,8,9,10,11,12,13,14,15],[16,0,1,2,3,4,5,6,7,8,9,10,11,12,13,14,15],[17,15,15,0,1,2,3,4,5,6,7,8,9,10,11,12,13,14,15]] [.no,.no,.no,.no,(.rw [.par 0] []),.no,.rw [.loc 4] [],.no,.rw [.loc 4] [],.no,.rw [.loc 4] [],.no,.no,.no,.no,(.rw [] [.par 1,.gen 31,.loc 31]),.no,.no,(.rw [] [.par 0])]) (aM [zi 8] (.gh (.own 8 1) (.seq (aM [ep 34 4 3,fm 35 34,oy 36 35,gH 37 0] (.block 0 (.loop (aM [et 38 .lss 37 36] (.seq (.cond (.t 38) .skip (.exit 0)) (.seq (.block 1 (aM [jL 39 35 37 4,gz 40 4 39,aQ 10 (.new [(.bool false),(.str []),.nil0,.nil0]),gg (.store 4 (.t 10) (.t 40))] (.cq [MR 41 8,MR 42 0,gz 43 4 10,MR 44 7,aQ 45 (.call Vt [(.t 42),(.t 43),(.t 44)]),aQ 46 (.lits 1 1 [(.int .i64 0)] [(0,(.t 45))]),aQ 47 (.app (.t 41) (.t 46) 1 8),MR 8 47]))) (.cq [eY 48 .add 37 1,MR 37 48]))))))) (.gh (.zS (.loc 8) 8) (aM [MR 49 0,aQ 50 (.dp (.t 49)),ep 51 50 0,fm 52 51,MR 53 7,MR 54 8,jL 55 52 53 5,ep 56 55 4,gg (.store 1 (.t 56) (.t 54))] (aM [MR 57 7,MR 6 57] .ret)))))))))
def Tree.acN (x:Tree) (p:Int):Node:=⟨x.text,x.s,x.attrs,p,[]⟩
def Wq (d:Doc) (x:Tree) (p:Int) (i:Nat):Doc:=d++[x.acN p]++fC (d.length+1) d.length (x.kids.take i)
def XE (d:Doc) (x:Tree) (p:Int) (i:Nat):(Wq d x p i).length=d.length+1+dP (x.kids.take i):=by simp[Wq,my];omega
def aaB {d:Doc} {x:Tree} {p:Int} {i:Nat} {k:Tree} (h:x.kids[i]?=some k):Wq d x p (i+1)=Wq d x p i++k.flat (Wq d x p i).length d.length:=by
 rw[XE];unfold Wq;rw[fa,h,pd];simp[fC]
structure Lk (x:Tree) where
 i:Nat
 L:Lb
 u:Lb→Bool
 hi:i≤x.kids.length
 l0:L≠ .par 0
 l8:L≠ .loc 8
 l10:L≠ .loc 10
 Mo:L≠ .loc 47
 lg:∀j,i≤j→L≠ .gen (1000+j)
 Mp:u (.loc 10)=false
 Mq:u (.loc 47)=false
 ug:∀j,i≤j→u (.gen (1000+j))=false
def Xr {x:Tree} (q:Lk x):List Lb:=[.par 0,q.L,.loc 8]
def XQ (d:Doc) {x:Tree} (q:Lk x):List (Nat×AV):=
 [(0,.ptr (.par 0) 1 0 0),(7,.int .i64 d.length),(8,.sl (.loc 8) 1 0 (mw (d.length+1) (x.kids.take q.i)).length),(35,.list (dq x.kids)),(36,.int .i64 x.kids.length),(37,.int .i64 q.i)]
def VE (d:Doc) (p:Int) {x:Tree} (q:Lk x):List (Lb×Row):=
 [(.par 0,⟨1,[[.sl q.L 5 0 (Wq d x p q.i).length]]⟩),(q.L,⟨5,aB ((Wq d x p q.i).map Node.iv)⟩),(.loc 8,⟨1,aB ((mw (d.length+1) (x.kids.take q.i)).map xX)⟩)]
def aaC {x:Tree} (d:Doc) (p:Int) (q:Lk x):∀r∈VE d p q,∀cs∈r.2.els,∀l∈ah cs,l∈Xr q:=by
 intro r hr cs bV l hl;simp only[VE,bb,b5,b7] at hr;rcases hr with rfl|rfl|rfl
 ·simp only[aW] at bV;subst bV;simp only[ah,AV.an,bO,aW] at hl;subst hl;simp[Xr]
 ·rw[bU bV] at hl;simp at hl
 rw[bU bV] at hl;simp at hl
def aip {P:Program} {G:Nat→Option (List IV)} {Vt iJ:Nat} (hF:aw P G Vt=some (58,[(none,6)],(YB iJ Vt).bare)) (x:Tree) (d:Doc) (p:Int) (hx:d.length+x.wt≤B)
  (hC:au P G iJ [.list (cD x.attrs)] (.list (cD x.attrs)))
  (hK:∀k∈x.kids,∀(d':Doc),d'.length+k.wt≤d.length+x.wt→adm P G 5 Vt [.ptr (.par 0) 1 0 0,k.av,.int .i64 d.length] (d'.map Node.iv) (.int .i64 d'.length) ((d'++k.flat d'.length d.length).map Node.iv)) :
  adm P G 5 Vt [.ptr (.par 0) 1 0 0,x.av,.int .i64 p] (d.map Node.iv) (.int .i64 d.length) ((d++x.flat d.length p).map Node.iv):=by
 refine⟨by simp[ah,AV.an,Tree.av],rfl,fun b hb=> ?_⟩;refine WY hF (by simp) ?_ ?_ ?_
 ·rintro l ⟨r,h⟩;rcases We h with⟨rfl,_⟩|⟨_,rfl,_⟩<;>rfl
 ·intro l hl;simp[ah,AV.an,Tree.av] at hl;subst hl;cases b<;>simp[Xq]
 have hlB:d.length≤B:=by omega
 have hwx:=x.gx;have Hm:=eZ x.kids;unfold YB;have Zs:(x.acN p).iv= .agg [.bool x.text,.str x.s,.list (cD x.attrs),.int .i64 p,.list []]:=rfl;cases b with
 |true=>
  simp only[↓aX,mX,seval,Xq,Tree.av,ax];refine⟨rfl,jw hC ?_⟩;simp only[↓aX,mX,seval];rw[afA 5 80 31 (.par 1) (d.map Node.iv) (.agg [.bool x.text,.str x.s,.list (cD x.attrs),.int .i64 p,.list []]) rfl (by simp[ae]) (by simp) rfl (by simp[IV.cells]) (by unfold B at hlB;omega) (by decide) (by simp) (by simp[ae,Hp.none])];simp only[↓aX,mX,seval,bF];refine⟨by rintro l (rfl|rfl)<;>simp[Lb.iQ],?_⟩;refine pe (σ:=Lk x) Xr (fun q=>q.u) (XQ d) (VE d p) (fun q=>x.kids.length - q.i)
   {i:=0,L:= .gen 31,u:=fun q=>decide (q= .par 1),hi:=gS _,l0:=by simp,l8:=by simp,l10:=by simp,Mo:=by simp,lg:=fun j _=>by simp;omega,Mp:=by simp,Mq:=by simp,ug:=fun j _=>by simp}
   (fun _=>rfl) (fun q=>by simp[ah,AV.an,XQ,Xr]) (aaC d p) ⟨[],?_⟩ ?_
  ·refine⟨?_,?_,?_,by simp[Xr,dn],fun l _=>⟨id,fun _=>rfl⟩⟩
   ·intro l hf hu;by_cases e0:l= .par 0
    ·subst e0;simp[Xr]
    by_cases e1:l= .gen 31
    ·subst e1;simp[Xr]
    by_cases e2:l= .par 1
    ·subst e2;simp
    exfalso;apply hu;cases l<;>simp_all[Lb.fresh,ae,Hp.none]
   ·simp[XQ,k_,dn,bJ,mw,put,jP]
   simp[VE,tc,dn,ae,dO,bu,bJ,Wq,fC,mw,aB,Node.iv,Node.cs,Tree.acN,IV.cells,IV.dQ,nT]
  intro q;have a0:ie q.u (VE d p q) (.par 0)= .live ⟨1,[[.sl q.L 5 0 (Wq d x p q.i).length]]⟩:=by simp[ie,VE,kl,bD]
  have aL:ie q.u (VE d p q) q.L= .live ⟨5,aB ((Wq d x p q.i).map Node.iv)⟩:=by simp[ie,VE,kl,bD,q.l0]
  have a8:ie q.u (VE d p q) (.loc 8)= .live ⟨1,aB ((mw (d.length+1) (x.kids.take q.i)).map xX)⟩:=by simp[ie,VE,kl,bD,dL q.l8]
  have a10:ie q.u (VE d p q) (.loc 10)= .unused:=by simp[ie,VE,kl,bD,dL q.l10,q.Mp,Hp.none]
  have a47:ie q.u (VE d p q) (.loc 47)= .unused:=by simp[ie,VE,kl,bD,dL q.Mo,q.Mq,Hp.none]
  have ag:ie q.u (VE d p q) (.gen (1000+q.i))= .unused:=by simp[ie,VE,kl,bD,dL (q.lg q.i (bm _)),q.ug q.i (bm _),Hp.none]
  have anf:∀l:Lb,l.fresh=false→ie q.u (VE d p q) l≠ .unused→l= .par 0∨l=q.L∨q.u l=true:=by
   intro l hf hu;by_cases e0:l= .par 0
   ·exact .inl e0
   by_cases e1:l=q.L
   ·exact .inr (.inl e1)
   by_cases e2:q.u l=true
   ·exact .inr (.inr e2)
   exfalso;apply hu;have e3:l≠ .loc 8:=(by rintro rfl;simp[Lb.fresh] at hf);simp[ie,VE,kl,bD,e0,e1,e2,e3,Hp.none]
  have lr:ah ((XQ d q).map Prod.snd)=[.par 0,.loc 8]:=by simp[ah,AV.an,XQ]
  generalize ie q.u (VE d p q)=H0 at *;have ab_:=q.l10;have MN:=q.l8;have aca:=q.Mo;have hi:=q.hi;have JV:(mw (d.length+1) (x.kids.take q.i)).length=q.i:=by rw[VS,cT];omega
  have Lp:=ql (x.kids.take q.i);have MA:=lV x.kids q.i;simp only[↓aX,mX,seval,XQ];refine AU (fun h=> ?_) (fun h=> ?_)
  ·have bI:q.i<x.kids.length:=(by simpa using h);obtain⟨k,HA⟩:∃k,x.kids[q.i]?=some k:=⟨_,aC bI⟩;have hw:IntKind.i64.wrap ((q.i:Int)+1)=((q.i+1:Nat):Int):=wrap64 (by omega) (by unfold B at hx;omega);have E0:x.kids.take (q.i+1)=x.kids.take q.i++[k]:=Vl HA;have ME:dE (x.kids.take q.i)+k.wt≤dE x.kids:=by
    have:=lV x.kids (q.i+1);rw[E0,kn] at this;simp only[dE] at this;omega
   simp only[↓aX,mX,seval,iy,HA,lT,Tree.cJ,Tree.cs,a10];refine Zf (l:= .par 0) (N:= .gen (1000+q.i)) (o:=some q.L) (hK k (aV HA) (Wq d x p q.i) (by rw[XE];omega)) rfl ⟨q.l0,by simp only[↓aX,mX,seval,a0,ax],by simp only[↓aX,mX,seval,aL,a_ ab_]⟩ (by simp only[↓aX,mX,seval,ag]) (by intro h;simp[Lb.fresh] at h) ?_;rintro L' kK hL' ⟨b1,b2,b3⟩ j0 GJ;have c8:kK (.loc 8)= .live ⟨1,aB ((mw (d.length+1) (x.kids.take q.i)).map xX)⟩:=by
    rw[j0 _ (by simp) (by simp) (by simpa using MN)];simp only[↓aX,mX,seval,a8]
   have LK:kK (.loc 47)= .unused:=by
    rw[j0 _ (by simp) (by simp) (by simpa using aca)];simp only[↓aX,mX,seval,a47]
   simp only[↓aX,mX,seval];rw[qg 1 8 47 8 ((mw (d.length+1) (x.kids.take q.i)).map xX) (.int .i64 (Wq d x p q.i).length) c8 (by rw[ax]) rfl (by simp[IV.cells]) (by rw[JV];unfold B at hx;omega) (by decide) (by decide) LK];simp only[↓aX,mX,seval,hw];have hL8:L'≠ .loc 8:=by rcases hL' with rfl|e;simp;simp only[di] at e;rw[←e];exact MN
   have agM:L'≠ .loc 10:=by rcases hL' with rfl|e;simp;simp only[di] at e;rw[←e];exact ab_
   have acb:L'≠ .loc 47:=by rcases hL' with rfl|e;simp;simp only[di] at e;rw[←e];exact aca
   refine⟨{i:=q.i+1,L:=L',u:=fun l=>q.u l||(decide (l=q.L)||decide (l= .gen (1000+q.i))),hi:=bI,l0:=b1,l8:=hL8,l10:=agM,Mo:=acb,lg:= ?_,Mp:= ?_,Mq:= ?_,ug:= ?_},by simp only;omega,[(.loc 8,.loc 47)],?_⟩
   ·intro j hj;rcases hL' with rfl|e
    ·simp;omega
    simp only[di] at e;rw[←e];exact q.lg j (by omega)
   ·simp[q.Mp,dL ab_]
   ·simp[q.Mq,dL aca]
   ·intro j hj;have:=dL (q.lg j (by omega));simp[q.ug j (by omega),this];omega
   have hP:=aaB (d:=d) (p:=p) HA;have acd:mw (d.length+1) (x.kids.take (q.i+1))=mw (d.length+1) (x.kids.take q.i)++[((Wq d x p q.i).length:Int)]:=by
    rw[E0,WZ,XE];simp[mw]
   refine⟨?_,?_,?_,?_,?_⟩
   ·intro l hf hu;by_cases e0:l= .par 0
    ·subst e0;simp[Xr]
    by_cases e1:l=q.L
    ·right;simp[e1]
    by_cases e2:l= .gen (1000+q.i)
    ·right;simp[e2]
    have e3:l≠ .loc 47:=(by rintro rfl;simp[Lb.fresh] at hf);have e4:l≠ .loc 8:=(by rintro rfl;simp[Lb.fresh] at hf);have e5:l≠ .loc 10:=(by rintro rfl;simp[Lb.fresh] at hf);rw[aq _ _ e3,aq _ _ e4,j0 l e0 e2 (by simpa using dL e1),aq _ _ e5,aq _ _ e5] at hu;rcases anf l hf hu with h|h|h
    ·exact absurd h e0
    ·exact absurd h e1
    right;simp[h]
   ·simp[XQ,k_,dn,bJ,put,JV,E0,WZ,mw]
   ·have r0:dn [(.loc 8,.loc 47)] (.par 0)= .par 0:=rfl;have rL:dn [(.loc 8,.loc 47)] L'=L':=(by simp[dn,hL8]);have r8:dn [(.loc 8,.loc 47)] (.loc 8)= .loc 47:=rfl;refine⟨?_,?_,?_,trivial⟩
    ·show bD (bD kK (.loc 8) .dead) (.loc 47) _ (.par 0)= .live (dO (dn [(.loc 8,.loc 47)]) ⟨1,[[.sl L' 5 0 (Wq d x p (q.i+1)).length]]⟩);rw[aq _ _ (by simp),aq _ _ (by simp),b2,hP];simp[dO,bu,bJ,rL]
    ·show bD (bD kK (.loc 8) .dead) (.loc 47) _ (dn [(.loc 8,.loc 47)] L')= .live (dO (dn [(.loc 8,.loc 47)]) ⟨5,aB ((Wq d x p (q.i+1)).map Node.iv)⟩);rw[rL,aq _ _ acb,aq _ _ hL8,b3,dy,hP]
    show bD (bD kK (.loc 8) .dead) (.loc 47) _ (.loc 47)= .live (dO (dn [(.loc 8,.loc 47)]) ⟨1,aB ((mw (d.length+1) (x.kids.take (q.i+1))).map xX)⟩);rw[dy,acd,eV];simp only[↓aX,mX,seval];rfl
   ·simp[Xr,dn,hL8,dL b1,acb]
   intro l hl;simp only[Xr,bb,b5,b7] at hl;rcases hl with rfl|rfl|rfl
   ·exact⟨id,fun _=>rfl⟩
   ·have rL:dn [(.loc 8,.loc 47)] l=l:=(by simp[dn,hL8]);rw[rL];exact⟨id,fun _=>rfl⟩
   exact⟨fun _=>rfl,fun h=>by simp[Lb.fresh] at h⟩
  have XV:q.i=x.kids.length:=by simp at h;omega
  have CM:x.kids.take q.i=x.kids:=by rw[XV,ea]
  rw[CM] at a8;have ve:=XE d x p q.i;have bI:d.length<(Wq d x p q.i).length:=by omega
  have jY:(aB ((Wq d x p q.i).map Node.iv))[d.length]?=some [.bool x.text,.str x.s,.list (cD x.attrs),.int .i64 p,.list []]:=by
   rw[xT,cn,Wq,eW,b_ (bm _),oj];rfl
  simp only[↓aX,mX,seval,h,CM];refine⟨1,(mw (d.length+1) x.kids).map xX,0,_,rfl,a8,by simp,XD _,?_⟩;simp only[↓aX,mX,seval,a0,aL,bI,MN,jY,lQ,ax];have GN:(aB ((Wq d x p q.i).map Node.iv)).set d.length ((x.node d.length p).iv.cells.map IV.dQ)=aB ((d++x.flat d.length p).map Node.iv):=by
   rw[x.qm,xU,Wq,CM];congr 1;simp[vR]
  have Yd:(d++x.flat d.length p).length=(Wq d x p q.i).length:=by
   rw[cy,x.j9,ve,CM,x.n8];omega
  refine⟨q.L,q.l0,?_,?_⟩
  ·rw[aq _ _ (dL q.l0),aq _ _ (by simp),a0,ax,Yd]
  rw[←GN];have:(List.take (mw (d.length+1) x.kids).length ((mw (d.length+1) x.kids).map xX))=(mw (d.length+1) x.kids).map xX:=bo (by simp);rw[this];simp only[↓aX,mX,seval];rfl
 |false=>
 have hd:d=[]:=by simpa using hb rfl
 have Lq:d.length=0:=by rw[hd];rfl
 simp only[↓aX,mX,seval,Xq,Tree.av];refine⟨rfl,jw hC ?_⟩;simp only[↓aX,mX,seval];rw[Xp 5 80 31 [.agg [.bool x.text,.str x.s,.list (cD x.attrs),.int .i64 p,.list []]] (by simp[jV,IV.cells]) (by simp[Flat,IV.cells]) (by simp) (by decide) (by simp[ae,Hp.none])];simp only[↓aX,mX,seval,bF];refine⟨by simp,?_⟩;refine pe (σ:=Lk x) Xr (fun q=>q.u) (XQ d) (VE d p) (fun q=>x.kids.length - q.i)
  {i:=0,L:= .loc 31,u:=fun q=>false,hi:=gS _,l0:=by simp,l8:=by simp,l10:=by simp,Mo:=by simp,lg:=fun j _=>by simp,Mp:=rfl,Mq:=rfl,ug:=fun j _=>rfl}
  (fun _=>rfl) (fun q=>by simp[ah,AV.an,XQ,Xr]) (aaC d p) ⟨[],?_⟩ ?_
 ·refine⟨?_,?_,?_,by simp[Xr,dn],fun l _=>⟨id,fun _=>rfl⟩⟩
  ·intro l hf hu;by_cases e0:l= .par 0
   ·subst e0;simp[Xr]
   exfalso;apply hu;cases l<;>simp_all[Lb.fresh,ae,Hp.none]
  ·simp[XQ,k_,dn,bJ,mw,put,jP,hd]
  simp[VE,tc,dn,ae,dO,bu,bJ,Wq,fC,mw,aB,Node.iv,Node.cs,Tree.acN,IV.cells,IV.dQ,nT,hd]
 intro q;have a0:ie q.u (VE d p q) (.par 0)= .live ⟨1,[[.sl q.L 5 0 (Wq d x p q.i).length]]⟩:=by simp[ie,VE,kl,bD]
 have aL:ie q.u (VE d p q) q.L= .live ⟨5,aB ((Wq d x p q.i).map Node.iv)⟩:=by simp[ie,VE,kl,bD,q.l0]
 have a8:ie q.u (VE d p q) (.loc 8)= .live ⟨1,aB ((mw (d.length+1) (x.kids.take q.i)).map xX)⟩:=by simp[ie,VE,kl,bD,dL q.l8]
 have a10:ie q.u (VE d p q) (.loc 10)= .unused:=by simp[ie,VE,kl,bD,dL q.l10,q.Mp,Hp.none]
 have a47:ie q.u (VE d p q) (.loc 47)= .unused:=by simp[ie,VE,kl,bD,dL q.Mo,q.Mq,Hp.none]
 have ag:ie q.u (VE d p q) (.gen (1000+q.i))= .unused:=by simp[ie,VE,kl,bD,dL (q.lg q.i (bm _)),q.ug q.i (bm _),Hp.none]
 have anf:∀l:Lb,l.fresh=false→ie q.u (VE d p q) l≠ .unused→l= .par 0∨l=q.L∨q.u l=true:=by
  intro l hf hu;by_cases e0:l= .par 0
  ·exact .inl e0
  by_cases e1:l=q.L
  ·exact .inr (.inl e1)
  by_cases e2:q.u l=true
  ·exact .inr (.inr e2)
  exfalso;apply hu;have e3:l≠ .loc 8:=by rintro rfl;simp[Lb.fresh] at hf
  simp[ie,VE,kl,bD,e0,e1,e2,e3,Hp.none]
 have lr:ah ((XQ d q).map Prod.snd)=[.par 0,.loc 8]:=by simp[ah,AV.an,XQ]
 generalize ie q.u (VE d p q)=H0 at *;have ab_:=q.l10;have MN:=q.l8;have aca:=q.Mo;have hi:=q.hi;have JV:(mw (d.length+1) (x.kids.take q.i)).length=q.i:=by rw[VS,cT];omega
 have Lp:=ql (x.kids.take q.i);have MA:=lV x.kids q.i;simp only[↓aX,mX,seval,XQ];refine AU (fun h=> ?_) (fun h=> ?_)
 ·have bI:q.i<x.kids.length:=by simpa using h
  obtain⟨k,HA⟩:∃k,x.kids[q.i]?=some k:=⟨_,aC bI⟩;have hw:IntKind.i64.wrap ((q.i:Int)+1)=((q.i+1:Nat):Int):=wrap64 (by omega) (by unfold B at hx;omega);have E0:x.kids.take (q.i+1)=x.kids.take q.i++[k]:=Vl HA;have ME:dE (x.kids.take q.i)+k.wt≤dE x.kids:=by
   have:=lV x.kids (q.i+1);rw[E0,kn] at this;simp only[dE] at this;omega
  simp only[↓aX,mX,seval,iy,HA,lT,Tree.cJ,Tree.cs,a10];refine Zf (l:= .par 0) (N:= .gen (1000+q.i)) (o:=some q.L) (hK k (aV HA) (Wq d x p q.i) (by rw[XE];omega)) rfl ⟨q.l0,by simp only[↓aX,mX,seval,a0,ax],by simp only[↓aX,mX,seval,aL,a_ ab_]⟩ (by simp only[↓aX,mX,seval,ag]) (by intro h;simp[Lb.fresh] at h) ?_;rintro L' kK hL' ⟨b1,b2,b3⟩ j0 GJ;have c8:kK (.loc 8)= .live ⟨1,aB ((mw (d.length+1) (x.kids.take q.i)).map xX)⟩:=by
   rw[j0 _ (by simp) (by simp) (by simpa using MN)];simp only[↓aX,mX,seval,a8]
  have LK:kK (.loc 47)= .unused:=by
   rw[j0 _ (by simp) (by simp) (by simpa using aca)];simp only[↓aX,mX,seval,a47]
  simp only[↓aX,mX,seval];rw[qg 1 8 47 8 ((mw (d.length+1) (x.kids.take q.i)).map xX) (.int .i64 (Wq d x p q.i).length) c8 (by rw[ax]) rfl (by simp[IV.cells]) (by rw[JV];unfold B at hx;omega) (by decide) (by decide) LK];simp only[↓aX,mX,seval,hw];have hL8:L'≠ .loc 8:=by rcases hL' with rfl|e;simp;simp only[di] at e;rw[←e];exact MN
  have agM:L'≠ .loc 10:=by rcases hL' with rfl|e;simp;simp only[di] at e;rw[←e];exact ab_
  have acb:L'≠ .loc 47:=by rcases hL' with rfl|e;simp;simp only[di] at e;rw[←e];exact aca
  refine⟨{i:=q.i+1,L:=L',u:=fun l=>q.u l||(decide (l=q.L)||decide (l= .gen (1000+q.i))),hi:=bI,l0:=b1,l8:=hL8,l10:=agM,Mo:=acb,lg:= ?_,Mp:= ?_,Mq:= ?_,ug:= ?_},by simp only;omega,[(.loc 8,.loc 47)],?_⟩
  ·intro j hj;rcases hL' with rfl|e
   ·simp;omega
   simp only[di] at e;rw[←e];exact q.lg j (by omega)
  ·simp[q.Mp,dL ab_]
  ·simp[q.Mq,dL aca]
  ·intro j hj;have:=dL (q.lg j (by omega));simp[q.ug j (by omega),this];omega
  have hP:=aaB (d:=d) (p:=p) HA;have acd:mw (d.length+1) (x.kids.take (q.i+1))=mw (d.length+1) (x.kids.take q.i)++[((Wq d x p q.i).length:Int)]:=by
   rw[E0,WZ,XE];simp[mw]
  refine⟨?_,?_,?_,?_,?_⟩
  ·intro l hf hu;by_cases e0:l= .par 0
   ·subst e0;simp[Xr]
   by_cases e1:l=q.L
   ·right;simp[e1]
   by_cases e2:l= .gen (1000+q.i)
   ·right;simp[e2]
   have e3:l≠ .loc 47:=(by rintro rfl;simp[Lb.fresh] at hf);have e4:l≠ .loc 8:=(by rintro rfl;simp[Lb.fresh] at hf);have e5:l≠ .loc 10:=(by rintro rfl;simp[Lb.fresh] at hf);rw[aq _ _ e3,aq _ _ e4,j0 l e0 e2 (by simpa using dL e1),aq _ _ e5,aq _ _ e5] at hu;rcases anf l hf hu with h|h|h
   ·exact absurd h e0
   ·exact absurd h e1
   right;simp[h]
  ·simp[XQ,k_,dn,bJ,put,JV,E0,WZ,mw]
  ·have r0:dn [(.loc 8,.loc 47)] (.par 0)= .par 0:=rfl;have rL:dn [(.loc 8,.loc 47)] L'=L':=(by simp[dn,hL8]);have r8:dn [(.loc 8,.loc 47)] (.loc 8)= .loc 47:=rfl;refine⟨?_,?_,?_,trivial⟩
   ·show bD (bD kK (.loc 8) .dead) (.loc 47) _ (.par 0)= .live (dO (dn [(.loc 8,.loc 47)]) ⟨1,[[.sl L' 5 0 (Wq d x p (q.i+1)).length]]⟩);rw[aq _ _ (by simp),aq _ _ (by simp),b2,hP];simp[dO,bu,bJ,rL]
   ·show bD (bD kK (.loc 8) .dead) (.loc 47) _ (dn [(.loc 8,.loc 47)] L')= .live (dO (dn [(.loc 8,.loc 47)]) ⟨5,aB ((Wq d x p (q.i+1)).map Node.iv)⟩);rw[rL,aq _ _ acb,aq _ _ hL8,b3,dy,hP]
   show bD (bD kK (.loc 8) .dead) (.loc 47) _ (.loc 47)= .live (dO (dn [(.loc 8,.loc 47)]) ⟨1,aB ((mw (d.length+1) (x.kids.take (q.i+1))).map xX)⟩);rw[dy,acd,eV];simp only[↓aX,mX,seval];rfl
  ·simp[Xr,dn,hL8,dL b1,acb]
  intro l hl;simp only[Xr,bb,b5,b7] at hl;rcases hl with rfl|rfl|rfl
  ·exact⟨id,fun _=>rfl⟩
  ·have rL:dn [(.loc 8,.loc 47)] l=l:=(by simp[dn,hL8]);rw[rL];exact⟨id,fun _=>rfl⟩
  exact⟨fun _=>rfl,fun h=>by simp[Lb.fresh] at h⟩
 have XV:q.i=x.kids.length:=by simp at h;omega
 have CM:x.kids.take q.i=x.kids:=by rw[XV,ea]
 rw[CM] at a8;have ve:=XE d x p q.i;have bI:d.length<(Wq d x p q.i).length:=by omega
 have jY:(aB ((Wq d x p q.i).map Node.iv))[d.length]?=some [.bool x.text,.str x.s,.list (cD x.attrs),.int .i64 p,.list []]:=by
  rw[xT,cn,Wq,eW,b_ (bm _),oj];rfl
 simp only[↓aX,mX,seval,h,CM];refine⟨1,(mw (d.length+1) x.kids).map xX,0,_,rfl,a8,by simp,XD _,?_⟩;simp only[↓aX,mX,seval,a0,aL,bI,MN,jY,lQ,ax];have GN:(aB ((Wq d x p q.i).map Node.iv)).set d.length ((x.node d.length p).iv.cells.map IV.dQ)=aB ((d++x.flat d.length p).map Node.iv):=by
  rw[x.qm,xU,Wq,CM];congr 1;simp[vR]
 have Yd:(d++x.flat d.length p).length=(Wq d x p q.i).length:=by
  rw[cy,x.j9,ve,CM,x.n8];omega
 refine⟨q.L,q.l0,?_,?_⟩
 ·rw[aq _ _ (dL q.l0),aq _ _ (by simp),a0,ax,Yd]
 rw[←GN];have:(List.take (mw (d.length+1) x.kids).length ((mw (d.length+1) x.kids).map xX))=(mw (d.length+1) x.kids).map xX:=bo (by simp);rw[this];simp only[↓aX,mX,seval];rfl

theorem Px {p:Lb}:∀{ds:List AV},p∈ah ds→∃y∈ds,p∈y.an
 |[],h=>by simp[ah] at h
 |y::r,h=>by
  simp only[ah,aY] at h;rcases h with h|h
  ·exact⟨y,by simp,h⟩
  obtain⟨z,hz,hp⟩:=Px h;exact⟨z,by simp[hz],hp⟩
def Qm {S:St} {env:Env} {H:Hp} {q:Lb} {cs:List AV} {j d sz:Nat} (g1:H q= .live ⟨cs.length,[cs]⟩) (g2:cs[j]?=some .nil0) (g3:H (.loc d)= .unused) (g4:0<sz) :
  nQ S env H env (bD (bD H (.loc d) (.live ⟨sz,[]⟩)) q (.live ⟨cs.length,[cs.set j (.sl (.loc d) sz 0 0)]⟩)):=by
 intro K β a w IJ hS hr;have hk:=hr.OI (.loc d) g3 (r:=⟨sz,[]⟩) (Below.refl _ _) none (by simp) (by simp) ⟨g4,by simp,by simp⟩;have TF:q≠ .loc d:=by rintro rfl;rw[g1] at g3;cases g3
 have hq:bD H (.loc d) (.live ⟨sz,[]⟩) q= .live ⟨cs.length,[cs]⟩:=by rw[aq _ _ TF];exact g1
 have gm:0<cs.length:=(hr.rows q _ g1).1;have TG:bD β (.loc d) none q=β q:=aq _ _ TF;cases hb:β q with
 |none=>
  have:=(hr.rows q _ g1).2.2;simp[hb] at this
 |some g=>
 obtain⟨cur,e0,cap,k1,k2,k3,k4,k5⟩:=(hk.rows q _ hq).block (TG.trans hb);have zk:j<cs.length:=(aI.1 g2).1;have vf:=hk.setRow q (r':=⟨cs.length,[cs.set j (.sl (.loc d) sz 0 0)]⟩) (cur':=cur) (cap:=cap) hq (TG.trans hb) k1 rfl rfl k2 k3 (by simpa using k4) (by simp)
  (by
   intro ds ua p hp;simp at ua;subst ua;obtain⟨y,hy,J'⟩:=Px hp;rcases gj hy with hy|rfl
   ·obtain⟨m,hm⟩:=c_ hy;exact hk.cH q _ hq cs (by simp) p (cW _ _ _ hm p J')
   simp only[AV.an,aW] at J';subst J';simp)
  (by
   intro i' j' ds x0 ed iX;cases i' with
   |succ i'=>simp at ed
   |zero=>
   simp at ed;subst ed;by_cases e:j'=j
   ·subst e;rw[fk zk] at iX;cases iX;obtain⟨v,q1,q2⟩:=k5 0 j' cs _ (by simp) g2;simp only[RV] at q2;obtain⟨ad,rfl⟩:=q2;refine⟨_,q1,?_⟩;simp only[RV];exact⟨ad,0,rfl,bm _,by simp[maxLen],by simp,fun _=> .inl rfl⟩
   rw[gy (dL e)] at iX;exact k5 0 j' cs x0 (by simp) iX)
 have j0:w.setRow g cur=w:=setRow_self w g cur e0 (0,0) k1;rw[j0] at vf;exact⟨_,vf⟩
section
variable {env:Env} {H:Hp}
def kq (m:Option Nat) (t u:Nat) (R:AV→Hp→Prop):fX [(some m,t),(none,u)] R .ret env H=cw (Wl m (env t) H) (fun x=>R (.gf [x,env u]) H) .mk:=by
 simp only[fX,ef,oO,cw];cases Wl m (env t) H<;>simp[gD]
end
end Go.Am
