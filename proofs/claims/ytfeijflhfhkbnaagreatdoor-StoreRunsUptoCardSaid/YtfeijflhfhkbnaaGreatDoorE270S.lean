import Derived.Test.YtfeijflhfhkbnaaGreatDoorE260S
import Derived.Test.YtfeijflhfhkbnaaGreatDoorKT193S
set_option linter.all false
/- The laws StorePlays, StoreRuns in this seat. -/
namespace Go.Proofs.YtfeijflhfhkbnaaGreatDoor
open Go Go.Am Go.ChangeShapes
variable {t1 t2:Nat} {mq:Int}
theorem upM {f:Nat} {args cs:List AV} {R:AV->List AV->Prop} (h:cM Tryz.prog (gS t1 t2) f args cs R):cM Tryz.prog (gQ t1 t2 mq) f args cs R:=
 ⟨h.1,h.2.1,h.2.2.up λg cs e=>by
  unfold gQ;rw[af8 (by rintro rfl;cases e),e]⟩
theorem adz:Hf Tryz.prog (gQ t1 t2 mq) 11:=Zf (yd (Cw Ja (by have:=vL xf;unfold B;omega)))
section
variable (l:List de) (hl:l.length<=B) (hw:∀a∈l,FC a.lines<=2^20)
include hl hw
theorem Hh:aj Tryz.prog (gQ t1 t2 mq) 4 [.list (l.map de.iv)] (.bool true):=
 Hg l hl adz V_ (λa h s=>upM (ac6 s.d s.h.1 s.n s.h.2.1 s.h.2.2 a (hw a h))) (λa h s=>yDo s.h.1 s.n s.h.2.1 s.h.2.2 a (hw a h)) (λs=>upM (ac7 s.d s.h.1 s.n))
  λs=>by
   have:=yd (mq:=mq) (FO (t1:=t1) (t2:=t2) s.d s.d (by have:=ua s.h.1;unfold B;omega))
   rwa[show Fb s.d s.d=true by simp[Fb]] at this
theorem JB:aj Tryz.prog (gQ t1 t2 mq) 5 [.list (l.map de.iv)] (.bool true):=
 JA l hl V_ (λa h s=>yDo s.h.1 s.n s.h.2.1 s.h.2.2 a (hw a h)) λl' h=>ZS l' (by rcases h with rfl|rfl;exact hl;decide) adz λa h' s=>upM (ac6 s.d s.h.1 s.n s.h.2.1 s.h.2.2 a (by
  rcases h with rfl|rfl
  ·exact hw a h'
  simp only[af'] at h';subst h';decide))
end
end Go.Proofs.YtfeijflhfhkbnaaGreatDoor
