import Derived.Test.YtfeijflhfhkbnaaGreatDoorKAm53S
set_option linter.all false
/- THE ABSTRACT MACHINE: a contract holds, too, where more is known of the package variables. -/
namespace Go.Am
open Go Go.RowKit
def er.up {P:Program} {G G':Nat->Option (List IV)} {f:Nat} {args:List AV} {H:Hp} {Q:AV->Hp->Prop} (hG:∀g cs,G g=some cs->G' g=some cs) (h:er P G f args H Q):er P G' f args H Q:=by
 intro w A β vs hr hv;have qp:aO (cH P G w A β H) β Env.any H sO w:=⟨hr.defers,hr.size,hr.jc,hr.rows,hr.own,hr.inj,hr.iq,hr.cB,hr.frame,λg cs e=>hr.iO g cs (hG g cs e),hr.jv,hr.fr⟩;refine(h w A β vs qp hv).mono ?_;rintro e w' ⟨v,x,H',β',rfl,q,k,kv,km⟩;have kp:jt w w' (Im (cH P G w A β H) β H) (Im (cH P G w A β H) β' H'):=⟨λn hk hs=>by
  have hn:¬JV β H n:=λ⟨l,hl,e⟩=>hk.2 l hl e;refine⟨⟨hk.1,λl hl hb=> ?_⟩,ahi hs k.frame.size,k.frame.block n hs hn⟩;rcases k.own l n hl hb with h|h
  ·exact hn h
  have h:w.heap.size<=n:=h;omega⟩
 refine⟨v,x,H',β',rfl,q,⟨k.defers,k.size,k.jc,k.rows,k.own,k.inj,k.iq,k.cB,k.frame,λg cs e=> ?_,k.jv,k.fr⟩,kv,km⟩;obtain⟨k1,k2,k3⟩:=hr.iO g cs e;exact⟨(kp.im g k1 k2).1,ahi k2 k.frame.size,dD.mono kp k1 k2 k3⟩
def aj.up {P:Program} {G G':Nat->Option (List IV)} {f:Nat} {args:List AV} {res:AV} (hG:∀g cs,G g=some cs->G' g=some cs) (h:aj P G f args res):aj P G' f args res:=
 ⟨h.1,h.2.1,h.2.2.up hG⟩
end Go.Am
