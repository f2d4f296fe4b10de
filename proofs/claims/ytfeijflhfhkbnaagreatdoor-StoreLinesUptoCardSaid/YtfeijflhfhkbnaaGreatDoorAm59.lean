import Derived.Test.YtfeijflhfhkbnaaGreatDoorKAm53
set_option linter.all false
/- THE ABSTRACT MACHINE: a contract holds, too, where more is known of the package variables. -/
namespace Go.Am
open Go Go.RowKit
def ey.up {P:Program} {G G':Nat->Option (List IV)} {f:Nat} {args:List AV} {H:Hp} {Q:AV->Hp->Prop} (hG:∀g cs,G g=some cs->G' g=some cs) (h:ey P G f args H Q):ey P G' f args H Q:=by
 intro w A β vs hr hv;have I_:aH (b8 P G w A β H) β Env.any H lB w:=⟨hr.defers,hr.size,hr.N8,hr.rows,hr.own,hr.inj,hr.eI,hr.cH,hr.frame,λg cs e=>hr.W5 g cs (hG g cs e),hr.gA,hr.fr⟩;refine(h w A β vs I_ hv).mono ?_;rintro e w' ⟨v,x,H',β',rfl,q,k,kv,km⟩;have kp:W4 w w' (Im (b8 P G w A β H) β H) (Im (b8 P G w A β H) β' H'):=⟨λn hk hs=>by
  have hn:¬wU β H n:=λ⟨l,hl,e⟩=>hk.2 l hl e;refine⟨⟨hk.1,λl hl hb=> ?_⟩,Uo hs k.frame.size,k.frame.block n hs hn⟩;rcases k.own l n hl hb with h|h
  ·exact hn h
  have h:w.heap.size<=n:=h;omega⟩
 refine⟨v,x,H',β',rfl,q,⟨k.defers,k.size,k.N8,k.rows,k.own,k.inj,k.eI,k.cH,k.frame,λg cs e=> ?_,k.gA,k.fr⟩,kv,km⟩;obtain⟨k1,k2,k3⟩:=hr.W5 g cs e;exact⟨(kp.im g k1 k2).1,Uo k2 k.frame.size,da.mono kp k1 k2 k3⟩
def au.up {P:Program} {G G':Nat->Option (List IV)} {f:Nat} {args:List AV} {res:AV} (hG:∀g cs,G g=some cs->G' g=some cs) (h:au P G f args res):au P G' f args res:=
 ⟨h.1,h.2.1,h.2.2.up hG⟩
end Go.Am
