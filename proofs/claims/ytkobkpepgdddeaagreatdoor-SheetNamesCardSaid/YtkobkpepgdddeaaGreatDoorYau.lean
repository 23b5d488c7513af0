/-
  A contract that is well-formed: the reference's Formed, walked. No condition but the size.
-/
import Derived.Test.YtkobkpepgdddeaaGreatDoorYat
namespace Go.Proofs.YtkobkpepgdddeaaGreatDoor
open Go.RowKit
set_option maxHeartbeats 16000000
set_option maxRecDepth 100000
def chkC(x:Ct):Int:=if 500<x.csz∨60<x.cdp then 4 else if ze6 x then 0 else 8
theorem CtIn.sm9{n:Nat}{x:Ct}{cs:List Value}{w Wg:World}(h:CtIn n x cs w Wg):∃d,d≤900∧CSm d x:=by
 obtain⟨d,hd,h⟩:=h.small;exact⟨d,by omega,h⟩
end Go.Proofs.YtkobkpepgdddeaaGreatDoor
