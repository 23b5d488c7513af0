/-
  The reference's Sort of an expression, walked: some kinds. No condition but the size.
-/
import Derived.Test.YtkobkpepgdddeaaGreatDoorYaf
namespace Go.Proofs.YtkobkpepgdddeaaGreatDoor
open Go.RowKit
set_option maxHeartbeats 16000000
set_option maxRecDepth 100000
end Go.Proofs.YtkobkpepgdddeaaGreatDoor
