/-
  The reader's inner and two walked. No condition.
-/
import Derived.Test.YtkobkpepgdddeaaGreatDoorZal
import Derived.Test.YtkobkpepgdddeaaGreatDoorZaj
namespace Go.Proofs.YtkobkpepgdddeaaGreatDoor
open Go.RowKit
set_option maxHeartbeats 16000000
set_option maxRecDepth 100000
end Go.Proofs.YtkobkpepgdddeaaGreatDoor
