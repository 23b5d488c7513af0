/-
  The reader's contract walked (until, when). No condition.
-/
import Derived.Test.YtkobkpepgdddeaaGreatDoorZam
namespace Go.Proofs.YtkobkpepgdddeaaGreatDoor
open Go.RowKit
set_option maxHeartbeats 16000000
set_option maxRecDepth 100000
end Go.Proofs.YtkobkpepgdddeaaGreatDoor
