/- Contracts and plain laws, several texts in one (DAwOk). No conditions beyond those stated. -/
import Derived.Test.YtlidpghnlloinaaGreatDoorPk19
set_option maxRecDepth 100000
set_option maxHeartbeats 40000000
namespace Go.Proofs.YtlidpghnlloinaaGreatDoor
open Go.RowKit
def AwOk : Prop:=∀ (K : Nat) (w : World),K <= w.heap.size -> PTab K w -> Calls Tryz.prog 12 #[] w fun e w' => e = .returned (.bool true) /\ Below w.heap.size w w'
end Go.Proofs.YtlidpghnlloinaaGreatDoor
