/- What the cards over the tables of unicode/utf8 share: a start that meets the condition. -/
import Derived.Test.YtbaafipkdglohaaDoorCards
import Derived.Test.YtbaafipkdglohaaDoorTie
import Derived.WalkKit
import Derived.ProofKit
import Derived.OpenShut
import Derived.ShutString
import Derived.ChangeOld
import Derived.Below
import Derived.LaidMore
import Derived.Stop.Joined
import Derived.SevenTiedAt
namespace Go.Proofs.YtbaafipkdglohaaDoor
open Go.ChangeShapes Go.WideShapes Go.ChangeAt Go.RowKit

theorem own : ownKnob Tryd.prog.godebug = none := by kernel_rfl
theorem laidOut : laidOutB Tryd.prog = true := by kernel_rfl
def laidTabs : List (String × DataW Unit) := [("unicode/utf8.acceptRanges", Rows.laid_unicode_utf8_acceptRanges), ("unicode/utf8.first", Rows.laid_unicode_utf8_first)]
noncomputable def firstCells : Array Value := match (Go.Pinned.utf8First : DataW Unit) with
  | .agg l => (l.map fun | .lit (.int k n) => Value.int k n | _ => Value.int .u8 0).toArray
  | _ => #[]
/-- the door's own heap, the one table that the door leaves out laid beside -/
noncomputable def tabWorld (os : Os) : World :=
  { World.doorLaid Tryd.prog 57 os with heap := (World.doorLaid Tryd.prog 57 os).heap.modify 3 fun
      | .cells _ t frozen => .cells firstCells t frozen
      | o => o }
theorem tabs_met (os : Os) (args : Array Value) : laidMetH Tryd.prog laidTabs ((tabWorld os).forCall (fun _ _ => 0) ⟨#[], args, []⟩).memory :=
  laidMetH_of_parts3 (fuel := 8) (laidMet_of_run' 8 (by kernel_rfl) (by kernel_rfl)) (by kernel_rfl) (by kernel_rfl)
end Go.Proofs.YtbaafipkdglohaaDoor
