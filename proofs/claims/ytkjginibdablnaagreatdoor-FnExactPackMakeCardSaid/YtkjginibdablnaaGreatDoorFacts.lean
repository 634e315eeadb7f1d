/- Three closed facts on the whole program that every row of this seat asks: each once. -/
import Derived.Test.YtkjginibdablnaaGreatDoorRows
import Derived.JoinedOf
import Derived.KernelRfl
namespace Go.Proofs.YtkjginibdablnaaGreatDoor
theorem fact_enter : Tryz.pinned.checked.prog.mayEnter = true := by kernel_rfl
theorem fact_lifts : Tryz.pinned.checked.prog.liftsFinal = false := by kernel_rfl
theorem fact_make : Tryz.pinned.checked.prog.make = some Rows.fnPackMakeRow.make := by kernel_rfl
end Go.Proofs.YtkjginibdablnaaGreatDoor
