/- Three closed facts on the whole program that every row of this seat asks: each once. -/
import Derived.Test.YtkjginibdablnaaDoorRows
import Derived.JoinedOf
import Derived.KernelRfl
namespace Go.Proofs.YtkjginibdablnaaDoor
theorem fact_enter : Tryd.pinned.checked.prog.mayEnter = true := by kernel_rfl
theorem fact_lifts : Tryd.pinned.checked.prog.liftsFinal = false := by kernel_rfl
theorem fact_make : Tryd.pinned.checked.prog.make = some Rows.fnExactPackOkRow.make := by kernel_rfl
end Go.Proofs.YtkjginibdablnaaDoor
