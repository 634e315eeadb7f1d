/- Three closed facts on the whole program that every row of this seat asks: each once. -/
import Derived.Test.YtkjginibdablnaaRows
import Derived.JoinedOf
import Derived.KernelRfl
namespace Go.Proofs.Ytkjginibdablnaa
theorem fact_enter : Try.pinned.checked.prog.mayEnter = true := by kernel_rfl
theorem fact_lifts : Try.pinned.checked.prog.liftsFinal = false := by kernel_rfl
theorem fact_make : Try.pinned.checked.prog.make = some Rows.fnExactPackNamesRow.make := by kernel_rfl
end Go.Proofs.Ytkjginibdablnaa
