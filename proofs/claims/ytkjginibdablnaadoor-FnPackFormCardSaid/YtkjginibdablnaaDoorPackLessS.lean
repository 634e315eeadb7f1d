/- A pack of what is wanted alone, in the reference. -/
import Derived.Test.YtkjginibdablnaaDoorPackLess
import Derived.Deep.RegionLaw
namespace Go.Proofs.YtkjginibdablnaaDoor
open Go.RowKit
theorem cell_alI {w : World} {a : Addr} {v : Value} (h : w.cell? a = some v) (o : Obj) : (w.alloc o).cell? a = some v := by
  refine (World.cell?_alloc_lt w o a ?_).trans h
  rcases Nat.lt_or_ge a.block w.heap.size with h' | h'
  · exact h'
  · simp [World.cell?, Array.getElem?_eq_none h'] at h
theorem ownP_set_ne {T B b : Nat} {w : World} {v : Value} {l : List (Value × Value)} (h : OwnP T B w v l) (hb : v.ownBlock ≠ some b) (i : Nat) (u : Value) : OwnP T B (w.setCell ⟨b, i, none⟩ u) v l := h.kept (grown_setCell w b i u) (.inr hb)
section
set_option maxHeartbeats 1600000
end
end Go.Proofs.YtkjginibdablnaaDoor
