/- The names of a pack: both functions give the same list. -/
import Derived.Test.YtkjginibdablnaaGreatDoorPackV
namespace Go.Proofs.YtkjginibdablnaaGreatDoor
open Go.RowKit
def names (l : List Itm) : List Int := l.map (·.1)
theorem names_length (l : List Itm) : (names l).length = l.length := by simp [names]
theorem names_take {l : List Itm} {k : Nat} {s : Itm} (h : l[k]? = some s) : (names l).take (k + 1) = (names l).take k ++ [s.1] := by
  rw [List.take_add_one]
  simp [names, h]
theorem intVals_append (l m : List Int) : intVals (l ++ m) = intVals l ++ intVals m := by simp [intVals]
theorem row_less {B B' : Nat} {w : World} {e : TypeId} {size n : Nat} {v : Value} {xs : List Value} (h : w.ownsRow B e size v n xs) (hB : B' ≤ B) : w.ownsRow B' e size v n xs := by
  refine ⟨h.1, ?_⟩
  rcases h.2 with h2 | ⟨g, cap, cur, hv, hb, rest⟩
  · exact .inl h2
  · exact .inr ⟨g, cap, cur, hv, by omega, rest⟩
theorem box_cell (w W : World) (cs : Array Value) (T : TypeId) (j : Nat) (v : Value) (h : cs[j]? = some v) (hb : Below (w.heap.size + 1) (w.alloc (.cells cs T)) W) : W.cell? ⟨w.heap.size, j, none⟩ = some v := by
  rw [hb.cell (p := ⟨w.heap.size, j, none⟩) (Nat.lt_succ_self _), cell_of_row _ _ j _ _ (0, 0) (heap_alloc_new w _)]
  exact h
theorem cell_one_new2 (w : World) (o : Obj) (x : Value) (T : TypeId) : ∀ (j : Nat) (u : Value), [x][j]? = some u → ((w.alloc o).alloc (.cells #[x] T)).cell? ((⟨w.heap.size + 1, 0, none⟩ : Addr).add j) = some u := by
  intro j u h
  have h2 := cell_one_new (w.alloc o) x T j u h
  rw [show (w.alloc o).heap.size = w.heap.size + 1 by simp] at h2
  exact h2
section
set_option maxHeartbeats 1600000
end
end Go.Proofs.YtkjginibdablnaaGreatDoor
