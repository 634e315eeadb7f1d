/- The functions that write marks into a slice of numbers, and look for them. -/
import Derived.Test.YtkjginibdablnaaDoorLists
import Derived.Laws.OwnMore
namespace Go.Proofs.YtkjginibdablnaaDoor
open Go.RowKit
theorem lst_form {w : World} {B : Nat} {v : Value} {xs : List Value} (h : Lst w B v xs) : ∃ A c, v = .slice A xs.length c := by
  obtain ⟨A, c, hv, _⟩ := h; exact ⟨A, c, hv⟩
theorem bel_trans {w w1 w2 : World} (h : Below w.heap.size w w1) (k : Below w1.heap.size w1 w2) : Below w.heap.size w w2 := h.trans (k.mono h.size)
theorem lst_next {w w' : World} {v : Value} {xs : List Value} (h : Lst w w.heap.size v xs) (hb : Below w.heap.size w w') : Lst w' w'.heap.size v xs := lst_more (lst_below h hb) hb.size
theorem lst_at {w : World} {B n c k : Nat} {A : Option Addr} {x : Value} {xs : List Value} (h : Lst w B (.slice A n c) xs) (hk : xs[k]? = some x) : ∃ g off, A = some ⟨g, off, none⟩ ∧ g < B ∧ w.cell? ⟨g, off + k, none⟩ = some x := by
  obtain ⟨A', c', hv, hc, hx⟩ := h
  have hlt : k < xs.length := (List.getElem?_eq_some_iff.1 hk).1
  obtain ⟨g, off, hA, hg, hcell⟩ := hx (by omega)
  cases hv
  exact ⟨g, off, hA, hg, hcell k x hk⟩
theorem bel_drew1 {w w' : World} (h : Below w.drew.heap.size w.drew w') : Below w.heap.size w w' := ⟨h.os, h.tape, h.output, h.size, h.block⟩
/-- the marks k, k+1, .. -/
def marks (k n : Nat) : List Int := (List.range n).map fun i : Nat => ((k + i : Nat) : Int)
theorem marks_length (k n : Nat) : (marks k n).length = n := by simp [marks]
theorem marks_get (k n j : Nat) (h : j < n) : (marks k n)[j]? = some ((k + j : Nat) : Int) := by simp [marks, h]
theorem marks_next (k n : Nat) : marks k (n + 1) = marks k n ++ [((k + n : Nat) : Int)] := by simp [marks, List.range_succ]
theorem marks_set (k j : Nat) (xs : List Value) (h : j < xs.length) : (intVals (marks k j) ++ xs.drop j).set j (.int .i64 ((k + j : Nat) : Int)) = intVals (marks k (j + 1)) ++ xs.drop (j + 1) := by
  have hl : (intVals (marks k j)).length = j := by rw [intVals_length, marks_length]
  rw [List.set_append_right _ _ (by rw [hl]; exact Nat.le_refl _), hl, Nat.sub_self, List.drop_eq_getElem_cons h, List.set_cons_zero, marks_next]
  simp [intVals]
theorem marks_old (k j : Nat) (xs : List Value) (h : j < xs.length) : ∃ x, (intVals (marks k j) ++ xs.drop j)[j]? = some x := by
  refine ⟨xs[j], ?_⟩
  have hl : (intVals (marks k j)).length = j := by rw [intVals_length, marks_length]
  rw [List.getElem?_append_right (by rw [hl]; exact Nat.le_refl _), hl, Nat.sub_self, List.getElem?_drop, Nat.add_zero, List.getElem?_eq_getElem h]
section
set_option maxHeartbeats 800000
end
end Go.Proofs.YtkjginibdablnaaDoor
