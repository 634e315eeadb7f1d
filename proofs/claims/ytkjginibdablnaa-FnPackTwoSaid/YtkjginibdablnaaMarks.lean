/- The functions that write marks into a slice of numbers, and look for them. -/
import Derived.Test.YtkjginibdablnaaLists
import Derived.Laws.OwnMore
namespace Go.Proofs.Ytkjginibdablnaa
open Go.RowKit
theorem lst_form {w : World} {B : Nat} {v : Value} {xs : List Value} (h : Lst w B v xs) : ∃ A c, v = .slice A xs.length c := by
  obtain ⟨A, c, hv, _⟩ := h; exact ⟨A, c, hv⟩
theorem bel_trans {w w1 w2 : World} (h : Below w.heap.size w w1) (k : Below w1.heap.size w1 w2) : Below w.heap.size w w2 := h.trans (k.mono h.size)
theorem lst_next {w w' : World} {v : Value} {xs : List Value} (h : Lst w w.heap.size v xs) (hb : Below w.heap.size w w') : Lst w' w'.heap.size v xs := lst_more (lst_below h hb) hb.size
theorem lst_at {w : World} {B n c k : Nat} {A : Option Addr} {x : Value} {xs : List Value} (h : Lst w B (.slice A n c) xs) (hk : xs[k]? = some x) : ∃ g off, A = some ⟨g, off, none⟩ ∧ g < B ∧ w.cell? ⟨g, off + k, none⟩ = some x := by
  obtain ⟨A', c', hv, hc, hx⟩ := h
  have hlt : k < xs.length := (List.getElem?_eq_some_iff.1 hk).1
  obtain ⟨g, off, hA, hg, hcell⟩ := hx (by omega)
  cases hv
  exact ⟨g, off, hA, hg, hcell k x hk⟩
theorem bel_drew1 {w w' : World} (h : Below w.drew.heap.size w.drew w') : Below w.heap.size w w' := ⟨h.os, h.tape, h.output, h.size, h.block⟩
/-- the marks k, k+1, .. -/
def marks (k n : Nat) : List Int := (List.range n).map fun i : Nat => ((k + i : Nat) : Int)
theorem marks_length (k n : Nat) : (marks k n).length = n := by simp [marks]
theorem marks_get (k n j : Nat) (h : j < n) : (marks k n)[j]? = some ((k + j : Nat) : Int) := by simp [marks, h]
theorem marks_next (k n : Nat) : marks k (n + 1) = marks k n ++ [((k + n : Nat) : Int)] := by simp [marks, List.range_succ]
theorem marks_set (k j : Nat) (xs : List Value) (h : j < xs.length) : (intVals (marks k j) ++ xs.drop j).set j (.int .i64 ((k + j : Nat) : Int)) = intVals (marks k (j + 1)) ++ xs.drop (j + 1) := by
  have hl : (intVals (marks k j)).length = j := by rw [intVals_length, marks_length]
  rw [List.set_append_right _ _ (by rw [hl]; exact Nat.le_refl _), hl, Nat.sub_self, List.drop_eq_getElem_cons h, List.set_cons_zero, marks_next]
  simp [intVals]
theorem marks_old (k j : Nat) (xs : List Value) (h : j < xs.length) : ∃ x, (intVals (marks k j) ++ xs.drop j)[j]? = some x := by
  refine ⟨xs[j], ?_⟩
  have hl : (intVals (marks k j)).length = j := by rw [intVals_length, marks_length]
  rw [List.getElem?_append_right (by rw [hl]; exact Nat.le_refl _), hl, Nat.sub_self, List.getElem?_drop, Nat.add_zero, List.getElem?_eq_getElem h]
section
set_option maxHeartbeats 800000
theorem heldIntS_any (w : World) (B : Nat) (v : Value) (k n : Nat) (h : Lst w B v (intVals (marks k n))) (hn : n ≤ 1000000000) (hk : k ≤ 1000000000) :
    Calls Try.prog 15 #[v, .int .i64 (k : Int)] w fun e w' => e = .returned (.int .i64 ((k + n : Nat) : Int)) ∧ w' = w := by
  obtain ⟨A, c, rfl⟩ := lst_form h
  have hl : (intVals (marks k n)).length = n := by rw [intVals_length, marks_length]
  have HL : Hid (Lst w B (.slice A n c) (intVals (marks k n))) := by rw [hl] at h; exact Lib.hid h
  clear h
  rw [hl]
  clear hl
  go_enter Try.func15, Try.ntmps15
  go_wp2
  go_loopw [1, 5] (fun kk i wr => ∃ j : Nat, j ≤ n ∧ kk = .int .i64 ((k + j : Nat) : Int) ∧ i = .int .i64 (j : Int) ∧ wr = w) (fun _ i _ => n - (intOf i).toNat)
  case atStart => exact ⟨0, Nat.zero_le _, rfl, rfl, rfl⟩
  case round =>
    obtain ⟨j, hj, rfl, rfl, rfl⟩ := hrel
    obtain ⟨y, hy⟩ : ∃ y, k + j = y := ⟨_, rfl⟩
    have hy2 : y ≤ 2000000000 := by omega
    rw [hy]
    by_cases hlt : j < n
    · obtain ⟨g, off, hA, _, hc⟩ := lst_at HL.out (intVals_get _ _ _ (marks_get k n j hlt))
      subst hA
      rw [hy] at hc
      have HY := Lib.hid hy
      clear hy
      have hi1 : (j : Int) < (n : Int) := by omega
      go_wp2
      go_roundw
      case rel => exact ⟨j + 1, by omega, by have := HY.out; go_num, by go_num, by first | rfl | trivial⟩
      case measure => simp [intOf]; omega
    · have hjn : j = n := by omega
      have HY := Lib.hid hy
      clear hy
      subst hjn
      go_wp2
      go_ret
      exact ⟨by rw [HY.out]; rfl, by first | rfl | trivial⟩
theorem markIntS_own (w : World) (B : Nat) (T : TypeId) (A : Option Addr) (cap : Nat) (xs : List Value) (k n : Nat) (h : w.ownsRow B T 1 (.slice A n cap) n xs) (hA : 0 < n → ∃ g, A = some ⟨g, 0, none⟩ ∧ B ≤ g) (hn : n ≤ 1000000000) (hk : k ≤ 1000000000) :
    Calls Try.prog 14 #[.slice A n cap, .int .i64 (k : Int)] w fun e w' => e = .returned (.int .i64 ((k + n : Nat) : Int)) ∧ w'.ownsRow B T 1 (.slice A n cap) n (intVals (marks k n)) ∧ w.grownBy w' (Value.slice A n cap).ownBlock := by
  have hx : xs.length = n := by have := h.1; omega
  have HX := Lib.hid hx
  have H := Lib.hid h
  clear h hx
  go_enter Try.func14, Try.ntmps14
  go_wp2
  go_loopw [1, 5] (fun kk i wr => ∃ j : Nat, j ≤ n ∧ kk = .int .i64 ((k + j : Nat) : Int) ∧ i = .int .i64 (j : Int) ∧ wr.ownsRow B T 1 (.slice A n cap) n (intVals (marks k j) ++ xs.drop j) ∧ w.grownBy wr (Value.slice A n cap).ownBlock) (fun _ i _ => n - (intOf i).toNat)
  case atStart => exact ⟨0, Nat.zero_le _, rfl, rfl, by simpa [marks, intVals] using H.out, grown_refl _ _⟩
  case round =>
    obtain ⟨j, hj, rfl, rfl, ho, hb⟩ := hrel
    have HO := Lib.hid ho
    have HB := Lib.hid hb
    clear ho hb
    obtain ⟨y, hy⟩ : ∃ y, k + j = y := ⟨_, rfl⟩
    have hy2 : y ≤ 2000000000 := by omega
    rw [hy]
    by_cases hlt : j < n
    · obtain ⟨g, hA2, _⟩ := hA (by omega)
      subst hA2
      obtain ⟨old, hold⟩ := marks_old k j xs (by rw [HX.out]; exact hlt)
      have hc := (HO.out.cellAt j (by omega)).trans hold
      clear hold hA
      have hf := HO.out.frozenAt j
      have HS := Lib.hid (HO.out.stored j (.int .i64 (y : Int)))
      have HE := Lib.hid (marks_set k j xs (by rw [HX.out]; exact hlt))
      rw [hy] at HE
      have HY := Lib.hid hy
      clear hy
      have hi1 : (j : Int) < (n : Int) := by omega
      go_wp2
      go_roundw
      case rel => exact ⟨j + 1, by omega, by have := HY.out; go_num, by go_num, by rw [← HE.out]; exact HS.out.1, grown_trans HB.out (grown_setCell _ _ _ _)⟩
      case measure => simp [intOf]; omega
    · have hjn : j = n := by omega
      have HY := Lib.hid hy
      clear hy
      subst hjn
      go_wp2
      go_ret
      exact ⟨by rw [HY.out]; rfl, by have := HO.out; rwa [List.drop_of_length_le (by rw [HX.out]; exact Nat.le_refl _), List.append_nil] at this, HB.out⟩
theorem markIntS_any (w : World) (B : Nat) (T : TypeId) (v : Value) (xs : List Value) (k n : Nat) (h : w.ownsRow B T 1 v n xs) (hn : n ≤ 1000000000) (hk : k ≤ 1000000000) :
    Calls Try.prog 14 #[v, .int .i64 (k : Int)] w fun e w' => e = .returned (.int .i64 ((k + n : Nat) : Int)) ∧ w'.ownsRow B T 1 v n (intVals (marks k n)) ∧ w.grownBy w' v.ownBlock := by
  rcases h.2 with ⟨hv, h0⟩ | ⟨g, cap, cur, hv, hb, _⟩
  · subst h0
    subst hv
    exact markIntS_own w B T none 0 xs k 0 h (fun h => absurd h (by omega)) hn hk
  · subst hv
    exact markIntS_own w B T _ cap xs k n h (fun _ => ⟨g, rfl, hb⟩) hn hk
end
end Go.Proofs.Ytkjginibdablnaa
