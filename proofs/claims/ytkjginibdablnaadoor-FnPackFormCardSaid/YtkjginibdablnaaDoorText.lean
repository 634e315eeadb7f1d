/- The two functions that ask whether a string has letters from a to z alone return the same answer, for every string. -/
import Derived.Test.YtkjginibdablnaaDoorRows
import Derived.WalkKit
import Derived.WalkSpells
import Derived.WalkLawsBesides
import Derived.Lib.Hide
import Derived.RowKit3
namespace Go.Proofs.YtkjginibdablnaaDoor
open Go.RowKit

/-- a letter from a to z -/
def isLet (c : UInt8) : Bool := 97 ≤ c && c ≤ 122
theorem ret_bool {a b : Bool} (h : a = b) : Ending.returned (.bool a) = .returned (.bool b) := by rw [h]
theorem grown_of {w w' : World} (h : w = w') : Grown w w' := h ▸ Grown.refl _
theorem grown_of_drewN {w w' : World} (h : ∃ n, w' = w.drewN n) : Grown w w' := by
  obtain ⟨n, rfl⟩ := h
  have hb : Below w.heap.size w (w.drewN n) := ⟨rfl, rfl, rfl, Nat.le_refl _, fun _ _ => rfl⟩
  exact ⟨hb.frame _, fun _ => rfl, Nat.le_refl _⟩
theorem ret_int {a b : Int} (h : a = b) : Ending.returned (.int .i64 a) = .returned (.int .i64 b) := by rw [h]
def lets (l : List UInt8) : Bool := l.all isLet

theorem lets_snoc (l : List UInt8) (c : UInt8) : lets (l ++ [c]) = (lets l && isLet c) := by simp [lets, List.all_append]
theorem take_snoc (s : ByteArray) (k : Nat) (h : k < s.size) : s.data.toList.take (k + 1) = s.data.toList.take k ++ [s[k]] := by
  rw [List.take_succ_eq_append_getElem (by simpa using h)]; rfl
theorem isLet_int (c : UInt8) : isLet c = decide (97 ≤ (c.toNat : Int) ∧ (c.toNat : Int) ≤ 122) := by
  rw [Bool.eq_iff_iff]; simp [isLet, UInt8.le_iff_toNat_le]; omega
theorem lets_take_false (l : List UInt8) (k : Nat) (h : lets (l.take k) = false) : lets l = false := by
  rw [Bool.eq_false_iff] at h ⊢
  intro h2; apply h
  simp only [lets, List.all_eq_true] at h2 ⊢
  intro x hx; exact h2 x (List.mem_of_mem_take hx)
theorem lets_step_yes (s : ByteArray) (k : Nat) (hk : k < s.size) (h : lets (s.data.toList.take k) = true) (h1 : 97 ≤ (s[k].toNat : Int)) (h2 : (s[k].toNat : Int) ≤ 122) :
    lets (s.data.toList.take (k + 1)) = true := by
  rw [take_snoc s k hk, lets_snoc, h, isLet_int]; simp; omega
theorem lets_step_no (s : ByteArray) (k : Nat) (hk : k < s.size) (h1 : ¬ (97 ≤ (s[k].toNat : Int) ∧ (s[k].toNat : Int) ≤ 122)) :
    lets s.data.toList = false := by
  apply lets_take_false _ (k + 1)
  rw [take_snoc s k hk, lets_snoc, isLet_int]; simp; omega
theorem lets_all (s : ByteArray) (k : Nat) (hk : ¬ k < s.size) (h : lets (s.data.toList.take k) = true) : lets s.data.toList = true := by
  rwa [List.take_of_length_le (by simp; omega)] at h

set_option maxHeartbeats 400000 in
theorem letters_any (s : ByteArray) (w : World) (hs : s.size ≤ maxLen) :
    Calls Tryd.prog 72 #[.string s] w fun e w' => e = .returned (.bool (lets s.data.toList)) ∧ w = w' := by
  unfold maxLen at hs
  go_enter Tryd.func72, Tryd.ntmps72
  go_wp2
  go_loop [6] (fun i => ∃ k : Nat, k ≤ s.size ∧ i = .int .i64 k ∧ lets (s.data.toList.take k) = true) (fun i => s.size - (intOf i).toNat)
  case atStart => exact ⟨0, Nat.zero_le _, rfl, rfl⟩
  case round =>
    obtain ⟨k, hk, rfl, hl⟩ := hrel
    have HL := Lib.hid hl
    clear hl
    by_cases hlt : k < s.size
    · have HY : Hid (∀ _ : 97 ≤ (s[k].toNat : Int) ∧ (s[k].toNat : Int) ≤ 122, lets (s.data.toList.take (k + 1)) = true) := fun h => lets_step_yes s k hlt HL.out h.1 h.2
      have HN : Hid (¬ (97 ≤ (s[k].toNat : Int) ∧ (s[k].toNat : Int) ≤ 122) → lets s.data.toList = false) := fun h => lets_step_no s k hlt h
      go_wp2
      all_goals first
        | (go_ret; exact ⟨ret_bool (HN.out (by omega)).symm, rfl⟩)
        | (go_round
           case rel => exact ⟨k + 1, by omega, by go_num, HY.out (by omega)⟩
           case measure => simp [intOf]; omega)
    · have HA := Lib.hid (lets_all s k hlt HL.out)
      go_wp2
      go_ret
      exact ⟨ret_bool HA.out.symm, rfl⟩

set_option maxHeartbeats 400000 in
theorem l1Letters_any (s : ByteArray) (w : World) (hs : s.size ≤ maxLen) :
    Calls Tryd.prog 66 #[.string s] w fun e w' => e = .returned (.bool (lets s.data.toList)) ∧ w = w' := by
  unfold maxLen at hs
  go_enter Tryd.func66, Tryd.ntmps66
  go_wp2
  go_loop [3] (fun i => ∃ k : Nat, k ≤ s.size ∧ i = .int .i64 k ∧ lets (s.data.toList.take k) = true) (fun i => s.size - (intOf i).toNat)
  case atStart => exact ⟨0, Nat.zero_le _, rfl, rfl⟩
  case round =>
    obtain ⟨k, hk, rfl, hl⟩ := hrel
    have HL := Lib.hid hl
    clear hl
    by_cases hlt : k < s.size
    · have HY : Hid (∀ _ : 97 ≤ (s[k].toNat : Int) ∧ (s[k].toNat : Int) ≤ 122, lets (s.data.toList.take (k + 1)) = true) := fun h => lets_step_yes s k hlt HL.out h.1 h.2
      have HN : Hid (¬ (97 ≤ (s[k].toNat : Int) ∧ (s[k].toNat : Int) ≤ 122) → lets s.data.toList = false) := fun h => lets_step_no s k hlt h
      go_wp2
      all_goals first
        | (go_ret; exact ⟨ret_bool (HN.out (by omega)).symm, rfl⟩)
        | (go_round
           case rel => exact ⟨k + 1, by omega, by go_num, HY.out (by omega)⟩
           case measure => simp [intOf]; omega)
    · have HA := Lib.hid (lets_all s k hlt HL.out)
      go_wp2
      go_ret
      exact ⟨ret_bool HA.out.symm, rfl⟩

/-- a text -/
def textB (l : List UInt8) : Bool := decide (l.length ≤ 40) && lets l
/-- a piece -/
def pieceB (l : List UInt8) : Bool := decide (1 ≤ l.length) && decide (l.length ≤ 8) && lets l
theorem size_int (s : ByteArray) : s.data.toList.length = s.size := by simp

section
set_option maxHeartbeats 400000
theorem l6In_any (n lo hi : Int) (w : World) : Calls Tryd.prog 31 #[.int .i64 n, .int .i64 lo, .int .i64 hi] w fun e w' => e = .returned (.bool (decide (lo ≤ n ∧ n ≤ hi))) ∧ w = w' := by
  by_cases h1 : lo ≤ n
  all_goals by_cases h2 : n ≤ hi
  all_goals
    go_enter Tryd.func31, Tryd.ntmps31
    go_wp2
    go_ret
    exact ⟨ret_bool (by simp; omega), rfl⟩
end

end Go.Proofs.YtkjginibdablnaaDoor
