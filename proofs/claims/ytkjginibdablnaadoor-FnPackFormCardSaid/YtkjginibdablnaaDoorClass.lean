/- The two functions that give a length's class return the same number, for every length; both functions that ask for a piece answer alike. -/
import Derived.Test.YtkjginibdablnaaDoorText
namespace Go.Proofs.YtkjginibdablnaaDoor
open Go.RowKit

def classZ (n : Int) : Int := if n < 1 ∨ 8 < n then 0 else if n ≤ 2 then 2 else if n ≤ 4 then 4 else 8
theorem classZ_0 {n : Int} (h : n < 1 ∨ 8 < n) : classZ n = 0 := by simp [classZ, h]
theorem classZ_2 {n : Int} (h : 1 ≤ n) (h2 : n ≤ 2) : classZ n = 2 := by unfold classZ; rw [if_neg (by omega), if_pos h2]
theorem classZ_4 {n : Int} (h : 2 < n) (h2 : n ≤ 4) : classZ n = 4 := by unfold classZ; rw [if_neg (by omega), if_neg (by omega), if_pos h2]
theorem classZ_8 {n : Int} (h : 4 < n) (h2 : n ≤ 8) : classZ n = 8 := by unfold classZ; rw [if_neg (by omega), if_neg (by omega), if_neg (by omega)]

section
set_option maxHeartbeats 400000
theorem classOfS_any (n : Int) (w : World) : Calls Tryd.prog 81 #[.int .i64 n] w fun e w' => e = .returned (.int .i64 (classZ n)) ∧ w = w' := by
  go_enter Tryd.func81, Tryd.ntmps81
  go_wp2
  all_goals (go_ret; exact ⟨ret_int (by first | exact (classZ_0 (by omega)).symm | exact (classZ_2 (by omega) (by omega)).symm | exact (classZ_4 (by omega) (by omega)).symm | exact (classZ_8 (by omega) (by omega)).symm), rfl⟩)
theorem classOf_any (n : Int) (w : World) : Calls Tryd.prog 57 #[.int .i64 n] w fun e w' => e = .returned (.int .i64 (classZ n)) ∧ w = w' := by
  by_cases h : 1 ≤ n ∧ n ≤ 8
  · obtain ⟨h1, h8⟩ := h
    go_enter Tryd.func57, Tryd.ntmps57
    go_wp2
    go_loop [3] (fun t => ∃ c : Int, (c = 2 ∨ c = 4 ∨ c = 8) ∧ (c = 2 ∨ c < 2 * n) ∧ t = .int .i64 c) (fun t => (8 - intOf t).toNat)
    case atStart => exact ⟨2, .inl rfl, .inl rfl, rfl⟩
    case round =>
      obtain ⟨c, hc, hl, rfl⟩ := hrel
      rcases hc with rfl | rfl | rfl
      all_goals
        first | (have hl2 : 4 < n := by omega); clear hl | (have hl2 : 2 < n := by omega); clear hl | clear hl
        go_wp2
        all_goals first
          | (go_round
             case rel => first | exact ⟨4, by omega, by omega, rfl⟩ | exact ⟨8, by omega, by omega, rfl⟩
             case measure => simp [intOf])
          | (go_ret; exact ⟨ret_int (by first | exact (classZ_2 (by omega) (by omega)).symm | exact (classZ_4 (by omega) (by omega)).symm | exact (classZ_8 (by omega) (by omega)).symm), rfl⟩)
  · have h' : n < 1 ∨ 8 < n := by omega
    have H := Lib.hid (classZ_0 h')
    rcases h' with h' | h'
    all_goals
      go_enter Tryd.func57, Tryd.ntmps57
      go_wp2
      go_ret
      exact ⟨ret_int H.out.symm, rfl⟩

theorem pieceOkS_any (s : ByteArray) (w : World) (hs : s.size ≤ maxLen) :
    Calls Tryd.prog 49 #[.string s] w fun e w' => e = .returned (.bool (pieceB s.data.toList)) ∧ w = w' := by
  unfold maxLen at hs
  have HS := Lib.hid (size_int s)
  by_cases h : 1 ≤ s.size ∧ s.size ≤ 8
  · have hd : decide (1 ≤ (s.size : Int) ∧ (s.size : Int) ≤ 8) = true := by simp; omega
    go_enter Tryd.func49, Tryd.ntmps49
    go_wp2_with (first | (go_at_call 31; refine (l6In_any _ _ _ _).mono ?_; rintro e w' ⟨rfl, rfl⟩) | (go_at_call 66; refine (l1Letters_any _ _ (by unfold maxLen; omega)).mono ?_; rintro e w' ⟨rfl, rfl⟩))
    go_ret
    exact ⟨ret_bool (by simp [pieceB, HS.out, h]), rfl⟩
  · have hd : decide (1 ≤ (s.size : Int) ∧ (s.size : Int) ≤ 8) = false := by simp; omega
    go_enter Tryd.func49, Tryd.ntmps49
    go_wp2_with (first | (go_at_call 31; refine (l6In_any _ _ _ _).mono ?_; rintro e w' ⟨rfl, rfl⟩) | (go_at_call 66; refine (l1Letters_any _ _ (by unfold maxLen; omega)).mono ?_; rintro e w' ⟨rfl, rfl⟩))
    go_ret
    exact ⟨ret_bool (by simp [pieceB, HS.out]; omega), rfl⟩

theorem pieceOk_any (s : ByteArray) (w : World) (hs : s.size ≤ maxLen) :
    Calls Tryd.prog 55 #[.string s] w fun e w' => e = .returned (.bool (pieceB s.data.toList)) ∧ w = w' := by
  unfold maxLen at hs
  have HS := Lib.hid (size_int s)
  by_cases h1 : 1 ≤ s.size
  all_goals by_cases h2 : s.size ≤ 8
  all_goals
    go_enter Tryd.func55, Tryd.ntmps55
    go_wp2_with (go_at_call 72; refine (letters_any _ _ (by unfold maxLen; omega)).mono ?_; rintro e w' ⟨rfl, rfl⟩)
    all_goals (go_ret; exact ⟨ret_bool (by simp [pieceB, HS.out, h1, h2]), rfl⟩)
end
end Go.Proofs.YtkjginibdablnaaDoor
