/- The two functions that give a length's class return the same number, for every length; both functions that ask for a piece answer alike. -/
import Derived.Test.YtkjginibdablnaaText
namespace Go.Proofs.Ytkjginibdablnaa
open Go.RowKit

def classZ (n : Int) : Int := if n < 1 ∨ 8 < n then 0 else if n ≤ 2 then 2 else if n ≤ 4 then 4 else 8
theorem classZ_0 {n : Int} (h : n < 1 ∨ 8 < n) : classZ n = 0 := by simp [classZ, h]
theorem classZ_2 {n : Int} (h : 1 ≤ n) (h2 : n ≤ 2) : classZ n = 2 := by unfold classZ; rw [if_neg (by omega), if_pos h2]
theorem classZ_4 {n : Int} (h : 2 < n) (h2 : n ≤ 4) : classZ n = 4 := by unfold classZ; rw [if_neg (by omega), if_neg (by omega), if_pos h2]
theorem classZ_8 {n : Int} (h : 4 < n) (h2 : n ≤ 8) : classZ n = 8 := by unfold classZ; rw [if_neg (by omega), if_neg (by omega), if_neg (by omega)]

section
set_option maxHeartbeats 400000
theorem classOfS_any (n : Int) (w : World) : Calls Try.prog 55 #[.int .i64 n] w fun e w' => e = .returned (.int .i64 (classZ n)) ∧ w = w' := by
  go_enter Try.func55, Try.ntmps55
  go_wp2
  all_goals (go_ret; exact ⟨ret_int (by first | exact (classZ_0 (by omega)).symm | exact (classZ_2 (by omega) (by omega)).symm | exact (classZ_4 (by omega) (by omega)).symm | exact (classZ_8 (by omega) (by omega)).symm), rfl⟩)

theorem pieceOkS_any (s : ByteArray) (w : World) (hs : s.size ≤ maxLen) :
    Calls Try.prog 45 #[.string s] w fun e w' => e = .returned (.bool (pieceB s.data.toList)) ∧ w = w' := by
  unfold maxLen at hs
  have HS := Lib.hid (size_int s)
  by_cases h : 1 ≤ s.size ∧ s.size ≤ 8
  · have hd : decide (1 ≤ (s.size : Int) ∧ (s.size : Int) ≤ 8) = true := by simp; omega
    go_enter Try.func45, Try.ntmps45
    go_wp2_with (first | (go_at_call 43; refine (l6In_any _ _ _ _).mono ?_; rintro e w' ⟨rfl, rfl⟩) | (go_at_call 52; refine (l1Letters_any _ _ (by unfold maxLen; omega)).mono ?_; rintro e w' ⟨rfl, rfl⟩))
    go_ret
    exact ⟨ret_bool (by simp [pieceB, HS.out, h]), rfl⟩
  · have hd : decide (1 ≤ (s.size : Int) ∧ (s.size : Int) ≤ 8) = false := by simp; omega
    go_enter Try.func45, Try.ntmps45
    go_wp2_with (first | (go_at_call 43; refine (l6In_any _ _ _ _).mono ?_; rintro e w' ⟨rfl, rfl⟩) | (go_at_call 52; refine (l1Letters_any _ _ (by unfold maxLen; omega)).mono ?_; rintro e w' ⟨rfl, rfl⟩))
    go_ret
    exact ⟨ret_bool (by simp [pieceB, HS.out]; omega), rfl⟩

end
end Go.Proofs.Ytkjginibdablnaa
