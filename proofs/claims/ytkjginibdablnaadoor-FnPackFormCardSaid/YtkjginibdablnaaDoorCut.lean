/- Where a piece of a text ends: the program's and the reference's functions return the same place. -/
import Derived.Test.YtkjginibdablnaaDoorCutPlain
import Derived.Deep.QuietTactic
import Derived.BigQuiet
import Derived.IntWalk
namespace Go.Proofs.YtkjginibdablnaaDoor
open Go.RowKit

theorem lets_at {s : ByteArray} (h : lets s.data.toList = true) (i : Nat) (hi : i < s.size) : 97 ≤ (s[i].toNat : Int) ∧ (s[i].toNat : Int) ≤ 122 := by
  have hm : s[i] ∈ s.data.toList := by
    have : s[i] = s.data.toList[i]'(by simpa using hi) := rfl
    rw [this]; exact List.getElem_mem _
  have := (List.all_eq_true.1 h) _ hm
  rw [isLet_int] at this
  simpa using this
theorem getD_at (s : ByteArray) (i : Nat) (hi : i < s.size) : s.data.toList.getD i 0 = s[i] := by
  rw [List.getD_eq_getElem?_getD, List.getElem?_eq_getElem (by simpa using hi)]; rfl
theorem bnd_at (s : ByteArray) (j : Nat) (hj : j + 2 < s.size) :
    bnd s.data.toList (j + 3) = (((s[j + 2].toNat : Int) - 97 + 2 * ((s[j + 1].toNat : Int) - 97) + 3 * ((s[j].toNat : Int) - 97)) % 5 == 0) := by
  unfold bnd ltr
  rw [show j + 3 - 1 = j + 2 by omega, show j + 3 - 2 = j + 1 by omega, show j + 3 - 3 = j by omega, getD_at s _ hj, getD_at s _ (by omega), getD_at s _ (by omega)]

def QuietBool (b : Bool) (w : World) (e : Ending) (w' : World) : Prop := e = .returned (.bool b) ∧ ∃ n, w' = w.drewN n

section
set_option maxHeartbeats 800000
/-- the end of a piece, out of a place's number -/
def Ended (s : ByteArray) (fr : Nat) (w : World) (e : Ending) (w' : World) : Prop := e = .returned (.int .i64 ((cutE s.data.toList fr : Nat) : Int)) ∧ ∃ n, w' = w.drewN n
/-- what CutAt gives -/
def cutZ (l : List UInt8) (fr : Int) : Int := if textB l = true ∧ 0 ≤ fr ∧ fr < l.length then (cutE l fr.toNat : Nat) else -1
def EndedZ (s : ByteArray) (fr : Int) (w : World) (e : Ending) (w' : World) : Prop := e = .returned (.int .i64 (cutZ s.data.toList fr)) ∧ ∃ n, w' = w.drewN n
theorem textB_parts {s : ByteArray} (h : textB s.data.toList = true) : s.size ≤ 40 ∧ lets s.data.toList = true := by
  simp only [textB, Bool.and_eq_true, decide_eq_true_eq, size_int] at h; exact h
end
end Go.Proofs.YtkjginibdablnaaDoor
