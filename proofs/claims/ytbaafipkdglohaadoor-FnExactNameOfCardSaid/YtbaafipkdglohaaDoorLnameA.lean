/- The exact laws of NameOf and NameIs. -/
import Derived.Test.YtbaafipkdglohaaDoorName
namespace Go.Proofs.YtbaafipkdglohaaDoor
open Go.RowKit
section
set_option maxHeartbeats 800000
theorem lawFnExactNameIs (key : Int) (s : ByteArray) (name : Int) (w : World) (hs : s.size ≤ maxLen) (a0 a1 : Addr) (hw : Errs w a0 a1) :
    Calls Tryd.prog 3 #[.int .i64 key, .string s, .int .i64 name] w fun e w' => e = .returned (.bool true) ∧ Below w.heap.size w w' := by
  have HM := Lib.hid hs
  have HE := Lib.hid hw
  unfold maxLen at hs
  clear hw
  by_cases h : s.size ≤ 1048576
  · have hi : (s.size : Int) ≤ 1048576 := by omega
    obtain ⟨b, hb⟩ : ∃ b, nameIsB key s.data.toList name = b := ⟨_, rfl⟩
    have HZ := Lib.hid hb
    clear hb
    have hbb : (b != b) = false := by simp
    go_enter Tryd.func3, Tryd.ntmps3
    go_wp2_with fail
    refine (nameIsS_any key s name w HM.out).mono ?_
    rintro e w' ⟨rfl, rfl⟩
    rw [HZ.out]
    go_wp2_with fail
    refine (nameIs_any key s name w a0 a1 HE.out HM.out).mono ?_
    rintro e w' ⟨rfl, n, rfl⟩
    rw [HZ.out]
    go_wp2
    go_ret
    exact ⟨rfl, below_drewN (Below.refl _ _) _⟩
  · have hi : (1048576 : Int) < (s.size : Int) := by omega
    go_enter Tryd.func3, Tryd.ntmps3
    go_wp2
    go_ret
    exact ⟨rfl, Below.refl _ _⟩
theorem lawFnExactNameOf (key : Int) (s : ByteArray) (w : World) (hs : s.size ≤ maxLen) (a0 a1 : Addr) (hw : Errs w a0 a1) :
    Calls Tryd.prog 4 #[.int .i64 key, .string s] w fun e w' => e = .returned (.bool true) ∧ Below w.heap.size w w' := by
  have HM := Lib.hid hs
  have HE := Lib.hid hw
  unfold maxLen at hs
  clear hw
  by_cases h : s.size ≤ 1048576
  · have hi : (s.size : Int) ≤ 1048576 := by omega
    go_enter Tryd.func4, Tryd.ntmps4
    obtain ⟨z, hz⟩ : ∃ z, nameZ key s.data.toList = z := ⟨_, rfl⟩
    have HZ := Lib.hid hz
    clear hz
    go_wp2_with fail
    refine (nameOfS_any key s w HM.out).mono ?_
    rintro e w' ⟨rfl, rfl⟩
    rw [HZ.out]
    go_wp2_with fail
    refine (nameOf_any key s w a0 a1 HE.out HM.out).mono ?_
    rintro e w' ⟨rfl, n, rfl⟩
    rw [HZ.out]
    go_wp2
    go_ret
    exact ⟨rfl, below_drewN (Below.refl _ _) _⟩
  · have hi : (1048576 : Int) < (s.size : Int) := by omega
    go_enter Tryd.func4, Tryd.ntmps4
    go_wp2
    go_ret
    exact ⟨rfl, Below.refl _ _⟩
end
end Go.Proofs.YtbaafipkdglohaaDoor
