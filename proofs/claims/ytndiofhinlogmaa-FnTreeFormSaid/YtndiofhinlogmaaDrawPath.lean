/- The drawings of paths. -/
import Derived.Test.YtndiofhinlogmaaDraw
import Derived.Test.YtndiofhinlogmaaPath
namespace Go.Proofs.Ytndiofhinlogmaa
open Go.RowKit
section
set_option maxHeartbeats 1600000
theorem l91Path_any (w : World) (r K : Nat) (h : Rd w r K) (hK : K ≤ 80000) : Calls Try.prog 27 #[.pointer (some ⟨r, 0, none⟩)] w (Gave (Short 5) w r (K + 2)) := by
  have HR := Lib.hid h
  clear h
  go_enter Try.func27, Try.ntmps27
  go_wp2_with fail
  refine (pick_any 40 _ r K HR.out (by omega) (by omega)).mono ?_
  rintro e w3 ⟨x3, rfl, hx3, _, hr3, hg3⟩
  have HR3 := Lib.hid hr3
  have HG3 := Lib.hid hg3
  clear hx3 hr3 hg3
  by_cases q3 : x3 = 0
  · subst q3
    go_wp2_with fail
    refine (of_lit (Short 5) 6 _ w3 r (K + 1) HR3.out (by omega) (by omega) (by omega) rfl (by intro v hv; simp at hv; rcases hv with rfl | rfl | rfl | rfl | rfl | rfl <;> exact ⟨_, rfl, by unfold Short; decide⟩)).mono ?_
    rintro e w4 ⟨z, rfl, hz, hr4, hg4⟩
    have HZ := Lib.hid hz
    have HR4 := Lib.hid hr4
    have HG4 := Lib.hid (grown_trans HG3.out hg4)
    clear hz hr4 hg4
    go_wp2
    go_ret
    exact ⟨_, rfl, HZ.out, HR4.out, HG4.out⟩
  · have b3 : ((x3 : Int) == 0) = false := by simp; omega
    clear q3
    go_wp2_with fail
    refine (of_lit (Short 5) 8 _ w3 r (K + 1) HR3.out (by omega) (by omega) (by omega) rfl (by intro v hv; simp at hv; rcases hv with rfl | rfl | rfl | rfl | rfl | rfl | rfl | rfl <;> exact ⟨_, rfl, by unfold Short; decide⟩)).mono ?_
    rintro e w4 ⟨z, rfl, hz, hr4, hg4⟩
    have HZ := Lib.hid hz
    have HR4 := Lib.hid hr4
    have HG4 := Lib.hid (grown_trans HG3.out hg4)
    clear hz hr4 hg4
    go_wp2
    go_ret
    exact ⟨_, rfl, HZ.out, HR4.out, HG4.out⟩
theorem drawPathOk_any (a : Option Addr) (len cap : Nat) (zs : List Int) (w : World) (h : Code w a len cap zs) : Calls Try.prog 11 #[.slice a len cap] w (Drew 5 w) := by
  go_enter Try.func11, Try.ntmps11
  go_wp2_with fail
  refine (open_any a len cap zs w h).mono ?_
  rintro e w1 ⟨rfl, hr, hb⟩
  have HB := Lib.hid hb
  have HR := Lib.hid hr
  clear hb h hr
  obtain ⟨r, hre⟩ : ∃ r, r = w.heap.size := ⟨_, rfl⟩
  have HE := Lib.hid hre
  rw [← hre] at HR ⊢
  clear hre
  go_wp2_with fail
  refine (pick_any 3 _ r 0 HR.out (by omega) (by omega)).mono ?_
  rintro e w3 ⟨x3, rfl, hx3, _, hr3, hg3⟩
  have HR3 := Lib.hid hr3
  have HG3 := Lib.hid hg3
  clear hx3 hr3 hg3
  by_cases q3 : x3 = 0
  · subst q3
    go_wp2_with fail
    refine (of_lit (Short 5) 8 _ w3 r (0 + 1) HR3.out (by omega) (by omega) (by omega) rfl (by intro v hv; simp at hv; rcases hv with rfl | rfl | rfl | rfl | rfl | rfl | rfl | rfl <;> exact ⟨_, rfl, by unfold Short; decide⟩)).mono ?_
    rintro e w4 ⟨z, rfl, hz, hr4, hg4⟩
    have HZ := Lib.hid hz
    have HG4 := Lib.hid (grown_trans HG3.out hg4)
    clear hz hr4 hg4
    go_wp2
    go_ret
    exact ⟨_, rfl, HZ.out, HB.out.grown HG4.out HB.out.size (fun k e => by cases e; have := HE.out; omega)⟩
  · have b3 : ((x3 : Int) == 0) = false := by simp; omega
    clear q3
    go_wp2_with fail
    refine (l91Path_any w3 r (0 + 1) HR3.out (by omega)).mono ?_
    rintro e w4 ⟨z, rfl, hz, hr4, hg4⟩
    have HZ := Lib.hid hz
    have HG4 := Lib.hid (grown_trans HG3.out hg4)
    clear hz hr4 hg4
    go_wp2
    go_ret
    exact ⟨_, rfl, HZ.out, HB.out.grown HG4.out HB.out.size (fun k e => by cases e; have := HE.out; omega)⟩
end
end Go.Proofs.Ytndiofhinlogmaa
