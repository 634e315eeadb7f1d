/- The walk of the law on where a piece ends: it returns true. -/
import Derived.Test.YtpfhpmeefeodcaaLtext
namespace Go.Proofs.Ytpfhpmeefeodcaa
open Go.RowKit
section
set_option maxHeartbeats 2000000
theorem lawFnCutAt (a : Option Addr) (len cap : Nat) (zs : List Int) (w : World) (h : Code w a len cap zs) : Calls Try.prog 6 #[.slice a len cap] w fun e w' => e = .returned (.bool true) ∧ Below w.heap.size w w' := by
  by_cases hl : len ≤ 1048576
  · go_enter Try.func6, Try.ntmps6
    go_wp2_with fail
    refine (drawCutAt_any a len cap zs w h).mono ?_
    rintro e w1 ⟨s, fr, rfl, hs, hk1, hk2, hb⟩
    have HB := Lib.hid hb
    have HM := Lib.hid (maxLen_of (show s.size ≤ 1000000000 by omega))
    have HS := Lib.hid (size_int s)
    clear hb h
    by_cases hv : textB s.data.toList = true ∧ 0 ≤ fr ∧ fr < s.size
    · obtain ⟨ht, h0, h1⟩ := hv
      obtain ⟨h40, hlt⟩ := textB_parts ht
      have HL := Lib.hid hlt
      obtain ⟨f, rfl⟩ := Int.eq_ofNat_of_zero_le h0
      have hf : f < s.data.toList.length := by rw [HS.out]; omega
      have hZ : cutZ s.data.toList (f : Int) = (cutE s.data.toList f : Nat) := by unfold cutZ; rw [if_pos ⟨ht, h0, by rw [HS.out]; exact h1⟩]; rfl
      have hgt := cutE_gt hf
      have hle := cutE_le hf
      have hmx := cutE_max hf
      have hmn := cutE_min hf
      have hno := cutE_none hf
      have hwy := cutE_why hf
      rw [HS.out] at hle hmn hwy
      generalize cutE s.data.toList f = E at *
      clear hlt ht h0 hf
      by_cases h3 : f + 3 ≤ E
      · obtain ⟨m, rfl⟩ : ∃ m, E = m + 3 := ⟨E - 3, by omega⟩
        have HZ := Lib.hid (show cutZ s.data.toList (f : Int) = (m : Int) + 3 by rw [hZ]; rfl)
        have HNO := Lib.hid hno
        have HWY := Lib.hid hwy
        clear hZ hno hwy hmn hgt
        go_wp2_with fail
        refine (CutAt_any s f _ HM.out).mono ?_
        rintro e w2 ⟨rfl, n2, rfl⟩
        rw [HZ.out]
        go_wp2_with fail
        refine (CutAtS_any s f _ HM.out).mono ?_
        rintro e w3 ⟨rfl, n3, rfl⟩
        rw [HZ.out]
        go_wp2_with fail
        go_loopw [6] (fun t wr => ∃ j n : Nat, f ≤ j ∧ j ≤ m ∧ t = .int .i64 ((j : Int) + 3) ∧ wr = w1.drewN n) (fun t _ => m + 3 - (intOf t).toNat)
        case atStart => exact ⟨f, _, Nat.le_refl _, by omega, rfl, rfl⟩
        case round =>
          obtain ⟨j, n, hfj, hjm, rfl, rfl⟩ := hrel
          by_cases hj : j < m
          · have hbn : (((s[j + 2].toNat : Int) - 97 + 2 * ((s[j + 1].toNat : Int) - 97) + 3 * ((s[j].toNat : Int) - 97)) % 5 == 0) = false := by rw [← bnd_at s j (by omega)]; exact HNO.out (j + 3) (by omega) (by omega)
            obtain ⟨ea0, eb0⟩ := lets_at HL.out j (by omega)
            obtain ⟨ea1, eb1⟩ := lets_at HL.out (j + 1) (by omega)
            obtain ⟨ea2, eb2⟩ := lets_at HL.out (j + 2) (by omega)
            have eq0 : IntKind.i64.wrap ((j : Int)) = (j : Int) := IntWalk.i64_in _ (by omega)
            have eq1 : IntKind.i64.wrap ((j : Int) + 3 - 2) = (j : Int) + 1 := by rw [IntWalk.i64_in _ (by omega)]; omega
            have eq2 : IntKind.i64.wrap ((j : Int) + 3 - 1) = (j : Int) + 2 := by rw [IntWalk.i64_in _ (by omega)]; omega
            have eu0 : IntKind.u8.wrap ((s[j].toNat : Int) - 97) = (s[j].toNat : Int) - 97 := IntWalk.u8_in _ (by omega)
            have ev0 : IntKind.i64.wrap ((s[j].toNat : Int) - 97) = (s[j].toNat : Int) - 97 := IntWalk.i64_in _ (by omega)
            have eu1 : IntKind.u8.wrap ((s[j + 1].toNat : Int) - 97) = (s[j + 1].toNat : Int) - 97 := IntWalk.u8_in _ (by omega)
            have ev1 : IntKind.i64.wrap ((s[j + 1].toNat : Int) - 97) = (s[j + 1].toNat : Int) - 97 := IntWalk.i64_in _ (by omega)
            have eu2 : IntKind.u8.wrap ((s[j + 2].toNat : Int) - 97) = (s[j + 2].toNat : Int) - 97 := IntWalk.u8_in _ (by omega)
            have ev2 : IntKind.i64.wrap ((s[j + 2].toNat : Int) - 97) = (s[j + 2].toNat : Int) - 97 := IntWalk.i64_in _ (by omega)
            have ey1 : IntKind.i64.wrap (2 * ((s[j + 1].toNat : Int) - 97)) = 2 * ((s[j + 1].toNat : Int) - 97) := IntWalk.i64_in _ (by omega)
            have ey2 : IntKind.i64.wrap ((s[j + 2].toNat : Int) - 97 + 2 * ((s[j + 1].toNat : Int) - 97)) = (s[j + 2].toNat : Int) - 97 + 2 * ((s[j + 1].toNat : Int) - 97) := IntWalk.i64_in _ (by omega)
            have ey3 : IntKind.i64.wrap (3 * ((s[j].toNat : Int) - 97)) = 3 * ((s[j].toNat : Int) - 97) := IntWalk.i64_in _ (by omega)
            have ey4 : IntKind.i64.wrap ((s[j + 2].toNat : Int) - 97 + 2 * ((s[j + 1].toNat : Int) - 97) + 3 * ((s[j].toNat : Int) - 97)) = (s[j + 2].toNat : Int) - 97 + 2 * ((s[j + 1].toNat : Int) - 97) + 3 * ((s[j].toNat : Int) - 97) := IntWalk.i64_in _ (by omega)
            have ey5 : ((s[j + 2].toNat : Int) - 97 + 2 * ((s[j + 1].toNat : Int) - 97) + 3 * ((s[j].toNat : Int) - 97)).tmod 5 = ((s[j + 2].toNat : Int) - 97 + 2 * ((s[j + 1].toNat : Int) - 97) + 3 * ((s[j].toNat : Int) - 97)) % 5 := IntWalk.rem_in _ _ (by omega)
            have ei0 : (j : Int) < (s.size : Int) := by omega
            have ei1 : (j : Int) + 1 < (s.size : Int) := by omega
            have ei2 : (j : Int) + 2 < (s.size : Int) := by omega
            have en1 : (0 : Int) ≤ (j : Int) + 1 := by omega
            have en2 : (0 : Int) ≤ (j : Int) + 2 := by omega
            have et1 : ((j : Int) + 1).toNat = j + 1 := by omega
            have et2 : ((j : Int) + 2).toNat = j + 2 := by omega
            have em0 : j < s.size := by omega
            have em1 : j + 1 < s.size := by omega
            have em2 : j + 2 < s.size := by omega
            go_wp2
            go_quiet (fail)
            go_wp2
            go_roundw
            case rel => exact ⟨j + 1, _, by omega, by omega, by go_num, rfl⟩
            case measure => simp [intOf]; omega
          · obtain rfl : j = m := by omega
            obtain ⟨ea0, eb0⟩ := lets_at HL.out j (by omega)
            obtain ⟨ea1, eb1⟩ := lets_at HL.out (j + 1) (by omega)
            obtain ⟨ea2, eb2⟩ := lets_at HL.out (j + 2) (by omega)
            have eq0 : IntKind.i64.wrap ((j : Int)) = (j : Int) := IntWalk.i64_in _ (by omega)
            have eq1 : IntKind.i64.wrap ((j : Int) + 3 - 2) = (j : Int) + 1 := by rw [IntWalk.i64_in _ (by omega)]; omega
            have eq2 : IntKind.i64.wrap ((j : Int) + 3 - 1) = (j : Int) + 2 := by rw [IntWalk.i64_in _ (by omega)]; omega
            have eu0 : IntKind.u8.wrap ((s[j].toNat : Int) - 97) = (s[j].toNat : Int) - 97 := IntWalk.u8_in _ (by omega)
            have ev0 : IntKind.i64.wrap ((s[j].toNat : Int) - 97) = (s[j].toNat : Int) - 97 := IntWalk.i64_in _ (by omega)
            have eu1 : IntKind.u8.wrap ((s[j + 1].toNat : Int) - 97) = (s[j + 1].toNat : Int) - 97 := IntWalk.u8_in _ (by omega)
            have ev1 : IntKind.i64.wrap ((s[j + 1].toNat : Int) - 97) = (s[j + 1].toNat : Int) - 97 := IntWalk.i64_in _ (by omega)
            have eu2 : IntKind.u8.wrap ((s[j + 2].toNat : Int) - 97) = (s[j + 2].toNat : Int) - 97 := IntWalk.u8_in _ (by omega)
            have ev2 : IntKind.i64.wrap ((s[j + 2].toNat : Int) - 97) = (s[j + 2].toNat : Int) - 97 := IntWalk.i64_in _ (by omega)
            have ey1 : IntKind.i64.wrap (2 * ((s[j + 1].toNat : Int) - 97)) = 2 * ((s[j + 1].toNat : Int) - 97) := IntWalk.i64_in _ (by omega)
            have ey2 : IntKind.i64.wrap ((s[j + 2].toNat : Int) - 97 + 2 * ((s[j + 1].toNat : Int) - 97)) = (s[j + 2].toNat : Int) - 97 + 2 * ((s[j + 1].toNat : Int) - 97) := IntWalk.i64_in _ (by omega)
            have ey3 : IntKind.i64.wrap (3 * ((s[j].toNat : Int) - 97)) = 3 * ((s[j].toNat : Int) - 97) := IntWalk.i64_in _ (by omega)
            have ey4 : IntKind.i64.wrap ((s[j + 2].toNat : Int) - 97 + 2 * ((s[j + 1].toNat : Int) - 97) + 3 * ((s[j].toNat : Int) - 97)) = (s[j + 2].toNat : Int) - 97 + 2 * ((s[j + 1].toNat : Int) - 97) + 3 * ((s[j].toNat : Int) - 97) := IntWalk.i64_in _ (by omega)
            have ey5 : ((s[j + 2].toNat : Int) - 97 + 2 * ((s[j + 1].toNat : Int) - 97) + 3 * ((s[j].toNat : Int) - 97)).tmod 5 = ((s[j + 2].toNat : Int) - 97 + 2 * ((s[j + 1].toNat : Int) - 97) + 3 * ((s[j].toNat : Int) - 97)) % 5 := IntWalk.rem_in _ _ (by omega)
            have ei0 : (j : Int) < (s.size : Int) := by omega
            have ei1 : (j : Int) + 1 < (s.size : Int) := by omega
            have ei2 : (j : Int) + 2 < (s.size : Int) := by omega
            have en1 : (0 : Int) ≤ (j : Int) + 1 := by omega
            have en2 : (0 : Int) ≤ (j : Int) + 2 := by omega
            have et1 : ((j : Int) + 1).toNat = j + 1 := by omega
            have et2 : ((j : Int) + 2).toNat = j + 2 := by omega
            have em0 : j < s.size := by omega
            have em1 : j + 1 < s.size := by omega
            have em2 : j + 2 < s.size := by omega
            have hg1 : IntKind.i64.wrap ((j : Int) + 3 - (f : Int)) = (j : Int) + 3 - (f : Int) := IntWalk.i64_in _ (by omega)
            have hg2 : (3 : Int) ≤ (j : Int) + 3 - (f : Int) := by omega
            rcases HWY.out with hw | hw | hw
            · have hq : ((j : Int) + 3 == (s.size : Int)) = true := by simp; omega
              clear hw
              go_wp2
              go_quiet (fail)
              go_wp2
              all_goals (go_ret; exact ⟨by first | rfl | exact ret_bool (by simp), below_drewN HB.out _⟩)
            · have hq : ((j : Int) + 3 == (f : Int) + 8) = true := by simp; omega
              clear hw
              go_wp2
              go_quiet (fail)
              go_wp2
              all_goals (go_ret; exact ⟨by first | rfl | exact ret_bool (by simp), below_drewN HB.out _⟩)
            · have hbn : (((s[j + 2].toNat : Int) - 97 + 2 * ((s[j + 1].toNat : Int) - 97) + 3 * ((s[j].toNat : Int) - 97)) % 5 == 0) = true := by rw [← bnd_at s j (by omega)]; exact hw
              clear hw
              go_wp2
              go_quiet (fail)
              go_wp2
              all_goals (go_ret; exact ⟨by first | rfl | exact ret_bool (by simp), below_drewN HB.out _⟩)
      · have hEs : ((E : Int) == (s.size : Int)) = true := by simp; omega
        have HZ := Lib.hid hZ
        clear hZ hno hwy hmn
        have hgd : decide ((3 : Int) ≤ (E : Int) - (f : Int)) = false := by simp; omega
        have hge : IntKind.i64.wrap ((E : Int) - (f : Int)) = (E : Int) - (f : Int) := IntWalk.i64_in _ (by omega)
        go_wp2_with fail
        refine (CutAt_any s f _ HM.out).mono ?_
        rintro e w2 ⟨rfl, n2, rfl⟩
        rw [HZ.out]
        go_wp2_with fail
        refine (CutAtS_any s f _ HM.out).mono ?_
        rintro e w3 ⟨rfl, n3, rfl⟩
        rw [HZ.out]
        go_wp2_with fail
        go_loopw [6] (fun t wr => t = .int .i64 ((f : Int) + 3) ∧ ∃ n : Nat, wr = w1.drewN n) (fun _ _ => 0)
        case atStart => exact ⟨rfl, _, rfl⟩
        case round =>
          obtain ⟨rfl, n, rfl⟩ := hrel
          go_wp2
          go_quiet (fail)
          go_wp2
          all_goals (go_ret; exact ⟨by first | rfl | exact ret_bool (by simp), below_drewN HB.out _⟩)
    · have HZ := Lib.hid (show cutZ s.data.toList fr = -1 by unfold cutZ; rw [if_neg (by rw [HS.out]; exact hv)])
      clear hv
      go_wp2_with fail
      refine (CutAt_any s fr _ HM.out).mono ?_
      rintro e w2 ⟨rfl, n2, rfl⟩
      rw [HZ.out]
      go_wp2_with fail
      refine (CutAtS_any s fr _ HM.out).mono ?_
      rintro e w3 ⟨rfl, n3, rfl⟩
      rw [HZ.out]
      go_wp2_with fail
      refine (CutAtS_any s fr _ HM.out).mono ?_
      rintro e w4 ⟨rfl, n4, rfl⟩
      rw [HZ.out]
      go_wp2
      go_ret
      exact ⟨rfl, below_drewN HB.out _⟩
  · go_enter Try.func6, Try.ntmps6
    go_wp2
    go_ret
    exact ⟨rfl, Below.refl _ _⟩
end
end Go.Proofs.Ytpfhpmeefeodcaa
