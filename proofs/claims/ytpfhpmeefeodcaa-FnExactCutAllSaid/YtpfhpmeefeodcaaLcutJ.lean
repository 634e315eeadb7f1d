/- The exact law of CutAll. -/
import Derived.Test.YtpfhpmeefeodcaaLcutI
namespace Go.Proofs.Ytpfhpmeefeodcaa
open Go.RowKit
section
set_option maxHeartbeats 800000
theorem lawFnExactCutAll (s : ByteArray) (hs : s.size ≤ maxLen) (w : World) : Calls Try.prog 7 #[.string s] w fun e w' => e = .returned (.bool true) ∧ Below w.heap.size w w' := by
  have HM := Lib.hid hs
  unfold maxLen at hs
  by_cases h : s.size ≤ 1048576
  · have hi : (s.size : Int) ≤ 1048576 := by omega
    have hel : (piecesZ s.data.toList).length ≤ 40 := by rw [piecesZ_len]; exact endsZ_len _
    go_enter Try.func7, Try.ntmps7
    go_wp2_with fail
    refine (cutAllS_any s w (HM.out)).mono ?_
    intro e w1 hg
    obtain ⟨v1, rfl, hlst, hb⟩ := gave_lst hg
    rw [strVals_bars] at hlst
    have HL1 := Lib.hid hlst
    have HB1 := Lib.hid hb
    clear hg hlst hb
    go_wp2_with fail
    refine (cutAll_any s w1 (HM.out)).mono ?_
    intro e w2 hg
    obtain ⟨_, hgl, hlst, _⟩ := gave_lst hg
    obtain ⟨v2, rfl, hown, hb⟩ := hg
    injection hgl with hgl
    subst hgl
    rw [strVals_bars] at hlst
    rw [strVals_length] at hown
    have HL2 := Lib.hid hlst
    have HB2 := Lib.hid hb
    have HO := Lib.hid hown
    clear hlst hb hown
    have HN := Lib.hid (bars_length (piecesZ s.data.toList))
    generalize hm : (piecesZ s.data.toList).length = n at *
    have HNn := Lib.hid hm
    clear hm
    go_wp2_with fail
    refine (eqStringS_any w2 w2.heap.size v2 v1 _ _ HL2.out (lst_next HL1.out HB2.out) (by rw [HN.out]; omega) (by rw [HN.out]; omega)).mono ?_
    rintro e w3 ⟨rfl, nd, rfl⟩
    rw [dec_self]
    obtain ⟨z, hz⟩ : ∃ z, 1 + n = z := ⟨_, rfl⟩
    have HZ := Lib.hid hz
    have hz1 : z ≤ 41 := by omega
    have hz3 : (1 : Int) ≤ (z : Int) := by omega
    clear hz
    go_wp2_with fail
    refine (markStringS_any (w2.drewN nd) w1.heap.size _ v2 _ 1 n HO.out HB2.out.size (by omega) (by omega) (by omega)).mono ?_
    rintro e w4 ⟨he, hown, hb⟩
    rw [HZ.out] at he
    subst he
    have HO4 := Lib.hid hown
    have HB4 := Lib.hid ((below_drewN HB2.out nd).trans hb)
    have HL4 := Lib.hid (lst_of_own hown)
    clear hown hb
    go_wp2_with fail
    refine (heldStringS_any w4 v2 1 n HL4.out (by omega) (by omega) (by omega)).mono ?_
    rintro e w' ⟨he, hb⟩
    rw [HZ.out] at he
    subst he
    have HL9 := Lib.hid (lst_next HL4.out hb)
    have HB9 := Lib.hid (HB4.out.trans (hb.mono HB4.out.size))
    clear hb
    go_wp2_with fail
    refine (cutAll_any s w' (HM.out)).mono ?_
    intro e w5 hg
    obtain ⟨v5, rfl, hlst, hb⟩ := gave_lst hg
    rw [strVals_bars] at hlst
    have HL5 := Lib.hid hlst
    have HB5 := Lib.hid hb
    clear hg hlst hb
    have HL15 := Lib.hid (lst_next (lst_more (lst_below HL1.out HB9.out) HB9.out.size) HB5.out)
    go_wp2_with fail
    refine (eqStringS_any w5 w5.heap.size v5 v1 _ _ HL5.out HL15.out (by rw [HN.out]; omega) (by rw [HN.out]; omega)).mono ?_
    rintro e w6 ⟨rfl, nd6, rfl⟩
    rw [dec_self]
    go_wp2_with fail
    refine (heldStringS_any (w5.drewN nd6) v2 1 n (lst_drewN (lst_next HL9.out HB5.out) nd6) (by omega) (by omega) (by omega)).mono ?_
    rintro e w7 ⟨he, hb7⟩
    rw [HZ.out] at he
    subst he
    go_wp2
    go_ret
    exact ⟨rfl, bel_trans (below_drewN (HB1.out.trans ((HB9.out.trans (HB5.out.mono HB9.out.size)).mono HB1.out.size)) _) hb7⟩
  · have hi : (1048576 : Int) < (s.size : Int) := by omega
    go_enter Try.func7, Try.ntmps7
    go_wp2
    go_ret
    exact ⟨rfl, Below.refl _ _⟩
end
end Go.Proofs.Ytpfhpmeefeodcaa
