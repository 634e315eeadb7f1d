/- The walks of laws on how a text is cut: each returns true. -/
import Derived.Test.YtpfhpmeefeodcaaCutAll
import Derived.Test.YtpfhpmeefeodcaaLtext
namespace Go.Proofs.Ytpfhpmeefeodcaa
open Go.RowKit

theorem cutZ_neg {l : List UInt8} {fr : Int} (h : ¬ (textB l = true ∧ 0 ≤ fr ∧ fr < l.length)) : cutZ l fr = -1 := by unfold cutZ; rw [if_neg h]
theorem cutZ_pos {l : List UInt8} {fr : Int} (h : textB l = true ∧ 0 ≤ fr ∧ fr < l.length) : 0 ≤ cutZ l fr := by unfold cutZ; rw [if_pos h]; omega
theorem cutZ_empty : cutZ (⟨#[]⟩ : ByteArray).data.toList 0 = -1 := by decide
theorem endsZ_empty : natVals (endsZ (⟨#[]⟩ : ByteArray).data.toList) = [] := by decide
theorem lst_nil {w : World} {B : Nat} {v : Value} (h : Lst w B v []) : ∃ A c, v = .slice A 0 c := by
  obtain ⟨A, c, hv, _⟩ := h; exact ⟨A, c, hv⟩
theorem lst_form {w : World} {B : Nat} {v : Value} {xs : List Value} (h : Lst w B v xs) : ∃ A c, v = .slice A xs.length c := by
  obtain ⟨A, c, hv, _⟩ := h; exact ⟨A, c, hv⟩
theorem endsZ_len (l : List UInt8) : (endsZ l).length ≤ 40 := by
  cases ht : textB l with
  | false => rw [endsZ_no ht]; simp
  | true =>
    rw [endsZ_yes ht]
    simp only [textB, Bool.and_eq_true, decide_eq_true_eq] at ht
    exact endsAt_len40 ht.1 0
theorem piecesZ_len (l : List UInt8) : (piecesZ l).length = (endsZ l).length := by
  cases ht : textB l with
  | false => rw [piecesZ_no ht, endsZ_no ht]; rfl
  | true => rw [piecesZ_yes ht, endsZ_yes ht, pieces_length]
theorem dec_self {α : Type} [DecidableEq α] (l : List α) : decide (l = l) = true := by simp

section
set_option maxHeartbeats 800000
theorem lawFnTextNone (a : Option Addr) (len cap : Nat) (zs : List Int) (w : World) (h : Code w a len cap zs) : Calls Try.prog 8 #[.slice a len cap] w fun e w' => e = .returned (.bool true) ∧ Below w.heap.size w w' := by
  by_cases hl : len ≤ 1048576
  · go_enter Try.func8, Try.ntmps8
    go_wp2_with fail
    refine (drawCutAt_any a len cap zs w h).mono ?_
    rintro e w1 ⟨s, fr, rfl, hs, hk1, hk2, hb⟩
    have HB := Lib.hid hb
    have HM := Lib.hid (maxLen_of (show s.size ≤ 1000000000 by omega))
    have HS := Lib.hid (size_int s)
    have HE := Lib.hid endsZ_empty
    have HC := Lib.hid cutZ_empty
    clear hb h
    have hfour : (textB s.data.toList = false ∧ cutZ s.data.toList fr = -1) ∨ (textB s.data.toList = true ∧ fr < 0 ∧ cutZ s.data.toList fr = -1) ∨ (textB s.data.toList = true ∧ 0 ≤ fr ∧ (s.size : Int) ≤ fr ∧ cutZ s.data.toList fr = -1) ∨
        (textB s.data.toList = true ∧ 0 ≤ fr ∧ fr < (s.size : Int) ∧ ∃ z : Int, cutZ s.data.toList fr = z ∧ (z == -1) = false) := by
      cases ht : textB s.data.toList with
      | false => exact .inl ⟨rfl, cutZ_neg (by rw [ht]; simp)⟩
      | true =>
        right
        by_cases h0 : fr < 0
        · exact .inl ⟨rfl, h0, cutZ_neg (by omega)⟩
        · by_cases h1 : fr < (s.size : Int)
          · refine .inr (.inr ⟨rfl, by omega, h1, _, rfl, ?_⟩)
            have := cutZ_pos (l := s.data.toList) (fr := fr) ⟨ht, by omega, by rw [HS.out]; exact h1⟩
            simp; omega
          · exact .inr (.inl ⟨rfl, by omega, by omega, cutZ_neg (by rw [HS.out]; omega)⟩)
    rcases hfour with ⟨ht, hz⟩ | ⟨ht, h0, hz⟩ | ⟨ht, h0, h1, hz⟩ | ⟨ht, h0, h1, z, hz, hne⟩
    all_goals
      have HT := Lib.hid ht
      have HZ := Lib.hid hz
      clear ht hz
      go_wp2_with fail
      refine (CutAt_any s fr _ HM.out).mono ?_
      rintro e w2 ⟨rfl, n2, rfl⟩
      rw [HZ.out]
      go_wp2_with fail
      refine (CutAtS_any s fr _ HM.out).mono ?_
      rintro e w3 ⟨rfl, n3, rfl⟩
      rw [HZ.out]
      go_wp2_with fail
      refine (textOk_any _ _ HM.out).mono ?_
      rintro e w4 ⟨rfl, rfl⟩
      rw [HT.out]
      go_wp2_with fail
      refine (CutAt_any ⟨#[]⟩ 0 _ (maxLen_of (by have : (⟨#[]⟩ : ByteArray).size = 0 := rfl; omega))).mono ?_
      rintro e w5 ⟨rfl, n5, rfl⟩
      rw [HC.out]
      go_wp2_with fail
      refine (cutEnds_any ⟨#[]⟩ _ (maxLen_of (by have : (⟨#[]⟩ : ByteArray).size = 0 := rfl; omega))).mono ?_
      rw [HE.out]
      intro e w6 hg
      obtain ⟨v, rfl, hlst, hb6⟩ := gave_lst hg
      obtain ⟨A, c, rfl⟩ := lst_nil hlst
      have HB6 := Lib.hid hb6
      clear hg hlst hb6
      go_wp2
      go_ret
      exact ⟨by first | rfl | exact ret_bool (by simp; omega), (below_drewN HB.out _).trans (HB6.out.mono (by have := HB.out.size; simpa using this))⟩
  · go_enter Try.func8, Try.ntmps8
    go_wp2
    go_ret
    exact ⟨rfl, Below.refl _ _⟩
theorem lawFnCutMany (a : Option Addr) (len cap : Nat) (zs : List Int) (w : World) (h : Code w a len cap zs) : Calls Try.prog 9 #[.slice a len cap] w fun e w' => e = .returned (.bool true) ∧ Below w.heap.size w w' := by
  by_cases hl : len ≤ 1048576
  · go_enter Try.func9, Try.ntmps9
    go_wp2_with fail
    refine (drawCutEnds_any a len cap zs w h).mono ?_
    rintro e w1 ⟨s, rfl, hs, hb⟩
    have HB := Lib.hid hb
    have HM := Lib.hid (maxLen_of (show s.size ≤ 1000000000 by omega))
    clear hb h
    have hel := endsZ_len s.data.toList
    go_wp2_with fail
    refine (cutEnds_any s _ (HM.out)).mono ?_
    intro e w2 hg
    obtain ⟨v2, rfl, hlst, hb⟩ := gave_lst hg
    obtain ⟨A, c, rfl⟩ := lst_form hlst
    rw [natVals_length] at *
    rw [natVals_nats] at hlst
    have HL2 := Lib.hid hlst
    have HB2 := Lib.hid hb
    clear hg hlst hb
    go_wp2_with fail
    refine (cutEndsS_any s _ (HM.out)).mono ?_
    intro e w3 hg
    obtain ⟨v3, rfl, hlst, hb⟩ := gave_lst hg
    rw [natVals_nats] at hlst
    have HL3 := Lib.hid hlst
    have HB3 := Lib.hid hb
    clear hg hlst hb
    go_wp2_with fail
    refine (ldInts_any _ w3.heap.size _ _ _ _ (lst_next HL2.out HB3.out) HL3.out (by rw [nats_length]; omega) (by rw [nats_length]; omega)).mono ?_
    rintro e w' ⟨rfl, nd3, rfl⟩
    rw [dec_self]
    go_wp2_with fail
    refine (textOkS_any s _ HM.out).mono ?_
    rintro e w' ⟨rfl, rfl⟩
    cases ht : textB s.data.toList with
    | false =>
      go_wp2_with fail
      refine (cutEndsS_any s _ (HM.out)).mono ?_
      intro e w4 hg
      obtain ⟨v4, rfl, hlst, hb⟩ := gave_lst hg
      rw [natVals_nats] at hlst
      have HL4 := Lib.hid hlst
      have HB4 := Lib.hid (bel_drew hb)
      clear hg hlst hb
      go_wp2_with fail
      refine (ldInts_any _ w4.heap.size _ _ _ _ (lst_next (lst_next HL2.out HB3.out) HB4.out) HL4.out (by rw [nats_length]; omega) (by rw [nats_length]; omega)).mono ?_
      rintro e w' ⟨rfl, nd4, rfl⟩
      rw [dec_self]
      go_wp2
      go_ret
      exact ⟨rfl, below_drewN (bel_trans (bel_trans (bel_trans HB.out HB2.out) HB3.out) HB4.out) _⟩
    | true =>
      have hb1 := (endsAt_length (l := s.data.toList) 0).1
      rw [size_int] at hb1
      rw [endsZ_yes ht] at *
      have hb2 : 3 * (ends s.data.toList).length ≤ s.size + 2 := hb1
      clear hb1
      generalize (ends s.data.toList).length = n at *
      go_wp2
      go_ret
      exact ⟨by first | rfl | exact ret_bool (by simp; omega), below_drewN (bel_trans (bel_trans HB.out HB2.out) HB3.out) _⟩
  · go_enter Try.func9, Try.ntmps9
    go_wp2
    go_ret
    exact ⟨rfl, Below.refl _ _⟩
end
end Go.Proofs.Ytpfhpmeefeodcaa
