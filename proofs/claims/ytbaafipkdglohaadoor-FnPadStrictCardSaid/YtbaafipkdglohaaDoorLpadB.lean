/- The laws on padded pieces that are read back. -/
import Derived.Test.YtbaafipkdglohaaDoorLpadA
namespace Go.Proofs.YtbaafipkdglohaaDoor
open Go.RowKit
theorem bar_eqP {p q : ByteArray} (h : p.data.toList = q.data.toList) : p = q := ByteArray.ext (Array.toList_inj.1 h)
theorem back_two : backOk (⟨#[46, 46]⟩ : ByteArray).data.toList = false := by decide
theorem back_none : backOk (⟨#[]⟩ : ByteArray).data.toList = false := by decide
theorem point_none (p : ByteArray) : pieceB (p ++ (⟨#[46]⟩ : ByteArray)).data.toList = false := by
  have h : (p ++ (⟨#[46]⟩ : ByteArray)).data.toList = p.data.toList ++ [46] := by simp
  rw [h]
  have h2 : isLet 46 = false := by decide
  simp [pieceB, lets_snoc, h2]
section
set_option maxHeartbeats 800000
theorem lawFnExactPadBack (s : ByteArray) (w : World) (hs : s.size ≤ maxLen) : Calls Tryd.prog 9 #[.string s] w fun e w' => e = .returned (.bool true) ∧ Below w.heap.size w w' := by
  have HM := Lib.hid hs
  unfold maxLen at hs
  by_cases h : s.size ≤ 1048576
  · have hi : (s.size : Int) ≤ 1048576 := by omega
    obtain ⟨T, hT⟩ : ∃ T : ByteArray, (⟨(backT s.data.toList).toArray⟩ : ByteArray) = T := ⟨_, rfl⟩
    obtain ⟨o, ho⟩ : ∃ o, backOk s.data.toList = o := ⟨_, rfl⟩
    have HT := Lib.hid hT
    have HO := Lib.hid ho
    have hoo : (o != o) = false := by simp
    clear hT ho
    go_enter Tryd.func9, Tryd.ntmps9
    go_wp2_with fail
    refine (padBackS_any s w h).mono ?_
    rintro e w' ⟨rfl, hb⟩
    rw [HT.out, HO.out]
    have HB := Lib.hid hb
    clear hb
    go_wp2_with fail
    refine (padBack_any s w' HM.out).mono ?_
    rintro e w2 ⟨rfl, hb⟩
    rw [HT.out, HO.out]
    have HB2 := Lib.hid (bel_transP HB.out hb)
    clear hb
    go_wp2
    go_ret
    exact ⟨rfl, HB2.out⟩
  · have hi : (1048576 : Int) < (s.size : Int) := by omega
    go_enter Tryd.func9, Tryd.ntmps9
    go_wp2
    go_ret
    exact ⟨rfl, Below.refl _ _⟩
theorem lawFnPadBack (a : Option Addr) (len cap : Nat) (zs : List Int) (w : World) (h : Code w a len cap zs) :
    Calls Tryd.prog 10 #[.slice a len cap] w fun e w' => e = .returned (.bool true) ∧ Below w.heap.size w w' := by
  by_cases hl : len ≤ 1048576
  · go_enter Tryd.func10, Tryd.ntmps10
    go_wp2_with fail
    refine (drawPadOf_any a len cap zs w h).mono ?_
    rintro e w1 ⟨p, rfl, hp, hb⟩
    have HB := Lib.hid hb
    have HP := Lib.hid (max9p (show p.size ≤ 1000 by omega))
    clear hb h
    obtain ⟨S, hS⟩ : ∃ S : ByteArray, (⟨(padL p.data.toList).toArray⟩ : ByteArray) = S := ⟨_, rfl⟩
    have HS := Lib.hid hS
    go_wp2_with fail
    refine (padOf_any p w1 HP.out).mono ?_
    rintro e w2 ⟨rfl, hb⟩
    rw [hS]
    have HB2 := Lib.hid (bel_transP HB.out hb)
    clear hb
    go_wp2_with fail
    refine (padOfS_any p w2 HP.out).mono ?_
    rintro e w' ⟨rfl, rfl⟩
    rw [hS]
    cases hpb : pieceB p.data.toList with
    | false =>
      have hse : S = ByteArray.empty := by rw [← hS]; exact pad_empty hpb
      clear hS
      subst hse
      go_wp2_with fail
      refine (padOfS_any p w2 HP.out).mono ?_
      rintro e w' ⟨rfl, rfl⟩
      rw [HS.out]
      go_wp2
      go_ret
      exact ⟨by first | rfl | exact ret_bool (by simp), HB2.out⟩
    | true =>
      have hse : S.toList.isEmpty = false := by rw [← hS]; exact pad_some hpb
      have hlen : classZ (p.size : Int) = (S.size : Int) := by rw [← hS, pad_size, ← size_int, class_len hpb]
      have hSl : S.data.toList = padL p.data.toList := by rw [← hS]
      have hps : (p.size : Int) ≤ (S.size : Int) := by
        have h1 := (clsN_ge (pieceB_is hpb).2.1).1
        rw [← padL_len hpb, size_int] at h1
        rw [← hS, pad_size]
        omega
      have hS8 : S.size ≤ 8 := by rw [← hS, pad_size]; exact padL_len8 _
      have HC := Lib.hid hlen
      have HO := Lib.hid (show backOk S.data.toList = true by rw [hSl]; exact (backOk_pad hpb).1)
      have HT := Lib.hid (show (⟨(backT S.data.toList).toArray⟩ : ByteArray) = p by rw [hSl, (backOk_pad hpb).2])
      have HX := Lib.hid (show S.extract 0 p.size = p by
        apply bar_eqP
        have h0 : (S.extract 0 p.size).data.toList = S.data.toList.take p.size := by simp
        rw [h0, hSl, ← size_int, padL_take hpb])
      have HSM := Lib.hid (max9p (show S.size ≤ 1000 by omega))
      clear hS hlen hSl
      go_wp2_with fail
      refine (padBack_any S w2 HSM.out).mono ?_
      rintro e w3 ⟨rfl, hb⟩
      rw [HT.out, HO.out]
      have HB3 := Lib.hid (bel_transP HB2.out hb)
      clear hb
      go_wp2_with fail
      refine (classOf_any _ _).mono ?_
      rintro e w' ⟨rfl, rfl⟩
      rw [HC.out]
      go_wp2_with fail
      rw [HX.out]
      go_wp2
      go_ret
      exact ⟨by first | rfl | exact ret_bool (by simp), HB3.out⟩
  · go_enter Tryd.func10, Tryd.ntmps10
    go_wp2
    go_ret
    exact ⟨rfl, Below.refl _ _⟩
theorem lawFnPadNone (a : Option Addr) (len cap : Nat) (zs : List Int) (w : World) (h : Code w a len cap zs) :
    Calls Tryd.prog 11 #[.slice a len cap] w fun e w' => e = .returned (.bool true) ∧ Below w.heap.size w w' := by
  by_cases hl : len ≤ 1048576
  · go_enter Tryd.func11, Tryd.ntmps11
    go_wp2_with fail
    refine (drawPadOf_any a len cap zs w h).mono ?_
    rintro e w1 ⟨p, rfl, hp, hb⟩
    have HB := Lib.hid hb
    have HP := Lib.hid (max9p (show p.size ≤ 1000 by omega))
    clear hb h
    obtain ⟨S, hS⟩ : ∃ S : ByteArray, (⟨(padL p.data.toList).toArray⟩ : ByteArray) = S := ⟨_, rfl⟩
    obtain ⟨T, hT⟩ : ∃ T : ByteArray, p ++ (⟨#[46]⟩ : ByteArray) = T := ⟨_, rfl⟩
    have hTp : pieceB T.data.toList = false := by rw [← hT]; exact point_none p
    have HTE := Lib.hid (pad_empty hTp)
    have HTM := Lib.hid (max9p (show T.size ≤ 1000 by rw [← hT]; have : (⟨#[46]⟩ : ByteArray).size = 1 := rfl; simp; omega))
    have HT := Lib.hid hT
    have HB0 := Lib.hid back_two
    have HB1 := Lib.hid back_none
    have hb0 : backT (⟨#[46, 46]⟩ : ByteArray).data.toList = [] := backT_no back_two
    have hb1 : backT (⟨#[]⟩ : ByteArray).data.toList = [] := backT_no back_none
    have HB2 := Lib.hid hb0
    have HB3 := Lib.hid hb1
    clear hT hTp hb0 hb1
    have hse : S.toList.isEmpty = !pieceB p.data.toList := by
      cases hpb : pieceB p.data.toList with
      | false => rw [← hS, pad_empty hpb, ByteArray.toList_eq]; rfl
      | true => rw [← hS, pad_some hpb]; rfl
    go_wp2_with fail
    refine (padOf_any p w1 HP.out).mono ?_
    rintro e w2 ⟨rfl, hb⟩
    rw [hS]
    have HW2 := Lib.hid (bel_transP HB.out hb)
    clear hb
    go_wp2_with fail
    refine (padOfS_any p w2 HP.out).mono ?_
    rintro e w' ⟨rfl, rfl⟩
    rw [hS]
    clear hS
    go_wp2_with fail
    refine (padBack_any ⟨#[46, 46]⟩ w2 (max9p (by have : (⟨#[46, 46]⟩ : ByteArray).size = 2 := rfl; omega))).mono ?_
    rintro e w3 ⟨rfl, hb⟩
    rw [HB0.out, HB2.out]
    have HW3 := Lib.hid (bel_transP HW2.out hb)
    clear hb
    go_wp2_with fail
    refine (padBack_any ⟨#[]⟩ w3 (max9p (by have : (⟨#[]⟩ : ByteArray).size = 0 := rfl; omega))).mono ?_
    rintro e w4 ⟨rfl, hb⟩
    rw [HB1.out, HB3.out]
    have HW4 := Lib.hid (bel_transP HW3.out hb)
    clear hb
    go_wp2_with fail
    rw [HT.out]
    refine (padOf_any T w4 HTM.out).mono ?_
    rintro e w5 ⟨rfl, hb⟩
    rw [HTE.out]
    have HW5 := Lib.hid (bel_transP HW4.out hb)
    clear hb
    go_wp2_with fail
    refine (pieceOk_any p _ HP.out).mono ?_
    rintro e w' ⟨rfl, rfl⟩
    generalize pieceB p.data.toList = b at *
    cases b
    all_goals
      go_wp2
      go_ret
      exact ⟨by first | rfl | exact ret_bool (by simp), HW5.out⟩
  · go_enter Tryd.func11, Tryd.ntmps11
    go_wp2
    go_ret
    exact ⟨rfl, Below.refl _ _⟩
theorem drawPadBack_any (a : Option Addr) (len cap : Nat) (zs : List Int) (w : World) (h : Code w a len cap zs) : Calls Tryd.prog 30 #[.slice a len cap] w (Drew 9 w) := by
  go_enter Tryd.func30, Tryd.ntmps30
  go_wp2_with fail
  refine (open_any a len cap zs w h).mono ?_
  rintro e w1 ⟨rfl, hr, hb⟩
  have HB := Lib.hid hb
  have HR := Lib.hid hr
  clear hb h hr
  go_wp2_with fail
  refine (l91Piece_any w1 _ 0 HR.out (by omega)).mono ?_
  rintro e w2 ⟨p, rfl, hp, hr, hg⟩
  have HP := Lib.hid (max9p (show p.size ≤ 1000 by have : p.size ≤ 9 := hp; omega))
  have HR2 := Lib.hid hr
  have HG := Lib.hid hg
  clear hg hp hr
  obtain ⟨S, hS⟩ : ∃ S : ByteArray, (⟨(padL p.data.toList).toArray⟩ : ByteArray) = S := ⟨_, rfl⟩
  have hS8 : S.size ≤ 8 := by rw [← hS, pad_size]; exact padL_len8 _
  go_wp2_with fail
  refine (padOfS_any p w2 HP.out).mono ?_
  rintro e w' ⟨rfl, rfl⟩
  rw [hS]
  clear hS
  go_wp2_with fail
  refine (pick_any 5 w2 _ _ HR2.out (by omega) (by omega)).mono ?_
  rintro e w3 ⟨x, rfl, _, _, hr3, hg3⟩
  have HR3 := Lib.hid hr3
  have HG3 := Lib.hid (grown_trans HG.out hg3)
  clear hr3 hg3
  by_cases q0 : x = 0
  · subst q0
    go_wp2
    go_ret
    exact ⟨_, rfl, by have : (⟨#[46]⟩ : ByteArray).size = 1 := rfl; simp; omega, HB.out.grown HG3.out HB.out.size (fun k e => by cases e; exact Nat.le_refl _)⟩
  · by_cases q1 : x = 1
    · subst q1
      go_wp2_with fail
      refine (of_lit (Short 9) 7 _ w3 _ _ HR3.out (by omega) (by omega) (by omega) rfl (by intro v hv; simp at hv; rcases hv with rfl | rfl | rfl | rfl | rfl | rfl | rfl <;> exact ⟨_, rfl, by unfold Short; decide⟩)).mono ?_
      rintro e w4 ⟨z, rfl, hz, hr4, hg4⟩
      have HZ := Lib.hid hz
      have HG4 := Lib.hid (grown_trans HG3.out hg4)
      clear hz hr4 hg4
      go_wp2
      go_ret
      exact ⟨z, rfl, HZ.out, HB.out.grown HG4.out HB.out.size (fun k e => by cases e; exact Nat.le_refl _)⟩
    · have b0 : ((x : Int) == 0) = false := beq_eq_false_iff_ne.2 (by omega)
      have b1 : ((x : Int) == 1) = false := beq_eq_false_iff_ne.2 (by omega)
      clear q0 q1
      go_wp2
      go_ret
      exact ⟨S, rfl, by omega, HB.out.grown HG3.out HB.out.size (fun k e => by cases e; exact Nat.le_refl _)⟩
theorem lawFnPadStrict (a : Option Addr) (len cap : Nat) (zs : List Int) (w : World) (h : Code w a len cap zs) :
    Calls Tryd.prog 12 #[.slice a len cap] w fun e w' => e = .returned (.bool true) ∧ Below w.heap.size w w' := by
  by_cases hl : len ≤ 1048576
  · go_enter Tryd.func12, Tryd.ntmps12
    go_wp2_with fail
    refine (drawPadBack_any a len cap zs w h).mono ?_
    rintro e w1 ⟨s, rfl, hs, hb⟩
    have HB := Lib.hid hb
    have HM := Lib.hid (max9p (show s.size ≤ 1000 by omega))
    clear hb h
    obtain ⟨T, hT⟩ : ∃ T : ByteArray, (⟨(backT s.data.toList).toArray⟩ : ByteArray) = T := ⟨_, rfl⟩
    have HT := Lib.hid hT
    cases ho : backOk s.data.toList with
    | false =>
      have HO := Lib.hid ho
      clear hT ho
      go_wp2_with fail
      refine (padBackS_any s w1 (by omega)).mono ?_
      rintro e w2 ⟨rfl, hb⟩
      rw [HT.out, HO.out]
      have HB2 := Lib.hid (bel_transP HB.out hb)
      clear hb
      go_wp2_with fail
      refine (padBack_any s w2 HM.out).mono ?_
      rintro e w3 ⟨rfl, hb⟩
      rw [HT.out, HO.out]
      have HB3 := Lib.hid (bel_transP HB2.out hb)
      clear hb
      go_wp2
      go_ret
      exact ⟨by first | rfl | exact ret_bool (by simp), HB3.out⟩
    | true =>
      have HO := Lib.hid ho
      have ho2 := ho
      simp only [backOk, Bool.and_eq_true, decide_eq_true_eq] at ho2
      have hTl : T.data.toList = trimL s.data.toList := by rw [← hT, backT_yes ho]
      have HPB := Lib.hid (show pieceB T.data.toList = true by rw [hTl]; exact ho2.1)
      have HPD := Lib.hid (show (⟨(padL T.data.toList).toArray⟩ : ByteArray) = s by rw [hTl, ho2.2])
      have HTM := Lib.hid (max9p (show T.size ≤ 1000 by
        have := (pieceB_is HPB.out).2.1
        rw [size_int] at this
        omega))
      clear hT ho ho2 hTl
      go_wp2_with fail
      refine (padBackS_any s w1 (by omega)).mono ?_
      rintro e w2 ⟨rfl, hb⟩
      rw [HT.out, HO.out]
      have HB2 := Lib.hid (bel_transP HB.out hb)
      clear hb
      go_wp2_with fail
      refine (padBack_any s w2 HM.out).mono ?_
      rintro e w3 ⟨rfl, hb⟩
      rw [HT.out, HO.out]
      have HB3 := Lib.hid (bel_transP HB2.out hb)
      clear hb
      go_wp2_with fail
      refine (pieceOk_any T _ HTM.out).mono ?_
      rintro e w' ⟨rfl, rfl⟩
      rw [HPB.out]
      go_wp2_with fail
      refine (padOf_any T _ HTM.out).mono ?_
      rintro e w4 ⟨rfl, hb⟩
      rw [HPD.out]
      have HB4 := Lib.hid (bel_transP HB3.out hb)
      clear hb
      go_wp2
      go_ret
      exact ⟨by first | rfl | exact ret_bool (by simp), HB4.out⟩
  · go_enter Tryd.func12, Tryd.ntmps12
    go_wp2
    go_ret
    exact ⟨rfl, Below.refl _ _⟩
end
end Go.Proofs.YtbaafipkdglohaaDoor
