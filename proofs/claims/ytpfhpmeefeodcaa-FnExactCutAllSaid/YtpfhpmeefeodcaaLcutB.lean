/- The walks of laws on the sizes of pieces, on ends, and on short texts: each returns true. -/
import Derived.Test.YtpfhpmeefeodcaaLcutA
namespace Go.Proofs.Ytpfhpmeefeodcaa
open Go.RowKit

theorem bars_piece {l : List UInt8} {k : Nat} {s : ByteArray} (ht : textB l = true) (h : (bars (piecesZ l))[k]? = some s) : 1 ≤ s.size ∧ s.size ≤ 8 ∧ (s.size < 3 → k + 1 = (piecesZ l).length) := by
  have h1 := bars_get h
  rw [piecesZ_yes ht] at h1 ⊢
  obtain ⟨a, b, c⟩ := pieces_size h1
  rw [size_int] at a b c
  exact ⟨a, b, c⟩
/-- a part of "abcdefgh" of one to three letters -/
theorem short_text (p q : Nat) (hp : p ≤ 4) (hq : q ≤ 2) (T : ByteArray) (hT : (⟨#[97, 98, 99, 100, 101, 102, 103, 104]⟩ : ByteArray).extract p (p + 1 + q) = T) :
    T.size = q + 1 ∧ textB T.data.toList = true ∧ cutZ T.data.toList 0 = ((q : Int) + 1) ∧ strVals (piecesZ T.data.toList) = barVals [T] := by
  have hs : T.size = q + 1 := by rw [← hT, ByteArray.size_extract]; have : (⟨#[97, 98, 99, 100, 101, 102, 103, 104]⟩ : ByteArray).size = 8 := rfl; omega
  have hl : lets T.data.toList = true := by
    rw [← hT, extract_str]
    have h8 : lets (⟨#[97, 98, 99, 100, 101, 102, 103, 104]⟩ : ByteArray).data.toList = true := by decide
    simp only [lets, List.all_eq_true] at h8 ⊢
    exact fun x hx => h8 x (List.mem_of_mem_drop (List.mem_of_mem_take hx))
  have ht : textB T.data.toList = true := by simp only [textB, Bool.and_eq_true, decide_eq_true_eq, size_int]; exact ⟨by omega, hl⟩
  obtain ⟨h1, h2⟩ := pieces_one T.data.toList (by rw [size_int]; omega) (by rw [size_int]; omega)
  refine ⟨hs, ht, ?_, ?_⟩
  · unfold cutZ
    rw [if_pos ⟨ht, by omega, by rw [size_int]; omega⟩]
    show ((cutE T.data.toList 0 : Nat) : Int) = _
    rw [h1, size_int, hs]; omega
  · rw [piecesZ_yes ht, h2]; simp [strVals, barVals]
/-- a slice of one string that has just been laid -/
theorem lst_new (w : World) (T : ByteArray) : Lst (w.alloc (.cells #[.string T] 9)) (w.heap.size + 1) (.slice (some ⟨w.heap.size, 0, none⟩) 1 1) (barVals [T]) := by
  refine ⟨some ⟨w.heap.size, 0, none⟩, 1, rfl, Nat.le_refl _, fun _ => ⟨w.heap.size, 0, rfl, by omega, fun j x hj => ?_⟩⟩
  have h1 := cell_of_row (w.alloc (.cells #[.string T] 9)) w.heap.size j _ _ _ (heap_alloc_new w _)
  rw [Nat.zero_add, h1]
  simpa [barVals] using hj
section
set_option maxHeartbeats 800000
theorem lawFnCutSize (a : Option Addr) (len cap : Nat) (zs : List Int) (w : World) (h : Code w a len cap zs) : Calls Try.prog 10 #[.slice a len cap] w fun e w' => e = .returned (.bool true) ∧ Below w.heap.size w w' := by
  by_cases hl : len ≤ 1048576
  · go_enter Try.func10, Try.ntmps10
    go_wp2_with fail
    refine (drawCutAll_any a len cap zs w h).mono ?_
    rintro e w1 ⟨s, rfl, hs, hb⟩
    have HB := Lib.hid hb
    have HM := Lib.hid (maxLen_of (show s.size ≤ 1000000000 by omega))
    clear hb h
    have hel : (piecesZ s.data.toList).length ≤ 40 := by rw [piecesZ_len]; exact endsZ_len _
    go_wp2_with fail
    refine (cutAll_any s _ (HM.out)).mono ?_
    intro e w2 hg
    obtain ⟨v2, rfl, hlst, hb⟩ := gave_lst hg
    obtain ⟨A, c, rfl⟩ := lst_form hlst
    rw [strVals_length] at *
    rw [strVals_bars] at hlst
    have HL2 := Lib.hid hlst
    have HB2 := Lib.hid hb
    clear hg hlst hb
    go_wp2_with fail
    refine (cutAllS_any s _ (HM.out)).mono ?_
    intro e w3 hg
    obtain ⟨v3, rfl, hlst, hb⟩ := gave_lst hg
    rw [strVals_bars] at hlst
    have HL3 := Lib.hid hlst
    have HB3 := Lib.hid hb
    clear hg hlst hb
    go_wp2_with fail
    refine (ldTexts_any _ w3.heap.size _ _ _ _ (lst_next HL2.out HB3.out) HL3.out (by rw [bars_length]; omega) (by rw [bars_length]; omega)).mono ?_
    rintro e w' ⟨rfl, nd3, rfl⟩
    rw [dec_self]
    have HLw := Lib.hid (lst_next HL2.out HB3.out)
    have HBw := Lib.hid (bel_trans (bel_trans HB.out HB2.out) HB3.out)
    cases ht : textB s.data.toList with
    | false =>
      have hn0 : (piecesZ s.data.toList).length = 0 := by rw [piecesZ_no ht]; rfl
      have HT := Lib.hid ht
      have h1 : 0 < s.size := by
        rcases Nat.eq_zero_or_pos s.size with h0 | h0
        · have : s.data.toList = [] := List.eq_nil_of_length_eq_zero (by rw [size_int]; exact h0)
          rw [this] at ht
          exact absurd ht (by decide)
        · exact h0
      clear ht
      rw [hn0] at *
      clear hn0
      go_wp2_with fail
      go_loopw [5] (fun i wr => i = .int .i64 0 ∧ wr = w3.drewN nd3) (fun _ _ => 0)
      case atStart => exact ⟨rfl, rfl⟩
      case round =>
        obtain ⟨rfl, rfl⟩ := hrel
        have hne : s ≠ ByteArray.empty := fun h => by rw [h] at h1; exact absurd h1 (by decide)
        go_wp2_with fail
        refine (textOk_any s _ HM.out).mono ?_
        rintro e w' ⟨rfl, rfl⟩
        rw [HT.out]
        go_wp2
        go_ret
        exact ⟨by first | rfl | exact ret_bool (by simp), below_drewN HBw.out _⟩
    | true =>
      have hb1 := (endsAt_length (l := s.data.toList) 0).2
      rw [size_int, ← ends, ← endsZ_yes ht, ← piecesZ_len] at hb1
      have HP : Hid (∀ k x, (bars (piecesZ s.data.toList))[k]? = some x → 1 ≤ x.size ∧ x.size ≤ 8 ∧ (x.size < 3 → k + 1 = (piecesZ s.data.toList).length)) := fun k x h => bars_piece ht h
      have HN := Lib.hid (bars_length (piecesZ s.data.toList))
      have hb2 : s.size ≤ 8 * (piecesZ s.data.toList).length := by omega
      clear hb1 ht
      generalize (piecesZ s.data.toList).length = n at *
      go_wp2_with fail
      go_loopw [5] (fun i wr => ∃ k m : Nat, k ≤ n ∧ i = .int .i64 (k : Int) ∧ wr = w3.drewN m) (fun i _ => n - (intOf i).toNat)
      case atStart => exact ⟨0, _, Nat.zero_le _, rfl, rfl⟩
      case round =>
        obtain ⟨k, m, hk, rfl, rfl⟩ := hrel
        by_cases hlt : k < n
        · obtain ⟨x, hx⟩ : ∃ x, (bars (piecesZ s.data.toList))[k]? = some x := ⟨_, List.getElem?_eq_getElem (by have := HN.out; omega)⟩
          obtain ⟨x1, x8, x3⟩ := HP.out k x hx
          obtain ⟨g, off, rfl, _, hc⟩ := lst_at HLw.out (barVals_get _ _ _ hx)
          clear hx
          by_cases h3 : x.size < 3
          · have hx0 : ((x.size : Int) == 0) = false := beq_eq_false_iff_ne.2 (by omega)
            have hk1 : (n : Int) ≤ (k : Int) + 1 := by have := x3 h3; omega
            clear x3
            go_wp2
            go_roundw
            case rel => exact ⟨k + 1, _, by omega, by go_num, rfl⟩
            case measure => simp [intOf]; omega
          · have hx0 : ((x.size : Int) == 0) = false := beq_eq_false_iff_ne.2 (by omega)
            clear x3
            go_wp2
            go_roundw
            case rel => exact ⟨k + 1, _, by omega, by go_num, rfl⟩
            case measure => simp [intOf]; omega
        · have hkn : k = n := by omega
          subst hkn
          go_wp2
          go_ret
          exact ⟨by first | rfl | exact ret_bool (by simp), below_drewN HBw.out _⟩
  · go_enter Try.func10, Try.ntmps10
    go_wp2
    go_ret
    exact ⟨rfl, Below.refl _ _⟩
theorem lawFnCutOne (a : Option Addr) (len cap : Nat) (zs : List Int) (a1 : Option Addr) (len1 cap1 : Nat) (zs1 : List Int) (w : World) (h : Code w a len cap zs) (_ : Code w a1 len1 cap1 zs1) :
    Calls Try.prog 13 #[.slice a len cap, .slice a1 len1 cap1] w fun e w' => e = .returned (.bool true) ∧ Below w.heap.size w w' := by
  by_cases hl : len ≤ 1048576
  · by_cases hl1 : len1 ≤ 1048576
    · go_enter Try.func13, Try.ntmps13
      go_wp2_with fail
      refine (drawCutAll_any a len cap zs w h).mono ?_
      rintro e w1 ⟨s, rfl, hs, hb⟩
      have HB := Lib.hid hb
      have HM := Lib.hid (maxLen_of (show s.size ≤ 1000000000 by omega))
      clear hb h
      have hel : (piecesZ s.data.toList).length ≤ 40 := by rw [piecesZ_len]; exact endsZ_len _
      go_wp2_with fail
      refine (cutAll_any s _ (HM.out)).mono ?_
      intro e w2 hg
      obtain ⟨v2, rfl, hlst, hb⟩ := gave_lst hg
      obtain ⟨A, c, rfl⟩ := lst_form hlst
      rw [strVals_length] at *
      rw [strVals_bars] at hlst
      have HL2 := Lib.hid hlst
      have HB2 := Lib.hid hb
      clear hg hlst hb
      go_wp2_with fail
      refine (cutAllS_any s _ (HM.out)).mono ?_
      intro e w3 hg
      obtain ⟨v3, rfl, hlst, hb⟩ := gave_lst hg
      rw [strVals_bars] at hlst
      have HL3 := Lib.hid hlst
      have HB3 := Lib.hid hb
      clear hg hlst hb
      go_wp2_with fail
      refine (ldTexts_any _ w3.heap.size _ _ _ _ (lst_next HL2.out HB3.out) HL3.out (by rw [bars_length]; omega) (by rw [bars_length]; omega)).mono ?_
      rintro e w' ⟨rfl, nd3, rfl⟩
      rw [dec_self]
      have HBw := Lib.hid (bel_trans (bel_trans HB.out HB2.out) HB3.out)
      clear hel
      generalize (piecesZ s.data.toList).length = n at *
      obtain ⟨p, hp⟩ : ∃ p, len1 % 5 = p := ⟨_, rfl⟩
      obtain ⟨q, hq⟩ : ∃ q, len1 % 3 = q := ⟨_, rfl⟩
      have p4 : p ≤ 4 := by omega
      have q2 : q ≤ 2 := by omega
      have e1 : (len1 : Int) % 5 = (p : Int) := by omega
      have e2 : (len1 : Int) % 3 = (q : Int) := by omega
      clear hp hq
      obtain ⟨T, hT⟩ : ∃ T : ByteArray, (⟨#[97, 98, 99, 100, 101, 102, 103, 104]⟩ : ByteArray).extract p (p + 1 + q) = T := ⟨_, rfl⟩
      obtain ⟨t1, t2, t3, t4⟩ := short_text p q p4 q2 T hT
      have HM2 := Lib.hid (maxLen_of (show T.size ≤ 1000000000 by omega))
      have HT := Lib.hid hT
      have H1 := Lib.hid t1
      have H3 := Lib.hid t3
      have H4 := Lib.hid t4
      have tq : T.size ≤ 3 := by omega
      clear t1 t2 t3 t4
      go_wp2_with fail
      refine (cutAll_any T _ HM2.out).mono ?_
      intro e w4 hg
      obtain ⟨v4, rfl, hlst, hb⟩ := gave_lst hg
      rw [H4.out] at hlst
      have HL4 := Lib.hid hlst
      have HB4 := Lib.hid (bel_drew hb)
      clear hg hlst hb
      go_wp2_with fail
      refine (ldTexts_any _ (w4.heap.size + 1) _ _ _ _ (lst_more (lst_below HL4.out ((Below.refl _ w4).alloc (Nat.le_refl _) (.cells #[.string T] 9))) (by omega)) (lst_new w4 T) (by simp) (by simp)).mono ?_
      rintro e w' ⟨rfl, nd5, rfl⟩
      rw [dec_self]
      go_wp2_with fail
      refine (CutAt_any T 0 _ HM2.out).mono ?_
      rintro e w6 ⟨rfl, n6, rfl⟩
      rw [H3.out]
      have h1 := H1.out
      have hsz : (T.size : Int) = (q : Int) + 1 := by omega
      clear h1
      go_wp2
      go_ret
      exact ⟨by first | rfl | exact ret_bool (by simp), (HBw.out.trans ((HB4.out.mono HBw.out.size).alloc (Nat.le_trans HBw.out.size HB4.out.size) _)).trans ⟨rfl, rfl, rfl, Nat.le_refl _, fun _ _ => rfl⟩⟩
    · go_enter Try.func13, Try.ntmps13
      go_wp2
      go_ret
      exact ⟨rfl, Below.refl _ _⟩
  · go_enter Try.func13, Try.ntmps13
    go_wp2
    go_ret
    exact ⟨rfl, Below.refl _ _⟩
end
end Go.Proofs.Ytpfhpmeefeodcaa
