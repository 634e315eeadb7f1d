/- The law that pieces together are the text: true at every code. -/
import Derived.Test.YthefpbnnmfjggaaLcutK
namespace Go.Proofs.Ythefpbnnmfjggaa
open Go.RowKit
theorem maxLen_of9 {s : ByteArray} (h : s.size ≤ 1000000000) : s.size ≤ maxLen := by unfold maxLen; omega
theorem ends_len40 {l : List UInt8} (h : l.length ≤ 40) : (pieces l).length ≤ 40 := by
  rw [pieces_length]
  have h1 := (endsAt_length (l := l) 0).1
  show (endsAt l 0).length ≤ 40
  omega
theorem piecesZ_len40 (l : List UInt8) : (piecesZ l).length ≤ 40 := by
  cases ht : textB l with
  | false => rw [piecesZ_no ht]; simp
  | true =>
    rw [piecesZ_yes ht]
    simp only [textB, Bool.and_eq_true, decide_eq_true_eq] at ht
    exact ends_len40 ht.1
theorem joinOk_pieces {l : List UInt8} (ht : textB l = true) : joinOk (pieces l) = true := joinOk_yes (by rw [pieces_join]; exact ht) (by rw [pieces_join])
theorem joinT_pieces {l : List UInt8} (ht : textB l = true) : joinT (pieces l) = l := by rw [joinT_yes (joinOk_pieces ht), pieces_join]
theorem pieces_nil : piecesZ (⟨#[]⟩ : ByteArray).data.toList = [] := by decide
theorem lst_shape {w : World} {B : Nat} {v : Value} {xs : List Value} (h : Lst w B v xs) : ∃ A c, v = .slice A xs.length c := by
  obtain ⟨A, c, hv, _⟩ := h
  exact ⟨A, c, hv⟩
section
set_option maxHeartbeats 800000
theorem lawFnCutBack (a : Option Addr) (len cap : Nat) (zs : List Int) (w : World) (h : Code w a len cap zs) : Calls Try.prog 5 #[.slice a len cap] w fun e w' => e = .returned (.bool true) ∧ Below w.heap.size w w' := by
  by_cases hl : len ≤ 1048576
  · go_enter Try.func5, Try.ntmps5
    go_wp2_with fail
    refine (drawCutAll_any a len cap zs w h).mono ?_
    rintro e w1 ⟨s, rfl, hs, hb⟩
    have HB := Lib.hid hb
    have HM := Lib.hid (maxLen_of9 (show s.size ≤ 1000000000 by omega))
    clear hb h
    have hel := piecesZ_len40 s.data.toList
    go_wp2_with fail
    refine (cutAll_any s _ (HM.out)).mono ?_
    intro e w2 hg
    obtain ⟨v2, rfl, hlst, hb⟩ := gave_lst hg
    rw [strVals_bars] at hlst
    have HL2 := Lib.hid hlst
    have HB2 := Lib.hid (bel_trans HB.out hb)
    clear hg hlst hb
    go_wp2_with fail
    refine (cutAllS_any s _ (HM.out)).mono ?_
    intro e w3 hg
    obtain ⟨v3, rfl, hlst, hb⟩ := gave_lst hg
    rw [strVals_bars] at hlst
    have HL3 := Lib.hid hlst
    have HB3 := Lib.hid (bel_trans HB2.out hb)
    have HL23 := Lib.hid (lst_next HL2.out hb)
    clear hg hlst hb
    go_wp2_with fail
    refine (ldTexts_any _ w3.heap.size _ _ _ _ HL23.out HL3.out (by rw [bars_length]; omega) (by rw [bars_length]; omega)).mono ?_
    rintro e w' ⟨rfl, nd3, rfl⟩
    rw [show decide (bars (piecesZ s.data.toList) = bars (piecesZ s.data.toList)) = true by simp]
    go_wp2_with fail
    refine (textOkS_any s _ HM.out).mono ?_
    rintro e w' ⟨rfl, rfl⟩
    cases ht : textB s.data.toList with
    | false =>
      go_wp2_with fail
      refine (cutAllS_any s _ (HM.out)).mono ?_
      intro e w4 hg
      obtain ⟨v4, rfl, hlst, hb⟩ := gave_lst hg
      rw [strVals_bars] at hlst
      have HL4 := Lib.hid hlst
      have HB4 := Lib.hid (bel_drew hb)
      clear hg hlst hb
      go_wp2_with fail
      refine (ldTexts_any _ w4.heap.size _ _ _ _ (lst_next HL23.out HB4.out) HL4.out (by rw [bars_length]; omega) (by rw [bars_length]; omega)).mono ?_
      rintro e w' ⟨rfl, nd4, rfl⟩
      rw [show decide (bars (piecesZ s.data.toList) = bars (piecesZ s.data.toList)) = true by simp]
      go_wp2
      go_ret
      exact ⟨rfl, below_drewN (bel_trans HB3.out HB4.out) _⟩
    | true =>
      have hfl : (raws (bars (piecesZ s.data.toList))).flatten = s.data.toList := by rw [raws_bars, piecesZ_yes ht, pieces_join]
      have HF := Lib.hid hfl
      have HO := Lib.hid (show joinOk (raws (bars (piecesZ s.data.toList))) = true by rw [raws_bars, piecesZ_yes ht]; exact joinOk_pieces ht)
      have HT := Lib.hid (show (⟨(joinT (raws (bars (piecesZ s.data.toList)))).toArray⟩ : ByteArray) = s by
        rw [raws_bars, piecesZ_yes ht, joinT_pieces ht])
      have hbl : (bars (piecesZ s.data.toList)).length ≤ 40 := by rw [bars_length]; exact hel
      clear hfl hel
      generalize hL : bars (piecesZ s.data.toList) = L at *
      clear hL
      have HL4 : Hid (Lst (w3.drewN nd3) (w3.drewN nd3).heap.size v2 (barVals L)) := Lib.hid (lst_drewN HL23.out nd3)
      go_wp2_with fail
      refine (cutJoin_any (w3.drewN nd3) v2 L HL4.out (by omega) (by rw [HF.out, size_int]; omega)).mono ?_
      rintro e w4 ⟨rfl, hb⟩
      rw [HT.out, HO.out]
      have HB5 := Lib.hid (bel_trans HB3.out (bel_drew hb))
      have HL5 := Lib.hid (lst_next HL23.out (bel_drew hb))
      clear hb
      obtain ⟨A, c, rfl⟩ := lst_shape HL5.out
      obtain ⟨n, hn⟩ : ∃ n, L.length = n := ⟨_, rfl⟩
      have HN := Lib.hid hn
      have HL6 : Hid (Lst w4 w4.heap.size (.slice A n c) (barVals L)) := by
        have h5 := HL5.out
        rw [barVals_length, hn] at h5
        exact Lib.hid h5
      clear HL5 HL4 HL2 HL3
      rw [barVals_length, hn]
      clear hn
      have hi2 : n ≤ 40 := by have := HN.out; omega
      go_wp2
      go_loopw [7, 8] (fun t i wr => ∃ (y : ByteArray) (k m : Nat), k ≤ n ∧ t = .string y ∧ i = .int .i64 (k : Int) ∧ y.data.toList = ((raws L).take k).flatten ∧ wr = w4.drewN m) (fun _ i _ => n - (intOf i).toNat)
      case atStart => exact ⟨ByteArray.empty, 0, 0, Nat.zero_le _, rfl, rfl, by simp, rfl⟩
      case round =>
        obtain ⟨y, k, m, hk, rfl, rfl, hy, rfl⟩ := hrel
        have HY := Lib.hid hy
        have hysz : y.size ≤ 45 := by
          have h1 := flatten_take_le (raws L) k
          rw [← hy, size_int, HF.out, size_int] at h1
          omega
        clear hy
        by_cases hlt : k < n
        · obtain ⟨x, hx⟩ : ∃ x, L[k]? = some x := ⟨_, List.getElem?_eq_getElem (by have := HN.out; omega)⟩
          obtain ⟨g, off, hA, _, hc1⟩ := lst_at HL6.out (barVals_get _ _ _ hx)
          subst hA
          have hxs : x.size ≤ 45 := by
            have h1 := flatten_take_le (raws L) (k + 1)
            rw [flatten_snoc (raws_get hx), List.length_append, HF.out, size_int, size_int] at h1
            omega
          have HXX := Lib.hid hx
          clear hx
          have hi1 : (k : Int) < (n : Int) := by omega
          obtain ⟨z, hz⟩ : ∃ z, y ++ x = z := ⟨_, rfl⟩
          have HZ := Lib.hid (show z.data.toList = ((raws L).take (k + 1)).flatten by
            rw [flatten_snoc (raws_get HXX.out), ← HY.out, ← hz]; simp)
          have HZ2 := Lib.hid hz
          clear hz
          go_wp2
          rw [HZ2.out]
          go_roundw
          case rel => exact ⟨z, k + 1, _, by omega, rfl, by go_num, HZ.out, rfl⟩
          case measure => simp [intOf]; omega
        · have HYF := Lib.hid (show y = s by
            apply ByteArray.ext
            apply Array.toList_inj.1
            rw [HY.out, List.take_of_length_le (by rw [raws_length]; have := HN.out; omega), HF.out])
          rw [HYF.out]
          go_wp2_with fail
          refine (cutOk_any (w4.drewN m) _ L (lst_drewN HL6.out m) (by have := HN.out; omega) (by rw [HF.out, size_int]; omega)).mono ?_
          rintro e w5 ⟨rfl, hb⟩
          rw [HO.out]
          have HB6 := Lib.hid (bel_trans HB5.out (bel_drew hb))
          clear hb
          go_wp2_with fail
          refine (cutAll_any ⟨#[]⟩ _ (maxLen_of9 (by have : (⟨#[]⟩ : ByteArray).size = 0 := rfl; omega))).mono ?_
          rw [pieces_nil]
          intro e w6 hg
          obtain ⟨v, rfl, hlst, hb6⟩ := gave_lst hg
          obtain ⟨A6, c6, rfl⟩ := lst_shape hlst
          have HB7 := Lib.hid (bel_trans HB6.out hb6)
          clear hg hlst hb6
          go_wp2
          go_ret
          exact ⟨by first | rfl | exact ret_bool (by simp), HB7.out⟩
  · go_enter Try.func5, Try.ntmps5
    go_wp2
    go_ret
    exact ⟨rfl, Below.refl _ _⟩
end
end Go.Proofs.Ythefpbnnmfjggaa
