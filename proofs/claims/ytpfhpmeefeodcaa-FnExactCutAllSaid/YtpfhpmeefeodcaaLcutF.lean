/- The walk of the law that from where a piece ends a text is cut as if it began there: it returns true. -/
import Derived.Test.YtpfhpmeefeodcaaLcutD
namespace Go.Proofs.Ytpfhpmeefeodcaa
open Go.RowKit
theorem lst_drop {w : World} {B n c K g off : Nat} {l : List ByteArray} (h : Lst w B (.slice (some ⟨g, off, none⟩) n c) (barVals l)) (hK : K ≤ n) : Lst w B (.slice (some ⟨g, off + K, none⟩) (n - K) (c - K)) (barVals (l.drop K)) := by
  obtain ⟨A', c', hv, hc, hx⟩ := h
  cases hv
  rw [barVals_length] at hK hc hx ⊢
  have hlen : (barVals (l.drop K)).length = l.length - K := by rw [barVals_length, List.length_drop]
  refine ⟨some ⟨g, off + K, none⟩, c - K, by rw [hlen], by omega, fun h0 => ?_⟩
  rw [hlen] at h0
  obtain ⟨g', off', hA, hg, hcell⟩ := hx (by omega)
  cases hA
  refine ⟨g, off + K, rfl, hg, fun j x hj => ?_⟩
  have := hcell (K + j) x (by rw [barVals, List.getElem?_map] at hj ⊢; rwa [List.getElem?_drop] at hj)
  rwa [← Nat.add_assoc] at this
theorem bel_drew1 {w w' : World} (h : Below w.drew.heap.size w.drew w') : Below w.heap.size w w' := ⟨h.os, h.tape, h.output, h.size, h.block⟩
theorem rest_text {s : ByteArray} (ht : textB s.data.toList = true) (K : Nat) (hK : K ≤ (ends s.data.toList).length) :
    (s.extract (atk s.data.toList 0 K) s.size).data.toList = s.data.toList.drop (atk s.data.toList 0 K) ∧ textB (s.extract (atk s.data.toList 0 K) s.size).data.toList = true ∧
    piecesZ (s.extract (atk s.data.toList 0 K) s.size).data.toList = (pieces s.data.toList).drop K := by
  have h1 : (s.extract (atk s.data.toList 0 K) s.size).data.toList = s.data.toList.drop (atk s.data.toList 0 K) := by
    rw [extract_str]
    show (List.drop _ _).take _ = _
    rw [List.take_of_length_le (by rw [List.length_drop, size_int]; omega)]
  obtain ⟨h40, hl⟩ := textB_parts ht
  have h2 : textB (s.extract (atk s.data.toList 0 K) s.size).data.toList = true := by
    rw [h1]
    unfold textB
    rw [lets_drop hl, List.length_drop, size_int]; simp; omega
  refine ⟨h1, h2, ?_⟩
  rw [piecesZ_yes h2, h1, pieces_rest _ _ hK]
section
set_option maxHeartbeats 1000000
theorem lawFnCutRest (a : Option Addr) (len cap : Nat) (zs : List Int) (a1 : Option Addr) (len1 cap1 : Nat) (zs1 : List Int) (w : World) (h : Code w a len cap zs) (_ : Code w a1 len1 cap1 zs1) :
    Calls Try.prog 14 #[.slice a len cap, .slice a1 len1 cap1] w fun e w' => e = .returned (.bool true) ∧ Below w.heap.size w w' := by
  by_cases hl : len ≤ 1048576
  · by_cases hl1 : len1 ≤ 1048576
    · go_enter Try.func14, Try.ntmps14
      go_wp2_with fail
      refine (drawCutAll_any a len cap zs w h).mono ?_
      rintro e w1 ⟨s, rfl, hs, hb⟩
      have HB := Lib.hid hb
      have HM := Lib.hid (maxLen_of (show s.size ≤ 1000000000 by omega))
      clear hb h
      have hel : (piecesZ s.data.toList).length ≤ 40 := by rw [piecesZ_len]; exact endsZ_len _
      go_wp2_with fail
      refine (cutAll_any s _ (HM.out)).mono ?_
      intro e w2 hg
      obtain ⟨v2, rfl, hlst, hb⟩ := gave_lst hg
      obtain ⟨A, c, rfl⟩ := lst_form hlst
      rw [strVals_length] at *
      rw [strVals_bars] at hlst
      have HL2 := Lib.hid hlst
      have HB2 := Lib.hid hb
      clear hg hlst hb
      go_wp2_with fail
      refine (cutAllS_any s _ (HM.out)).mono ?_
      intro e w3 hg
      obtain ⟨v3, rfl, hlst, hb⟩ := gave_lst hg
      rw [strVals_bars] at hlst
      have HL3 := Lib.hid hlst
      have HB3 := Lib.hid hb
      clear hg hlst hb
      have HLa := Lib.hid (lst_next HL2.out HB3.out)
      have HBa := Lib.hid (bel_trans (bel_trans HB.out HB2.out) HB3.out)
      go_wp2_with fail
      refine (ldTexts_is _ w3.heap.size _ _ _ _ HLa.out HL3.out (by rw [bars_length]; omega) rfl).mono ?_
      rintro e w' ⟨rfl, nd3, rfl⟩
      have HN := Lib.hid (bars_length (piecesZ s.data.toList))
      by_cases hn : 0 < (piecesZ s.data.toList).length
      · have ht : textB s.data.toList = true := by
          cases ht : textB s.data.toList with
          | true => rfl
          | false => rw [piecesZ_no ht] at hn; simp at hn
        have hpe : (piecesZ s.data.toList).length = (ends s.data.toList).length := by rw [piecesZ_yes ht, pieces_length]
        have HE0 := Lib.hid (endsZ_yes ht)
        have HR : Hid (∀ K, K ≤ (piecesZ s.data.toList).length → textB (s.extract (atk s.data.toList 0 K) s.size).data.toList = true ∧ piecesZ (s.extract (atk s.data.toList 0 K) s.size).data.toList = (piecesZ s.data.toList).drop K ∧ atk s.data.toList 0 K ≤ s.size) := by
          intro K hK
          have h1 := rest_text ht K (by omega)
          rw [piecesZ_yes ht]
          refine ⟨h1.2.1, h1.2.2, ?_⟩
          have := atk_le s.data.toList K 0 (Nat.zero_le _) (by rw [hpe] at hK; exact hK)
          rwa [size_int] at this
        have HG : Hid (∀ k, k < (piecesZ s.data.toList).length → (ends s.data.toList)[k]? = some (atk s.data.toList 0 (k + 1))) := fun k hk => endsAt_get _ k 0 (by rw [hpe] at hk; exact hk)
        have HPE := Lib.hid hpe.symm
        clear ht hpe
        generalize hNn : (piecesZ s.data.toList).length = n at *
        have HNn := Lib.hid hNn
        clear hNn
        obtain ⟨K, hK⟩ : ∃ K, len1 % n = K := ⟨_, rfl⟩
        have hKn : K < n := by rw [← hK]; exact Nat.mod_lt _ hn
        have hem : (len1 : Int) % (n : Int) = (K : Int) := by rw [← hK]; rfl
        have hz : ¬ ((n : Int) = 0) := by omega
        have hz2 : ((n : Int) == 0) = false := beq_eq_false_iff_ne.2 (by omega)
        obtain ⟨g, off, hA, _, _⟩ := lst_at HLa.out (barVals_get _ 0 _ (List.getElem?_eq_getElem (by rw [HN.out]; omega)))
        subst hA
        clear hK
        go_wp2_with fail
        refine (cutEnds_any s _ (HM.out)).mono ?_
        intro e w5 hg
        obtain ⟨v5, rfl, hlst, hb⟩ := gave_lst hg
        obtain ⟨A5, c5, rfl⟩ := lst_form hlst
        rw [natVals_length] at *
        rw [natVals_nats] at hlst
        have HL5 := Lib.hid hlst
        have HB5 := Lib.hid (bel_drew hb)
        clear hg hlst hb
        rcases Nat.eq_zero_or_pos K with h0 | h0
        · subst h0
          have hat : atk s.data.toList 0 0 = 0 := rfl
          obtain ⟨r1, r2, r3⟩ := HR.out 0 (by omega)
          rw [hat] at r1 r2
          have hcn := (lst_cap HLa.out).2
          rw [barVals_length, HN.out] at hcn
          clear r1 r2 r3 hat
          have HLb := Lib.hid (lst_next HLa.out HB5.out)
          go_wp2_with fail
          go_region_with (first | (go_at_call 35; go_must ((with_reducible refine (cutAll_any s _ HM.out).mono ?_)); intro e w6 hg; obtain ⟨v6, rfl, hlst, hb⟩ := gave_lst hg; rw [strVals_bars] at hlst; have HL6 := Lib.hid hlst; have HB6 := Lib.hid (bel_drew1 hb); clear hg hlst hb) | (go_at_call 42; go_must ((with_reducible refine (ldTexts_is _ w6.heap.size _ _ _ _ HL6.out (lst_next HLb.out HB6.out) (by rw [HN.out]; omega) rfl).mono ?_)); rintro e w' ⟨rfl, nd6, rfl⟩))
          all_goals (go_wp2; go_ret; exact ⟨rfl, below_drewN (bel_trans (bel_trans HBa.out HB5.out) HB6.out) _⟩)
        · obtain ⟨K1, rfl⟩ : ∃ K1, K = K1 + 1 := ⟨K - 1, by omega⟩
          obtain ⟨r1, r2, r3⟩ := HR.out (K1 + 1) (by omega)
          have hen := HG.out K1 (by omega)
          have hnn : (nats (endsZ s.data.toList))[K1]? = some ((atk s.data.toList 0 (K1 + 1) : Nat) : Int) := by rw [HE0.out]; simp [nats, hen]
          obtain ⟨g5, off5, hA5, _, hc5⟩ := lst_at HL5.out (intVals_get _ _ _ hnn)
          subst hA5
          have hEl : (endsZ s.data.toList).length = n := by rw [HE0.out]; exact HPE.out
          rw [hEl] at *
          have hcn := (lst_cap HLa.out).2
          rw [barVals_length, HN.out] at hcn
          have HLb := Lib.hid (lst_next HLa.out HB5.out)
          have HLd := Lib.hid (lst_drop (K := K1 + 1) HLb.out (by omega))
          generalize atk s.data.toList 0 (K1 + 1) = F at *
          have HM5 := Lib.hid (maxLen_of (show (s.extract F s.size).size ≤ 1000000000 by rw [ByteArray.size_extract]; omega))
          have HEq := Lib.hid (show bars (piecesZ (s.extract F s.size).data.toList) = (bars (piecesZ s.data.toList)).drop (K1 + 1) by rw [r2, bars, bars, List.map_drop])
          have HLen := Lib.hid (show (bars (piecesZ (s.extract F s.size).data.toList)).length ≤ 1000000000 by rw [bars_length, r2, List.length_drop, HNn.out]; omega)
          clear r1 r2 hen hnn hEl h0
          have hck : ¬ c = K1 + 1 := by omega
          have hi1 : (K1 : Int) < (n : Int) := by omega
          have hi2 : (K1 : Int) + 1 ≤ (c : Int) := by omega
          have hF : (F : Int) ≤ (s.size : Int) := by omega
          go_wp2_with fail
          go_region_with (first | (go_at_call 35; go_must ((with_reducible refine (cutAll_any (s.extract F s.size) _ HM5.out).mono ?_)); intro e w6 hg; obtain ⟨v6, rfl, hlst, hb⟩ := gave_lst hg; rw [strVals_bars] at hlst; have HL6 := Lib.hid hlst; have HB6 := Lib.hid (bel_drew1 hb); clear hg hlst hb) | (go_at_call 42; go_must ((with_reducible refine (ldTexts_is _ w6.heap.size _ _ _ _ HL6.out (lst_next HLd.out HB6.out) HLen.out HEq.out).mono ?_)); rintro e w' ⟨rfl, nd6, rfl⟩))
          all_goals (go_wp2; go_ret; exact ⟨rfl, below_drewN (bel_trans (bel_trans HBa.out HB5.out) HB6.out) _⟩)
      · have h0 : (piecesZ s.data.toList).length = 0 := by omega
        generalize (piecesZ s.data.toList).length = n at *
        have hb0 : ((n : Int) == 0) = true := beq_iff_eq.2 (by omega)
        clear hn h0
        go_wp2_with fail
        refine (cutAllS_any s _ (HM.out)).mono ?_
        intro e w5 hg
        obtain ⟨v5, rfl, hlst, hb⟩ := gave_lst hg
        rw [strVals_bars] at hlst
        have HL5 := Lib.hid hlst
        have HB5 := Lib.hid (bel_drew hb)
        clear hg hlst hb
        go_wp2_with fail
        refine (ldTexts_is _ w5.heap.size _ _ _ _ (lst_next HLa.out HB5.out) HL5.out (by rw [HN.out]; omega) rfl).mono ?_
        rintro e w' ⟨rfl, nd5, rfl⟩
        go_wp2
        go_ret
        exact ⟨rfl, below_drewN (bel_trans HBa.out HB5.out) _⟩
    · go_enter Try.func14, Try.ntmps14
      go_wp2
      go_ret
      exact ⟨rfl, Below.refl _ _⟩
  · go_enter Try.func14, Try.ntmps14
    go_wp2
    go_ret
    exact ⟨rfl, Below.refl _ _⟩
end
end Go.Proofs.Ytpfhpmeefeodcaa
