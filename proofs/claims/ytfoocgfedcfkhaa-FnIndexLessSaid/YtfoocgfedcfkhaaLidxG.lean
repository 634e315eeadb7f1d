/- The laws of drawn indexes: without any pack nothing is found; without a pack just its names are gone. -/
import Derived.Test.YtfoocgfedcfkhaaLidxD
namespace Go.Proofs.Ytfoocgfedcfkhaa
open Go.RowKit
section
set_option maxHeartbeats 1600000
theorem lawFnIndexLess (a : Option Addr) (len cap : Nat) (zs : List Int) (w : World) (h : Code w a len cap zs) :
    Calls Try.prog 9 #[.slice a len cap] w fun e w' => e = .returned (.bool true) ∧ Below w.heap.size w w' := by
  by_cases hlen : len ≤ 1048576
  · go_enter Try.func9, Try.ntmps9
    go_wp2_with fail
    refine (drawIndexLess_any a len cap zs w h).mono ?_
    rintro e w1 ⟨v, l, p, rfl, hl, hn, ht, hp0, hp1, hb⟩
    have HL := Lib.hid hl
    have HT := Lib.hid ht
    have HB := Lib.hid hb
    obtain ⟨A, c, rfl⟩ := lsp_form hl
    clear hl ht hb h
    obtain ⟨L, hL⟩ : ∃ L, lessZ p l = L := ⟨_, rfl⟩
    have HZ := Lib.hid hL
    have hn2 : L.length ≤ 8 := by rw [← hL]; exact Nat.le_trans (lessZ_len p l) hn
    clear hL
    go_wp2_with fail
    refine (indexLess_any w1 _ l p HL.out (by omega)).mono ?_
    rw [HZ.out]
    rintro e w2 ⟨v2, rfl, ho, hb⟩
    have HX2 := Lib.hid (lsp_of_own ho)
    have HB2 := Lib.hid (bel2 HB.out hb)
    have HL2 := Lib.hid (lsp_next HL.out hb)
    obtain ⟨A2, c2, rfl⟩ := lsp_form HX2.out
    clear ho hb
    go_wp2_with fail
    refine (indexLessS_any w2 _ l p HL2.out (by omega)).mono ?_
    rw [HZ.out]
    rintro e w3 ⟨v3, rfl, ho, hb⟩
    have HB3 := Lib.hid (bel2 HB2.out hb)
    have HL3 := Lib.hid (lsp_next HL2.out hb)
    have HX3 := Lib.hid (lsp_next HX2.out hb)
    have HS3 := Lib.hid (lsp_of_own ho)
    clear ho hb
    go_wp2_with fail
    refine (ldIndex_any w3 _ v3 L L HX3.out HS3.out (by omega)).mono ?_
    rintro e w4 ⟨rfl, n4, rfl⟩
    rw [show decide (L = L) = true by simp]
    have HB4 := Lib.hid (below_drewN HB3.out n4)
    have HL4 := Lib.hid (lsp_drewN HL3.out n4)
    have HX4 := Lib.hid (lsp_drewN HX3.out n4)
    go_wp2_with fail
    refine (indexOkS_any (w3.drewN n4) _ l HL4.out (by omega)).mono ?_
    rintro e w5 ⟨rfl, hb⟩
    have HB5 := Lib.hid (bel2 HB4.out hb)
    have HL5 := Lib.hid (lsp_next HL4.out hb)
    have HX5 := Lib.hid (lsp_next HX4.out hb)
    clear hb
    cases hi : idxB l with
    | false =>
      have HI := Lib.hid hi
      clear hi
      go_wp2_with fail
      refine (indexLessS_any w5 _ l p HL5.out (by omega)).mono ?_
      rw [HZ.out]
      rintro e w6 ⟨v6, rfl, ho, hb⟩
      have HB6 := Lib.hid (bel2 HB5.out hb)
      have HX6 := Lib.hid (lsp_next HX5.out hb)
      have HS6 := Lib.hid (lsp_of_own ho)
      clear ho hb
      go_wp2_with fail
      refine (ldIndex_any w6 _ v6 L L HX6.out HS6.out (by omega)).mono ?_
      rintro e w7 ⟨rfl, n7, rfl⟩
      rw [show decide (L = L) = true by simp]
      go_wp2
      go_ret
      exact ⟨rfl, below_drewN HB6.out n7⟩
    | true =>
      have HI := Lib.hid hi
      have HLL := Lib.hid (show L = lessL p l by rw [← HZ.out, lessZ_ok p hi])
      clear hi
      go_wp2_with fail
      go_loopw [6, 7] (fun m i wr => ∃ k : Nat, k ≤ l.length ∧ m = .int .i64 ((lessL p (l.take k)).length : Int) ∧ i = .int .i64 (k : Int) ∧ Lsp wr wr.heap.size (.slice A l.length c) l ∧ Lsp wr wr.heap.size (.slice A2 L.length c2) L ∧ Below w.heap.size w wr) (fun _ i _ => l.length - (intOf i).toNat)
      case atStart => exact ⟨0, Nat.zero_le _, rfl, rfl, HL5.out, HX5.out, HB5.out⟩
      case round =>
        obtain ⟨k, hk, rfl, rfl, h2, h3, h4⟩ := hrel
        have H2 := Lib.hid h2
        have H3 := Lib.hid h3
        have H4 := Lib.hid h4
        have HM := Lib.hid (lessL_len p l k)
        clear h2 h3 h4
        by_cases hlt : k < l.length
        · obtain ⟨⟨s, q⟩, hs⟩ : ∃ s, l[k]? = some s := ⟨_, List.getElem?_eq_getElem hlt⟩
          obtain ⟨g, off, rfl, hg, h1, h2⟩ := lsp_at H2.out hs
          have HS := Lib.hid hs
          have HF := Lib.hid (show findZ L s = if q = p then 0 else q by
            have h := find_less (idx_ris HI.out) (List.mem_of_getElem? hs) p
            have hi := idx_less p HI.out
            rw [← HLL.out] at h hi
            simpa [findZ, hi] using h)
          clear hs
          have hi1 : (k : Int) < (l.length : Int) := by omega
          by_cases e : q = p
          · subst e
            have HY := Lib.hid (lessL_no (p := q) HS.out rfl)
            have HF2 := Lib.hid (show findZ L s = 0 by rw [HF.out, if_pos rfl])
            go_wp2_with fail
            refine (indexFind_any wr _ L s H3.out (by omega)).mono ?_
            rw [HF2.out]
            rintro e w6 ⟨rfl, hb⟩
            have H26 := Lib.hid (lsp_next H2.out hb)
            have H36 := Lib.hid (lsp_next H3.out hb)
            have H46 := Lib.hid (bel2 H4.out hb)
            clear hb
            go_wp2
            go_roundw
            case rel => exact ⟨k + 1, by omega, by rw [HY.out], by go_num, H26.out, H36.out, H46.out⟩
            case measure => simp [intOf]; omega
          · have hne : (q == p) = false := beq_eq_false_iff_ne.2 e
            have HY := Lib.hid (lessL_yes (p := p) HS.out e)
            have HF2 := Lib.hid (show findZ L s = q by rw [HF.out, if_neg e])
            clear e
            obtain ⟨m, hm⟩ : ∃ m, (lessL p (l.take k)).length = m := ⟨_, rfl⟩
            have hm2 := HM.out
            rw [hm] at hm2 ⊢
            go_wp2_with fail
            refine (indexFind_any wr _ L s H3.out (by omega)).mono ?_
            rw [HF2.out]
            rintro e w6 ⟨rfl, hb⟩
            have H26 := Lib.hid (lsp_next H2.out hb)
            have H36 := Lib.hid (lsp_next H3.out hb)
            have H46 := Lib.hid (bel2 H4.out hb)
            clear hb
            go_wp2
            go_roundw
            case rel => exact ⟨k + 1, by omega, by rw [HY.out, List.length_append, hm]; go_num, by go_num, H26.out, H36.out, H46.out⟩
            case measure => simp [intOf]; omega
        · obtain rfl : k = l.length := by omega
          have hlen2 : (lessL p (l.take l.length)).length = L.length := by rw [List.take_of_length_le (Nat.le_refl _), HLL.out]
          have HQ1 := Lib.hid (show lessZ p L = L by rw [HLL.out, lessZ_ok _ (idx_less p HI.out), less_again])
          have HQ2 := Lib.hid (show idxB L = true by rw [HLL.out]; exact idx_less p HI.out)
          rw [hlen2]
          go_wp2_with fail
          refine (indexLess_any wr _ L p H3.out (by omega)).mono ?_
          rw [HQ1.out]
          rintro e w6 ⟨v6, rfl, ho, hb⟩
          have HO6 := Lib.hid (lsp_of_own ho)
          have H36 := Lib.hid (lsp_next H3.out hb)
          have H46 := Lib.hid (bel2 H4.out hb)
          clear ho hb
          go_wp2_with fail
          refine (ldIndex_any w6 v6 _ _ _ HO6.out H36.out (by omega)).mono ?_
          rintro e w7 ⟨rfl, n7, rfl⟩
          rw [show decide (L = L) = true by simp]
          have H37 := Lib.hid (lsp_drewN H36.out n7)
          go_wp2_with fail
          refine (indexOk_any (w6.drewN n7) _ L H37.out (by omega)).mono ?_
          rw [HQ2.out]
          rintro e w8 ⟨rfl, hb⟩
          have H48 := Lib.hid (bel2 (below_drewN H46.out n7) hb)
          clear hb
          go_wp2
          go_ret
          exact ⟨rfl, H48.out⟩
  · go_enter Try.func9, Try.ntmps9
    go_wp2
    go_ret
    exact ⟨rfl, Below.refl _ _⟩
end
end Go.Proofs.Ytfoocgfedcfkhaa
