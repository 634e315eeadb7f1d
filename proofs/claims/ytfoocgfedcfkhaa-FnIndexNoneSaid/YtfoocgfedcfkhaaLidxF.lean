/- The laws of drawn indexes: without any pack nothing is found; without a pack just its names are gone. -/
import Derived.Test.YtfoocgfedcfkhaaLidxD
namespace Go.Proofs.Ytfoocgfedcfkhaa
open Go.RowKit
section
set_option maxHeartbeats 1600000
theorem lawFnIndexNone (a : Option Addr) (len cap : Nat) (zs : List Int) (w : World) (h : Code w a len cap zs) :
    Calls Try.prog 5 #[.slice a len cap] w fun e w' => e = .returned (.bool true) ∧ Below w.heap.size w w' := by
  by_cases hlen : len ≤ 1048576
  · go_enter Try.func5, Try.ntmps5
    go_wp2_with fail
    refine (drawIndexLess_any a len cap zs w h).mono ?_
    rintro e w1 ⟨v, l, p, rfl, hl, hn, ht, hp0, hp1, hb⟩
    have HL := Lib.hid hl
    have HT := Lib.hid ht
    have HB := Lib.hid hb
    obtain ⟨A, c, rfl⟩ := lsp_form hl
    clear hl ht hb h
    obtain ⟨L, hL⟩ : ∃ L, lessZ p l = L := ⟨_, rfl⟩
    have HZ := Lib.hid hL
    have hn2 : L.length ≤ 8 := by rw [← hL]; exact Nat.le_trans (lessZ_len p l) hn
    clear hL
    go_wp2_with fail
    refine (indexLess_any w1 _ l p HL.out (by omega)).mono ?_
    rw [HZ.out]
    rintro e w2 ⟨v2, rfl, ho, hb⟩
    have HX2 := Lib.hid (lsp_of_own ho)
    have HB2 := Lib.hid (bel2 HB.out hb)
    have HL2 := Lib.hid (lsp_next HL.out hb)
    obtain ⟨A2, c2, rfl⟩ := lsp_form HX2.out
    clear ho hb
    go_wp2_with fail
    refine (indexLessS_any w2 _ l p HL2.out (by omega)).mono ?_
    rw [HZ.out]
    rintro e w3 ⟨v3, rfl, ho, hb⟩
    have HB3 := Lib.hid (bel2 HB2.out hb)
    have HL3 := Lib.hid (lsp_next HL2.out hb)
    have HX3 := Lib.hid (lsp_next HX2.out hb)
    have HS3 := Lib.hid (lsp_of_own ho)
    clear ho hb
    go_wp2_with fail
    refine (ldIndex_any w3 _ v3 L L HX3.out HS3.out (by omega)).mono ?_
    rintro e w4 ⟨rfl, n4, rfl⟩
    rw [show decide (L = L) = true by simp]
    have HB4 := Lib.hid (below_drewN HB3.out n4)
    have HL4 := Lib.hid (lsp_drewN HL3.out n4)
    have HX4 := Lib.hid (lsp_drewN HX3.out n4)
    go_wp2_with fail
    refine (indexOkS_any (w3.drewN n4) _ l HL4.out (by omega)).mono ?_
    rintro e w5 ⟨rfl, hb⟩
    have HB5 := Lib.hid (bel2 HB4.out hb)
    have HL5 := Lib.hid (lsp_next HL4.out hb)
    have HX5 := Lib.hid (lsp_next HX4.out hb)
    clear hb
    cases hi : idxB l with
    | false =>
      have HI := Lib.hid hi
      clear hi
      go_wp2_with fail
      refine (indexLessS_any w5 _ l p HL5.out (by omega)).mono ?_
      rw [HZ.out]
      rintro e w6 ⟨v6, rfl, ho, hb⟩
      have HB6 := Lib.hid (bel2 HB5.out hb)
      have HX6 := Lib.hid (lsp_next HX5.out hb)
      have HS6 := Lib.hid (lsp_of_own ho)
      clear ho hb
      go_wp2_with fail
      refine (ldIndex_any w6 _ v6 L L HX6.out HS6.out (by omega)).mono ?_
      rintro e w7 ⟨rfl, n7, rfl⟩
      rw [show decide (L = L) = true by simp]
      go_wp2
      go_ret
      exact ⟨rfl, below_drewN HB6.out n7⟩
    | true =>
      have HI := Lib.hid hi
      have HLL := Lib.hid (show L = lessL p l by rw [← HZ.out, lessZ_ok p hi])
      clear hi
      go_wp2_with fail
      go_loopw [6, 7] (fun va i wr => ∃ (k : Nat) (B : Option Addr) (d : Nat), k ≤ 9 ∧ va = .slice B (lessTo l k).length d ∧ i = .int .i64 ((k : Int) + 1) ∧ Lsp wr wr.heap.size va (lessTo l k) ∧ Lsp wr wr.heap.size (.slice A l.length c) l ∧ Lsp wr wr.heap.size (.slice A2 L.length c2) L ∧ Below w.heap.size w wr) (fun _ i _ => 10 - (intOf i).toNat)
      case atStart => exact ⟨0, A, c, by omega, rfl, rfl, HL5.out, HL5.out, HX5.out, HB5.out⟩
      case round =>
        obtain ⟨k, B, d, hk, rfl, rfl, h1, h2, h3, h4⟩ := hrel
        have H1 := Lib.hid h1
        have H2 := Lib.hid h2
        have H3 := Lib.hid h3
        have H4 := Lib.hid h4
        clear h1 h2 h3 h4
        have HM := Lib.hid (lessTo_len (l := l) k)
        by_cases hlt : k < 9
        · have HE := Lib.hid (show lessZ ((k : Int) + 1) (lessTo l k) = lessTo l (k + 1) from lessZ_ok _ (lessTo_idx HI.out k))
          have hi1 : (k : Int) + 1 ≤ 9 := by omega
          go_wp2_with fail
          refine (indexLess_any wr _ (lessTo l k) ((k : Int) + 1) H1.out (by have := HM.out; omega)).mono ?_
          rw [HE.out]
          rintro e w6 ⟨v6, rfl, ho, hb⟩
          have HO6 := Lib.hid (lsp_of_own ho)
          obtain ⟨B6, d6, rfl⟩ := lsp_form HO6.out
          have H26 := Lib.hid (lsp_next H2.out hb)
          have H36 := Lib.hid (lsp_next H3.out hb)
          have H46 := Lib.hid (bel2 H4.out hb)
          clear ho hb
          go_wp2
          go_roundw
          case rel => exact ⟨k + 1, B6, d6, by omega, rfl, by go_num, HO6.out, H26.out, H36.out, H46.out⟩
          case measure => simp [intOf]; omega
        · obtain rfl : k = 9 := by omega
          have h9 : (lessTo l 9).length = 0 := by rw [lessTo_nine HI.out HT.out]; rfl
          have HQ1 := Lib.hid (show lessZ 1 l = lessL 1 l from lessZ_ok _ HI.out)
          have HQ2 := Lib.hid (show lessZ p (lessL 1 l) = lessL p (lessL 1 l) from lessZ_ok _ (idx_less 1 HI.out))
          have HQ3 := Lib.hid (show lessZ 1 L = lessL p (lessL 1 l) by rw [HLL.out, lessZ_ok _ (idx_less p HI.out), less_comm])
          rw [h9]
          go_wp2_with fail
          refine (indexLess_any wr _ l 1 H2.out (by omega)).mono ?_
          rw [HQ1.out]
          rintro e w6 ⟨v6, rfl, ho, hb⟩
          have HO6 := Lib.hid (lsp_of_own ho)
          have H36 := Lib.hid (lsp_next H3.out hb)
          have H46 := Lib.hid (bel2 H4.out hb)
          clear ho hb
          have hm1 := lessL_len0 1 l
          go_wp2_with fail
          refine (indexLess_any w6 _ (lessL 1 l) p HO6.out (by omega)).mono ?_
          rw [HQ2.out]
          rintro e w7 ⟨v7, rfl, ho, hb⟩
          have HO7 := Lib.hid (lsp_of_own ho)
          have H37 := Lib.hid (lsp_next H36.out hb)
          have H47 := Lib.hid (bel2 H46.out hb)
          clear ho hb
          have hm2 := lessL_len0 p (lessL 1 l)
          go_wp2_with fail
          refine (indexLess_any w7 _ L 1 H37.out (by omega)).mono ?_
          rw [HQ3.out]
          rintro e w8 ⟨v8, rfl, ho, hb⟩
          have HO8 := Lib.hid (lsp_of_own ho)
          have HO78 := Lib.hid (lsp_next HO7.out hb)
          have H48 := Lib.hid (bel2 H47.out hb)
          clear ho hb
          go_wp2_with fail
          refine (ldIndex_any w8 _ v8 _ _ HO78.out HO8.out (by omega)).mono ?_
          rintro e w9 ⟨rfl, n9, rfl⟩
          rw [show decide (lessL p (lessL 1 l) = lessL p (lessL 1 l)) = true by simp]
          go_wp2
          go_ret
          exact ⟨rfl, below_drewN H48.out n9⟩
  · go_enter Try.func5, Try.ntmps5
    go_wp2
    go_ret
    exact ⟨rfl, Below.refl _ _⟩
end
end Go.Proofs.Ytfoocgfedcfkhaa
