/- The walks of laws on a text's rest and on what comes behind a text: each returns true. -/
import Derived.Test.YtpfhpmeefeodcaaLcutC
namespace Go.Proofs.Ytpfhpmeefeodcaa
open Go.RowKit
theorem lst_cap {w : World} {B n c : Nat} {A : Option Addr} {xs : List Value} (h : Lst w B (.slice A n c) xs) : n = xs.length ∧ xs.length ≤ c := by
  obtain ⟨A', c', hv, hc, _⟩ := h
  cases hv
  exact ⟨rfl, hc⟩
theorem lst_take {w : World} {B n c k : Nat} {A : Option Addr} {l : List ByteArray} (h : Lst w B (.slice A n c) (barVals l)) (hk : k ≤ n) : Lst w B (.slice A k c) (barVals (l.take k)) := by
  obtain ⟨A', c', hv, hc, hx⟩ := h
  cases hv
  rw [barVals_length] at hk hc hx
  have hlen : (barVals (l.take k)).length = k := by rw [barVals_length, List.length_take]; omega
  refine ⟨A, c, by rw [hlen], by omega, fun h0 => ?_⟩
  rw [hlen] at h0
  obtain ⟨g, off, hA, hg, hcell⟩ := hx (by omega)
  refine ⟨g, off, hA, hg, fun j x hj => hcell j x ?_⟩
  have hjk : j < k := by have := (List.getElem?_eq_some_iff.1 hj).1; omega
  rw [barVals, List.getElem?_map, List.getElem?_take, if_pos hjk] at hj
  rw [barVals, List.getElem?_map]; exact hj
def Quick (s : ByteArray) : Prop := s.size ≤ 16 ∧ lets s.data.toList = true
section
set_option maxHeartbeats 1000000
theorem ldText_any (n : Int) (hn : 0 ≤ n) (hn2 : n ≤ 2000000) (w : World) : Calls Try.prog 43 #[.int .i64 n] w fun e w' => (∃ s : ByteArray, e = .returned (.string s) ∧ Quick s) ∧ Below w.heap.size w w' := by
  obtain ⟨j, hj⟩ : ∃ j : Nat, n % 7 = (j : Int) := ⟨(n % 7).toNat, by omega⟩
  have hj7 : j < 7 := by omega
  obtain ⟨s, hq, hc⟩ := lit_cells w #[.string ⟨#[]⟩, .string ⟨#[97]⟩, .string ⟨#[104, 101, 108, 108, 111]⟩, .string ⟨#[97, 98, 99, 97, 98, 99, 97, 98, 99, 97, 98, 99]⟩, .string ⟨#[107, 101, 101, 112, 116, 104, 105, 115, 111, 110, 101]⟩, .string ⟨#[122, 122, 122, 122, 122, 122, 122, 122, 122, 122, 122, 122, 122, 122, 122, 122]⟩, .string ⟨#[116, 104, 101, 113, 117, 105, 99, 107, 98, 114, 111, 119, 110, 102, 111, 120]⟩] 9 Quick (by
    intro v hv; simp at hv
    rcases hv with rfl | rfl | rfl | rfl | rfl | rfl | rfl <;> exact ⟨_, rfl, by unfold Quick; decide⟩) j hj7
  have HQ := Lib.hid hq
  have hj8 : (j : Int) < 7 := by omega
  clear hq
  go_enter Try.func43, Try.ntmps43
  go_wp2
  go_ret
  exact ⟨⟨s, rfl, HQ.out⟩, (Below.refl _ _).alloc (Nat.le_refl _) _⟩
theorem ldTexts_is (w : World) (B : Nat) (va vb : Value) (la lb : List ByteArray) (ha : Lst w B va (barVals la)) (hb : Lst w B vb (barVals lb)) (hm : la.length ≤ 1000000000) (h : la = lb) :
    Calls Try.prog 42 #[va, vb] w fun e w' => e = .returned (.bool true) ∧ ∃ n, w' = w.drewN n := by
  subst h
  refine (ldTexts_any w B va vb la la ha hb hm hm).mono ?_
  rintro e w' ⟨rfl, n, rfl⟩
  exact ⟨by rw [dec_self], n, rfl⟩
theorem lawFnCutAhead (a : Option Addr) (len cap : Nat) (zs : List Int) (a1 : Option Addr) (len1 cap1 : Nat) (zs1 : List Int) (w : World) (h : Code w a len cap zs) (_ : Code w a1 len1 cap1 zs1) :
    Calls Try.prog 11 #[.slice a len cap, .slice a1 len1 cap1] w fun e w' => e = .returned (.bool true) ∧ Below w.heap.size w w' := by
  by_cases hl : len ≤ 1048576
  · by_cases hl1 : len1 ≤ 1048576
    · go_enter Try.func11, Try.ntmps11
      go_wp2_with fail
      refine (drawCutAll_any a len cap zs w h).mono ?_
      rintro e w1 ⟨s, rfl, hs, hb⟩
      have HB := Lib.hid hb
      have HM := Lib.hid (maxLen_of (show s.size ≤ 1000000000 by omega))
      clear hb h
      have hel : (piecesZ s.data.toList).length ≤ 40 := by rw [piecesZ_len]; exact endsZ_len _
      go_wp2_with fail
      refine (cutAll_any s _ (HM.out)).mono ?_
      intro e w2 hg
      obtain ⟨v2, rfl, hlst, hb⟩ := gave_lst hg
      obtain ⟨A, c, rfl⟩ := lst_form hlst
      rw [strVals_length] at *
      rw [strVals_bars] at hlst
      have HL2 := Lib.hid hlst
      have HB2 := Lib.hid hb
      clear hg hlst hb
      go_wp2_with fail
      refine (ldText_any (len1 : Int) (by omega) (by omega) _).mono ?_
      rintro e w3 ⟨⟨x, rfl, hx16, hxl⟩, hb⟩
      have HX := Lib.hid hxl
      have HB3 := Lib.hid hb
      clear hb hxl
      go_wp2_with fail
      refine (cutAllS_any s _ (HM.out)).mono ?_
      intro e w4 hg
      obtain ⟨v4, rfl, hlst, hb⟩ := gave_lst hg
      rw [strVals_bars] at hlst
      have HL4 := Lib.hid hlst
      have HB4 := Lib.hid hb
      clear hg hlst hb
      have HLa := Lib.hid (lst_next (lst_next HL2.out HB3.out) HB4.out)
      have HBa := Lib.hid (bel_trans (bel_trans (bel_trans HB.out HB2.out) HB3.out) HB4.out)
      go_wp2_with fail
      refine (ldTexts_is _ w4.heap.size _ _ _ _ HLa.out HL4.out (by rw [bars_length]; omega) rfl).mono ?_
      rintro e w' ⟨rfl, nd4, rfl⟩
      by_cases hgo : 0 < (piecesZ s.data.toList).length ∧ s.size + x.size ≤ 40
      · obtain ⟨hn, h40⟩ := hgo
        have ht : textB s.data.toList = true := by
          cases ht : textB s.data.toList with
          | true => rfl
          | false => rw [piecesZ_no ht] at hn; simp at hn
        have hsz : (s ++ x).size = s.size + x.size := by simp
        have ht2 : textB (s ++ x).data.toList = true := by
          simp only [textB, Bool.and_eq_true, decide_eq_true_eq, size_int]
          exact ⟨by omega, by rw [data_app, lets_append, (textB_parts ht).2, HX.out]; rfl⟩
        obtain ⟨ha1, ha2⟩ := pieces_ahead s.data.toList x.data.toList 0
        have HAh : Hid ((bars (piecesZ (s ++ x).data.toList)).take ((piecesZ s.data.toList).length - 1) = (bars (piecesZ s.data.toList)).take ((piecesZ s.data.toList).length - 1)) := by
          rw [piecesZ_yes ht, piecesZ_yes ht2, pieces_length, bars, bars, ← List.map_take, ← List.map_take, data_app]
          exact congrArg _ ha1
        have hge : (piecesZ s.data.toList).length ≤ (piecesZ (s ++ x).data.toList).length := by
          rw [piecesZ_yes ht, piecesZ_yes ht2, pieces_length, pieces_length, data_app]; exact ha2
        have hm40 : (piecesZ (s ++ x).data.toList).length ≤ 40 := by rw [piecesZ_len]; exact endsZ_len _
        have HM2 := Lib.hid (maxLen_of (show (s ++ x).size ≤ 1000000000 by omega))
        have HN := Lib.hid (bars_length (piecesZ s.data.toList))
        have HN2 := Lib.hid (bars_length (piecesZ (s ++ x).data.toList))
        clear ha1 ha2 ht ht2
        generalize hNq : (piecesZ s.data.toList).length = N at *
        have HNq := Lib.hid hNq
        clear hNq
        obtain ⟨q, rfl⟩ : ∃ q, N = q + 1 := ⟨N - 1, by omega⟩
        have HAh2 : Hid ((bars (piecesZ (s ++ x).data.toList)).take q = (bars (piecesZ s.data.toList)).take q) := HAh.out
        clear hn HAh
        have hb0 : ((q : Int) + 1 == 0) = false := beq_eq_false_iff_ne.2 (by omega)
        have hb1 : (s.size : Int) + (x.size : Int) ≤ 40 := by omega
        clear hsz
        go_wp2_with fail
        refine (cutAll_any (s ++ x) _ (HM2.out)).mono ?_
        intro e w5 hg
        obtain ⟨v5, rfl, hlst, hb⟩ := gave_lst hg
        obtain ⟨A5, c5, rfl⟩ := lst_form hlst
        rw [strVals_length] at *
        rw [strVals_bars] at hlst
        have HL5 := Lib.hid hlst
        have HB5 := Lib.hid (bel_drew hb)
        clear hg hlst hb
        generalize hm2 : (piecesZ (s ++ x).data.toList).length = m2 at *
        have HM3 := Lib.hid hm2
        clear hm2
        have hc1 := (lst_cap HLa.out).2
        have hc2 := (lst_cap HL5.out).2
        rw [barVals_length, HN.out] at hc1
        rw [barVals_length, HN2.out] at hc2
        have hgd : decide ((q : Int) + 1 ≤ (m2 : Int)) = true := decide_eq_true (by omega)
        have hw1 : IntKind.i64.wrap ((q : Int) + 1 - 1) = (q : Int) := by rw [IntWalk.i64_in _ (by omega)]; omega
        have hw2 : IntKind.i64.wrap (q : Int) = (q : Int) := IntWalk.i64_in _ (by omega)
        have hq1 : (q : Int) ≤ (c : Int) := by omega
        have hq2 : (q : Int) ≤ (c5 : Int) := by omega
        have hq3 : q ≤ c := by omega
        have hq4 : q ≤ c5 := by omega
        have HLm := Lib.hid (lst_take (k := q) HL5.out (by omega))
        have HLl := Lib.hid (lst_take (k := q) (lst_next HLa.out HB5.out) (by omega))
        have HLen := Lib.hid (show ((bars (piecesZ (s ++ x).data.toList)).take q).length ≤ 1000000000 by rw [List.length_take]; omega)
        go_wp2_with fail
        go_quiet ((go_at_call 42; exact Calls.quiet_of (ldTexts_is _ w5.heap.size _ _ _ _ HLm.out HLl.out HLen.out HAh2.out)))
        go_wp2
        go_ret
        exact ⟨by first | rfl | exact ret_bool (by simp), below_drewN (bel_trans HBa.out HB5.out) _⟩
      · have HN := Lib.hid (bars_length (piecesZ s.data.toList))
        generalize (piecesZ s.data.toList).length = n at *
        have hor : n = 0 ∨ (0 < n ∧ 40 < s.size + x.size) := by omega
        clear hgo
        rcases hor with h0 | ⟨h0, h1⟩
        · have hb0 : ((n : Int) == 0) = true := beq_iff_eq.2 (by omega)
          clear h0
          go_wp2_with fail
          refine (cutAllS_any s _ (HM.out)).mono ?_
          intro e w5 hg
          obtain ⟨v5, rfl, hlst, hb⟩ := gave_lst hg
          rw [strVals_bars] at hlst
          have HL5 := Lib.hid hlst
          have HB5 := Lib.hid (bel_drew hb)
          clear hg hlst hb
          go_wp2_with fail
          refine (ldTexts_is _ w5.heap.size _ _ _ _ (lst_next HLa.out HB5.out) HL5.out (by rw [HN.out]; omega) rfl).mono ?_
          rintro e w' ⟨rfl, nd5, rfl⟩
          go_wp2
          go_ret
          exact ⟨rfl, below_drewN (bel_trans HBa.out HB5.out) _⟩
        · have hb0 : ((n : Int) == 0) = false := beq_eq_false_iff_ne.2 (by omega)
          have hb1 : (40 : Int) < (s.size : Int) + (x.size : Int) := by omega
          go_wp2_with fail
          refine (cutAllS_any s _ (HM.out)).mono ?_
          intro e w5 hg
          obtain ⟨v5, rfl, hlst, hb⟩ := gave_lst hg
          rw [strVals_bars] at hlst
          have HL5 := Lib.hid hlst
          have HB5 := Lib.hid (bel_drew hb)
          clear hg hlst hb
          go_wp2_with fail
          refine (ldTexts_is _ w5.heap.size _ _ _ _ (lst_next HLa.out HB5.out) HL5.out (by rw [HN.out]; omega) rfl).mono ?_
          rintro e w' ⟨rfl, nd5, rfl⟩
          go_wp2
          go_ret
          exact ⟨rfl, below_drewN (bel_trans HBa.out HB5.out) _⟩
    · go_enter Try.func11, Try.ntmps11
      go_wp2
      go_ret
      exact ⟨rfl, Below.refl _ _⟩
  · go_enter Try.func11, Try.ntmps11
    go_wp2
    go_ret
    exact ⟨rfl, Below.refl _ _⟩
end
end Go.Proofs.Ytpfhpmeefeodcaa
