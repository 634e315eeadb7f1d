/- The law of a pack made of pieces in whatever order. -/
import Derived.Test.YtkjginibdablnaaDoorDrawMake
import Derived.Test.YtkjginibdablnaaDoorMkLaw
import Derived.Test.YtkjginibdablnaaDoorImplMk
import Derived.Test.YtkjginibdablnaaDoorLdPack
import Derived.Deep.RegionHeld3
namespace Go.Proofs.YtkjginibdablnaaDoor
open Go.RowKit
section
set_option maxHeartbeats 3200000
set_option maxRecDepth 100000
theorem lawFnPackOrder (a : Option Addr) (len cap : Nat) (zs : List Int) (w : World) (h : Code w a len cap zs) (a0 a1 : Addr) (he : Errs w a0 a1) :
    Calls Tryd.prog 9 #[.slice a len cap] w fun e w' => e = .returned (.bool true) ∧ Below w.heap.size w w' := by
  have HE := Lib.hid he
  clear he
  by_cases hlen : len ≤ 1048576
  · go_enter Tryd.func9, Tryd.ntmps9
    go_wp2_with fail
    refine (drawPackMake_any a len cap zs w h).mono ?_
    rintro e w1 ⟨no, key, v, ps, rfl, hl, hno0, hno1, hk0, hk1, hps, hsz, hb⟩
    obtain ⟨A, c, hv⟩ := lst_form hl
    subst hv
    rw [barVals_length] at *
    obtain ⟨n, hn⟩ : ∃ n, ps.length = n := ⟨_, rfl⟩
    have HN := Lib.hid hn
    rw [hn] at hl hps ⊢
    have HSZ := Lib.hid (show ∀ s ∈ ps, s.size ≤ maxLen from fun s hs => by have := hsz s hs; unfold maxLen; omega)
    have HL1 := Lib.hid hl
    have HB1 := Lib.hid hb
    obtain ⟨mb, hmb⟩ : ∃ x, madeB no key ps = x := ⟨_, rfl⟩
    obtain ⟨mn, hmn⟩ : ∃ x, madeN no key ps = x := ⟨_, rfl⟩
    obtain ⟨ml, hml⟩ : ∃ x, madeI no key ps = x := ⟨_, rfl⟩
    have HMS := Lib.hid (packMakeS_any no key _ ps w1 HL1.out (by rw [HN.out]; omega) HSZ.out)
    have HMM := Lib.hid (fun (X : World) (hX : Below w1.heap.size w1 X) => packMake_any no key _ ps X a0 a1 (HE.out.below (bel2 HB1.out hX)) (lst_next HL1.out hX) (by rw [HN.out]; omega) HSZ.out)
    unfold Made at HMS HMM
    rw [hmb, hmn, hml] at HMS
    simp only [hmb, hmn, hml] at HMM
    obtain ⟨m, hm⟩ : ∃ m, ml.length = m := ⟨_, rfl⟩
    have hm9 : m ≤ 5 := by rw [← hm, ← hml]; exact Nat.le_trans (madeI_le no key ps) (by rw [HN.out]; exact hps)
    have HM := Lib.hid hm
    have HMF := Lib.hid (And.intro hmb (And.intro hmn hml))
    clear h hl hn hsz hb hmb hmn hml hm
    go_wp2_with fail
    refine HMS.out.mono ?_
    rintro e w2 ⟨⟨v2, rfl, ho2⟩, hb2⟩
    obtain ⟨A2, c2, hv2⟩ := own_formP ho2
    subst hv2
    rw [ivals_length, HM.out] at ho2 ⊢
    obtain ⟨W3, hW3⟩ : ∃ X, X = w2.alloc (.cells #[.int .i64 mn, .slice A2 m c2] 29) := ⟨_, rfl⟩
    have hb3 : Below w2.heap.size w2 W3 := by rw [hW3]; exact (Below.refl _ _).alloc (Nat.le_refl _) _
    have HT3 := Lib.hid (show Two W3 w2.heap.size 29 (.int .i64 mn) (.slice A2 m c2) by rw [hW3]; exact two_new _ _ _ _)
    have HL3 := Lib.hid (lp_next (lp_of_own ho2) hb3)
    have HB3 := Lib.hid (bel2 hb2 hb3)
    have HW3 := Lib.hid hW3
    obtain ⟨b6, hb6⟩ : ∃ b, w2.heap.size = b := ⟨_, rfl⟩
    clear ho2 hb2 hb3 hW3 HMS
    go_wp2_with fail
    rw [← HW3.out]
    rw [hb6] at HT3
    clear HW3 hb6
    refine (HMM.out W3 HB3.out).mono ?_
    rintro e w4 ⟨⟨v4, rfl, ho4⟩, hb4⟩
    obtain ⟨A4, c4, hv4⟩ := own_formP ho4
    subst hv4
    rw [ivals_length, HM.out] at ho4 ⊢
    obtain ⟨W5, hW5⟩ : ∃ X, X = w4.alloc (.cells #[.int .i64 mn, .slice A4 m c4] 29) := ⟨_, rfl⟩
    have hb5 : Below w4.heap.size w4 W5 := by rw [hW5]; exact (Below.refl _ _).alloc (Nat.le_refl _) _
    have HT5 := Lib.hid (show Two W5 w4.heap.size 29 (.int .i64 mn) (.slice A4 m c4) by rw [hW5]; exact two_new _ _ _ _)
    have HP5 := Lib.hid (lp_next (lp_of_own ho4) hb5)
    have HB35 := Lib.hid (bel2 hb4 hb5)
    have HL5 := Lib.hid (lp_next HL3.out HB35.out)
    have ht3 := HT3.out.keep (grown_of_bel hb4 none) (by simp)
    have HT35 := Lib.hid (HT3.out.keep (grown_of_bel HB35.out none) (by simp))
    have HB5 := Lib.hid (bel2 HB1.out (bel2 HB3.out HB35.out))
    have q0 := cell_alI ht3.c0 (.cells #[.int .i64 mn, .slice A4 m c4] 29)
    have q1 := cell_alI ht3.c1 (.cells #[.int .i64 mn, .slice A4 m c4] 29)
    have HW5 := Lib.hid hW5
    clear ho4 hb4 hb5 hW5 ht3 HT3 HL3
    go_wp2_with fail
    rw [← HW5.out]
    refine (ldPack_any W5 mn mn _ _ ml ml HP5.out HL5.out (by rw [HM.out]; omega)).mono ?_
    rw [show decide (mn = mn ∧ ml = ml) = true by simp]
    rintro e w6 ⟨rfl, hb6⟩
    obtain ⟨b8, hb8⟩ : ∃ b, w4.heap.size = b := ⟨_, rfl⟩
    rw [hb8] at HT5 ⊢
    have HB56 := Lib.hid (bel2 HB35.out hb6)
    have HB6 := Lib.hid (bel2 HB5.out hb6)
    have HT6 := Lib.hid (HT5.out.keep (grown_of_bel hb6 none) (by simp))
    have HT36 := Lib.hid (HT35.out.keep (grown_of_bel hb6 none) (by simp))
    have HP6 := Lib.hid (lp_next HP5.out hb6)
    have HL6 := Lib.hid (lp_next HL5.out hb6)
    have HPS := Lib.hid (lst_next HL1.out (bel2 HB3.out HB56.out))
    have HE6 := Lib.hid (HE.out.below HB6.out)
    clear q0 q1 hb6 hb8 HW5 HMM HT5 HT35 HP5 HL5 HB35 HB56 HB5 HB3 HL1 HB1
    cases mb with
    | false =>
      have p0 := HT6.out.c0
      have p1 := HT6.out.c1
      have q0 := HT36.out.c0
      have q1 := HT36.out.c1
      go_wp2_with fail
      refine (ldPack_any w6 mn mn _ _ ml ml HP6.out HL6.out (by rw [HM.out]; omega)).mono ?_
      rw [show decide (mn = mn ∧ ml = ml) = true by simp]
      rintro e w7 ⟨rfl, hb7⟩
      have HB7 := Lib.hid (bel2 HB6.out hb7)
      clear hb7
      go_wp2
      go_ret
      exact ⟨rfl, HB7.out⟩
    | true =>
      have HMO := Lib.hid (show MadeOf no key ps ml by have h := (made_of HMF.out.1).1; rwa [HMF.out.2.2] at h)
      obtain rfl : mn = no := HMF.out.2.1.symm.trans (made_of HMF.out.1).2
      have HNM := Lib.hid (show n = m by have h := HMO.out.len; rw [HM.out, HN.out] at h; exact h.symm)
      have hn4 : 1 ≤ n ∧ n ≤ 4 := by have h := HMO.out.len4; rw [HN.out] at h; exact h
      have HSt := Lib.hid (fun (X : World) (hX : Below w6.heap.size w6 X) => show X.cell? ⟨b8, 0, none⟩ = some (.int .i64 mn) ∧ X.cell? ⟨b8, 1, none⟩ = some (.slice A4 m c4) from
        ⟨(HT6.out.keep (grown_of_bel hX none) (by simp)).c0, (HT6.out.keep (grown_of_bel hX none) (by simp)).c1⟩)
      have HOK := Lib.hid (fun (o : Int) (X : World) (hX : Below w6.heap.size w6 X) => packOk_any o mn _ ml X a0 a1 (HE6.out.below hX) (lp_next HP6.out hX) (by rw [HM.out]; omega) HMO.out.sizes)
      have HGT := Lib.hid (fun (o name : Int) (X : World) (hX : Below w6.heap.size w6 X) => packGet_any o mn name _ ml X a0 a1 (HE6.out.below hX) (lp_next HP6.out hX) (by rw [HM.out]; omega) HMO.out.sizes)
      have HB66 := Lib.hid (Below.refl w6.heap.size w6)
      clear HT36 HL6
      have hm1 : (0 : Int) ≤ (n : Int) := by omega
      obtain ⟨i0, hi, hz0, hz1, hz2⟩ := info_parts infoStr
      obtain ⟨W7, hW7⟩ : ∃ X, X = w6.alloc (.cells #[] 9) := ⟨_, rfl⟩
      have HB7 := Lib.hid (show Below w6.heap.size w6 W7 by rw [hW7]; exact (Below.refl _ _).alloc (Nat.le_refl _) _)
      have HE7 := Lib.hid (show W7.ownsRow w6.heap.size 9 1 (.slice (some ⟨w6.heap.size, 0, none⟩) 0 0) 0 [] by rw [hW7]; exact World.ownsRow_lit w6 #[] 0 (Nat.le_refl _) (by unfold maxLen; omega) rfl)
      have HS7 := Lib.hid HB7.out.size
      have HW7 := Lib.hid hW7
      clear hW7
      have HBK := Lib.hid (MadeOf.back HMF.out.1 (List.reverse_perm ps))
      go_wp2_with fail
      rw [← HW7.out]
      go_loopw [10, 11] (fun o i wr => ∃ j : Nat, j ≤ n ∧ i = .int .i64 ((j : Int) - 1) ∧ wr.ownsRow w6.heap.size 9 1 o (n - j) (barVals (ps.drop j).reverse) ∧ Below w6.heap.size w6 wr) (fun _ i _ => (intOf i + 1).toNat)
      case atStart => exact ⟨n, Nat.le_refl _, rfl, by rw [Nat.sub_self, List.drop_of_length_le (by rw [HN.out]; exact Nat.le_refl _)]; exact HE7.out, HB7.out⟩
      case round =>
        obtain ⟨j, hj, rfl, ho, hbr⟩ := hrel
        have HO := Lib.hid ho
        have HBr := Lib.hid hbr
        clear ho hbr
        rcases Nat.eq_zero_or_pos j with h0 | h0
        · have hj0 : (j : Int) - 1 = -1 := by omega
          have HJ := Lib.hid h0
          clear h0
          have HOB := Lib.hid (show Lst wr wr.heap.size _ (barVals ps.reverse) by
            have h := lst_of_own HO.out
            rw [HJ.out, List.drop_zero] at h
            exact h)
          obtain ⟨A8, c8, hv8⟩ := lst_form HOB.out
          rw [barVals_length, List.length_reverse, HN.out] at hv8
          subst hv8
          have HMK := Lib.hid (packMake_any mn key _ ps.reverse wr a0 a1 (HE6.out.below HBr.out) HOB.out (by rw [List.length_reverse, HN.out]; omega) (fun s hs => HSZ.out s (List.mem_reverse.1 hs)))
          unfold Made at HMK
          rw [HBK.out.1, HBK.out.2.1, HBK.out.2.2, HMF.out.2.1, HMF.out.2.2] at HMK
          go_wp2_with fail
          refine HMK.out.mono ?_
          rintro e w9 ⟨⟨v9, rfl, ho9⟩, hb9⟩
          obtain ⟨A9, c9, hv9⟩ := own_formP ho9
          subst hv9
          rw [ivals_length, HM.out] at ho9 ⊢
          obtain ⟨X, hX⟩ : ∃ X, X = w9.alloc (.cells #[.int .i64 mn, .slice A9 m c9] 29) := ⟨_, rfl⟩
          have hbX : Below w9.heap.size w9 X := by rw [hX]; exact (Below.refl _ _).alloc (Nat.le_refl _) _
          have HPX := Lib.hid (lp_next (lp_of_own ho9) hbX)
          have HBX := Lib.hid (bel2 (bel2 HBr.out hb9) hbX)
          obtain ⟨r0, r1⟩ := HSt.out w9 (bel2 HBr.out hb9)
          have q0 := cell_alI r0 (.cells #[.int .i64 mn, .slice A9 m c9] 29)
          have q1 := cell_alI r1 (.cells #[.int .i64 mn, .slice A9 m c9] 29)
          have HXE := Lib.hid hX
          clear ho9 hb9 hbX hX r0 r1
          go_wp2_with fail
          rw [← HXE.out]
          refine (ldPack_any X mn mn _ _ ml ml HPX.out (lp_next HP6.out HBX.out) (by rw [HM.out]; omega)).mono ?_
          rw [show decide (mn = mn ∧ ml = ml) = true by simp]
          rintro e w10 ⟨rfl, hb10⟩
          have HB10 := Lib.hid (bel2 HB6.out (bel2 HBX.out hb10))
          clear hb10
          go_wp2
          go_ret
          exact ⟨rfl, HB10.out⟩
        · obtain ⟨i, hi1⟩ : ∃ i, i + 1 = j := ⟨j - 1, by omega⟩
          obtain ⟨s, hsk⟩ : ∃ s, ps[i]? = some s := ⟨_, List.getElem?_eq_getElem (by have := HN.out; omega)⟩
          obtain ⟨g, off, hA, hg, c1⟩ := lst_at HPS.out (barVals_get ps i s hsk)
          subst hA
          have hc1 := (HBr.out.cell (p := ⟨g, off + i, none⟩) hg).trans c1
          have hji : (j : Int) - 1 = (i : Int) := by omega
          have hi0 : (0 : Int) ≤ (i : Int) := by omega
          have hin : (i : Int) < (n : Int) := by omega
          have hnj : n - j ≤ 5 := by omega
          have HJ := Lib.hid (show barVals (ps.drop i).reverse = barVals (ps.drop j).reverse ++ [.string s] ∧ n - i = (n - j) + 1 from by
            refine ⟨?_, by omega⟩
            rw [← hi1, List.drop_eq_getElem_cons (by have := HN.out; omega), List.reverse_cons, barVals_append, (List.getElem?_eq_some_iff.1 hsk).2]
            rfl)
          have HJI := Lib.hid hi1
          clear hsk hg c1 h0 hi1
          go_wp2_with (at_builtin; go_must (refine wpList_append_own _ rfl _ _ 50 rfl w6.heap.size 9 i0 (.string ByteArray.empty) 1 16 Tryd.underlying50 hi hz0 hz1 hz2 rfl (by decide) _ _ _ rfl (own_alloc HO.out _) _ 1 1 [.string s] rfl rfl (cell_one_new _ _ _) (by simp [Value.oneCell']) (by unfold maxLen; omega) (by omega) (by have := HBr.out.size; simp; omega) ?_); intro v1 w8 hown' hgrow _; have HO8 := Lib.hid hown'; have HG8 := Lib.hid hgrow; clear hown' hgrow)
          have HA := Lib.hid (HBr.out.alloc HBr.out.size (.cells #[.string s] 9))
          have HB8 := Lib.hid (bel_gb HA.out HG8.out (by have := HBr.out.size; simp; omega) (fun k hk => (HO.out.lt k hk).1))
          go_wp2
          go_roundw
          case rel => exact ⟨i, by have := HJI.out; omega, by first | rfl | (go_num), by rw [HJ.out.1, HJ.out.2]; exact HO8.out, HB8.out⟩
          case measure => simp [intOf]; have := HJI.out; omega
  · go_enter Tryd.func9, Tryd.ntmps9
    go_wp2_with fail
    go_ret
    exact ⟨rfl, Below.refl _ _⟩
end
end Go.Proofs.YtkjginibdablnaaDoor
