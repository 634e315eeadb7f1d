/- The exact law of PackMake. -/
import Derived.Test.YtkjginibdablnaaGreatDoorMkLaw
import Derived.Test.YtkjginibdablnaaGreatDoorImplMk
import Derived.Test.YtkjginibdablnaaGreatDoorPackV
import Derived.Test.YtkjginibdablnaaGreatDoorStrs
namespace Go.Proofs.YtkjginibdablnaaGreatDoor
open Go.RowKit
theorem madeI_leX (no key : Int) (ps : List ByteArray) : (madeI no key ps).length ≤ ps.length := madeI_le no key ps
theorem two_belX {w w' : World} {b : Nat} {T : TypeId} {x y : Value} (h : Two w b T x y) (hb : Below w.heap.size w w') : Two w' b T x y := (hb.block b h.lt).trans h
theorem gb_bel {B : Nat} {w w' : World} {v : Value} (hg : w.grownBy w' v.ownBlock) (hv : ∀ g, v.ownBlock = some g → B ≤ g) (hB : B ≤ w.heap.size) : Below B w w' :=
  ⟨hg.os, hg.tape, hg.output, hg.size, fun i hi => hg.block i (by omega) (fun e => by have := hv i e.symm; omega)⟩
theorem bulk_len {l : List ByteArray} {z : Nat} (h : bulk l ≤ z) : l.length ≤ z := by unfold bulk at h; omega
section
set_option maxHeartbeats 3200000
set_option maxRecDepth 100000
theorem lawFnExactPackMake (no key : Int) (v : Value) (ps : List ByteArray) (w : World) (hl : Lst w w.heap.size v (barVals ps)) (hn : ps.length ≤ maxLen) (hs : ∀ s ∈ ps, s.size ≤ maxLen) (a0 a1 : Addr) (he : Errs w a0 a1) :
    Calls Tryz.prog 5 #[.int .i64 no, .int .i64 key, v] w fun e w' => e = .returned (.bool true) ∧ Below w.heap.size w w' := by
  have HE := Lib.hid he
  have HL := Lib.hid hl
  have HSZ := Lib.hid hs
  have HNM := Lib.hid hn
  obtain ⟨A, c, hv⟩ := lst_form hl
  subst hv
  obtain ⟨n0, hn0⟩ : ∃ n, (barVals ps).length = n := ⟨_, rfl⟩
  have HN0 := Lib.hid (show ps.length = n0 by rw [← hn0, barVals_length])
  rw [hn0] at HL ⊢
  clear he hl hs hn hn0
  go_enter Tryz.func5, Tryz.ntmps5
  go_wp2_with fail
  refine (szStringS_any w _ ps 1048576 HL.out HNM.out HSZ.out (Nat.le_refl _)).mono ?_
  rintro e w1 ⟨r, rfl, hr, hq⟩
  have HB1 := Lib.hid (drew_belM hq)
  clear hq
  by_cases hneg : r < 0
  · go_wp2
    go_ret
    exact ⟨rfl, HB1.out⟩
  · have hn2 : n0 ≤ 1048576 := by have := bulk_len (hr (by omega)); have := HN0.out; omega
    have hr0 : ¬ r < 0 := hneg
    clear hr
    have HTS := Lib.hid (fun (X : World) (hX : Below w.heap.size w X) => toStringS_any X _ ps (lst_next HL.out hX) (by rw [HN0.out]; exact hn2))
    unfold GaveStrs at HTS
    obtain ⟨mb, hmb⟩ : ∃ x, madeB no key ps = x := ⟨_, rfl⟩
    obtain ⟨mn, hmn⟩ : ∃ x, madeN no key ps = x := ⟨_, rfl⟩
    obtain ⟨ml, hml⟩ : ∃ x, madeI no key ps = x := ⟨_, rfl⟩
    obtain ⟨m, hm⟩ : ∃ m, ml.length = m := ⟨_, rfl⟩
    have hm9 : m ≤ 1048576 := by rw [← hm, ← hml]; exact Nat.le_trans (madeI_leX no key ps) (by rw [HN0.out]; exact hn2)
    have HM := Lib.hid hm
    have HMS := Lib.hid (fun (X : World) (u : Value) (hX : Lst X X.heap.size u (barVals ps)) => packMakeS_any no key u ps X hX (by rw [HN0.out]; omega) HSZ.out)
    have HMM := Lib.hid (fun (X : World) (u : Value) (hB : Below w.heap.size w X) (hX : Lst X X.heap.size u (barVals ps)) => packMake_any no key u ps X a0 a1 (HE.out.below hB) hX (by rw [HN0.out]; omega) HSZ.out)
    unfold Made at HMS HMM
    simp only [hmb, hmn, hml] at HMS HMM
    have hbb : (mb != mb) = false := by simp
    clear hmb hmn hml hm
    go_wp2_with fail
    refine (HTS.out w1 HB1.out).mono ?_
    rintro e w2 ⟨v2, rfl, ho2, hb2⟩
    have HL2 := Lib.hid (lst_of_own ho2)
    have HB2 := Lib.hid (bel2 HB1.out hb2)
    clear ho2 hb2
    go_wp2_with fail
    refine (HMS.out w2 v2 HL2.out).mono ?_
    rintro e w3 ⟨⟨v3, rfl, ho3⟩, hb3⟩
    obtain ⟨A3, c3, hv3⟩ := own_formP ho3
    subst hv3
    rw [ivals_length, HM.out] at ho3 ⊢
    obtain ⟨X3, hX3⟩ : ∃ X, X = w3.alloc (.cells #[.int .i64 mn, .slice A3 m c3] 28) := ⟨_, rfl⟩
    have hx3 : Below w3.heap.size w3 X3 := by rw [hX3]; exact (Below.refl _ _).alloc (Nat.le_refl _) _
    have HT3 := Lib.hid (show Two X3 w3.heap.size 28 (.int .i64 mn) (.slice A3 m c3) by rw [hX3]; exact two_new _ _ _ _)
    have HW3 := Lib.hid (lp_next (lp_of_own ho3) hx3)
    have HB3 := Lib.hid (bel2 HB2.out (bel2 hb3 hx3))
    have HX3 := Lib.hid hX3
    obtain ⟨b8, hb8⟩ : ∃ b, w3.heap.size = b := ⟨_, rfl⟩
    have HS3 := Lib.hid (show b8 < X3.heap.size by rw [← hb8]; exact HT3.out.lt)
    rw [hb8] at HT3
    clear ho3 hb3 hx3 hX3 HL2
    go_wp2_with fail
    rw [← HX3.out]
    clear hb8
    refine (HTS.out X3 HB3.out).mono ?_
    rintro e w4 ⟨v4, rfl, ho4, hb4⟩
    have HO4 := Lib.hid (show w4.ownsRow X3.heap.size 9 1 v4 n0 (barVals ps) by rw [barVals_length, HN0.out] at ho4; exact ho4)
    have HV4 := Lib.hid (fun g (hg : v4.ownBlock = some g) => HO4.out.lt g hg)
    have HC4 := Lib.hid hb4
    have HB4 := Lib.hid (bel2 HB3.out hb4)
    clear ho4 hb4
    go_wp2_with fail
    refine (HMM.out w4 v4 HB4.out (lst_of_own HO4.out)).mono ?_
    rintro e w5 ⟨⟨v5, rfl, ho5⟩, hb5⟩
    obtain ⟨A5, c5, hv5⟩ := own_formP ho5
    subst hv5
    rw [ivals_length, HM.out] at ho5 ⊢
    obtain ⟨X5, hX5⟩ : ∃ X, X = w5.alloc (.cells #[.int .i64 mn, .slice A5 m c5] 28) := ⟨_, rfl⟩
    have hx5 : Below w5.heap.size w5 X5 := by rw [hX5]; exact (Below.refl _ _).alloc (Nat.le_refl _) _
    have HT5 := Lib.hid (show Two X5 w5.heap.size 28 (.int .i64 mn) (.slice A5 m c5) by rw [hX5]; exact two_new _ _ _ _)
    have HO5 := Lib.hid (ownP_below ho5 hx5)
    have HV5 := Lib.hid (fun g (hg : (Value.slice A5 m c5).ownBlock = some g) => ownP_lt ho5 hg)
    have HD5 := Lib.hid (bel2 hb5 hx5)
    have HC5 := Lib.hid (bel2 HC4.out HD5.out)
    have HB5 := Lib.hid (bel2 HB4.out HD5.out)
    have HX5 := Lib.hid hX5
    obtain ⟨b11, hb11⟩ : ∃ b, w5.heap.size = b := ⟨_, rfl⟩
    have HS5 := Lib.hid (show w4.heap.size ≤ b11 ∧ X3.heap.size ≤ w4.heap.size ∧ b11 < X5.heap.size from ⟨by rw [← hb11]; exact hb5.size, HC4.out.size, by rw [← hb11]; exact HT5.out.lt⟩)
    rw [hb11] at HT5 HV5
    have p3 := two_belX HT3.out (bel2 HC4.out hb5)
    have q0 := cell_alI p3.c0 (.cells #[.int .i64 mn, .slice A5 m c5] 28)
    have q1 := cell_alI p3.c1 (.cells #[.int .i64 mn, .slice A5 m c5] 28)
    clear ho5 hb5 hx5 hX5 p3
    go_wp2_with fail
    rw [← HX5.out]
    clear hb11
    refine (eqPack_any X5 mn mn _ _ ml ml (lp_of_own HO5.out) (lp_next HW3.out HC5.out) (by rw [HM.out]; omega)).mono ?_
    rw [show decide (mn = mn ∧ ml = ml) = true by simp]
    rintro e w6 ⟨rfl, hb6⟩
    have HE6 := Lib.hid hb6
    have HB6 := Lib.hid (bel2 HB5.out hb6)
    clear hb6 q0 q1
    go_wp2_with fail
    refine (HTS.out w6 HB6.out).mono ?_
    rintro e w7 ⟨v7, rfl, ho7, hb7⟩
    have HL7 := Lib.hid (lst_of_own ho7)
    have HE7 := Lib.hid (bel2 HE6.out hb7)
    have HB7 := Lib.hid (bel2 HB6.out hb7)
    have HO7 := Lib.hid (HO4.out.kept (grown_of_bel (bel2 HD5.out HE7.out) none) (Classical.em _))
    clear ho7 hb7
    go_wp2_with fail
    refine (eqStringS_any w7 w7.heap.size v4 v7 ps ps (lst_of_own HO7.out) HL7.out (by rw [HN0.out]; omega) (by rw [HN0.out]; omega)).mono ?_
    rw [show decide (ps = ps) = true by simp]
    rintro e w8 ⟨rfl, hq⟩
    have HE8 := Lib.hid (bel2 HE7.out (drew_belM hq))
    have HB8 := Lib.hid (bel2 HB7.out (drew_belM hq))
    have HO8 := Lib.hid (HO7.out.kept (grown_of_bel (drew_belM hq) none) (Classical.em _))
    clear hq HL7 HO7
    go_wp2_with fail
    refine (markStrs_any w8 X3.heap.size _ v4 _ n0 HO8.out (by omega)).mono ?_
    obtain ⟨K, hK⟩ : ∃ K, 1 + n0 = K := ⟨_, rfl⟩
    have hK2 : ¬ ((K : Nat) : Int) < 0 := by omega
    rw [hK]
    clear hK
    rintro e w9 ⟨rfl, hg9⟩
    have HT38 := two_belX HT3.out (bel2 HC5.out HE8.out)
    have HT58 := two_belX HT5.out HE8.out
    have HO58 := ownP_below HO5.out HE8.out
    have HT39 := Lib.hid (HT38.keep hg9 (fun e => by have := (HV4.out b8 e.symm).1; have := HS3.out; omega))
    have HT59 := Lib.hid (HT58.keep hg9 (fun e => by have := (HV4.out b11 e.symm).2; have := HS5.out; omega))
    have HO59 := Lib.hid (ownP_kept HO58 hg9 (Classical.byContradiction fun hne => by
      have h1 : (Value.slice A5 m c5).ownBlock ≠ none := fun h => hne (.inl h)
      have h2 : (Value.slice A5 m c5).ownBlock = v4.ownBlock := Classical.byContradiction fun h => hne (.inr h)
      cases h3 : v4.ownBlock with
      | none => exact h1 (h2.trans h3)
      | some g =>
        have h4 := (HV5.out g (h2.trans h3)).1
        have h5 := (HV4.out g h3).2
        omega))
    have hC39 := gb_bel hg9 (fun g hg => (HV4.out g hg).1) (Nat.le_trans HC5.out.size HE8.out.size)
    have HC9 := Lib.hid ((bel2 HC5.out HE8.out).trans hC39)
    have HB9 := Lib.hid (HB8.out.trans (gb_bel hg9 (fun g hg => by have := (HV4.out g hg).1; have := HB3.out.size; omega) HB8.out.size))
    clear hg9 HT38 HT58 HO58 hC39
    have y0 := HT39.out.c0
    have y1 := HT39.out.c1
    have y2 := HT59.out.c0
    have y3 := HT59.out.c1
    go_wp2_with fail
    refine (eqPack_any w9 mn mn _ _ ml ml (lp_of_own HO59.out) (lp_next HW3.out HC9.out) (by rw [HM.out]; omega)).mono ?_
    rw [show decide (mn = mn ∧ ml = ml) = true by simp]
    rintro e w10 ⟨rfl, hb10⟩
    have HC10 := Lib.hid (bel2 HC9.out hb10)
    have HB10 := Lib.hid (bel2 HB9.out hb10)
    have HT310 := Lib.hid (two_belX HT39.out hb10)
    have HT510 := Lib.hid (two_belX HT59.out hb10)
    have HO510 := Lib.hid (ownP_below HO59.out hb10)
    have HS10 := Lib.hid hb10.size
    clear hb10 y0 y1 y2 y3
    have y2 := HT510.out.c0
    have y3 := HT510.out.c1
    go_wp2_with fail
    refine (markPack_any w10 w4.heap.size mn _ (ivals ml) 1 HO510.out (by rw [ivals_length, HM.out]; omega) (by omega) (by omega)).mono ?_
    rw [ivals_length, HM.out]
    obtain ⟨J, hJ⟩ : ∃ J, 1 + 2 * m = J := ⟨_, rfl⟩
    have HJ := Lib.hid hJ
    have hJ3 : ¬ ((J : Int) < 0) := by omega
    have hJ4 : ((J : Int) != (J : Int)) = false := by simp
    rw [hJ]
    clear hJ
    rintro e w11 ⟨rfl, ho11, hg11⟩
    have HO11 := Lib.hid ho11
    have HT311 := Lib.hid (HT310.out.keep hg11 (fun e => by have := (HV5.out b8 e.symm).1; have := HS3.out; have := HS5.out; omega))
    have HT511 := Lib.hid (HT510.out.keep hg11 (fun e => by have := (HV5.out b11 e.symm).2; omega))
    have HC11 := Lib.hid (HC10.out.trans (gb_bel (B := X3.heap.size) hg11 (fun g hg => by have := (HV5.out g hg).1; have := HS5.out; omega) HC10.out.size))
    have HB11 := Lib.hid (HB10.out.trans (gb_bel (B := w.heap.size) hg11 (fun g hg => by have := (HV5.out g hg).1; have := HB4.out.size; omega) HB10.out.size))
    clear ho11 hg11 y2 y3
    have y2 := HT511.out.c0
    have y3 := HT511.out.c1
    go_wp2_with fail
    refine (heldPack_any w11 mn _ 1 m (lp_of_own HO11.out) (by omega) (by omega) (by omega)).mono ?_
    rw [HJ.out]
    rintro e w12 ⟨rfl, hb12⟩
    have HC12 := Lib.hid (bel2 HC11.out hb12)
    have HB12 := Lib.hid (bel2 HB11.out hb12)
    have HT312 := Lib.hid (two_belX HT311.out hb12)
    have HT512 := Lib.hid (two_belX HT511.out hb12)
    have HO12 := Lib.hid (ownP_below HO11.out hb12)
    clear hb12 y2 y3
    go_wp2_with fail
    refine (HTS.out w12 HB12.out).mono ?_
    rintro e w13 ⟨v13, rfl, ho13, hb13⟩
    have HL13 := Lib.hid (lst_of_own ho13)
    have HD13 := Lib.hid hb13
    have HB13 := Lib.hid (bel2 HB12.out hb13)
    clear ho13 hb13
    go_wp2_with fail
    refine (HMM.out w13 v13 HB13.out HL13.out).mono ?_
    rintro e w14 ⟨⟨v14, rfl, ho14⟩, hb14⟩
    obtain ⟨A14, c14, hv14⟩ := own_formP ho14
    subst hv14
    rw [ivals_length, HM.out] at ho14 ⊢
    obtain ⟨X14, hX14⟩ : ∃ X, X = w14.alloc (.cells #[.int .i64 mn, .slice A14 m c14] 28) := ⟨_, rfl⟩
    have hx14 : Below w14.heap.size w14 X14 := by rw [hX14]; exact (Below.refl _ _).alloc (Nat.le_refl _) _
    have HW14 := Lib.hid (lp_next (lp_of_own ho14) hx14)
    have HD14 := Lib.hid (bel2 HD13.out (bel2 hb14 hx14))
    have HX14 := Lib.hid hX14
    have p3 := two_belX HT312.out (bel2 HD13.out hb14)
    have q0 := cell_alI p3.c0 (.cells #[.int .i64 mn, .slice A14 m c14] 28)
    have q1 := cell_alI p3.c1 (.cells #[.int .i64 mn, .slice A14 m c14] 28)
    clear ho14 hb14 hx14 hX14 p3
    go_wp2_with fail
    rw [← HX14.out]
    refine (eqPack_any X14 mn mn _ _ ml ml HW14.out (lp_next HW3.out (bel2 HC12.out HD14.out)) (by rw [HM.out]; omega)).mono ?_
    rw [show decide (mn = mn ∧ ml = ml) = true by simp]
    rintro e w15 ⟨rfl, hb15⟩
    have HD15 := Lib.hid (bel2 HD14.out hb15)
    clear hb15 q0 q1
    have y2 := (two_belX HT512.out HD15.out).c0
    have y3 := (two_belX HT512.out HD15.out).c1
    go_wp2_with fail
    refine (heldPack_any w15 mn _ 1 m (lp_next (lp_of_own HO12.out) HD15.out) (by omega) (by omega) (by omega)).mono ?_
    rw [HJ.out]
    rintro e w16 ⟨rfl, hb16⟩
    have HB16 := Lib.hid (bel2 HB12.out (bel2 HD15.out hb16))
    clear hb16 y2 y3
    go_wp2
    go_ret
    exact ⟨rfl, HB16.out⟩
end
end Go.Proofs.YtkjginibdablnaaGreatDoor
