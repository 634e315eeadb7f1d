/- The exact law of PackLess. -/
import Derived.Test.YtkjginibdablnaaLpackA
import Derived.Test.YtkjginibdablnaaPackLessS
import Derived.Test.YtkjginibdablnaaToInts
namespace Go.Proofs.Ytkjginibdablnaa
open Go.RowKit
theorem two_bel {w w' : World} {b : Nat} {T : TypeId} {x y : Value} (h : Two w b T x y) (hb : Below w.heap.size w w') : Two w' b T x y := (hb.block b h.lt).trans h
theorem own_kept_row {T B B' T' n : Nat} {w w' : World} {v u : Value} {xs : List Value} {l : List (Value × Value)} (ho : OwnP T B w v l) (hu : w.ownsRow B' T' 1 u n xs) (hg : w.grownBy w' u.ownBlock) (hlt : ∀ g : Nat, u.ownBlock = some g → g < B) : OwnP T B w' v l := by
  have _h := hu
  exact ho.kept hg (row_apart ho hlt)
theorem own_kept_own {T B B' : Nat} {w w' : World} {v u : Value} {l m : List (Value × Value)} (ho : OwnP T B w v l) (hu : OwnP T B' w u m) (hg : w.grownBy w' u.ownBlock) (hlt : ∀ g : Nat, u.ownBlock = some g → g < B) : OwnP T B w' v l := by
  have _h := hu
  exact ho.kept hg (row_apart ho hlt)
theorem two_row {w w' : World} {b : Nat} {T : TypeId} {x y u : Value} (h : Two w b T x y) (hg : w.grownBy w' u.ownBlock) (hlt : ∀ g : Nat, u.ownBlock = some g → g < b) : Two w' b T x y := h.keep hg fun e => by
  have := hlt b e.symm
  omega
theorem bel_drew' {w w' : World} (h : Below w.heap.size w w') : Below w.heap.size w w'.drew := ⟨h.os, h.tape, h.output, h.size, h.block⟩
section
set_option maxHeartbeats 3200000
theorem lawFnExactPackLess (no : Int) (v : Value) (l : List Itm) (vn : Value) (ns : List Int) (w : World) (h : ItemsIn w v l) (hns : Lst w w.heap.size vn (intVals ns)) (_ : ns.length ≤ maxLen) :
    Calls Try.prog 4 #[packV no v, vn] w fun e w' => e = .returned (.bool true) ∧ Below w.heap.size w w' := by
  obtain ⟨A, c, hv⟩ := lp_form h.1
  rw [ivals_length] at hv
  subst hv
  obtain ⟨An, cn, hvn⟩ := lst_form hns
  rw [intVals_length] at hvn
  subst hvn
  obtain ⟨n, hnn⟩ : ∃ n, l.length = n := ⟨_, rfl⟩
  have HN := Lib.hid hnn
  obtain ⟨nn, hnm⟩ : ∃ n, ns.length = n := ⟨_, rfl⟩
  have HNN := Lib.hid hnm
  by_cases hbig : nn ≤ 1048576
  · obtain ⟨W0, hW0⟩ : ∃ W, W = w.alloc (.cells #[.int .i64 no, .slice A n c] 24) := ⟨_, rfl⟩
    have hb0 : Below w.heap.size w W0 := by rw [hW0]; exact (Below.refl _ _).alloc (Nat.le_refl _) _
    have HB0 := Lib.hid hb0
    have T0 := Lib.hid (show Two W0 w.heap.size 24 (.int .i64 no) (.slice A n c) by rw [hW0]; exact two_new _ _ _ _)
    have HI := Lib.hid (show ItemsIn W0 (.slice A n c) l from ⟨by rw [← hnn]; exact lp_next h.1 hb0, h.2⟩)
    have HNS := Lib.hid (show Lst W0 W0.heap.size (.slice An nn cn) (intVals ns) by rw [← hnm]; exact lst_next hns hb0)
    have HW0 := Lib.hid hW0
    rw [hnn, hnm]
    clear h hns hnn hnm hW0 hb0
    go_enter Try.func4, Try.ntmps4
    go_wp2_with fail
    rw [← HW0.out]
    refine (szPack_any W0 no _ l 1048576 HI.out (Nat.le_refl _)).mono ?_
    rintro e w1 ⟨r, rfl, hr, hb⟩
    have HB1 := Lib.hid hb
    clear hb
    by_cases hneg : r < 0
    · go_wp2
      go_ret
      exact ⟨rfl, bel2 HB0.out HB1.out⟩
    · have hsz : n ≤ 1048576 := by have := hr (by omega); have := HN.out; omega
      clear hr
      have HTP := Lib.hid (fun (X : World) (hX : Below W0.heap.size W0 X) => toPack_any X no _ l (lp_next HI.out.1 hX) (by rw [HN.out]; exact hsz))
      have HTI := Lib.hid (fun (X : World) (hX : Below W0.heap.size W0 X) => toIntS_any X _ ns (lst_next HNS.out hX) (by rw [HNN.out]; exact hbig))
      have HLE := Lib.hid (show (lessL l ns).length ≤ n by have := lessL_le l ns; rw [HN.out] at this; exact this)
      obtain ⟨L, hL⟩ : ∃ L, (ivals (lessL l ns)).length = L := ⟨_, rfl⟩
      have HLL := Lib.hid hL
      have hLn : L ≤ 1048576 := by rw [← hL, ivals_length]; have := HLE.out; omega
      clear hL
      have p0 := (two_bel T0.out HB1.out).c0
      have p1 := (two_bel T0.out HB1.out).c1
      go_wp2_with fail
      refine (HTP.out w1 HB1.out).mono ?_
      rintro e w2 ⟨v1, rfl, ho, hb⟩
      have HL1 := Lib.hid (lp_of_own ho)
      have HB2 := Lib.hid (bel2 HB1.out hb)
      clear ho hb p0 p1
      go_wp2_with fail
      refine (HTI.out w2 HB2.out).mono ?_
      rintro e w3 ⟨m1, rfl, ho, hb⟩
      have HM1 := Lib.hid (lst_of_own ho)
      have HL1b := Lib.hid (lp_next HL1.out hb)
      have HB3 := Lib.hid (bel2 HB2.out hb)
      clear ho hb HL1
      go_wp2_with fail
      refine (packLessS_any w3 no v1 m1 l ns HL1b.out HM1.out (by rw [HN.out]; omega) (by rw [HNN.out]; omega)).mono ?_
      rintro e w4 ⟨u0, rfl, ho, hb⟩
      have HB4 := Lib.hid (bel2 HB3.out hb)
      obtain ⟨A0, c0, hu0⟩ := own_formP ho
      rw [HLL.out] at hu0
      subst hu0
      obtain ⟨X6, hX6⟩ : ∃ X, X = w4.alloc (.cells #[.int .i64 no, .slice A0 L c0] 30) := ⟨_, rfl⟩
      have hx6 : Below w4.heap.size w4 X6 := by rw [hX6]; exact (Below.refl _ _).alloc (Nat.le_refl _) _
      have T6 := Lib.hid (show Two X6 w4.heap.size 30 (.int .i64 no) (.slice A0 L c0) by rw [hX6]; exact two_new _ _ _ _)
      have HU0 := Lib.hid (lp_next (lp_of_own ho) hx6)
      have HB6 := Lib.hid (bel2 HB4.out hx6)
      have HX6 := Lib.hid hX6
      clear ho hb hx6 hX6 HL1b HM1
      have p0 := (two_bel T0.out HB6.out).c0
      have p1 := (two_bel T0.out HB6.out).c1
      rw [HX6.out] at p0 p1
      go_wp2_with fail
      rw [← HX6.out]
      refine (HTP.out X6 HB6.out).mono ?_
      rintro e w7 ⟨v2, rfl, ho, hb⟩
      obtain ⟨A2, c2, hv2⟩ := own_formP ho
      rw [ivals_length, HN.out] at hv2
      subst hv2
      obtain ⟨X7, hX7⟩ : ∃ X, X = w7.alloc (.cells #[.int .i64 no, .slice A2 n c2] 30) := ⟨_, rfl⟩
      have hx7 : Below w7.heap.size w7 X7 := by rw [hX7]; exact (Below.refl _ _).alloc (Nat.le_refl _) _
      have T7 := Lib.hid (show Two X7 w7.heap.size 30 (.int .i64 no) (.slice A2 n c2) by rw [hX7]; exact two_new _ _ _ _)
      have HO2 := Lib.hid (ownP_below ho hx7)
      have HV2lt := Lib.hid (show ∀ g : Nat, (Value.slice A2 n c2).ownBlock = some g → g < w7.heap.size from fun g hg => (ownP_lt ho hg).2)
      have HX7s := Lib.hid hx7.size
      have HS7 := Lib.hid (bel2 hb hx7)
      have HB7 := Lib.hid (bel2 HB6.out HS7.out)
      have HX7 := Lib.hid hX7
      clear ho hb hx7 hX7 p0 p1
      go_wp2_with fail
      rw [← HX7.out]
      refine (HTI.out X7 HB7.out).mono ?_
      rintro e w9 ⟨m2, rfl, ho, hb⟩
      have HM2 := Lib.hid ho
      have HM2lt := Lib.hid (show ∀ g : Nat, m2.ownBlock = some g → g < w9.heap.size from fun g hg => (ho.lt g hg).2)
      have HD9 := Lib.hid hb
      have HS9 := Lib.hid (bel2 HS7.out hb)
      have HB9 := Lib.hid (bel2 HB7.out hb)
      clear ho hb
      have p0 := (two_bel T7.out HD9.out).c0
      have p1 := (two_bel T7.out HD9.out).c1
      go_wp2_with fail
      refine (packLess_any w9 no _ m2 l ns (lp_next (lp_of_own HO2.out) HD9.out) (lst_of_own HM2.out) (by rw [HN.out]; omega) (by rw [HNN.out]; omega)).mono ?_
      rintro e w10 ⟨u1, rfl, ho, hb⟩
      obtain ⟨A1, c1, hu1⟩ := own_formP ho
      rw [HLL.out] at hu1
      subst hu1
      obtain ⟨X9, hX9⟩ : ∃ X, X = w10.alloc (.cells #[.int .i64 no, .slice A1 L c1] 30) := ⟨_, rfl⟩
      have hx9 : Below w10.heap.size w10 X9 := by rw [hX9]; exact (Below.refl _ _).alloc (Nat.le_refl _) _
      have T9 := Lib.hid (show Two X9 w10.heap.size 30 (.int .i64 no) (.slice A1 L c1) by rw [hX9]; exact two_new _ _ _ _)
      have HU1 := Lib.hid (ownP_below ho hx9)
      have HU1lt := Lib.hid (show ∀ g : Nat, (Value.slice A1 L c1).ownBlock = some g → g < w10.heap.size from fun g hg => (ownP_lt ho hg).2)
      have HE10 := Lib.hid hb.size
      have HD10 := Lib.hid (bel2 hb hx9)
      have HS10 := Lib.hid (bel2 HS9.out HD10.out)
      have HB10 := Lib.hid (bel2 HB9.out HD10.out)
      have HX9 := Lib.hid hX9
      clear ho hb hx9 hX9 p0 p1
      have t60 := (two_bel T6.out HS10.out).c0
      have t61 := (two_bel T6.out HS10.out).c1
      rw [HX9.out] at t60 t61
      go_wp2_with fail
      rw [← HX9.out]
      refine (eqPack_any X9 no no _ _ (lessL l ns) (lessL l ns) (lp_of_own HU1.out) (lp_next HU0.out HS10.out) (by have := HLE.out; omega)).mono ?_
      rw [show decide (no = no ∧ lessL l ns = lessL l ns) = true by simp]
      rintro e w11 ⟨rfl, hb⟩
      have HF11 := Lib.hid hb
      have HD11 := Lib.hid (bel2 HD10.out hb)
      have HS11 := Lib.hid (bel2 HS10.out hb)
      have HB11 := Lib.hid (bel2 HB10.out hb)
      clear hb t60 t61
      have hT7 : Hid (∀ X, Below w9.heap.size w9 X → Two X w7.heap.size 30 (.int .i64 no) (.slice A2 n c2)) := Lib.hid fun X hX => two_bel T7.out (bel2 HD9.out hX)
      have hT0 : Hid (∀ X, Below W0.heap.size W0 X → Two X w.heap.size 24 (.int .i64 no) (.slice A n c)) := Lib.hid fun X hX => two_bel T0.out hX
      have p0 := (hT0.out w11 HB11.out).c0
      have p1 := (hT0.out w11 HB11.out).c1
      have y0 := (hT7.out w11 HD11.out).c0
      have y1 := (hT7.out w11 HD11.out).c1
      go_wp2_with fail
      go_region_held3 (fun w' => w'.cell? ⟨w.heap.size, 0, none⟩ = some (.int .i64 no) ∧ w'.cell? ⟨w.heap.size, 1, none⟩ = some (.slice A n c) ∧ w'.cell? ⟨w7.heap.size, 0, none⟩ = some (.int .i64 no) ∧ w'.cell? ⟨w7.heap.size, 1, none⟩ = some (.slice A2 n c2)) ((refine ⟨?_, ?_, ?_, ?_⟩ <;> assumption))
        (first
          | (go_at_call 9; go_must (refine (HTP.out w11.drew (bel_drew' HB11.out)).mono ?_); rintro e w12 ⟨v3, rfl, ho12, hb12⟩; have HL12 := Lib.hid (lp_of_own ho12); have HG12 := Lib.hid (bel2 (bel_drew' (Below.refl w11.heap.size w11)) hb12); clear ho12 hb12; have HD12 := Lib.hid (bel2 HD11.out HG12.out); have HB12 := Lib.hid (bel2 HB11.out HG12.out); have s0 := (hT0.out w12 HB12.out).c0; have s1 := (hT0.out w12 HB12.out).c1; have s2 := (hT7.out w12 HD12.out).c0; have s3 := (hT7.out w12 HD12.out).c1)
          | (go_at_call 12; go_must (refine (eqPack_any w12 no no _ v3 l l (lp_next (lp_of_own HO2.out) (bel2 HD9.out HD12.out)) HL12.out (by rw [HN.out]; omega)).mono ?_); rw [show decide (no = no ∧ l = l) = true by simp]; rintro e w13 ⟨rfl, hb13⟩; have HG13 := Lib.hid (bel2 HG12.out hb13); clear hb13; have HD13 := Lib.hid (bel2 HD11.out HG13.out); have HB13 := Lib.hid (bel2 HB11.out HG13.out); have t0 := (hT0.out w13 HB13.out).c0; have t1 := (hT0.out w13 HB13.out).c1; have t2 := (hT7.out w13 HD13.out).c0; have t3 := (hT7.out w13 HD13.out).c1))
      have HS13 := Lib.hid (bel2 HS11.out HG13.out)
      have HF13 := Lib.hid (bel2 HF11.out HG13.out)
      clear p0 p1 y0 y1 s0 s1 s2 s3 t0 t1 t2 t3
      go_wp2_with fail
      refine (HTI.out w13 HB13.out).mono ?_
      rintro e w14 ⟨m3, rfl, ho, hb⟩
      have HM3 := Lib.hid (lst_of_own ho)
      have HD14 := Lib.hid (bel2 HD13.out hb)
      have HS14 := Lib.hid (bel2 HS13.out hb)
      have HB14 := Lib.hid (bel2 HB13.out hb)
      have HF14 := Lib.hid (bel2 HF13.out hb)
      clear ho hb
      go_wp2_with fail
      refine (eqIntS_any w14 w14.heap.size m2 m3 ns ns (lst_next (lst_of_own HM2.out) HD14.out) HM3.out (by rw [HNN.out]; omega) (by rw [HNN.out]; omega)).mono ?_
      rw [show decide (ns = ns) = true by simp]
      rintro e w15 ⟨rfl, hq⟩
      have HD15 := Lib.hid (bel2 HD14.out (drew_bel hq))
      have HS15 := Lib.hid (bel2 HS14.out (drew_bel hq))
      have HB15 := Lib.hid (bel2 HB14.out (drew_bel hq))
      have HF15 := Lib.hid (bel2 HF14.out (drew_bel hq))
      clear hq
      have p0 := (hT7.out w15 HD15.out).c0
      have p1 := (hT7.out w15 HD15.out).c1
      have HO215 := Lib.hid (ownP_below HO2.out (bel2 HD9.out HD15.out))
      have HM215 := Lib.hid (HM2.out.kept (grown_of_bel HD15.out none) (Classical.em _))
      have HU115 := Lib.hid (ownP_below HU1.out HF15.out)
      have T915 := Lib.hid (two_bel T9.out HF15.out)
      have HW9s := Lib.hid (show w7.heap.size ≤ X7.heap.size ∧ X7.heap.size ≤ w9.heap.size ∧ w9.heap.size ≤ w10.heap.size from ⟨HX7s.out, HD9.out.size, HE10.out⟩)
      go_wp2_with fail
      refine (markPack_any w15 X6.heap.size no _ (ivals l) 1 HO215.out (by rw [ivals_length, HN.out]; omega) (by omega) (by omega)).mono ?_
      obtain ⟨K, hK⟩ : ∃ K, 1 + 2 * (ivals l).length = K := ⟨_, rfl⟩
      have hK2 : K ≤ 4000000 := by rw [← hK, ivals_length, HN.out]; omega
      rw [hK]
      clear hK p0 p1
      rintro e w16 ⟨rfl, _, hg⟩
      have HS16 := Lib.hid (belR HS15.out hg HO215.out HS15.out.size (Nat.le_refl _))
      have HB16 := Lib.hid (belR HB15.out hg HO215.out HB15.out.size HB6.out.size)
      have HM216 := Lib.hid (HM215.out.kept hg (row_apart HM215.out (fun g e => Nat.lt_of_lt_of_le (HV2lt.out g e) HW9s.out.1)))
      have HU116 := Lib.hid (own_kept_own HU115.out HO215.out hg (fun g e => Nat.lt_of_lt_of_le (HV2lt.out g e) (Nat.le_trans HW9s.out.1 HW9s.out.2.1)))
      have T916 := Lib.hid (two_row T915.out hg (fun g e => Nat.lt_of_lt_of_le (HV2lt.out g e) (Nat.le_trans HW9s.out.1 (Nat.le_trans HW9s.out.2.1 HW9s.out.2.2))))
      clear hg
      go_wp2_with fail
      refine (markIntS_any w16 X7.heap.size 3 m2 _ K ns.length HM216.out (by rw [HNN.out]; omega) (by omega)).mono ?_
      obtain ⟨K2, hK3⟩ : ∃ K2, K + ns.length = K2 := ⟨_, rfl⟩
      rw [hK3]
      clear hK3
      rintro e w17 ⟨rfl, _, hg⟩
      have HS17 := Lib.hid (belI HS16.out hg HM216.out HS16.out.size HS7.out.size)
      have HB17 := Lib.hid (belI HB16.out hg HM216.out HB16.out.size HB7.out.size)
      have HU117 := Lib.hid (own_kept_row HU116.out HM216.out hg HM2lt.out)
      have T917 := Lib.hid (two_row T916.out hg (fun g e => Nat.lt_of_lt_of_le (HM2lt.out g e) HW9s.out.2.2))
      clear hg
      have hK4 : ¬ ((K2 : Int) < 0) := by omega
      have z0 := T917.out.c0
      have z1 := T917.out.c1
      have z2 := (two_bel T6.out HS17.out).c0
      have z3 := (two_bel T6.out HS17.out).c1
      go_wp2_with fail
      refine (eqPack_any w17 no no _ _ (lessL l ns) (lessL l ns) (lp_of_own HU117.out) (lp_next HU0.out HS17.out) (by have := HLE.out; omega)).mono ?_
      rw [show decide (no = no ∧ lessL l ns = lessL l ns) = true by simp]
      rintro e w18 ⟨rfl, hb⟩
      have HS18 := Lib.hid (bel2 HS17.out hb)
      have HB18 := Lib.hid (bel2 HB17.out hb)
      have HU118 := Lib.hid (ownP_below HU117.out hb)
      have T918 := Lib.hid (two_bel T917.out hb)
      clear hb z0 z1 z2 z3
      have z0 := T918.out.c0
      have z1 := T918.out.c1
      go_wp2_with fail
      refine (markPack_any w18 w9.heap.size no _ (ivals (lessL l ns)) 1 HU118.out (by rw [HLL.out]; omega) (by omega) (by omega)).mono ?_
      rintro e w19 ⟨rfl, ho, hg⟩
      have HS19 := Lib.hid (belR HS18.out hg HU118.out HS18.out.size HS9.out.size)
      have HB19 := Lib.hid (belR HB18.out hg HU118.out HB18.out.size HB9.out.size)
      have HU119 := Lib.hid ho
      have T919 := Lib.hid (two_row T918.out hg HU1lt.out)
      clear ho hg z0 z1
      rw [HLL.out] at HU119 ⊢
      obtain ⟨J, hJ⟩ : ∃ J, 1 + 2 * L = J := ⟨_, rfl⟩
      have HJ := Lib.hid hJ
      have hJ2 : J ≤ 4000000 := by omega
      have hJ3 : ¬ ((J : Int) < 0) := by omega
      have hJ4 : ((J : Int) != (J : Int)) = false := by simp
      rw [hJ]
      clear hJ
      have z0 := T919.out.c0
      have z1 := T919.out.c1
      go_wp2_with fail
      refine (heldPack_any w19 no _ 1 L (lp_of_own HU119.out) (by omega) (by omega) (by omega)).mono ?_
      rw [HJ.out]
      rintro e w20 ⟨rfl, hb⟩
      have HS20 := Lib.hid (bel2 HS19.out hb)
      have HB20 := Lib.hid (bel2 HB19.out hb)
      have HU120 := Lib.hid (ownP_below HU119.out hb)
      have T920 := Lib.hid (two_bel T919.out hb)
      clear hb z0 z1
      have p0 := (hT0.out w20 HB20.out).c0
      have p1 := (hT0.out w20 HB20.out).c1
      go_wp2_with fail
      refine (HTP.out w20 HB20.out).mono ?_
      rintro e w21 ⟨v4, rfl, ho, hb⟩
      have HL21 := Lib.hid (lp_of_own ho)
      have HG21 := Lib.hid hb
      clear ho hb p0 p1
      go_wp2_with fail
      refine (HTI.out w21 (bel2 HB20.out HG21.out)).mono ?_
      rintro e w22 ⟨m4, rfl, ho, hb⟩
      have HM4 := Lib.hid (lst_of_own ho)
      have HL22 := Lib.hid (lp_next HL21.out hb)
      have HG22 := Lib.hid (bel2 HG21.out hb)
      clear ho hb
      go_wp2_with fail
      refine (packLess_any w22 no v4 m4 l ns HL22.out HM4.out (by rw [HN.out]; omega) (by rw [HNN.out]; omega)).mono ?_
      rintro e w23 ⟨u2, rfl, ho, hb⟩
      obtain ⟨A5, c5, hu5⟩ := own_formP ho
      rw [HLL.out] at hu5
      subst hu5
      obtain ⟨X23, hX23⟩ : ∃ X, X = w23.alloc (.cells #[.int .i64 no, .slice A5 L c5] 30) := ⟨_, rfl⟩
      have hx23 : Below w23.heap.size w23 X23 := by rw [hX23]; exact (Below.refl _ _).alloc (Nat.le_refl _) _
      have HG23 := Lib.hid (bel2 (bel2 HG22.out hb) hx23)
      have HU2 := Lib.hid (lp_next (lp_of_own ho) hx23)
      have HX23 := Lib.hid hX23
      clear ho hb hx23 hX23
      have z2 := (two_bel T6.out (bel2 HS20.out HG23.out)).c0
      have z3 := (two_bel T6.out (bel2 HS20.out HG23.out)).c1
      rw [HX23.out] at z2 z3
      go_wp2_with fail
      rw [← HX23.out]
      refine (eqPack_any X23 no no _ _ (lessL l ns) (lessL l ns) HU2.out (lp_next HU0.out (bel2 HS20.out HG23.out)) (by have := HLE.out; omega)).mono ?_
      rw [show decide (no = no ∧ lessL l ns = lessL l ns) = true by simp]
      rintro e w24 ⟨rfl, hb⟩
      have HG24 := Lib.hid (bel2 HG23.out hb)
      clear hb z2 z3
      have z0 := (two_bel T920.out HG24.out).c0
      have z1 := (two_bel T920.out HG24.out).c1
      go_wp2_with fail
      refine (heldPack_any w24 no _ 1 L (lp_next (lp_of_own HU120.out) HG24.out) (by omega) (by omega) (by omega)).mono ?_
      rw [HJ.out]
      rintro e w25 ⟨rfl, hb⟩
      have HE := Lib.hid (bel2 HB0.out (bel2 HB20.out (bel2 HG24.out hb)))
      clear hb z0 z1
      go_wp2
      go_ret
      exact ⟨rfl, HE.out⟩
  · rw [hnn, hnm]
    clear h hns hnn hnm
    go_enter Try.func4, Try.ntmps4
    go_wp2
    go_ret
    exact ⟨rfl, (Below.refl _ _).alloc (Nat.le_refl _) _⟩
end
end Go.Proofs.Ytkjginibdablnaa
