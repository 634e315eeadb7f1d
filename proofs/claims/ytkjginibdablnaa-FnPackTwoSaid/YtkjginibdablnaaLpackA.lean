/- The exact law of PackNames. -/
import Derived.Test.YtkjginibdablnaaPackN
import Derived.Deep.RegionHeld3
namespace Go.Proofs.Ytkjginibdablnaa
open Go.RowKit
theorem belR {B : Nat} {a b c : World} {T Bv : Nat} {v : Value} {l : List (Value × Value)} (h : Below B a b) (hg : b.grownBy c v.ownBlock) (ho : OwnP T Bv b v l) (hB : B ≤ b.heap.size) (hBv : B ≤ Bv) : Below B a c := bel_gb h hg hB fun _ hg2 => Nat.le_trans hBv (ownP_lt ho hg2).1
theorem belI {B : Nat} {a b c : World} {T Bv n : Nat} {v : Value} {xs : List Value} (h : Below B a b) (hg : b.grownBy c v.ownBlock) (ho : b.ownsRow Bv T 1 v n xs) (hB : B ≤ b.heap.size) (hBv : B ≤ Bv) : Below B a c := bel_gb h hg hB fun g hg2 => Nat.le_trans hBv (ho.lt g hg2).1
theorem row_apart {w : World} {B T size n : Nat} {v v' : Value} {xs : List Value} (ho : w.ownsRow B T size v n xs) (h' : ∀ g : Nat, v'.ownBlock = some g → g < B) : v.ownBlock = none ∨ v.ownBlock ≠ v'.ownBlock := by
  cases e : v.ownBlock with
  | none => exact .inl rfl
  | some g =>
    refine .inr fun e2 => ?_
    have h1 := (ho.lt g e).1
    have h2 := h' g e2.symm
    omega
theorem drew_bel {w w' : World} (h : ∃ n, w' = w.drewN n) : Below w.heap.size w w' := by
  obtain ⟨n, rfl⟩ := h
  exact ⟨rfl, rfl, rfl, Nat.le_refl _, fun _ _ => rfl⟩
section
set_option maxHeartbeats 3200000
theorem lawFnExactPackNames (no : Int) (v : Value) (l : List Itm) (w : World) (h : ItemsIn w v l) :
    Calls Try.prog 3 #[packV no v] w fun e w' => e = .returned (.bool true) ∧ Below w.heap.size w w' := by
  obtain ⟨A, c, hv⟩ := lp_form h.1
  rw [ivals_length] at hv
  subst hv
  obtain ⟨n, hnn⟩ : ∃ n, l.length = n := ⟨_, rfl⟩
  have HN := Lib.hid hnn
  obtain ⟨W0, hW0⟩ : ∃ W, W = w.alloc (.cells #[.int .i64 no, .slice A n c] 24) := ⟨_, rfl⟩
  have hws : W0.heap.size = w.heap.size + 1 := by rw [hW0]; simp
  have HWS := Lib.hid hws
  have HB0 := Lib.hid (show Below w.heap.size w W0 by rw [hW0]; exact (Below.refl _ _).alloc (Nat.le_refl _) _)
  have HBX : Hid (∀ X : World, Below W0.heap.size W0 X → X.cell? ⟨w.heap.size, 0, none⟩ = some (.int .i64 no) ∧ X.cell? ⟨w.heap.size, 1, none⟩ = some (.slice A n c)) := Lib.hid fun X hX => by
    rw [hws, hW0] at hX
    exact ⟨box_cell w X _ _ 0 _ rfl hX, box_cell w X _ _ 1 _ rfl hX⟩
  have HI := Lib.hid (show ItemsIn W0 (.slice A n c) l from ⟨by rw [← hnn]; exact lp_next h.1 HB0.out, h.2⟩)
  have HW0 := Lib.hid hW0
  rw [hnn]
  clear h hnn hws hW0
  go_enter Try.func3, Try.ntmps3
  go_wp2_with fail
  rw [← HW0.out]
  refine (szPack_any W0 no _ l 1048576 HI.out (Nat.le_refl _)).mono ?_
  rintro e w1 ⟨r, rfl, hr, hb⟩
  have HB1 := Lib.hid hb
  clear hb
  by_cases hneg : r < 0
  · go_wp2
    go_ret
    exact ⟨rfl, bel2 HB0.out HB1.out⟩
  · have hsz : n ≤ 1048576 := by have := hr (by omega); have := HN.out; omega
    clear hr
    obtain ⟨p0, p1⟩ := HBX.out w1 HB1.out
    go_wp2_with fail
    refine (toPack_any w1 no _ l (lp_next HI.out.1 HB1.out) (by rw [HN.out]; exact hsz)).mono ?_
    rintro e w2 ⟨v1, rfl, ho, hb⟩
    have HL1 := Lib.hid (lp_of_own ho)
    have HB2 := Lib.hid (bel2 HB1.out hb)
    clear ho hb p0 p1
    go_wp2_with fail
    refine (packNamesS_any w2 no v1 l HL1.out (by rw [HN.out]; omega)).mono ?_
    rintro e w3 ⟨a0, rfl, ho, hb⟩
    have HA0 := Lib.hid (lst_of_own ho)
    have HB3 := Lib.hid (bel2 HB2.out hb)
    clear ho hb HL1
    obtain ⟨p0, p1⟩ := HBX.out w3 HB3.out
    go_wp2_with fail
    refine (toPack_any w3 no _ l (lp_next HI.out.1 HB3.out) (by rw [HN.out]; exact hsz)).mono ?_
    rintro e w4 ⟨v2, rfl, ho, hb⟩
    obtain ⟨A2, c2, hv2⟩ := own_formP ho
    rw [ivals_length, HN.out] at hv2
    subst hv2
    obtain ⟨X4, hX4⟩ : ∃ X, X = w4.alloc (.cells #[.int .i64 no, .slice A2 n c2] 30) := ⟨_, rfl⟩
    have hx4 : Below w4.heap.size w4 X4 := by rw [hX4]; exact (Below.refl _ _).alloc (Nat.le_refl _) _
    have hx4s : X4.heap.size = w4.heap.size + 1 := by rw [hX4]; simp
    have HBY : Hid (∀ X : World, Below X4.heap.size X4 X → X.cell? ⟨w4.heap.size, 0, none⟩ = some (.int .i64 no) ∧ X.cell? ⟨w4.heap.size, 1, none⟩ = some (.slice A2 n c2)) := Lib.hid fun X hX => by
      rw [hx4s, hX4] at hX
      exact ⟨box_cell w4 X _ _ 0 _ rfl hX, box_cell w4 X _ _ 1 _ rfl hX⟩
    have HO2 := Lib.hid (ownP_below ho hx4)
    have HV2lt := Lib.hid (show ∀ g, (Value.slice A2 n c2).ownBlock = some g → g < X4.heap.size from fun g hg => by have := (ownP_lt ho hg).2; omega)
    have HM3 := Lib.hid (show Below w3.heap.size w3 X4 from bel2 hb hx4)
    have HB4 := Lib.hid (bel2 HB3.out HM3.out)
    have HX4 := Lib.hid hX4
    clear ho hb p0 p1 hx4 hx4s hX4
    go_wp2_with fail
    rw [← HX4.out]
    refine (packNames_any X4 no _ l (lp_of_own HO2.out) (by rw [HN.out]; omega)).mono ?_
    rintro e w5 ⟨a1, rfl, ho, hb⟩
    have HA1 := Lib.hid ho
    have HM4 := Lib.hid hb
    have HM3b := Lib.hid (bel2 HM3.out hb)
    have HB5 := Lib.hid (bel2 HB4.out hb)
    clear ho hb
    go_wp2_with fail
    refine (eqIntS_any w5 w5.heap.size a1 a0 (names l) (names l) (lst_of_own HA1.out) (lst_next HA0.out HM3b.out) (by rw [names_length, HN.out]; omega) (by rw [names_length, HN.out]; omega)).mono ?_
    rw [show decide (names l = names l) = true by simp]
    rintro e w6 ⟨rfl, hq⟩
    have HD := Lib.hid (show Below w5.heap.size w5 w6.drew from (by have h := drew_bel hq; exact ⟨h.os, h.tape, h.output, h.size, h.block⟩))
    have HB6 := Lib.hid (bel2 HB5.out HD.out)
    have HM46 := Lib.hid (bel2 HM4.out HD.out)
    obtain ⟨p0, p1⟩ := HBX.out w6 (show Below W0.heap.size W0 w6 from ⟨HB6.out.os, HB6.out.tape, HB6.out.output, HB6.out.size, HB6.out.block⟩)
    obtain ⟨y0, y1⟩ := HBY.out w6 (show Below X4.heap.size X4 w6 from ⟨HM46.out.os, HM46.out.tape, HM46.out.output, HM46.out.size, HM46.out.block⟩)
    have HTP := Lib.hid (fun (X : World) (hX : Below W0.heap.size W0 X) => toPack_any X no _ l (lp_next HI.out.1 hX) (by rw [HN.out]; exact hsz))
    clear hq
    go_wp2_with fail
    go_region_held3 (fun w' => w'.cell? ⟨w.heap.size, 0, none⟩ = some (.int .i64 no) ∧ w'.cell? ⟨w.heap.size, 1, none⟩ = some (.slice A n c) ∧ w'.cell? ⟨w4.heap.size, 0, none⟩ = some (.int .i64 no) ∧ w'.cell? ⟨w4.heap.size, 1, none⟩ = some (.slice A2 n c2)) ((refine ⟨?_, ?_, ?_, ?_⟩ <;> assumption))
      (first
        | (go_at_call 9; go_must (refine (HTP.out w6.drew HB6.out).mono ?_); rintro e w7 ⟨v3, rfl, ho7, hb7⟩; have HL7 := Lib.hid (lp_of_own ho7); have HM7 := Lib.hid (bel2 HM46.out hb7); have HB7 := Lib.hid (bel2 HB6.out hb7); have HM57 := Lib.hid (bel2 HD.out hb7); obtain ⟨s0, s1⟩ := HBX.out w7 HB7.out; obtain ⟨s2, s3⟩ := HBY.out w7 HM7.out; clear ho7 hb7)
        | (go_at_call 12; go_must (refine (eqPack_any w7 no no _ v3 l l (lp_next (lp_of_own HO2.out) HM7.out) HL7.out (by rw [HN.out]; omega)).mono ?_); rw [show decide (no = no ∧ l = l) = true by simp]; rintro e w8 ⟨rfl, hb8⟩; have HM8 := Lib.hid (bel2 HM7.out hb8); have HB8 := Lib.hid (bel2 HB7.out hb8); have HM58 := Lib.hid (bel2 HM57.out hb8); obtain ⟨t0, t1⟩ := HBX.out w8 HB8.out; obtain ⟨t2, t3⟩ := HBY.out w8 HM8.out; clear hb8))
    have HA18 := Lib.hid (HA1.out.kept (grown_of_bel HM58.out none) (Classical.em _))
    have HO28 := Lib.hid (ownP_below HO2.out HM8.out)
    have HM38 := Lib.hid (bel2 HM3b.out HM58.out)
    clear p0 p1 y0 y1 s0 s1 s2 s3
    go_wp2_with fail
    refine (markPack_any w8 w3.heap.size no _ (ivals l) 1 HO28.out (by rw [ivals_length, HN.out]; omega) (by omega) (by omega)).mono ?_
    obtain ⟨K, hK⟩ : ∃ K, 1 + 2 * (ivals l).length = K := ⟨_, rfl⟩
    have hK2 : K ≤ 4000000 := by rw [← hK, ivals_length, HN.out]; omega
    rw [hK]
    clear hK
    rintro e w9 ⟨rfl, _, hg⟩
    have HB9 := Lib.hid (belR HB8.out hg HO28.out HB8.out.size HB3.out.size)
    have HM39 := Lib.hid (belR HM38.out hg HO28.out HM38.out.size (Nat.le_refl _))
    have HA19 := Lib.hid (HA18.out.kept hg (row_apart HA18.out HV2lt.out))
    clear hg
    have hK3 : ¬ ((K : Int) < 0) := by omega
    go_wp2_with fail
    refine (eqIntS_any w9 w9.heap.size a1 a0 (names l) (names l) (lst_of_own HA19.out) (lst_next HA0.out HM39.out) (by rw [names_length, HN.out]; omega) (by rw [names_length, HN.out]; omega)).mono ?_
    rw [show decide (names l = names l) = true by simp]
    rintro e w10 ⟨rfl, hq⟩
    have HB10 := Lib.hid (bel2 HB9.out (drew_bel hq))
    have HM310 := Lib.hid (bel2 HM39.out (drew_bel hq))
    have HA110 := Lib.hid (HA19.out.kept (grown_of_bel (drew_bel hq) none) (Classical.em _))
    clear hq
    go_wp2_with fail
    refine (markIntS_any w10 X4.heap.size 3 a1 _ 1 l.length HA110.out (by rw [HN.out]; omega) (by omega)).mono ?_
    rintro e w11 ⟨rfl, ho, hg⟩
    have HB11 := Lib.hid (belI HB10.out hg HA110.out HB10.out.size HB4.out.size)
    have HM311 := Lib.hid (belI HM310.out hg HA110.out HM310.out.size HM3.out.size)
    have HA111 := Lib.hid ho
    clear ho hg
    obtain ⟨J, hJ⟩ : ∃ J, 1 + l.length = J := ⟨_, rfl⟩
    have HJ := Lib.hid hJ
    have hJ2 : J ≤ 4000000 := by rw [← hJ, HN.out]; omega
    have hJ3 : ¬ ((J : Int) < 0) := by omega
    have hJ4 : ((J : Int) != (J : Int)) = false := by simp
    rw [hJ]
    clear hJ
    go_wp2_with fail
    refine (heldIntS_any w11 w11.heap.size a1 1 l.length (lst_of_own HA111.out) (by rw [HN.out]; omega) (by omega)).mono ?_
    rw [HJ.out]
    rintro e w11' ⟨rfl, hw⟩
    rw [hw]
    clear hw
    obtain ⟨p0, p1⟩ := HBX.out w11 HB11.out
    go_wp2_with fail
    refine (toPack_any w11 no _ l (lp_next HI.out.1 HB11.out) (by rw [HN.out]; exact hsz)).mono ?_
    rintro e w12 ⟨v4, rfl, ho, hb⟩
    have HL12 := Lib.hid (lp_of_own ho)
    have HD12 := Lib.hid hb
    clear ho hb p0 p1
    go_wp2_with fail
    refine (packNames_any w12 no v4 l HL12.out (by rw [HN.out]; omega)).mono ?_
    rintro e w13 ⟨a2, rfl, ho, hb⟩
    have HA2 := Lib.hid (lst_of_own ho)
    have HD13 := Lib.hid (bel2 HD12.out hb)
    clear ho hb
    go_wp2_with fail
    refine (eqIntS_any w13 w13.heap.size a2 a0 (names l) (names l) HA2.out (lst_next HA0.out (bel2 HM311.out HD13.out)) (by rw [names_length, HN.out]; omega) (by rw [names_length, HN.out]; omega)).mono ?_
    rw [show decide (names l = names l) = true by simp]
    rintro e w14 ⟨rfl, hq⟩
    have HD14 := Lib.hid (bel2 HD13.out (drew_bel hq))
    clear hq
    go_wp2_with fail
    refine (heldIntS_any w14 w14.heap.size a1 1 l.length (lst_of_own (HA111.out.kept (grown_of_bel HD14.out none) (Classical.em _))) (by rw [HN.out]; omega) (by omega)).mono ?_
    rw [HJ.out]
    rintro e w15 ⟨rfl, rfl⟩
    have HE := Lib.hid (bel2 HB0.out (bel2 HB11.out HD14.out))
    go_wp2
    go_ret
    exact ⟨rfl, HE.out⟩
end
end Go.Proofs.Ytkjginibdablnaa
