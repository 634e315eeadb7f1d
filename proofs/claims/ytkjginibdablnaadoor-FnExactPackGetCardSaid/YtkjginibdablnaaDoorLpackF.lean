/- The exact law of PackGet. -/
import Derived.Test.YtkjginibdablnaaDoorPackGetS
import Derived.Test.YtkjginibdablnaaDoorPackN
import Derived.Deep.RegionHeld3
namespace Go.Proofs.YtkjginibdablnaaDoor
open Go.RowKit
section
set_option maxHeartbeats 3200000
theorem lawFnExactPackGet (key : Int) (no : Int) (v : Value) (l : List Itm) (name : Int) (w : World) (h : ItemsIn w v l) (a0 a1 : Addr) (he : Errs w a0 a1) :
    Calls Tryd.prog 4 #[.int .i64 key, packV no v, .int .i64 name] w fun e w' => e = .returned (.bool true) ∧ Below w.heap.size w w' := by
  obtain ⟨A, c, hv⟩ := lp_form h.1
  rw [ivals_length] at hv
  subst hv
  obtain ⟨n, hnn⟩ : ∃ n, l.length = n := ⟨_, rfl⟩
  have HN := Lib.hid hnn
  obtain ⟨W0, hW0⟩ : ∃ W, W = w.alloc (.cells #[.int .i64 no, .slice A n c] 24) := ⟨_, rfl⟩
  have hws : W0.heap.size = w.heap.size + 1 := by rw [hW0]; simp
  have HB0 := Lib.hid (show Below w.heap.size w W0 by rw [hW0]; exact (Below.refl _ _).alloc (Nat.le_refl _) _)
  have HBX : Hid (∀ X : World, Below W0.heap.size W0 X → X.cell? ⟨w.heap.size, 0, none⟩ = some (.int .i64 no) ∧ X.cell? ⟨w.heap.size, 1, none⟩ = some (.slice A n c)) := Lib.hid fun X hX => by
    rw [hws, hW0] at hX
    exact ⟨box_cell w X _ _ 0 _ rfl hX, box_cell w X _ _ 1 _ rfl hX⟩
  have HI := Lib.hid (show ItemsIn W0 (.slice A n c) l from ⟨by rw [← hnn]; exact lp_next h.1 HB0.out, h.2⟩)
  have HE := Lib.hid (he.below HB0.out)
  have HW0 := Lib.hid hW0
  rw [hnn]
  clear h hnn hws hW0 he
  go_enter Tryd.func4, Tryd.ntmps4
  go_wp2_with fail
  rw [← HW0.out]
  refine (szPack_any W0 no _ l 1048576 HI.out (Nat.le_refl _)).mono ?_
  rintro e w1 ⟨r, rfl, hr, hb⟩
  have HB1 := Lib.hid hb
  clear hb
  by_cases hneg : r < 0
  · go_wp2
    go_ret
    exact ⟨rfl, bel2 HB0.out HB1.out⟩
  · have hsz : n ≤ 1048576 := by have := hr (by omega); have := HN.out; omega
    have HIS := Lib.hid (show ∀ s ∈ l, s.2.size ≤ 1048576 from fun s hs => by have := hr (by omega); have := isum_mem hs; omega)
    clear hr
    obtain ⟨p0, p1⟩ := HBX.out w1 HB1.out
    go_wp2_with fail
    refine (toPack_any w1 no _ l (lp_next HI.out.1 HB1.out) (by rw [HN.out]; exact hsz)).mono ?_
    rintro e w2 ⟨v1, rfl, ho, hb⟩
    have HL1 := Lib.hid (lp_of_own ho)
    have HB2 := Lib.hid (bel2 HB1.out hb)
    clear ho hb p0 p1
    go_wp2_with fail
    refine (packGetS_any key no name v1 l w2 HL1.out (by rw [HN.out]; omega) HIS.out).mono ?_
    rintro e w3 ⟨rfl, hb⟩
    have HB3 := Lib.hid (bel2 HB2.out hb)
    obtain ⟨o, ho⟩ : ∃ o, getB key l name = o := ⟨_, rfl⟩
    obtain ⟨gt, hgt⟩ : ∃ t, getT key l name = t := ⟨_, rfl⟩
    rw [ho, hgt]
    have HO := Lib.hid (And.intro ho hgt)
    have hgg : (gt.toList != gt.toList) = false := by simp
    have hgg2 : (gt.toList == gt.toList) = true := by simp
    clear hb HL1 ho hgt
    obtain ⟨p0, p1⟩ := HBX.out w3 HB3.out
    go_wp2_with fail
    refine (toPack_any w3 no _ l (lp_next HI.out.1 HB3.out) (by rw [HN.out]; exact hsz)).mono ?_
    rintro e w4 ⟨v2, rfl, ho, hb⟩
    obtain ⟨A2, c2, hv2⟩ := own_formP ho
    rw [ivals_length, HN.out] at hv2
    subst hv2
    obtain ⟨X4, hX4⟩ : ∃ X, X = w4.alloc (.cells #[.int .i64 no, .slice A2 n c2] 29) := ⟨_, rfl⟩
    have hx4 : Below w4.heap.size w4 X4 := by rw [hX4]; exact (Below.refl _ _).alloc (Nat.le_refl _) _
    have hx4s : X4.heap.size = w4.heap.size + 1 := by rw [hX4]; simp
    have HBY : Hid (∀ X : World, Below X4.heap.size X4 X → X.cell? ⟨w4.heap.size, 0, none⟩ = some (.int .i64 no) ∧ X.cell? ⟨w4.heap.size, 1, none⟩ = some (.slice A2 n c2)) := Lib.hid fun X hX => by
      rw [hx4s, hX4] at hX
      exact ⟨box_cell w4 X _ _ 0 _ rfl hX, box_cell w4 X _ _ 1 _ rfl hX⟩
    have HO2 := Lib.hid (ownP_below ho hx4)
    have HB4 := Lib.hid (bel2 HB3.out (bel2 hb hx4))
    have HX4 := Lib.hid hX4
    clear ho hb p0 p1 hx4 hx4s hX4
    go_wp2_with fail
    rw [← HX4.out]
    have HGT := Lib.hid (packGet_any key no name _ l X4 a0 a1 (HE.out.below HB4.out) (lp_of_own HO2.out) (by rw [HN.out]; omega) HIS.out)
    unfold Got at HGT
    rw [HO.out.1, HO.out.2] at HGT
    refine HGT.out.mono ?_
    rintro e w5 ⟨rfl, hb⟩
    have HM5 := Lib.hid hb
    have HB5 := Lib.hid (bel2 HB4.out hb)
    have HD5 := Lib.hid (show Below w5.heap.size w5 w5.drew from ⟨rfl, rfl, rfl, Nat.le_refl _, fun _ _ => rfl⟩)
    have HTP := Lib.hid (fun (X : World) (hX : Below W0.heap.size W0 X) => toPack_any X no _ l (lp_next HI.out.1 hX) (by rw [HN.out]; exact hsz))
    obtain ⟨p0, p1⟩ := HBX.out w5 HB5.out
    obtain ⟨y0, y1⟩ := HBY.out w5 HM5.out
    clear hb
    cases o with
    | true =>
      go_wp2_with fail
      go_region_held3 (fun w' => w'.cell? ⟨w.heap.size, 0, none⟩ = some (.int .i64 no) ∧ w'.cell? ⟨w.heap.size, 1, none⟩ = some (.slice A n c) ∧ w'.cell? ⟨w4.heap.size, 0, none⟩ = some (.int .i64 no) ∧ w'.cell? ⟨w4.heap.size, 1, none⟩ = some (.slice A2 n c2)) ((refine ⟨?_, ?_, ?_, ?_⟩ <;> assumption))
        (first
          | (go_at_call 12; go_must (refine (HTP.out w5.drew (bel2 HB5.out HD5.out)).mono ?_); rintro e w7 ⟨v3, rfl, ho7, hb7⟩; have HL7 := Lib.hid (lp_of_own ho7); have HM7 := Lib.hid (bel2 (bel2 HM5.out HD5.out) hb7); have HB7 := Lib.hid (bel2 (bel2 HB5.out HD5.out) hb7); obtain ⟨s0, s1⟩ := HBX.out w7 HB7.out; obtain ⟨s2, s3⟩ := HBY.out w7 HM7.out; clear ho7 hb7)
          | (go_at_call 14; go_must (refine (eqPack_any w7 no no _ v3 l l (lp_next (lp_of_own HO2.out) HM7.out) HL7.out (by rw [HN.out]; omega)).mono ?_); rw [show decide (no = no ∧ l = l) = true by simp]; rintro e w8 ⟨rfl, hb8⟩; have HM8 := Lib.hid (bel2 HM7.out hb8); have HB8 := Lib.hid (bel2 HB7.out hb8); obtain ⟨t0, t1⟩ := HBX.out w8 HB8.out; obtain ⟨t2, t3⟩ := HBY.out w8 HM8.out; clear hb8))
      go_wp2
      go_ret
      exact ⟨rfl, bel2 HB0.out HB8.out⟩
    | false =>
      go_wp2_with fail
      go_region_held3 (fun w' => w'.cell? ⟨w.heap.size, 0, none⟩ = some (.int .i64 no) ∧ w'.cell? ⟨w.heap.size, 1, none⟩ = some (.slice A n c) ∧ w'.cell? ⟨w4.heap.size, 0, none⟩ = some (.int .i64 no) ∧ w'.cell? ⟨w4.heap.size, 1, none⟩ = some (.slice A2 n c2)) ((refine ⟨?_, ?_, ?_, ?_⟩ <;> assumption))
        (first
          | (go_at_call 12; go_must (refine (HTP.out w5.drew (bel2 HB5.out HD5.out)).mono ?_); rintro e w7 ⟨v3, rfl, ho7, hb7⟩; have HL7 := Lib.hid (lp_of_own ho7); have HM7 := Lib.hid (bel2 (bel2 HM5.out HD5.out) hb7); have HB7 := Lib.hid (bel2 (bel2 HB5.out HD5.out) hb7); obtain ⟨s0, s1⟩ := HBX.out w7 HB7.out; obtain ⟨s2, s3⟩ := HBY.out w7 HM7.out; clear ho7 hb7)
          | (go_at_call 14; go_must (refine (eqPack_any w7 no no _ v3 l l (lp_next (lp_of_own HO2.out) HM7.out) HL7.out (by rw [HN.out]; omega)).mono ?_); rw [show decide (no = no ∧ l = l) = true by simp]; rintro e w8 ⟨rfl, hb8⟩; have HM8 := Lib.hid (bel2 HM7.out hb8); have HB8 := Lib.hid (bel2 HB7.out hb8); obtain ⟨t0, t1⟩ := HBX.out w8 HB8.out; obtain ⟨t2, t3⟩ := HBY.out w8 HM8.out; clear hb8))
      go_wp2
      go_ret
      exact ⟨rfl, bel2 HB0.out HB8.out⟩
end
end Go.Proofs.YtkjginibdablnaaDoor
