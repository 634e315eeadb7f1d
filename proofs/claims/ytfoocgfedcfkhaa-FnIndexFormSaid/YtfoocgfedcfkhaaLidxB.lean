/- The exact law of IndexLess. -/
import Derived.Test.YtfoocgfedcfkhaaLidxA
import Derived.Test.YtfoocgfedcfkhaaIdxLess
namespace Go.Proofs.Ytfoocgfedcfkhaa
open Go.RowKit
theorem own_apart {w : World} {B1 B2 : Nat} {v1 v2 : Value} {l1 l2 : List (Int × Int)} {w1 : World} (h1 : OwnSp B1 w1 v1 l1) (h2 : OwnSp B2 w v2 l2) (hB : w1.heap.size ≤ B2) : v2.ownBlock = none ∨ v2.ownBlock ≠ v1.ownBlock := by
  obtain ⟨ys1, o1, _⟩ := h1
  obtain ⟨ys2, o2, _⟩ := h2
  cases e2 : v2.ownBlock with
  | none => exact .inl rfl
  | some g2 =>
    right
    intro e
    have a2 := (o2.lt g2 e2).1
    have a1 := (o1.lt g2 e.symm).2
    omega
theorem bel_gb {B : Nat} {a b c : World} {row : Option Nat} (h : Below B a b) (hg : b.grownBy c row) (hB : B ≤ b.heap.size) (hr : ∀ g, row = some g → B ≤ g) : Below B a c := h.grown hg hB hr
theorem own_base {B : Nat} {w : World} {v : Value} {l : List (Int × Int)} (h : OwnSp B w v l) : ∀ g, v.ownBlock = some g → B ≤ g := by
  obtain ⟨ys, o, _⟩ := h
  exact fun g hg => (o.lt g hg).1
section
set_option maxHeartbeats 1600000
theorem lawFnExactIndexLess (v : Value) (l : List (Int × Int)) (p : Int) (w : World) (h : SpotsIn w v l) :
    Calls Try.prog 6 #[v, .int .i64 p] w fun e w' => e = .returned (.bool true) ∧ Below w.heap.size w w' := by
  obtain ⟨hl, hn⟩ := h
  obtain ⟨A, c, rfl⟩ := lsp_form hl
  have HL := Lib.hid hl
  have HN := Lib.hid hn
  clear hl hn
  go_enter Try.func6, Try.ntmps6
  go_wp2_with fail
  refine (szSpotS_any w A l.length c HN.out).mono ?_
  rintro e w1 ⟨r, rfl, hr, rfl⟩
  by_cases hneg : r < 0
  · go_wp2
    go_ret
    exact ⟨rfl, Below.refl _ _⟩
  · have HR := Lib.hid (hr (by omega))
    have HZ := Lib.hid (lessZ_len p l)
    clear hr
    generalize hL : lessZ p l = L at *
    have HLL := Lib.hid hL
    clear hL
    go_wp2_with fail
    refine (toSpotS_any w1 _ l HL.out HR.out).mono ?_
    rintro e w2 ⟨v2, rfl, ho, hb⟩
    have HL2 := Lib.hid (lsp_of_own ho)
    have HB2 := Lib.hid hb
    clear ho hb
    go_wp2_with fail
    refine (indexLessS_any w2 v2 l p HL2.out (by have := HR.out; omega)).mono ?_
    rintro e w3 ⟨v3, rfl, ho, hb⟩
    rw [HLL.out] at ho
    have HL3 := Lib.hid (lsp_of_own ho)
    have HB3 := Lib.hid (bel2 HB2.out hb)
    clear ho hb
    go_wp2_with fail
    refine (toSpotS_any w3 _ l (lsp_next HL.out HB3.out) HR.out).mono ?_
    rintro e w4 ⟨v4, rfl, ho4, hb⟩
    have HO4 := Lib.hid ho4
    have K4 := Lib.hid hb
    clear ho4 hb
    go_wp2_with fail
    refine (indexLess_any w4 v4 l p (lsp_of_own HO4.out) (by have := HR.out; omega)).mono ?_
    rintro e w5 ⟨v5, rfl, ho5, hb⟩
    rw [HLL.out] at ho5
    have HO5 := Lib.hid ho5
    have HO45 := Lib.hid (ownSp_below HO4.out hb)
    have K5 := Lib.hid (bel2 K4.out hb)
    clear ho5 hb
    go_wp2_with fail
    refine (eqSpotS_any w5 v5 v3 L L (lsp_of_own HO5.out) (lsp_next HL3.out K5.out) (by have := HR.out; have := HZ.out; omega)).mono ?_
    rintro e w6 ⟨rfl, hb⟩
    rw [show decide (L = L) = true by simp]
    have HO6 := Lib.hid (ownSp_below HO5.out hb)
    have HO46 := Lib.hid (ownSp_below HO45.out hb)
    have K6 := Lib.hid (bel2 K5.out hb)
    clear hb
    go_wp2_with fail
    refine (toSpotS_any w6 _ l (lsp_next HL.out (bel2 HB3.out K6.out)) HR.out).mono ?_
    rintro e w7 ⟨v7, rfl, ho, hb⟩
    have HL7 := Lib.hid (lsp_of_own ho)
    have HO7 := Lib.hid (ownSp_below HO6.out hb)
    have HO47 := Lib.hid (ownSp_below HO46.out hb)
    have K7 := Lib.hid (bel2 K6.out hb)
    clear ho hb
    go_wp2_with fail
    refine (eqSpotS_any w7 v4 v7 l l (lsp_of_own HO47.out) HL7.out (by have := HR.out; omega)).mono ?_
    rintro e w8 ⟨rfl, hb⟩
    rw [show decide (l = l) = true by simp]
    have HO8 := Lib.hid (ownSp_below HO7.out hb)
    have HO48 := Lib.hid (ownSp_below HO47.out hb)
    have K8 := Lib.hid (bel2 K7.out hb)
    clear hb
    obtain ⟨z, hz⟩ : ∃ z, 1 + 2 * l.length = z := ⟨_, rfl⟩
    have HZ1 := Lib.hid hz
    have hz1 : (1 : Int) ≤ (z : Int) := by omega
    clear hz
    go_wp2_with fail
    refine (markSpotS_any w8 _ v4 l 1 HO48.out (by have := HR.out; omega) (by omega)).mono ?_
    rintro e w9 ⟨he, ho, hg⟩
    rw [HZ1.out] at he
    subst he
    have HO9 := Lib.hid (ownSp_kept HO8.out hg (own_apart HO4.out HO8.out (Nat.le_refl _)))
    have K9 := Lib.hid (bel_gb K8.out hg K8.out.size (own_base HO48.out))
    clear ho hg
    go_wp2_with fail
    refine (eqSpotS_any w9 v5 v3 L L (lsp_of_own HO9.out) (lsp_next HL3.out K9.out) (by have := HR.out; have := HZ.out; omega)).mono ?_
    rintro e w10 ⟨rfl, hb⟩
    rw [show decide (L = L) = true by simp]
    have HO10 := Lib.hid (ownSp_below HO9.out hb)
    have K10 := Lib.hid (bel2 K9.out hb)
    clear hb
    obtain ⟨m, hm⟩ : ∃ m, 1 + 2 * L.length = m := ⟨_, rfl⟩
    have HM := Lib.hid hm
    have hm1 : (1 : Int) ≤ (m : Int) := by omega
    clear hm
    go_wp2_with fail
    refine (markSpotS_any w10 _ v5 L 1 HO10.out (by have := HR.out; have := HZ.out; omega) (by omega)).mono ?_
    rintro e w11 ⟨he, ho, hg⟩
    rw [HM.out] at he
    subst he
    have HO11 := Lib.hid ho
    have K11 := Lib.hid (bel_gb K10.out hg K10.out.size (fun g hg => Nat.le_trans K4.out.size (own_base HO10.out g hg)))
    clear ho hg
    go_wp2_with fail
    refine (heldSpotS_any w11 v5 1 L.length (lsp_of_own HO11.out) (by have := HR.out; have := HZ.out; omega) (by omega)).mono ?_
    rintro e w12 ⟨he, rfl⟩
    rw [HM.out] at he
    subst he
    go_wp2_with fail
    refine (toSpotS_any w12 _ l (lsp_next HL.out (bel2 HB3.out K11.out)) HR.out).mono ?_
    rintro e w13 ⟨v13, rfl, ho, hb⟩
    have HL13 := Lib.hid (lsp_of_own ho)
    have HO13 := Lib.hid (ownSp_below HO11.out hb)
    have K13 := Lib.hid (bel2 K11.out hb)
    clear ho hb
    go_wp2_with fail
    refine (indexLess_any w13 v13 l p HL13.out (by have := HR.out; omega)).mono ?_
    rintro e w14 ⟨v14, rfl, ho, hb⟩
    rw [HLL.out] at ho
    have HL14 := Lib.hid (lsp_of_own ho)
    have HO14 := Lib.hid (ownSp_below HO13.out hb)
    have K14 := Lib.hid (bel2 K13.out hb)
    clear ho hb
    go_wp2_with fail
    refine (eqSpotS_any w14 v14 v3 L L HL14.out (lsp_next HL3.out K14.out) (by have := HR.out; have := HZ.out; omega)).mono ?_
    rintro e w15 ⟨rfl, hb⟩
    rw [show decide (L = L) = true by simp]
    have HO15 := Lib.hid (ownSp_below HO14.out hb)
    have K15 := Lib.hid (bel2 K14.out hb)
    clear hb
    go_wp2_with fail
    refine (heldSpotS_any w15 v5 1 L.length (lsp_of_own HO15.out) (by have := HR.out; have := HZ.out; omega) (by omega)).mono ?_
    rintro e w16 ⟨he, rfl⟩
    rw [HM.out] at he
    subst he
    go_wp2
    go_ret
    exact ⟨rfl, bel2 HB3.out K15.out⟩
end
end Go.Proofs.Ytfoocgfedcfkhaa
