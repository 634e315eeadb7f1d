/- The exact law of IndexOk. -/
import Derived.Test.YtfoocgfedcfkhaaSpotS
namespace Go.Proofs.Ytfoocgfedcfkhaa
open Go.RowKit
theorem lsp_form {w : World} {B : Nat} {v : Value} {l : List (Int × Int)} (h : Lsp w B v l) : ∃ A c, v = .slice A l.length c := by
  obtain ⟨A, c, hv, _⟩ := h
  exact ⟨A, c, hv⟩
section
set_option maxHeartbeats 800000
theorem lawFnExactIndexOk (v : Value) (l : List (Int × Int)) (w : World) (h : SpotsIn w v l) :
    Calls Try.prog 3 #[v] w fun e w' => e = .returned (.bool true) ∧ Below w.heap.size w w' := by
  obtain ⟨hl, hn⟩ := h
  obtain ⟨A, c, rfl⟩ := lsp_form hl
  have HL := Lib.hid hl
  have HN := Lib.hid hn
  clear hl hn
  go_enter Try.func3, Try.ntmps3
  go_wp2_with fail
  refine (szSpotS_any w A l.length c HN.out).mono ?_
  rintro e w1 ⟨r, rfl, hr, rfl⟩
  by_cases hneg : r < 0
  · go_wp2
    go_ret
    exact ⟨rfl, Below.refl _ _⟩
  · have HR := Lib.hid (hr (by omega))
    clear hr
    go_wp2_with fail
    refine (toSpotS_any w1 _ l HL.out HR.out).mono ?_
    rintro e w2 ⟨v2, rfl, ho, hb⟩
    have HL2 := Lib.hid (lsp_of_own ho)
    have HB2 := Lib.hid hb
    clear ho hb
    go_wp2_with fail
    refine (indexOkS_any w2 v2 l HL2.out (by have := HR.out; omega)).mono ?_
    rintro e w3 ⟨rfl, hb⟩
    have HB3 := Lib.hid (bel2 HB2.out hb)
    clear hb
    obtain ⟨o, ho⟩ : ∃ o, idxB l = o := ⟨_, rfl⟩
    have HO := Lib.hid ho
    rw [ho]
    clear ho
    go_wp2_with fail
    refine (toSpotS_any w3 _ l (lsp_next HL.out HB3.out) HR.out).mono ?_
    rintro e w4 ⟨v4, rfl, ho, hb⟩
    have HL4 := Lib.hid (lsp_of_own ho)
    have HB4 := Lib.hid (bel2 HB3.out hb)
    clear ho hb
    go_wp2_with fail
    refine (indexOk_any w4 v4 l HL4.out (by have := HR.out; omega)).mono ?_
    rintro e w5 ⟨rfl, hb⟩
    have HB5 := Lib.hid (bel2 HB4.out hb)
    have HL45 := Lib.hid (lsp_next HL4.out hb)
    clear hb
    rw [HO.out]
    have hoo : (o != o) = false := by simp
    go_wp2_with fail
    refine (toSpotS_any w5 _ l (lsp_next HL.out HB5.out) HR.out).mono ?_
    rintro e w6 ⟨v6, rfl, ho, hb⟩
    have HL6 := Lib.hid (lsp_of_own ho)
    have HB6 := Lib.hid (bel2 HB5.out hb)
    have HL46 := Lib.hid (lsp_next HL45.out hb)
    clear ho hb
    go_wp2_with fail
    refine (eqSpotS_any w6 v4 v6 l l HL46.out HL6.out (by have := HR.out; omega)).mono ?_
    rintro e w7 ⟨rfl, hb⟩
    rw [show decide (l = l) = true by simp]
    have HB7 := Lib.hid (bel2 HB6.out hb)
    clear hb
    go_wp2
    go_ret
    exact ⟨rfl, HB7.out⟩
end
end Go.Proofs.Ytfoocgfedcfkhaa
