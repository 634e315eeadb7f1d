/- The exact law of TreeOk. -/
import Derived.Test.YtndiofhinlogmaaTreeOk
import Derived.Test.YtndiofhinlogmaaTreeOkS
namespace Go.Proofs.Ytndiofhinlogmaa
open Go.RowKit
theorem sized_of {l : List Fil} {z : Nat} (h : l.length + fsum l ≤ z) : ∀ s ∈ l, s.1.size ≤ z ∧ s.2.size ≤ z := fun s hs => by
  have := fsum_mem hs
  constructor <;> omega
section
set_option maxHeartbeats 1600000
theorem lawFnExactTreeOk (v : Value) (l : List Fil) (w : World) (h : FilesIn w v l) (mx : Mx w) :
    Calls Try.prog 5 #[v] w fun e w' => e = .returned (.bool true) ∧ Below w.heap.size w w' := by
  have HI := Lib.hid h
  obtain ⟨hl, _⟩ := h
  obtain ⟨A, c, hv⟩ := lp_form hl
  rw [fvals_length] at hv
  subst hv
  have HL := Lib.hid hl
  have MX := Lib.hid mx
  clear hl mx
  go_enter Try.func5, Try.ntmps5
  go_wp2_with fail
  refine (szFileS_any w _ l 1048576 HI.out (Nat.le_refl _)).mono ?_
  rintro e w1 ⟨r, rfl, hr, hb⟩
  have HB1 := Lib.hid hb
  have HL1 := Lib.hid (lp_next HL.out hb)
  clear hb
  by_cases hneg : r < 0
  · go_wp2
    go_ret
    exact ⟨rfl, HB1.out⟩
  · have HR := Lib.hid (hr (by omega))
    have HSZ := Lib.hid (sized_of (hr (by omega)))
    clear hr
    go_wp2_with fail
    refine (toFileS_any w1 _ l HL1.out (by have := HR.out; omega)).mono ?_
    rintro e w2 ⟨v2, rfl, ho, hb⟩
    have HL2 := Lib.hid (lp_of_own ho)
    have HB2 := Lib.hid (bel2 HB1.out hb)
    clear ho hb
    go_wp2_with fail
    refine (treeOkS_any w2 v2 l HL2.out (by have := HR.out; omega) (fun s hs => by have := HSZ.out s hs; omega)).mono ?_
    rintro e w3 ⟨rfl, hb⟩
    have HB3 := Lib.hid (bel2 HB2.out (show Below w2.heap.size w2 w3 by obtain ⟨m, rfl⟩ := hb; exact ⟨rfl, rfl, rfl, Nat.le_refl _, fun _ _ => rfl⟩))
    clear hb
    obtain ⟨o, ho⟩ : ∃ o, treeB l = o := ⟨_, rfl⟩
    have HO := Lib.hid ho
    rw [ho]
    clear ho
    go_wp2_with fail
    refine (toFileS_any w3 _ l (lp_next HL.out HB3.out) (by have := HR.out; omega)).mono ?_
    rintro e w4 ⟨v4, rfl, ho, hb⟩
    have HL4 := Lib.hid (lp_of_own ho)
    have HB4 := Lib.hid (bel2 HB3.out hb)
    clear ho hb
    go_wp2_with fail
    refine (treeOk_any w4 v4 l HL4.out (by have := HR.out; omega) (fun s hs => by have := HSZ.out s hs; omega) (MX.out.next HB4.out)).mono ?_
    rintro e w5 ⟨rfl, hb⟩
    have HB5 := Lib.hid (bel2 HB4.out hb)
    have HL45 := Lib.hid (lp_next HL4.out hb)
    clear hb
    rw [HO.out]
    have hoo : (o != o) = false := by simp
    go_wp2_with fail
    refine (toFileS_any w5 _ l (lp_next HL.out HB5.out) (by have := HR.out; omega)).mono ?_
    rintro e w6 ⟨v6, rfl, ho, hb⟩
    have HL6 := Lib.hid (lp_of_own ho)
    have HB6 := Lib.hid (bel2 HB5.out hb)
    have HL46 := Lib.hid (lp_next HL45.out hb)
    clear ho hb
    go_wp2_with fail
    refine (eqFileS_any w6 v4 v6 l l HL46.out HL6.out (by have := HR.out; omega)).mono ?_
    rintro e w7 ⟨rfl, hb⟩
    rw [show decide (l = l) = true by simp]
    have HB7 := Lib.hid (bel2 HB6.out hb)
    clear hb
    go_wp2
    go_ret
    exact ⟨rfl, HB7.out⟩
end
end Go.Proofs.Ytndiofhinlogmaa
