/- The exact law of TreeGet. -/
import Derived.Test.YtndiofhinlogmaaTreeGet2
import Derived.Test.YtndiofhinlogmaaLtreeB
namespace Go.Proofs.Ytndiofhinlogmaa
open Go.RowKit
section
set_option maxHeartbeats 1600000
theorem lawFnExactTreeGet (v : Value) (l : List Fil) (p : ByteArray) (w : World) (h : FilesIn w v l) (hp : p.size ≤ maxLen) (mx : Mx w) :
    Calls Try.prog 6 #[v, .string p] w fun e w' => e = .returned (.bool true) ∧ Below w.heap.size w w' := by
  have HI := Lib.hid h
  obtain ⟨hl, _⟩ := h
  obtain ⟨A, c, hv⟩ := lp_form hl
  rw [fvals_length] at hv
  subst hv
  have HL := Lib.hid hl
  have MX := Lib.hid mx
  clear hl mx
  unfold maxLen at hp
  by_cases hpl : p.size ≤ 1048576
  · go_enter Try.func6, Try.ntmps6
    go_wp2_with fail
    refine (szFileS_any w _ l 1048576 HI.out (Nat.le_refl _)).mono ?_
    rintro e w1 ⟨r, rfl, hr, hb⟩
    have HB1 := Lib.hid hb
    have HL1 := Lib.hid (lp_next HL.out hb)
    clear hb
    by_cases hneg : r < 0
    · go_wp2
      go_ret
      exact ⟨rfl, HB1.out⟩
    · have HR := Lib.hid (hr (by omega))
      have HSZ := Lib.hid (sized_of (hr (by omega)))
      clear hr
      go_wp2_with fail
      refine (toFileS_any w1 _ l HL1.out (by have := HR.out; omega)).mono ?_
      rintro e w2 ⟨v2, rfl, ho, hb⟩
      have HL2 := Lib.hid (lp_of_own ho)
      have HB2 := Lib.hid (bel2 HB1.out hb)
      clear ho hb
      go_wp2_with fail
      refine (treeGetS_any w2 v2 l p HL2.out (by have := HR.out; omega) (fun s hs => by have := HSZ.out s hs; omega)).mono ?_
      rintro e w3 ⟨rfl, hb⟩
      have HB3 := Lib.hid (bel2 HB2.out (show Below w2.heap.size w2 w3 by obtain ⟨m, rfl⟩ := hb; exact ⟨rfl, rfl, rfl, Nat.le_refl _, fun _ _ => rfl⟩))
      clear hb
      obtain ⟨s, hs⟩ : ∃ s, (treeGet l p).getD ByteArray.empty = s := ⟨_, rfl⟩
      obtain ⟨o, ho⟩ : ∃ o, (treeGet l p).isSome = o := ⟨_, rfl⟩
      have HG := Lib.hid (show got (treeGet l p) = .tuple #[.string s, .bool o] by unfold got; rw [hs, ho])
      rw [HG.out]
      clear hs ho
      go_wp2_with fail
      refine (toFileS_any w3 _ l (lp_next HL.out HB3.out) (by have := HR.out; omega)).mono ?_
      rintro e w4 ⟨v4, rfl, ho, hb⟩
      have HL4 := Lib.hid (lp_of_own ho)
      have HB4 := Lib.hid (bel2 HB3.out hb)
      clear ho hb
      go_wp2_with fail
      refine (treeGet_any w4 v4 l p HL4.out (by have := HR.out; omega) (fun s hs => by have := HSZ.out s hs; omega) (by omega) (MX.out.next HB4.out)).mono ?_
      rintro e w5 ⟨rfl, hb⟩
      have HB5 := Lib.hid (bel2 HB4.out hb)
      have HL45 := Lib.hid (lp_next HL4.out hb)
      clear hb
      rw [HG.out]
      have hoo : (o != o) = false := by simp
      have hss : (s.toList == s.toList) = true := by simp
      go_wp2_with fail
      refine (toFileS_any w5 _ l (lp_next HL.out HB5.out) (by have := HR.out; omega)).mono ?_
      rintro e w6 ⟨v6, rfl, ho, hb⟩
      have HL6 := Lib.hid (lp_of_own ho)
      have HB6 := Lib.hid (bel2 HB5.out hb)
      have HL46 := Lib.hid (lp_next HL45.out hb)
      clear ho hb
      go_wp2_with fail
      refine (eqFileS_any w6 v4 v6 l l HL46.out HL6.out (by have := HR.out; omega)).mono ?_
      rintro e w7 ⟨rfl, hb⟩
      rw [show decide (l = l) = true by simp]
      have HB7 := Lib.hid (bel2 HB6.out hb)
      clear hb
      go_wp2
      go_ret
      exact ⟨rfl, HB7.out⟩
  · go_enter Try.func6, Try.ntmps6
    go_wp2
    go_ret
    exact ⟨rfl, Below.refl _ _⟩
end
end Go.Proofs.Ytndiofhinlogmaa
