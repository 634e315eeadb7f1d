/- The exact laws of CutJoin and CutOk; the laws of pieces that are joined again. -/
import Derived.Test.YthefpbnnmfjggaaCopy
namespace Go.Proofs.Ythefpbnnmfjggaa
open Go.RowKit
theorem bulk_flat {l : List ByteArray} {z : Nat} (h : bulk l ≤ z) : l.length ≤ z ∧ (raws l).flatten.length ≤ z := by
  unfold bulk at h; omega
theorem gave_bars {l : List ByteArray} {w w' : World} {e : Ending} (h : GaveOwn 9 (barVals l) w e w') : ∃ v, e = .returned v ∧ Lst w' w'.heap.size v (barVals l) ∧ Below w.heap.size w w' := gave_lst h
section
set_option maxHeartbeats 800000
theorem lawFnExactCutJoin (v : Value) (l : List ByteArray) (w : World) (hl : Lst w w.heap.size v (barVals l)) (hn : l.length ≤ maxLen) (hs : ∀ s ∈ l, s.size ≤ maxLen) :
    Calls Try.prog 3 #[v] w fun e w' => e = .returned (.bool true) ∧ Below w.heap.size w w' := by
  have HL := Lib.hid hl
  have HN := Lib.hid hn
  have HS := Lib.hid hs
  clear hl hn hs
  go_enter Try.func3, Try.ntmps3
  go_wp2_with fail
  refine (szStringS_any w v l 1048576 HL.out HN.out HS.out (by omega)).mono ?_
  rintro e w1 ⟨r, rfl, hr, q, rfl⟩
  by_cases hneg : r < 0
  · go_wp2
    go_ret
    exact ⟨rfl, below_drewN (Below.refl _ _) _⟩
  · have HR := Lib.hid (bulk_flat (hr (by omega)))
    clear hr
    have HL1 : Hid (Lst (w.drewN q) (w.drewN q).heap.size v (barVals l)) := Lib.hid (lst_drewN HL.out q)
    go_wp2_with fail
    refine (toStringS_any (w.drewN q) v l HL1.out HR.out.1).mono ?_
    intro e w2 hg
    obtain ⟨v2, rfl, hl2, hb2⟩ := gave_bars hg
    have HL2 := Lib.hid hl2
    have HB2 := Lib.hid (bel_drew hb2)
    clear hg hl2 hb2
    go_wp2_with fail
    refine (cutJoinS_any w2 v2 l HL2.out HR.out.1).mono ?_
    rintro e w3 ⟨rfl, hb⟩
    have HB3 := Lib.hid (bel_trans HB2.out hb)
    have HL3 := Lib.hid (lst_next HL.out HB3.out)
    clear hb
    generalize hT : (⟨(joinT (raws l)).toArray⟩ : ByteArray) = T at *
    generalize hO : joinOk (raws l) = o at *
    have HTT := Lib.hid hT
    have HOO := Lib.hid hO
    clear hT hO
    go_wp2_with fail
    refine (toStringS_any w3 v l HL3.out HR.out.1).mono ?_
    intro e w4 hg
    obtain ⟨v4, rfl, hl4, hb4⟩ := gave_bars hg
    have HL4 := Lib.hid hl4
    have HB4 := Lib.hid (bel_trans HB3.out hb4)
    clear hg hl4 hb4
    go_wp2_with fail
    refine (cutJoin_any w4 v4 l HL4.out HR.out.1 HR.out.2).mono ?_
    rintro e w5 ⟨rfl, hb⟩
    rw [HTT.out, HOO.out]
    have HB5 := Lib.hid (bel_trans HB4.out hb)
    have HL5 := Lib.hid (lst_next HL.out HB5.out)
    have HL45 := Lib.hid (lst_next HL4.out hb)
    clear hb
    have ho : (o != o) = false := by simp
    go_wp2_with fail
    refine (toStringS_any w5 v l HL5.out HR.out.1).mono ?_
    intro e w6 hg
    obtain ⟨v6, rfl, hl6, hb6⟩ := gave_bars hg
    have HL6 := Lib.hid hl6
    have HB6 := Lib.hid (bel_trans HB5.out hb6)
    have HL46 := Lib.hid (lst_next HL45.out hb6)
    clear hg hl6 hb6
    go_wp2_with fail
    refine (eqStringS_any w6 w6.heap.size v4 v6 l l HL46.out HL6.out (by have := HR.out.1; omega) (by have := HR.out.1; omega)).mono ?_
    rintro e w7 ⟨rfl, n, rfl⟩
    rw [show decide (l = l) = true by simp]
    go_wp2
    go_ret
    exact ⟨rfl, below_drewN HB6.out _⟩
theorem lawFnExactCutOk (v : Value) (l : List ByteArray) (w : World) (hl : Lst w w.heap.size v (barVals l)) (hn : l.length ≤ maxLen) (hs : ∀ s ∈ l, s.size ≤ maxLen) :
    Calls Try.prog 4 #[v] w fun e w' => e = .returned (.bool true) ∧ Below w.heap.size w w' := by
  have HL := Lib.hid hl
  have HN := Lib.hid hn
  have HS := Lib.hid hs
  clear hl hn hs
  go_enter Try.func4, Try.ntmps4
  go_wp2_with fail
  refine (szStringS_any w v l 1048576 HL.out HN.out HS.out (by omega)).mono ?_
  rintro e w1 ⟨r, rfl, hr, q, rfl⟩
  by_cases hneg : r < 0
  · go_wp2
    go_ret
    exact ⟨rfl, below_drewN (Below.refl _ _) _⟩
  · have HR := Lib.hid (bulk_flat (hr (by omega)))
    clear hr
    have HL1 : Hid (Lst (w.drewN q) (w.drewN q).heap.size v (barVals l)) := Lib.hid (lst_drewN HL.out q)
    go_wp2_with fail
    refine (toStringS_any (w.drewN q) v l HL1.out HR.out.1).mono ?_
    intro e w2 hg
    obtain ⟨v2, rfl, hl2, hb2⟩ := gave_bars hg
    have HL2 := Lib.hid hl2
    have HB2 := Lib.hid (bel_drew hb2)
    clear hg hl2 hb2
    go_wp2_with fail
    refine (cutOkS_any w2 v2 l HL2.out HR.out.1).mono ?_
    rintro e w3 ⟨rfl, hb⟩
    have HB3 := Lib.hid (bel_trans HB2.out hb)
    have HL3 := Lib.hid (lst_next HL.out HB3.out)
    clear hb
    generalize hO : joinOk (raws l) = o at *
    have HOO := Lib.hid hO
    clear hO
    go_wp2_with fail
    refine (toStringS_any w3 v l HL3.out HR.out.1).mono ?_
    intro e w4 hg
    obtain ⟨v4, rfl, hl4, hb4⟩ := gave_bars hg
    have HL4 := Lib.hid hl4
    have HB4 := Lib.hid (bel_trans HB3.out hb4)
    clear hg hl4 hb4
    go_wp2_with fail
    refine (cutOk_any w4 v4 l HL4.out HR.out.1 HR.out.2).mono ?_
    rintro e w5 ⟨rfl, hb⟩
    rw [HOO.out]
    have HB5 := Lib.hid (bel_trans HB4.out hb)
    have HL5 := Lib.hid (lst_next HL.out HB5.out)
    have HL45 := Lib.hid (lst_next HL4.out hb)
    clear hb
    have ho : (o != o) = false := by simp
    go_wp2_with fail
    refine (toStringS_any w5 v l HL5.out HR.out.1).mono ?_
    intro e w6 hg
    obtain ⟨v6, rfl, hl6, hb6⟩ := gave_bars hg
    have HL6 := Lib.hid hl6
    have HB6 := Lib.hid (bel_trans HB5.out hb6)
    have HL46 := Lib.hid (lst_next HL45.out hb6)
    clear hg hl6 hb6
    go_wp2_with fail
    refine (eqStringS_any w6 w6.heap.size v4 v6 l l HL46.out HL6.out (by have := HR.out.1; omega) (by have := HR.out.1; omega)).mono ?_
    rintro e w7 ⟨rfl, n, rfl⟩
    rw [show decide (l = l) = true by simp]
    go_wp2
    go_ret
    exact ⟨rfl, below_drewN HB6.out _⟩
end
end Go.Proofs.Ythefpbnnmfjggaa
