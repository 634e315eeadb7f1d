/- Lists of items: measured, copied, compared. -/
import Derived.Test.YtkjginibdablnaaGreatDoorItem
namespace Go.Proofs.YtkjginibdablnaaGreatDoor
open Go.RowKit
section
set_option maxHeartbeats 1600000
theorem flat_set {l : List (Value × Value)} {ys : List Value} {j n : Nat} {s : Value × Value} (hl : ys.length = n * 2) (hn : l.length = n) (hs : l[j]? = some s) (hj : j < n) (h : ys.take (j * 2) = flat (l.take j)) :
    ((ys.set (j * 2) s.1).set (j * 2 + 1) s.2).take ((j + 1) * 2) = flat (l.take (j + 1)) := by
  have e : l.take (j + 1) = l.take j ++ [s] := by rw [List.take_add_one, hs]; rfl
  rw [e, flat_append]
  apply List.ext_getElem?
  intro i
  have hlen : (flat (l.take j)).length = j * 2 := by rw [flat_length, List.length_take]; omega
  by_cases hi : i < j * 2
  · rw [List.getElem?_take_of_lt (by omega), List.getElem?_set_ne (by omega), List.getElem?_set_ne (by omega), List.getElem?_append_left (by omega), ← h, List.getElem?_take_of_lt hi]
  · rw [List.getElem?_append_right (by omega), hlen]
    by_cases h0 : i = j * 2
    · subst h0
      rw [List.getElem?_take_of_lt (by omega), List.getElem?_set_ne (by omega), List.getElem?_set_self (by omega), Nat.sub_self]
      rfl
    · by_cases h1 : i = j * 2 + 1
      · subst h1
        rw [List.getElem?_take_of_lt (by omega), List.getElem?_set_self (by rw [List.length_set]; omega), show j * 2 + 1 - j * 2 = 1 by omega]
        rfl
      · rw [List.getElem?_eq_none (by rw [List.length_take]; omega), List.getElem?_eq_none (by simp [flat]; omega)]
theorem eqItemS_any (w : World) (va vb : Value) (la lb : List Itm) (ha : Lp w w.heap.size va (ivals la)) (hb : Lp w w.heap.size vb (ivals lb)) (hm : la.length ≤ 1000000000) :
    Calls Tryz.prog 43 #[va, vb] w fun e w' => e = .returned (.bool (decide (la = lb))) ∧ Below w.heap.size w w' := by
  obtain ⟨A, ca, rfl, hca, hxa⟩ := ha
  obtain ⟨C, cb, rfl, hcb, hxb⟩ := hb
  have mixed := mixedO
  rw [ivals_length] at *
  rw [ivals_length] at *
  by_cases hl : la.length = lb.length
  · have HXA := Lib.hid hxa
    have HXB := Lib.hid hxb
    obtain ⟨n, hn⟩ : ∃ n, la.length = n := ⟨_, rfl⟩
    have hn2 : lb.length = n := by omega
    have HN := Lib.hid hn
    have HN2 := Lib.hid hn2
    rw [hn] at hm ⊢
    rw [hn2]
    clear hxa hxb hl hn hn2 hca hcb
    go_enter Tryz.func43, Tryz.ntmps43
    go_wp2
    go_loopw [5] (fun i wr => ∃ k : Nat, k ≤ n ∧ i = .int .i64 (k : Int) ∧ la.take k = lb.take k ∧ Below w.heap.size w wr) (fun i _ => n - (intOf i).toNat)
    case atStart => exact ⟨0, Nat.zero_le _, rfl, rfl, Below.refl _ _⟩
    case round =>
      obtain ⟨k, hk, rfl, ht, hbw⟩ := hrel
      have HT := Lib.hid ht
      have HB := Lib.hid hbw
      clear ht hbw
      by_cases hlt : k < n
      · obtain ⟨⟨a, b⟩, hx⟩ : ∃ x, la[k]? = some x := ⟨_, List.getElem?_eq_getElem (by have := HN.out; omega)⟩
        obtain ⟨⟨c, d⟩, hy⟩ : ∃ y, lb[k]? = some y := ⟨_, List.getElem?_eq_getElem (by have := HN2.out; omega)⟩
        obtain ⟨g, off, rfl, hg, hcg⟩ := HXA.out (by have := HN.out; omega)
        obtain ⟨g2, off2, rfl, hg2, hcg2⟩ := HXB.out (by have := HN2.out; omega)
        obtain ⟨h1, h2⟩ := hcg k _ (ivals_get hx)
        obtain ⟨h3, h4⟩ := hcg2 k _ (ivals_get hy)
        have hsz := HB.out.size
        have hc1 := cell_grown (a := ⟨g, off + k * 2, none⟩) (show g < wr.heap.size by omega) ((HB.out.cell (p := ⟨g, off + k * 2, none⟩) hg).trans h1)
        have hc2 := cell_grown (a := ⟨g, off + k * 2 + 1, none⟩) (show g < wr.heap.size by omega) ((HB.out.cell (p := ⟨g, off + k * 2 + 1, none⟩) hg).trans h2)
        have hc3 := cell_grown (a := ⟨g2, off2 + k * 2, none⟩) (show g2 < wr.heap.size by omega) ((HB.out.cell (p := ⟨g2, off2 + k * 2, none⟩) hg2).trans h3)
        have hc4 := cell_grown (a := ⟨g2, off2 + k * 2 + 1, none⟩) (show g2 < wr.heap.size by omega) ((HB.out.cell (p := ⟨g2, off2 + k * 2 + 1, none⟩) hg2).trans h4)
        have HBW := Lib.hid (fun (n : Nat) (os : Array Obj) => below_grow HB.out HB.out.size n os)
        have HX := Lib.hid hx
        have HY := Lib.hid hy
        clear hx hy hcg hcg2 h1 h2 h3 h4 hsz
        have hi1 : (k : Int) < (n : Int) := by omega
        have hi0 : (0 : Int) ≤ (k : Int) := by omega
        by_cases hxy : a = c ∧ b = d
        · obtain ⟨rfl, rfl⟩ := hxy
          go_wp2_with fail
          refine wp_region_quiet_grown (by assumption) (by kernel_rfl) ?_
          repeat (first | go_big_quiet_skip | quiet_step (first | (go_at_call 67; exact eqItem_is a a b b true (by simp) _ _ _)))
          refine wpQuiet_nil ?_
          intro _ hw'
          obtain ⟨⟨nq, osq⟩, hw''⟩ := hw'
          subst hw''
          go_wp2
          go_roundw
          case rel => exact ⟨k + 1, by omega, by go_num, tk_snoc HT.out HX.out HY.out, HBW.out _ _⟩
          case measure => simp [intOf]; omega
        · have HD := Lib.hid (decide_eq_false hxy)
          have HF := Lib.hid (show la ≠ lb by
            rintro rfl
            have h := HX.out
            rw [HY.out] at h
            injection h with h
            injection h with h1 h2
            exact hxy ⟨h1.symm, h2.symm⟩)
          clear hxy
          go_wp2_with fail
          refine wp_region_quiet_grown (by assumption) (by kernel_rfl) ?_
          repeat (first | go_big_quiet_skip | quiet_step (first | (go_at_call 67; exact eqItem_is a c b d false HD.out _ _ _)))
          refine wpQuiet_nil ?_
          intro _ hw'
          obtain ⟨⟨nq, osq⟩, hw''⟩ := hw'
          subst hw''
          go_wp2
          go_ret
          exact ⟨ret_bool (by simp [HF.out]), HBW.out _ _⟩
      · have HE := Lib.hid (show la = lb by
          have h1 := HT.out
          rwa [List.take_of_length_le (by have := HN.out; omega), List.take_of_length_le (by have := HN2.out; omega)] at h1)
        go_wp2
        go_ret
        exact ⟨ret_bool (by simp [HE.out]), HB.out⟩
  · have HF := Lib.hid (show la ≠ lb from fun h => hl (by rw [h]))
    have hne : ((la.length : Int) != (lb.length : Int)) = true := by simp; omega
    clear hxa hxb
    generalize la.length = n at *
    generalize lb.length = m at *
    go_enter Tryz.func43, Tryz.ntmps43
    go_wp2
    go_ret
    exact ⟨ret_bool (by simp [HF.out]), Below.refl _ _⟩
end
end Go.Proofs.YtkjginibdablnaaGreatDoor
