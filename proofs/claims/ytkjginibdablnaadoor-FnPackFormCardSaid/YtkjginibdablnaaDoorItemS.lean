/- Lists of items: measured, copied, compared. -/
import Derived.Test.YtkjginibdablnaaDoorItem
namespace Go.Proofs.YtkjginibdablnaaDoor
open Go.RowKit
section
set_option maxHeartbeats 1600000
theorem szItemS_any (w : World) (v : Value) (l : List Itm) (z : Nat) (h : ItemsIn w v l) (hz : z ≤ 1048576) :
    Calls Tryd.prog 30 #[v, .int .i64 (z : Int)] w fun e w' => ∃ r : Int, e = .returned (.int .i64 r) ∧ (0 ≤ r → l.length + isum l ≤ z) ∧ Below w.heap.size w w' := by
  obtain ⟨⟨A, c, rfl, hc, hx⟩, hn, hs⟩ := h
  rw [ivals_length] at *
  have HX := Lib.hid hx
  clear hx
  obtain ⟨n, hnn⟩ : ∃ n, l.length = n := ⟨_, rfl⟩
  have HN := Lib.hid hnn
  have HSZ := Lib.hid hs
  rw [hnn] at hn hc ⊢
  clear hnn hs
  unfold maxLen at hn
  by_cases hzn : z < n
  · have hz1 : (z : Int) - (n : Int) < 0 := by omega
    have hz2 : -9223372036854775808 ≤ (z : Int) - (n : Int) := by omega
    go_enter Tryd.func30, Tryd.ntmps30
    go_wp2
    go_ret
    exact ⟨-1, rfl, fun h => by omega, Below.refl _ _⟩
  · have hz1 : 0 ≤ (z : Int) - (n : Int) := by omega
    have hz2 : (z : Int) - (n : Int) ≤ 1048576 := by omega
    go_enter Tryd.func30, Tryd.ntmps30
    go_wp2
    go_loopw [1, 5] (fun q i wr => ∃ (k y : Nat), k ≤ n ∧ q = .int .i64 (y : Int) ∧ i = .int .i64 (k : Int) ∧ y + n + isum (l.take k) = z ∧ Below w.heap.size w wr) (fun _ i _ => n - (intOf i).toNat)
    case atStart => exact ⟨0, z - n, Nat.zero_le _, by go_num, rfl, by simp [isum]; omega, Below.refl _ _⟩
    case round =>
      obtain ⟨k, y, hk, rfl, rfl, hy, hbw⟩ := hrel
      have HY := Lib.hid hy
      have HB := Lib.hid hbw
      have hy2 : y ≤ 1048576 := by omega
      clear hy hbw
      by_cases hlt : k < n
      · obtain ⟨⟨a, b⟩, hx⟩ : ∃ x, l[k]? = some x := ⟨_, List.getElem?_eq_getElem (by have := HN.out; omega)⟩
        obtain ⟨g, off, rfl, hg, hcg⟩ := HX.out (by have := HN.out; omega)
        obtain ⟨h1, h2⟩ := hcg k _ (ivals_get hx)
        have hc1 := (HB.out.cell (p := ⟨g, off + k * 2, none⟩) hg).trans h1
        have hc2 := (HB.out.cell (p := ⟨g, off + k * 2 + 1, none⟩) hg).trans h2
        have HBW := Lib.hid (HB.out.alloc HB.out.size (.cells #[.int .i64 a, .string b] 89))
        have HXX := Lib.hid hx
        have HSS := Lib.hid (HSZ.out _ (List.mem_of_getElem? hx))
        have HF := Lib.hid (isum_snoc hx)
        clear hx hcg h1 h2
        have hi1 : (k : Int) < (n : Int) := by omega
        by_cases hfit : b.size ≤ y
        · obtain ⟨r, hr⟩ : ∃ r : Nat, y - (b.size) = r := ⟨_, rfl⟩
          have HR := Lib.hid hr
          have HE := Lib.hid (show (if b.size ≤ y then ((y - (b.size) : Nat) : Int) else -1) = (r : Int) by rw [if_pos hfit, hr])
          clear hr
          have hr2 : r ≤ 1048576 := by have := HR.out; omega
          have hr3 : (0 : Int) ≤ (r : Int) := by omega
          go_wp2_with fail
          refine (szItem_any a b y hy2 HSS.out wr).mono ?_
          rw [HE.out]
          rintro e w' ⟨rfl, rfl⟩
          go_wp2
          go_roundw
          case rel => exact ⟨k + 1, r, by omega, rfl, by go_num, by have := HF.out; have := HY.out; have := HR.out; omega, HBW.out⟩
          case measure => simp [intOf]; omega
        · have HE := Lib.hid (show (if b.size ≤ y then ((y - (b.size) : Nat) : Int) else -1) = -1 by rw [if_neg hfit])
          clear hfit
          go_wp2_with fail
          refine (szItem_any a b y hy2 HSS.out wr).mono ?_
          rw [HE.out]
          rintro e w' ⟨rfl, rfl⟩
          go_wp2
          go_ret
          exact ⟨-1, rfl, fun h => by omega, HBW.out⟩
      · have HE := Lib.hid (show l.length + isum l ≤ z by
          have h1 := HY.out
          have h2 := HN.out
          rw [List.take_of_length_le (by omega)] at h1
          omega)
        go_wp2
        go_ret
        exact ⟨_, rfl, fun _ => by have h := HE.out; rw [HN.out] at h; exact h, HB.out⟩
theorem flat_set {l : List (Value × Value)} {ys : List Value} {j n : Nat} {s : Value × Value} (hl : ys.length = n * 2) (hn : l.length = n) (hs : l[j]? = some s) (hj : j < n) (h : ys.take (j * 2) = flat (l.take j)) :
    ((ys.set (j * 2) s.1).set (j * 2 + 1) s.2).take ((j + 1) * 2) = flat (l.take (j + 1)) := by
  have e : l.take (j + 1) = l.take j ++ [s] := by rw [List.take_add_one, hs]; rfl
  rw [e, flat_append]
  apply List.ext_getElem?
  intro i
  have hlen : (flat (l.take j)).length = j * 2 := by rw [flat_length, List.length_take]; omega
  by_cases hi : i < j * 2
  · rw [List.getElem?_take_of_lt (by omega), List.getElem?_set_ne (by omega), List.getElem?_set_ne (by omega), List.getElem?_append_left (by omega), ← h, List.getElem?_take_of_lt hi]
  · rw [List.getElem?_append_right (by omega), hlen]
    by_cases h0 : i = j * 2
    · subst h0
      rw [List.getElem?_take_of_lt (by omega), List.getElem?_set_ne (by omega), List.getElem?_set_self (by omega), Nat.sub_self]
      rfl
    · by_cases h1 : i = j * 2 + 1
      · subst h1
        rw [List.getElem?_take_of_lt (by omega), List.getElem?_set_self (by rw [List.length_set]; omega), show j * 2 + 1 - j * 2 = 1 by omega]
        rfl
      · rw [List.getElem?_eq_none (by rw [List.length_take]; omega), List.getElem?_eq_none (by simp [flat]; omega)]
theorem toItemS_any (w : World) (v : Value) (l : List Itm) (hl : Lp w w.heap.size v (ivals l)) (hn : l.length ≤ 1048576) :
    Calls Tryd.prog 34 #[v] w fun e w' => ∃ v', e = .returned v' ∧ OwnP 40 w.heap.size w' v' (ivals l) ∧ Below w.heap.size w w' := by
  obtain ⟨A, c, rfl, hc, hx⟩ := hl
  rw [ivals_length] at *
  have HX := Lib.hid hx
  clear hx
  obtain ⟨n, hnn⟩ : ∃ n, l.length = n := ⟨_, rfl⟩
  have HN := Lib.hid hnn
  rw [hnn] at hn hc ⊢
  clear hnn
  obtain ⟨i0, hi, hz0, hz1, hz2⟩ := infoItem_parts
  have hmk := fun W : World => run_make_p (P := Tryd.prog) 27 40 i0 _ Tryd.underlying27 hi hz0 n (by rw [hz2]; omega) (by omega) W
  obtain ⟨xs, hxs⟩ : ∃ xs, xs = madeCells (Value.agg #[.int .i64 0, .string ByteArray.empty]).cells (n * i0.size) := ⟨_, rfl⟩
  have hxl : xs.size = n * 2 := by rw [hxs, size_madeCells, hz1]
  rw [← hxs] at hmk
  have HO0 : Hid ((w.alloc (.cells xs 40)).ownsRow w.heap.size 40 2 (.slice (some ⟨w.heap.size, 0, none⟩) n n) n xs.toList) :=
    Lib.hid (World.ownsRow_lit w xs n (Nat.le_refl _) (by unfold maxLen; omega) hxl)
  clear hxs hxl hi hz0 hz1 hz2
  go_enter Tryd.func34, Tryd.ntmps34
  go_wp2
  go_loopw [4] (fun i wr => ∃ (j : Nat) (ys : List Value), j ≤ n ∧ i = .int .i64 (j : Int) ∧ wr.ownsRow w.heap.size 40 2 (.slice (some ⟨w.heap.size, 0, none⟩) n n) n ys ∧ ys.take (j * 2) = flat ((ivals l).take j) ∧ Below w.heap.size w wr) (fun i _ => n - (intOf i).toNat)
  case atStart => exact ⟨0, _, Nat.zero_le _, rfl, HO0.out, by simp [flat], (Below.refl _ _).alloc (Nat.le_refl _) _⟩
  case round =>
    obtain ⟨j, ys, hj, rfl, ho, hsp, hb⟩ := hrel
    have HO := Lib.hid ho
    have HB := Lib.hid hb
    have HSP := Lib.hid hsp
    clear ho hb hsp
    by_cases hlt : j < n
    · obtain ⟨⟨a, b⟩, hs⟩ : ∃ s, l[j]? = some s := ⟨_, List.getElem?_eq_getElem (by have := HN.out; omega)⟩
      obtain ⟨g, off, rfl, hg, hcg⟩ := HX.out (by have := HN.out; omega)
      obtain ⟨h1, h2⟩ := hcg j _ (ivals_get hs)
      have hc1 := (HB.out.cell (p := ⟨g, off + j * 2, none⟩) hg).trans h1
      have hc2 := (HB.out.cell (p := ⟨g, off + j * 2 + 1, none⟩) hg).trans h2
      have HS2 := Lib.hid (flat_set (n := n) (by have := HO.out.1; omega) (by rw [ivals_length]; exact HN.out) (ivals_get hs) hlt HSP.out)
      clear h1 h2 hcg hs
      have hi1 : (j : Int) < (n : Int) := by omega
      go_wp2_with fail
      refine (toItem_any a b wr).mono ?_
      rintro e w' ⟨rfl, hb⟩
      have HB2 := Lib.hid hb
      clear hb
      have HO' : Hid (w'.ownsRow w.heap.size 40 2 (.slice (some ⟨w.heap.size, 0, none⟩) n n) n ys) := Lib.hid (HO.out.kept (grown_of_bel HB2.out none) (Classical.em _))
      have hyl : ys.length = n * 2 := by have := HO'.out.1; omega
      obtain ⟨o1, ho1⟩ : ∃ x, ys[j * 2]? = some x := ⟨_, List.getElem?_eq_getElem (by omega)⟩
      obtain ⟨o2, ho2⟩ : ∃ x, ys[j * 2 + 1]? = some x := ⟨_, List.getElem?_eq_getElem (by omega)⟩
      have hq1 := (HO'.out.cellAt (j * 2) (by omega)).trans ho1
      have hq2 := (HO'.out.cellAt (j * 2 + 1) (by omega)).trans ho2
      have hf1 := HO'.out.frozenAt (j * 2)
      have hf2 := HO'.out.frozenAt (j * 2 + 1)
      have HS1 := Lib.hid ((HO'.out.stored (j * 2) (.int .i64 a)).1.stored (j * 2 + 1) (.string b)).1
      clear hyl ho1 ho2
      go_wp2
      go_roundw
      case rel => exact ⟨j + 1, _, by omega, by go_num, HS1.out, HS2.out, ((HB.out.trans (HB2.out.mono HB.out.size)).setCell (Nat.le_refl _) _).setCell (Nat.le_refl _) _⟩
      case measure => simp [intOf]; omega
    · have HF := Lib.hid (show ys = flat (ivals l) by
        have h1 := HSP.out
        have h2 := HO.out.1
        rw [List.take_of_length_le (by omega), List.take_of_length_le (by rw [ivals_length]; have := HN.out; omega)] at h1
        exact h1)
      go_wp2
      go_ret
      exact ⟨_, rfl, by unfold OwnP; rw [ivals_length, HN.out, ← HF.out]; exact HO.out, HB.out⟩
theorem eqItemS_any (w : World) (va vb : Value) (la lb : List Itm) (ha : Lp w w.heap.size va (ivals la)) (hb : Lp w w.heap.size vb (ivals lb)) (hm : la.length ≤ 1000000000) :
    Calls Tryd.prog 37 #[va, vb] w fun e w' => e = .returned (.bool (decide (la = lb))) ∧ Below w.heap.size w w' := by
  obtain ⟨A, ca, rfl, hca, hxa⟩ := ha
  obtain ⟨C, cb, rfl, hcb, hxb⟩ := hb
  have mixed := mixedO
  rw [ivals_length] at *
  rw [ivals_length] at *
  by_cases hl : la.length = lb.length
  · have HXA := Lib.hid hxa
    have HXB := Lib.hid hxb
    obtain ⟨n, hn⟩ : ∃ n, la.length = n := ⟨_, rfl⟩
    have hn2 : lb.length = n := by omega
    have HN := Lib.hid hn
    have HN2 := Lib.hid hn2
    rw [hn] at hm ⊢
    rw [hn2]
    clear hxa hxb hl hn hn2 hca hcb
    go_enter Tryd.func37, Tryd.ntmps37
    go_wp2
    go_loopw [5] (fun i wr => ∃ k : Nat, k ≤ n ∧ i = .int .i64 (k : Int) ∧ la.take k = lb.take k ∧ Below w.heap.size w wr) (fun i _ => n - (intOf i).toNat)
    case atStart => exact ⟨0, Nat.zero_le _, rfl, rfl, Below.refl _ _⟩
    case round =>
      obtain ⟨k, hk, rfl, ht, hbw⟩ := hrel
      have HT := Lib.hid ht
      have HB := Lib.hid hbw
      clear ht hbw
      by_cases hlt : k < n
      · obtain ⟨⟨a, b⟩, hx⟩ : ∃ x, la[k]? = some x := ⟨_, List.getElem?_eq_getElem (by have := HN.out; omega)⟩
        obtain ⟨⟨c, d⟩, hy⟩ : ∃ y, lb[k]? = some y := ⟨_, List.getElem?_eq_getElem (by have := HN2.out; omega)⟩
        obtain ⟨g, off, rfl, hg, hcg⟩ := HXA.out (by have := HN.out; omega)
        obtain ⟨g2, off2, rfl, hg2, hcg2⟩ := HXB.out (by have := HN2.out; omega)
        obtain ⟨h1, h2⟩ := hcg k _ (ivals_get hx)
        obtain ⟨h3, h4⟩ := hcg2 k _ (ivals_get hy)
        have hsz := HB.out.size
        have hc1 := cell_grown (a := ⟨g, off + k * 2, none⟩) (show g < wr.heap.size by omega) ((HB.out.cell (p := ⟨g, off + k * 2, none⟩) hg).trans h1)
        have hc2 := cell_grown (a := ⟨g, off + k * 2 + 1, none⟩) (show g < wr.heap.size by omega) ((HB.out.cell (p := ⟨g, off + k * 2 + 1, none⟩) hg).trans h2)
        have hc3 := cell_grown (a := ⟨g2, off2 + k * 2, none⟩) (show g2 < wr.heap.size by omega) ((HB.out.cell (p := ⟨g2, off2 + k * 2, none⟩) hg2).trans h3)
        have hc4 := cell_grown (a := ⟨g2, off2 + k * 2 + 1, none⟩) (show g2 < wr.heap.size by omega) ((HB.out.cell (p := ⟨g2, off2 + k * 2 + 1, none⟩) hg2).trans h4)
        have HBW := Lib.hid (fun (n : Nat) (os : Array Obj) => below_grow HB.out HB.out.size n os)
        have HX := Lib.hid hx
        have HY := Lib.hid hy
        clear hx hy hcg hcg2 h1 h2 h3 h4 hsz
        have hi1 : (k : Int) < (n : Int) := by omega
        have hi0 : (0 : Int) ≤ (k : Int) := by omega
        by_cases hxy : a = c ∧ b = d
        · obtain ⟨rfl, rfl⟩ := hxy
          go_wp2_with fail
          refine wp_region_quiet_grown (by assumption) (by kernel_rfl) ?_
          repeat (first | go_big_quiet_skip | quiet_step (first | (go_at_call 62; exact eqItem_is a a b b true (by simp) _ _ _)))
          refine wpQuiet_nil ?_
          intro _ hw'
          obtain ⟨⟨nq, osq⟩, hw''⟩ := hw'
          subst hw''
          go_wp2
          go_roundw
          case rel => exact ⟨k + 1, by omega, by go_num, tk_snoc HT.out HX.out HY.out, HBW.out _ _⟩
          case measure => simp [intOf]; omega
        · have HD := Lib.hid (decide_eq_false hxy)
          have HF := Lib.hid (show la ≠ lb by
            rintro rfl
            have h := HX.out
            rw [HY.out] at h
            injection h with h
            injection h with h1 h2
            exact hxy ⟨h1.symm, h2.symm⟩)
          clear hxy
          go_wp2_with fail
          refine wp_region_quiet_grown (by assumption) (by kernel_rfl) ?_
          repeat (first | go_big_quiet_skip | quiet_step (first | (go_at_call 62; exact eqItem_is a c b d false HD.out _ _ _)))
          refine wpQuiet_nil ?_
          intro _ hw'
          obtain ⟨⟨nq, osq⟩, hw''⟩ := hw'
          subst hw''
          go_wp2
          go_ret
          exact ⟨ret_bool (by simp [HF.out]), HBW.out _ _⟩
      · have HE := Lib.hid (show la = lb by
          have h1 := HT.out
          rwa [List.take_of_length_le (by have := HN.out; omega), List.take_of_length_le (by have := HN2.out; omega)] at h1)
        go_wp2
        go_ret
        exact ⟨ret_bool (by simp [HE.out]), HB.out⟩
  · have HF := Lib.hid (show la ≠ lb from fun h => hl (by rw [h]))
    have hne : ((la.length : Int) != (lb.length : Int)) = true := by simp; omega
    clear hxa hxb
    generalize la.length = n at *
    generalize lb.length = m at *
    go_enter Tryd.func37, Tryd.ntmps37
    go_wp2
    go_ret
    exact ⟨ret_bool (by simp [HF.out]), Below.refl _ _⟩
end
end Go.Proofs.YtkjginibdablnaaDoor
