/- Packs by value: measured, copied, compared; marked. -/
import Derived.Test.YtkjginibdablnaaGreatDoorItemS
import Derived.Test.YtkjginibdablnaaGreatDoorMarkT
import Derived.Deep.RegionWith
namespace Go.Proofs.YtkjginibdablnaaGreatDoor
open Go.RowKit
theorem own_someP {T B : Nat} {w : World} {v : Value} {l : List (Value × Value)} (h : OwnP T B w v l) (hl : 1 ≤ l.length) : ∃ g c, v = .slice (some ⟨g, 0, none⟩) l.length c ∧ B ≤ g := by
  rcases h.2 with ⟨_, h0⟩ | ⟨g, cap, cur, hv, hb, _⟩
  · omega
  · exact ⟨g, cap, hv, hb⟩
theorem own_formP {T B : Nat} {w : World} {v : Value} {l : List (Value × Value)} (h : OwnP T B w v l) : ∃ A c, v = .slice A l.length c := lp_form (lp_of_own h)
abbrev packV (no : Int) (v : Value) : Value := .agg #[.int .i64 no, v]
/-- the marks k, k+1, .. as items -/
def mks (k n : Nat) : List (Value × Value) := (List.range n).map fun i : Nat => (.int .i64 ((k + 2 * i : Nat) : Int), .string (markT (k + 2 * i + 1)))
theorem mks_length (k n : Nat) : (mks k n).length = n := by simp [mks]
theorem mks_get (k n j : Nat) (h : j < n) : (mks k n)[j]? = some (.int .i64 ((k + 2 * j : Nat) : Int), .string (markT (k + 2 * j + 1))) := by simp [mks, h]
theorem ownP_set {T B b : Nat} {w : World} {v : Value} {l : List (Value × Value)} (h : OwnP T B w v l) (hb : b < B) (i : Nat) (u : Value) : OwnP T B (w.setCell ⟨b, i, none⟩ u) v l := ownP_pick h (grown_setCell w b i u) hb
section
set_option maxHeartbeats 1600000
theorem eqPack_any (w : World) (na nb : Int) (va vb : Value) (la lb : List Itm) (ha : Lp w w.heap.size va (ivals la)) (hb : Lp w w.heap.size vb (ivals lb)) (hm : la.length ≤ 1000000000) :
    Calls Tryz.prog 17 #[packV na va, packV nb vb] w fun e w' => e = .returned (.bool (decide (na = nb ∧ la = lb))) ∧ Below w.heap.size w w' := by
  have HB := Lib.hid (((Below.refl _ w).alloc (Nat.le_refl _) (.cells #[.int .i64 na, va] 28)).alloc (by simp) (.cells #[.int .i64 nb, vb] 28))
  have HA := Lib.hid (lp_next ha HB.out)
  have HBb := Lib.hid (lp_next hb HB.out)
  obtain ⟨A, c, hva⟩ := lp_form ha
  obtain ⟨A', c', hvb⟩ := lp_form hb
  subst hva
  subst hvb
  clear ha hb
  by_cases hn : na = nb
  · subst hn
    have HE := Lib.hid (eqItemS_any _ _ _ la lb HA.out HBb.out hm)
    obtain ⟨o, ho⟩ : ∃ o, decide (la = lb) = o := ⟨_, rfl⟩
    have HO := Lib.hid (show decide (na = na ∧ la = lb) = o by rw [← ho]; simp)
    rw [ho] at HE
    clear ho
    go_enter Tryz.func17, Tryz.ntmps17
    go_wp2_with fail
    refine HE.out.mono ?_
    rintro e w1 ⟨rfl, hb⟩
    have HB1 := Lib.hid (bel2 HB.out hb)
    clear hb
    cases o with
    | true =>
      go_wp2
      go_ret
      exact ⟨ret_bool HO.out.symm, HB1.out⟩
    | false =>
      go_wp2
      go_ret
      exact ⟨ret_bool HO.out.symm, HB1.out⟩
  · have e2 : (na != nb) = true := by simpa using hn
    have HF := Lib.hid hn
    clear hn
    go_enter Tryz.func17, Tryz.ntmps17
    go_wp2
    go_ret
    exact ⟨ret_bool (by simp [HF.out]), HB.out⟩
theorem markItemS_any (w : World) (B : Nat) (v : Value) (l : List (Value × Value)) (k : Nat) (h : OwnP 39 B w v l) (hn : l.length ≤ 2000000) (hk : k ≤ 8000000) (hk1 : 1 ≤ k) :
    Calls Tryz.prog 45 #[v, .int .i64 (k : Int)] w fun e w' => e = .returned (.int .i64 ((k + 2 * l.length : Nat) : Int)) ∧ OwnP 39 B w' v (mks k l.length) ∧ w.grownBy w' v.ownBlock := by
  obtain ⟨A, c, hv⟩ := own_formP h
  have hsome : 0 < l.length → ∃ g, A = some ⟨g, 0, none⟩ ∧ B ≤ g := fun h0 => by
    obtain ⟨g, c2, hv2, hg⟩ := own_someP h h0
    rw [hv] at hv2
    cases hv2
    exact ⟨g, rfl, hg⟩
  subst hv
  obtain ⟨n, hnn⟩ : ∃ n, l.length = n := ⟨_, rfl⟩
  have H0 : Hid (w.ownsRow B 39 2 (.slice A n c) n (flat l)) := Lib.hid (by rw [← hnn]; exact h)
  have HFL := Lib.hid (show (flat l).length = n * 2 by rw [flat_length, hnn])
  rw [hnn] at hsome hn ⊢
  clear h hnn
  have HS := Lib.hid hsome
  clear hsome
  go_enter Tryz.func45, Tryz.ntmps45
  go_wp2_with fail
  go_loopw [1, 5] (fun kk i wr => ∃ (j : Nat) (ys : List Value), j ≤ n ∧ kk = .int .i64 ((k + 2 * j : Nat) : Int) ∧ i = .int .i64 (j : Int) ∧ wr.ownsRow B 39 2 (.slice A n c) n ys ∧ ys.take (j * 2) = flat ((mks k n).take j) ∧ w.grownBy wr (Value.slice A n c).ownBlock) (fun _ i _ => n - (intOf i).toNat)
  case atStart => exact ⟨0, _, Nat.zero_le _, rfl, rfl, H0.out, by simp [flat], grown_refl _ _⟩
  case round =>
    obtain ⟨j, ys, hj, rfl, rfl, ho, ht, hb⟩ := hrel
    have HO := Lib.hid ho
    have HB := Lib.hid hb
    have HT := Lib.hid ht
    clear ho hb ht
    obtain ⟨y, hy⟩ : ∃ y, k + 2 * j = y := ⟨_, rfl⟩
    have hy2 : y ≤ 12000000 := by omega
    have hy1 : 1 ≤ y := by omega
    by_cases hlt : j < n
    · obtain ⟨g, rfl, _⟩ := HS.out (by omega)
      have HE := Lib.hid (flat_set (n := n) (by have := HO.out.1; omega) (mks_length k n) (mks_get k n j hlt) hlt HT.out)
      rw [hy] at HE ⊢
      have HY := Lib.hid hy
      clear hy
      have hi1 : (j : Int) < (n : Int) := by omega
      have hyl : ys.length = n * 2 := by have := HO.out.1; omega
      obtain ⟨o1, ho1⟩ : ∃ x, ys[j * 2]? = some x := ⟨_, List.getElem?_eq_getElem (by omega)⟩
      obtain ⟨o2, ho2⟩ : ∃ x, ys[j * 2 + 1]? = some x := ⟨_, List.getElem?_eq_getElem (by omega)⟩
      have hq1 := (HO.out.cellAt (j * 2) (by omega)).trans ho1
      have hf1 := HO.out.frozenAt (j * 2)
      have HO1 := Lib.hid (HO.out.stored (j * 2) (.int .i64 (y : Int))).1
      have HB1 := Lib.hid (show w.grownBy (wr.setCell ⟨g, j * 2, none⟩ (.int .i64 (y : Int))) (some g) from grown_trans HB.out (grown_setCell _ _ _ _))
      have HO2 := Lib.hid ho2
      clear ho1 ho2
      generalize hmt : markT (y + 1) = Y at *
      have HMT : Hid (∀ W : World, Calls Tryz.prog 44 #[.int .i64 ((y : Int) + 1)] W fun e w' => e = .returned (.string Y) ∧ Below W.heap.size W w') := Lib.hid (fun W => by
        have h := markText_any (y + 1) (by omega) (by omega) W
        rw [hmt] at h
        exact h)
      go_wp2_with fail
      refine (HMT.out _).mono ?_
      rintro e w2 ⟨rfl, hb⟩
      have HO3 : Hid (w2.ownsRow B 39 2 (.slice (some ⟨g, 0, none⟩) n c) n (ys.set (j * 2) (.int .i64 (y : Int)))) := Lib.hid (World.ownsRow.kept HO1.out (grown_of_bel hb none) (Classical.em _))
      have HB2 := Lib.hid (grown_trans HB1.out (grown_of_bel hb (some g)))
      have hq2 := (HO3.out.cellAt (j * 2 + 1) (by omega)).trans (show (ys.set (j * 2) (.int .i64 (y : Int)))[j * 2 + 1]? = some o2 by rw [List.getElem?_set_ne (by omega)]; exact HO2.out)
      have hf2 := HO3.out.frozenAt (j * 2 + 1)
      have HO4 := Lib.hid (HO3.out.stored (j * 2 + 1) (.string Y)).1
      clear hb hq1 hf1
      go_wp2
      go_roundw
      case rel => exact ⟨j + 1, _, by omega, by have := HY.out; go_num, by go_num, HO4.out, HE.out, grown_trans HB2.out (grown_setCell _ _ _ _)⟩
      case measure => simp [intOf]; omega
    · have HF := Lib.hid (show ys = flat (mks k n) by
        have h1 := HT.out
        have h2 := HO.out.1
        rw [List.take_of_length_le (by omega), List.take_of_length_le (by rw [mks_length]; omega)] at h1
        exact h1)
      have hjn : j = n := by omega
      have HY := Lib.hid hy
      clear hy
      subst hjn
      go_wp2
      go_ret
      exact ⟨rfl, by unfold OwnP; rw [mks_length, ← HF.out]; exact HO.out, HB.out⟩
theorem heldItemS_any (w : World) (v : Value) (k n : Nat) (h : Lp w w.heap.size v (mks k n)) (hn : n ≤ 2000000) (hk : k ≤ 8000000) (hk1 : 1 ≤ k) :
    Calls Tryz.prog 46 #[v, .int .i64 (k : Int)] w fun e w' => e = .returned (.int .i64 ((k + 2 * n : Nat) : Int)) ∧ Below w.heap.size w w' := by
  obtain ⟨A, c, rfl⟩ := lp_form h
  rw [mks_length] at *
  have HL := Lib.hid h
  clear h
  go_enter Tryz.func46, Tryz.ntmps46
  go_wp2_with fail
  go_loopw [1, 5] (fun kk i wr => ∃ j : Nat, j ≤ n ∧ kk = .int .i64 ((k + 2 * j : Nat) : Int) ∧ i = .int .i64 (j : Int) ∧ Below w.heap.size w wr) (fun _ i _ => n - (intOf i).toNat)
  case atStart => exact ⟨0, Nat.zero_le _, rfl, rfl, Below.refl _ _⟩
  case round =>
    obtain ⟨j, hj, rfl, rfl, hb⟩ := hrel
    have HB := Lib.hid hb
    clear hb
    obtain ⟨y, hy⟩ : ∃ y, k + 2 * j = y := ⟨_, rfl⟩
    have hy2 : y ≤ 12000000 := by omega
    have hy1 : 1 ≤ y := by omega
    by_cases hlt : j < n
    · have HLr := Lib.hid (lp_next HL.out HB.out)
      obtain ⟨g, off, hA, hg, hc1, hc2⟩ := lp_at HLr.out (mks_get k n j hlt)
      subst hA
      rw [hy] at hc1 hc2 ⊢
      have HG := Lib.hid hg
      clear hg
      have HY := Lib.hid hy
      clear hy
      have hi1 : (j : Int) < (n : Int) := by omega
      have hi0 : (0 : Int) ≤ (j : Int) := by omega
      have hyy : ((y : Int) != (y : Int)) = false := by simp
      generalize hmt : markT (y + 1) = Y at *
      have hYY : (Y.toList == Y.toList) = true := by simp
      have HMT : Hid (∀ W : World, Calls Tryz.prog 44 #[.int .i64 ((y : Int) + 1)] W fun e w' => e = .returned (.string Y) ∧ Below W.heap.size W w') := Lib.hid (fun W => by
        have h := markText_any (y + 1) (by omega) (by omega) W
        rw [hmt] at h
        exact h)
      go_wp2_with fail
      go_region_with (go_at_call 44; go_must ((with_reducible refine (HMT.out _).mono ?_)); rintro e w' ⟨rfl, hb⟩; have HBm := Lib.hid (bel_drew1 hb); clear hb; have hc3 := (Below.cell HBm.out (p := ⟨g, off + j * 2 + 1, none⟩) HG.out).trans hc2)
      all_goals
        go_wp2
        go_roundw
        case rel => exact ⟨j + 1, by omega, by have := HY.out; go_num, by go_num, HB.out.trans (HBm.out.mono HB.out.size)⟩
        case measure => simp [intOf]; omega
    · have hjn : j = n := by omega
      have HY := Lib.hid hy
      clear hy
      subst hjn
      go_wp2
      go_ret
      exact ⟨rfl, HB.out⟩
theorem markPack_any (w : World) (B : Nat) (no : Int) (v : Value) (l : List (Value × Value)) (k : Nat) (h : OwnP 39 B w v l) (hn : l.length ≤ 2000000) (hk : k ≤ 8000000) (hk1 : 1 ≤ k) :
    Calls Tryz.prog 20 #[packV no v, .int .i64 (k : Int)] w fun e w' => e = .returned (.int .i64 ((k + 2 * l.length : Nat) : Int)) ∧ OwnP 39 B w' v (mks k l.length) ∧ w.grownBy w' v.ownBlock := by
  obtain ⟨A, c, hv⟩ := own_formP h
  subst hv
  have HB := Lib.hid ((Below.refl _ w).alloc (Nat.le_refl _) (.cells #[.int .i64 no, .slice A l.length c] 28))
  have HM := Lib.hid (markItemS_any _ B _ l k (ownP_below h HB.out) hn hk hk1)
  clear h
  go_enter Tryz.func20, Tryz.ntmps20
  go_wp2_with fail
  refine HM.out.mono ?_
  rintro e w1 ⟨rfl, ho, hb⟩
  have HO := Lib.hid ho
  have HB1 := Lib.hid (grown_trans (grown_of_bel HB.out _) hb)
  clear ho hb
  go_wp2
  go_ret
  exact ⟨rfl, HO.out, HB1.out⟩
theorem heldPack_any (w : World) (no : Int) (v : Value) (k n : Nat) (h : Lp w w.heap.size v (mks k n)) (hn : n ≤ 2000000) (hk : k ≤ 8000000) (hk1 : 1 ≤ k) :
    Calls Tryz.prog 21 #[packV no v, .int .i64 (k : Int)] w fun e w' => e = .returned (.int .i64 ((k + 2 * n : Nat) : Int)) ∧ Below w.heap.size w w' := by
  obtain ⟨A, c, hv⟩ := lp_form h
  subst hv
  have HB := Lib.hid ((Below.refl _ w).alloc (Nat.le_refl _) (.cells #[.int .i64 no, .slice A (mks k n).length c] 28))
  have HM := Lib.hid (heldItemS_any _ _ k n (lp_next h HB.out) hn hk hk1)
  clear h
  have hneg : ¬ (((k + 2 * n : Nat) : Int) < 0) := by omega
  go_enter Tryz.func21, Tryz.ntmps21
  go_wp2_with fail
  refine HM.out.mono ?_
  rintro e w1 ⟨rfl, hb⟩
  have HB1 := Lib.hid (bel2 HB.out hb)
  clear hb
  go_wp2
  go_ret
  exact ⟨rfl, HB1.out⟩
end
end Go.Proofs.YtkjginibdablnaaGreatDoor
