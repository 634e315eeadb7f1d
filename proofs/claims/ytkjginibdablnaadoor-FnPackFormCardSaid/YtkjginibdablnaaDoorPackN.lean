/- The names of a pack: both functions give the same list. -/
import Derived.Test.YtkjginibdablnaaDoorPackV
namespace Go.Proofs.YtkjginibdablnaaDoor
open Go.RowKit
def names (l : List Itm) : List Int := l.map (·.1)
theorem names_length (l : List Itm) : (names l).length = l.length := by simp [names]
theorem names_take {l : List Itm} {k : Nat} {s : Itm} (h : l[k]? = some s) : (names l).take (k + 1) = (names l).take k ++ [s.1] := by
  rw [List.take_add_one]
  simp [names, h]
theorem intVals_append (l m : List Int) : intVals (l ++ m) = intVals l ++ intVals m := by simp [intVals]
theorem row_less {B B' : Nat} {w : World} {e : TypeId} {size n : Nat} {v : Value} {xs : List Value} (h : w.ownsRow B e size v n xs) (hB : B' ≤ B) : w.ownsRow B' e size v n xs := by
  refine ⟨h.1, ?_⟩
  rcases h.2 with h2 | ⟨g, cap, cur, hv, hb, rest⟩
  · exact .inl h2
  · exact .inr ⟨g, cap, cur, hv, by omega, rest⟩
theorem box_cell (w W : World) (cs : Array Value) (T : TypeId) (j : Nat) (v : Value) (h : cs[j]? = some v) (hb : Below (w.heap.size + 1) (w.alloc (.cells cs T)) W) : W.cell? ⟨w.heap.size, j, none⟩ = some v := by
  rw [hb.cell (p := ⟨w.heap.size, j, none⟩) (Nat.lt_succ_self _), cell_of_row _ _ j _ _ (0, 0) (heap_alloc_new w _)]
  exact h
theorem cell_one_new2 (w : World) (o : Obj) (x : Value) (T : TypeId) : ∀ (j : Nat) (u : Value), [x][j]? = some u → ((w.alloc o).alloc (.cells #[x] T)).cell? ((⟨w.heap.size + 1, 0, none⟩ : Addr).add j) = some u := by
  intro j u h
  have h2 := cell_one_new (w.alloc o) x T j u h
  rw [show (w.alloc o).heap.size = w.heap.size + 1 by simp] at h2
  exact h2
section
set_option maxHeartbeats 1600000
theorem packNames_any (w : World) (no : Int) (v : Value) (l : List Itm) (hl : Lp w w.heap.size v (ivals l)) (hn : l.length ≤ 1048600) :
    Calls Tryd.prog 19 #[packV no v] w fun e w' => ∃ v', e = .returned v' ∧ w'.ownsRow w.heap.size 3 1 v' l.length (intVals (names l)) ∧ Below w.heap.size w w' := by
  obtain ⟨i0, hi, hz0, hz1, hz2⟩ := info_parts info_int
  obtain ⟨A, c, hv⟩ := lp_form hl
  subst hv
  obtain ⟨W, hW⟩ : ∃ W, W = w.alloc (.cells #[.int .i64 no, .slice A (ivals l).length c] 29) := ⟨_, rfl⟩
  have HB0 := Lib.hid (show Below w.heap.size w W by rw [hW]; exact (Below.refl _ _).alloc (Nat.le_refl _) _)
  have hws : W.heap.size = w.heap.size + 1 := by rw [hW]; simp
  have HWS := Lib.hid hws
  have HL := Lib.hid (lp_next hl HB0.out)
  rw [ivals_length] at *
  obtain ⟨n, hnn⟩ : ∃ n, l.length = n := ⟨_, rfl⟩
  have HN := Lib.hid hnn
  have HW := Lib.hid hW
  rw [hnn] at hn HL HW ⊢
  clear hnn hl hW hws
  go_enter Tryd.func19, Tryd.ntmps19
  go_wp2_with fail
  rw [← HW.out]
  go_loopw [3, 9] (fun o i wr => ∃ k : Nat, k ≤ n ∧ i = .int .i64 (k : Int) ∧ wr.ownsRow W.heap.size 3 1 o k (intVals ((names l).take k)) ∧ Below W.heap.size W wr) (fun _ i _ => n - (intOf i).toNat)
  case atStart => exact ⟨0, Nat.zero_le _, rfl, World.ownsRow_nil _ _ _ _, Below.refl _ _⟩
  case round =>
    obtain ⟨k, hk, rfl, ho, hb⟩ := hrel
    have HO := Lib.hid ho
    have HB := Lib.hid hb
    clear ho hb
    by_cases hlt : k < n
    · obtain ⟨⟨a, b⟩, hs⟩ : ∃ s, l[k]? = some s := ⟨_, List.getElem?_eq_getElem (by have := HN.out; omega)⟩
      obtain ⟨g, off, hA, hg, h1, h2⟩ := lp_at (lp_next HL.out HB.out) (ivals_get hs)
      subst hA
      have HT := Lib.hid (names_take hs)
      clear hs hg
      have hi1 : (k : Int) < (n : Int) := by omega
      go_wp2_with (at_builtin; go_must (refine wpList_append_own _ rfl _ _ 43 rfl W.heap.size 3 i0 (.int .i64 0) 1 8 Tryd.underlying43 hi hz0 hz1 hz2 rfl (by decide) _ _ _ rfl (own_alloc (own_alloc HO.out _) _) _ 1 1 [.int .i64 a] rfl rfl (cell_one_new2 _ _ _ _) (by simp [Value.oneCell']) (by unfold maxLen; omega) (by omega) (by have := HB.out.size; simp; omega) ?_); intro v1 w1 hown' hgrow _; have HO1 := Lib.hid hown'; have HG := Lib.hid hgrow; clear hown' hgrow)
      have HB1 := Lib.hid (bel_gb ((HB.out.alloc HB.out.size (.cells #[.int .i64 a, .string b] 40)).alloc (by simp; have := HB.out.size; omega) (.cells #[.int .i64 a] 3)) HG.out (by simp; have := HB.out.size; omega) (fun j hj => (HO.out.lt j hj).1))
      go_wp2
      go_roundw
      case rel => exact ⟨k + 1, by omega, by go_num, by rw [HT.out, intVals_append]; exact HO1.out, HB1.out⟩
      case measure => simp [intOf]; omega
    · have hkn : k = n := by omega
      subst hkn
      have HF := Lib.hid (show (names l).take k = names l from List.take_of_length_le (by rw [names_length, HN.out]; exact Nat.le_refl _))
      go_wp2
      go_ret
      exact ⟨_, rfl, by have h := HO.out; rw [HF.out] at h; exact row_less h (by rw [HWS.out]; omega), bel2 HB0.out HB.out⟩
theorem packNamesS_any (w : World) (no : Int) (v : Value) (l : List Itm) (hl : Lp w w.heap.size v (ivals l)) (hn : l.length ≤ 1048600) :
    Calls Tryd.prog 21 #[packV no v] w fun e w' => ∃ v', e = .returned v' ∧ w'.ownsRow w.heap.size 3 1 v' l.length (intVals (names l)) ∧ Below w.heap.size w w' := by
  obtain ⟨i0, hi, hz0, hz1, hz2⟩ := info_parts info_int
  obtain ⟨A, c, hv⟩ := lp_form hl
  subst hv
  obtain ⟨W, hW⟩ : ∃ W, W = w.alloc (.cells #[.int .i64 no, .slice A (ivals l).length c] 29) := ⟨_, rfl⟩
  have HB0 := Lib.hid (show Below w.heap.size w W by rw [hW]; exact (Below.refl _ _).alloc (Nat.le_refl _) _)
  have hws : W.heap.size = w.heap.size + 1 := by rw [hW]; simp
  have HWS := Lib.hid hws
  have HL := Lib.hid (lp_next hl HB0.out)
  rw [ivals_length] at *
  obtain ⟨n, hnn⟩ : ∃ n, l.length = n := ⟨_, rfl⟩
  have HN := Lib.hid hnn
  have HW := Lib.hid hW
  rw [hnn] at hn HL HW ⊢
  have HE0 : Hid ((W.alloc (.cells #[] 3)).ownsRow W.heap.size 3 1 (.slice (some ⟨w.heap.size + 1, 0, none⟩) 0 0) 0 []) := Lib.hid (by
    rw [← hws]; exact World.ownsRow_lit W #[] 0 (Nat.le_refl _) (by unfold maxLen; omega) rfl)
  clear hnn hl hW hws
  go_enter Tryd.func21, Tryd.ntmps21
  go_wp2_with fail
  rw [← HW.out]
  go_loopw [3, 4] (fun o i wr => ∃ k : Nat, k ≤ n ∧ i = .int .i64 (k : Int) ∧ wr.ownsRow W.heap.size 3 1 o k (intVals ((names l).take k)) ∧ Below W.heap.size W wr) (fun _ i _ => n - (intOf i).toNat)
  case atStart => exact ⟨0, Nat.zero_le _, rfl, HE0.out, (Below.refl _ _).alloc (Nat.le_refl _) _⟩
  case round =>
    obtain ⟨k, hk, rfl, ho, hb⟩ := hrel
    have HO := Lib.hid ho
    have HB := Lib.hid hb
    clear ho hb
    have hq := box_cell w wr #[.int .i64 no, .slice A n c] 29 1 _ rfl (by rw [← HW.out, ← HWS.out]; exact HB.out)
    by_cases hlt : k < n
    · obtain ⟨⟨a, b⟩, hs⟩ : ∃ s, l[k]? = some s := ⟨_, List.getElem?_eq_getElem (by have := HN.out; omega)⟩
      obtain ⟨g, off, hA, hg, h1, h2⟩ := lp_at (lp_next HL.out HB.out) (ivals_get hs)
      subst hA
      have HT := Lib.hid (names_take hs)
      clear hs hg
      have hi1 : (k : Int) < (n : Int) := by omega
      have hi0 : (0 : Int) ≤ (k : Int) := by omega
      go_wp2_with (at_builtin; go_must (refine wpList_append_own _ rfl _ _ 43 rfl W.heap.size 3 i0 (.int .i64 0) 1 8 Tryd.underlying43 hi hz0 hz1 hz2 rfl (by decide) _ _ _ rfl (own_alloc HO.out _) _ 1 1 [.int .i64 a] rfl rfl (cell_one_new _ _ _) (by simp [Value.oneCell']) (by unfold maxLen; omega) (by omega) (by have := HB.out.size; simp; omega) ?_); intro v1 w1 hown' hgrow _; have HO1 := Lib.hid hown'; have HG := Lib.hid hgrow; clear hown' hgrow)
      have HB1 := Lib.hid (bel_gb (HB.out.alloc HB.out.size (.cells #[.int .i64 a] 3)) HG.out (by simp; have := HB.out.size; omega) (fun j hj => (HO.out.lt j hj).1))
      clear hq h1 h2
      go_wp2
      go_roundw
      case rel => exact ⟨k + 1, by omega, by go_num, by rw [HT.out, intVals_append]; exact HO1.out, HB1.out⟩
      case measure => simp [intOf]; omega
    · have hkn : k = n := by omega
      subst hkn
      have HF := Lib.hid (show (names l).take k = names l from List.take_of_length_le (by rw [names_length, HN.out]; exact Nat.le_refl _))
      go_wp2
      go_ret
      exact ⟨_, rfl, by have h := HO.out; rw [HF.out] at h; exact row_less h (by rw [HWS.out]; omega), bel2 HB0.out HB.out⟩
end
end Go.Proofs.YtkjginibdablnaaDoor
