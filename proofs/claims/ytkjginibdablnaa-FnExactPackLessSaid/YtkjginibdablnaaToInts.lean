/- A list of numbers, copied. -/
import Derived.Test.YtkjginibdablnaaMarks
import Derived.Laws.OwnMore
import Derived.Laws.MakeOwn
import Derived.Deep.OwnRows
namespace Go.Proofs.Ytkjginibdablnaa
open Go.RowKit Go.Deep
theorem own_full (w : World) (T : TypeId) (xs : Array Value) (n : Nat) (hn : n = xs.size) (hm : n ≤ maxLen) : (w.alloc (.cells xs T)).ownsRow w.heap.size T 1 (.slice (some ⟨w.heap.size, 0, none⟩) n n) n xs.toList :=
  ⟨by simp [hn], .inr ⟨w.heap.size, n, xs, rfl, Nat.le_refl _, heap_alloc_new w _, Nat.le_refl _, hm, by omega, by rw [hn, Nat.mul_one]; exact List.take_of_length_le (by simp)⟩⟩
theorem cpy_set (l : List Int) (j : Nat) (xs : List Value) (s : Int) (h : j < xs.length) (hl : xs.length = l.length) (hs : l[j]? = some s) : (intVals (l.take j) ++ xs.drop j).set j (.int .i64 s) = intVals (l.take (j + 1)) ++ xs.drop (j + 1) := by
  have hlen : (intVals (l.take j)).length = j := by rw [intVals_length, List.length_take]; omega
  rw [List.set_append_right _ _ (by rw [hlen]; exact Nat.le_refl _), hlen, Nat.sub_self, List.drop_eq_getElem_cons h, List.set_cons_zero, List.take_add_one, hs]
  simp [intVals]
theorem cpy_old (l : List Int) (j : Nat) (xs : List Value) (h : j < xs.length) (hl : xs.length = l.length) : ∃ x, (intVals (l.take j) ++ xs.drop j)[j]? = some x := by
  refine ⟨xs[j], ?_⟩
  have hlen : (intVals (l.take j)).length = j := by rw [intVals_length, List.length_take]; omega
  rw [List.getElem?_append_right (by rw [hlen]; exact Nat.le_refl _), hlen, Nat.sub_self, List.getElem?_drop, Nat.add_zero, List.getElem?_eq_getElem h]
section
set_option maxHeartbeats 1600000
theorem toIntS_any (w : World) (v : Value) (l : List Int) (hl : Lst w w.heap.size v (intVals l)) (hn : l.length ≤ 1048576) :
    Calls Try.prog 17 #[v] w fun e w' => ∃ v', e = .returned v' ∧ w'.ownsRow w.heap.size 3 1 v' l.length (intVals l) ∧ Below w.heap.size w w' := by
  obtain ⟨A, c, rfl, hc, hx⟩ := hl
  rw [intVals_length] at *
  have HX := Lib.hid hx
  clear hx
  obtain ⟨n, hnn⟩ : ∃ n, l.length = n := ⟨_, rfl⟩
  have HN := Lib.hid hnn
  rw [hnn] at hn hc ⊢
  clear hnn
  have hmk := fun W : World => run_make_row' (P := Try.prog) 26 3 (.int .i64 0) 8 Try.underlying26 info_int rfl .i64 .i64 n (by omega) (by omega) W
  obtain ⟨xs, hxs⟩ : ∃ xs, xs = madeCells #[Value.int .i64 0] n := ⟨_, rfl⟩
  have hxl : xs.toList.length = n := by rw [hxs, Array.length_toList, size_madeCells]
  rw [← hxs] at hmk
  have HX0 := Lib.hid hxl
  have HO0 : Hid ((w.alloc (.cells xs 3)).ownsRow w.heap.size 3 1 (.slice (some ⟨w.heap.size, 0, none⟩) n n) n xs.toList) :=
    Lib.hid (own_full w 3 xs n (by rw [← hxl, Array.length_toList]) (by unfold maxLen; omega))
  clear hxs hxl
  go_enter Try.func17, Try.ntmps17
  go_wp2
  go_loopw [4] (fun i wr => ∃ j : Nat, j ≤ n ∧ i = .int .i64 (j : Int) ∧ wr.ownsRow w.heap.size 3 1 (.slice (some ⟨w.heap.size, 0, none⟩) n n) n (intVals (l.take j) ++ xs.toList.drop j) ∧ Below w.heap.size w wr) (fun i _ => n - (intOf i).toNat)
  case atStart => exact ⟨0, Nat.zero_le _, rfl, by simpa [intVals] using HO0.out, (Below.refl _ _).alloc (Nat.le_refl _) _⟩
  case round =>
    obtain ⟨j, hj, rfl, ho, hb⟩ := hrel
    have HO := Lib.hid ho
    have HB := Lib.hid hb
    clear ho hb
    by_cases hlt : j < n
    · obtain ⟨x, hx⟩ : ∃ x, l[j]? = some x := ⟨_, List.getElem?_eq_getElem (by have := HN.out; omega)⟩
      obtain ⟨g, off, rfl, hg, hcg⟩ := HX.out (by have := HN.out; omega)
      have hc1 := (HB.out.cell (p := ⟨g, off + j, none⟩) hg).trans (hcg j _ (intVals_get _ _ _ hx))
      have HE := Lib.hid (cpy_set l j xs.toList x (by rw [HX0.out]; exact hlt) (by rw [HX0.out, HN.out]) hx)
      clear hx hcg
      have hi1 : (j : Int) < (n : Int) := by omega
      obtain ⟨old, hold⟩ := cpy_old l j xs.toList (by rw [HX0.out]; exact hlt) (by rw [HX0.out, HN.out])
      have hc := (HO.out.cellAt j (by omega)).trans hold
      clear hold
      have hf := HO.out.frozenAt j
      have HS := Lib.hid (HO.out.stored j (.int .i64 x))
      go_wp2
      go_roundw
      case rel => exact ⟨j + 1, by omega, by go_num, by rw [← HE.out]; exact HS.out.1, HB.out.setCell (Nat.le_refl _) _⟩
      case measure => simp [intOf]; omega
    · have hjn : j = n := by omega
      subst hjn
      have HF := Lib.hid (show wr.ownsRow w.heap.size 3 1 (.slice (some ⟨w.heap.size, 0, none⟩) j j) l.length (intVals l) by
        have h1 := HO.out
        rw [List.drop_of_length_le (by rw [HX0.out]; exact Nat.le_refl _), List.append_nil, List.take_of_length_le (by rw [HN.out]; exact Nat.le_refl _)] at h1
        rw [HN.out]
        exact h1)
      go_wp2
      go_ret
      exact ⟨_, rfl, by rw [← HN.out]; rw [HN.out]; have h := HF.out; rw [HN.out] at h; exact h, HB.out⟩
end
end Go.Proofs.Ytkjginibdablnaa
