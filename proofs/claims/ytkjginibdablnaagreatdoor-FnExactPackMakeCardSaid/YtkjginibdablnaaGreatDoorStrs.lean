/- A list of strings that came in: measured, copied, marked; one that a call made. -/
import Derived.Test.YtkjginibdablnaaGreatDoorMarkT
import Derived.Test.YtkjginibdablnaaGreatDoorLists
import Derived.Test.YtkjginibdablnaaGreatDoorSome
import Derived.Laws.OwnMore
import Derived.Laws.MakeOwn
import Derived.Deep.OwnRows
namespace Go.Proofs.YtkjginibdablnaaGreatDoor
open Go.RowKit
def raws (l : List ByteArray) : List (List UInt8) := l.map fun s => s.data.toList
theorem raws_length (l : List ByteArray) : (raws l).length = l.length := by simp [raws]
theorem flatten_take_le (l : List (List UInt8)) (k : Nat) : (l.take k).flatten.length ≤ l.flatten.length := by
  have h : l.flatten = (l.take k).flatten ++ (l.drop k).flatten := by rw [← List.flatten_append, List.take_append_drop]
  rw [h, List.length_append]
  omega
theorem flatten_snoc {l : List (List UInt8)} {k : Nat} {p : List UInt8} (h : l[k]? = some p) : (l.take (k + 1)).flatten = (l.take k).flatten ++ p := by
  rw [List.take_add_one, h, List.flatten_append]
  simp
theorem raws_get {l : List ByteArray} {k : Nat} {s : ByteArray} (h : l[k]? = some s) : (raws l)[k]? = some s.data.toList := by simp [raws, h]
def bulk (l : List ByteArray) : Nat := l.length + (raws l).flatten.length
def GaveStrs (l : List ByteArray) (w : World) (e : Ending) (w' : World) : Prop := ∃ v, e = .returned v ∧ w'.ownsRow w.heap.size 9 1 v (barVals l).length (barVals l) ∧ Below w.heap.size w w'
theorem own_full (w : World) (T : TypeId) (xs : Array Value) (n : Nat) (hn : n = xs.size) (hm : n ≤ maxLen) : (w.alloc (.cells xs T)).ownsRow w.heap.size T 1 (.slice (some ⟨w.heap.size, 0, none⟩) n n) n xs.toList :=
  ⟨by simp [hn], .inr ⟨w.heap.size, n, xs, rfl, Nat.le_refl _, heap_alloc_new w _, Nat.le_refl _, hm, by omega, by rw [hn, Nat.mul_one]; exact List.take_of_length_le (by simp)⟩⟩
section
set_option maxHeartbeats 1600000
set_option maxRecDepth 100000
/-- what is left of a number when a list has been measured: never more than the list leaves -/
theorem szStringS_any (w : World) (v : Value) (l : List ByteArray) (z : Nat) (hl : Lst w w.heap.size v (barVals l)) (hn : l.length ≤ maxLen) (hs : ∀ s ∈ l, s.size ≤ maxLen) (hz : z ≤ 1048576) :
    Calls Tryz.prog 15 #[v, .int .i64 (z : Int)] w fun e w' => ∃ r : Int, e = .returned (.int .i64 r) ∧ (0 ≤ r → bulk l ≤ z) ∧ ∃ m, w' = w.drewN m := by
  obtain ⟨A, c, rfl, hc, hx⟩ := hl
  rw [barVals_length] at *
  have HX := Lib.hid hx
  clear hx
  obtain ⟨n, hnn⟩ : ∃ n, l.length = n := ⟨_, rfl⟩
  have HN := Lib.hid hnn
  have HSZ := Lib.hid hs
  have HM := Lib.hid hn
  rw [hnn] at hn hc ⊢
  clear hnn hs
  unfold maxLen at hn
  by_cases hzn : z < n
  · have hz1 : (z : Int) - (n : Int) < 0 := by omega
    have hz2 : -9223372036854775808 ≤ (z : Int) - (n : Int) := by omega
    go_enter Tryz.func15, Tryz.ntmps15
    go_wp2
    go_ret
    exact ⟨-1, rfl, fun h => by omega, 0, rfl⟩
  · have hz1 : 0 ≤ (z : Int) - (n : Int) := by omega
    have hz2 : (z : Int) - (n : Int) ≤ 1048576 := by omega
    go_enter Tryz.func15, Tryz.ntmps15
    go_wp2
    go_loopw [1, 5] (fun q i wr => ∃ (k m y : Nat), k ≤ n ∧ q = .int .i64 (y : Int) ∧ i = .int .i64 (k : Int) ∧ y + n + ((raws l).take k).flatten.length = z ∧ wr = w.drewN m) (fun _ i _ => n - (intOf i).toNat)
    case atStart => exact ⟨0, 0, z - n, Nat.zero_le _, by go_num, rfl, by simp; omega, rfl⟩
    case round =>
      obtain ⟨k, m, y, hk, rfl, rfl, hy, rfl⟩ := hrel
      have HY := Lib.hid hy
      have hy2 : y ≤ 1048576 := by omega
      clear hy
      by_cases hlt : k < n
      · obtain ⟨x, hx⟩ : ∃ x, l[k]? = some x := ⟨_, List.getElem?_eq_getElem (by have := HN.out; omega)⟩
        obtain ⟨g, off, rfl, _, hcg⟩ := HX.out (by have := HN.out; omega)
        have hc1 := hcg k _ (barVals_get _ _ _ hx)
        have hxs : x.size ≤ 9223372036854775807 := by
          have := HSZ.out x (List.mem_of_getElem? hx)
          unfold maxLen at this
          omega
        have HXX := Lib.hid hx
        clear hx hcg
        have hi1 : (k : Int) < (n : Int) := by omega
        have HF := Lib.hid (show ((raws l).take (k + 1)).flatten.length = ((raws l).take k).flatten.length + x.size by
          rw [flatten_snoc (raws_get HXX.out), List.length_append, size_int])
        by_cases hneg : y < x.size
        · have hd : (y : Int) - (x.size : Int) < 0 := by omega
          have hd2 : -9223372036854775808 ≤ (y : Int) - (x.size : Int) := by omega
          go_wp2
          go_ret
          exact ⟨-1, rfl, fun h => by omega, _, rfl⟩
        · have hd : 0 ≤ (y : Int) - (x.size : Int) := by omega
          have hd2 : (y : Int) - (x.size : Int) ≤ 1048576 := by omega
          go_wp2
          go_roundw
          case rel => exact ⟨k + 1, _, y - x.size, by omega, by go_num, by go_num, by have := HF.out; have := HY.out; omega, rfl⟩
          case measure => simp [intOf]; omega
      · have HE := Lib.hid (show bulk l ≤ z by
          have h1 := HY.out
          rw [List.take_of_length_le (by rw [raws_length]; have := HN.out; omega)] at h1
          have h2 := HN.out
          unfold bulk
          omega)
        go_wp2
        go_ret
        exact ⟨_, rfl, fun _ => HE.out, _, rfl⟩
theorem cpy_set (l : List ByteArray) (j : Nat) (xs : List Value) (s : ByteArray) (h : j < xs.length) (hl : xs.length = l.length) (hs : l[j]? = some s) : (barVals (l.take j) ++ xs.drop j).set j (.string s) = barVals (l.take (j + 1)) ++ xs.drop (j + 1) := by
  have hlen : (barVals (l.take j)).length = j := by rw [barVals_length, List.length_take]; omega
  rw [List.set_append_right _ _ (by rw [hlen]; exact Nat.le_refl _), hlen, Nat.sub_self, List.drop_eq_getElem_cons h, List.set_cons_zero, List.take_add_one, hs]
  simp [barVals]
theorem cpy_old (l : List ByteArray) (j : Nat) (xs : List Value) (h : j < xs.length) (hl : xs.length = l.length) : ∃ x, (barVals (l.take j) ++ xs.drop j)[j]? = some x := by
  refine ⟨xs[j], ?_⟩
  have hlen : (barVals (l.take j)).length = j := by rw [barVals_length, List.length_take]; omega
  rw [List.getElem?_append_right (by rw [hlen]; exact Nat.le_refl _), hlen, Nat.sub_self, List.getElem?_drop, Nat.add_zero, List.getElem?_eq_getElem h]
theorem toStringS_any (w : World) (v : Value) (l : List ByteArray) (hl : Lst w w.heap.size v (barVals l)) (hn : l.length ≤ 1048576) :
    Calls Tryz.prog 16 #[v] w (GaveStrs l w) := by
  obtain ⟨A, c, rfl, hc, hx⟩ := hl
  rw [barVals_length] at *
  have HX := Lib.hid hx
  clear hx
  obtain ⟨n, hnn⟩ : ∃ n, l.length = n := ⟨_, rfl⟩
  have HN := Lib.hid hnn
  rw [hnn] at hn hc ⊢
  clear hnn
  have hmk := fun W : World => run_make_row' (P := Tryz.prog) 23 9 (.string ByteArray.empty) 16 Tryz.underlying23 info_string rfl .i64 .i64 n (by omega) (by omega) W
  obtain ⟨xs, hxs⟩ : ∃ xs, xs = madeCells #[Value.string ByteArray.empty] n := ⟨_, rfl⟩
  have hxl : xs.toList.length = n := by rw [hxs, Array.length_toList, size_madeCells]
  rw [← hxs] at hmk
  have HX0 := Lib.hid hxl
  have HO0 : Hid ((w.alloc (.cells xs 9)).ownsRow w.heap.size 9 1 (.slice (some ⟨w.heap.size, 0, none⟩) n n) n xs.toList) :=
    Lib.hid (own_full w 9 xs n (by rw [← hxl, Array.length_toList]) (by unfold maxLen; omega))
  clear hxs hxl
  go_enter Tryz.func16, Tryz.ntmps16
  go_wp2
  go_loopw [4] (fun i wr => ∃ j : Nat, j ≤ n ∧ i = .int .i64 (j : Int) ∧ wr.ownsRow w.heap.size 9 1 (.slice (some ⟨w.heap.size, 0, none⟩) n n) n (barVals (l.take j) ++ xs.toList.drop j) ∧ Below w.heap.size w wr) (fun i _ => n - (intOf i).toNat)
  case atStart => exact ⟨0, Nat.zero_le _, rfl, by simpa [barVals] using HO0.out, (Below.refl _ _).alloc (Nat.le_refl _) _⟩
  case round =>
    obtain ⟨j, hj, rfl, ho, hb⟩ := hrel
    have HO := Lib.hid ho
    have HB := Lib.hid hb
    clear ho hb
    by_cases hlt : j < n
    · obtain ⟨x, hx⟩ : ∃ x, l[j]? = some x := ⟨_, List.getElem?_eq_getElem (by have := HN.out; omega)⟩
      obtain ⟨g, off, rfl, hg, hcg⟩ := HX.out (by have := HN.out; omega)
      have hc1 := (HB.out.cell (p := ⟨g, off + j, none⟩) hg).trans (hcg j _ (barVals_get _ _ _ hx))
      have HE := Lib.hid (cpy_set l j xs.toList x (by rw [HX0.out]; exact hlt) (by rw [HX0.out, HN.out]) hx)
      clear hx hcg
      have hi1 : (j : Int) < (n : Int) := by omega
      obtain ⟨old, hold⟩ := cpy_old l j xs.toList (by rw [HX0.out]; exact hlt) (by rw [HX0.out, HN.out])
      have hc := (HO.out.cellAt j (by omega)).trans hold
      clear hold
      have hf := HO.out.frozenAt j
      have HS := Lib.hid (HO.out.stored j (.string x))
      go_wp2
      go_roundw
      case rel => exact ⟨j + 1, by omega, by go_num, by rw [← HE.out]; exact HS.out.1, HB.out.setCell (Nat.le_refl _) _⟩
      case measure => simp [intOf]; omega
    · have hjn : j = n := by omega
      subst hjn
      have HF := Lib.hid (show wr.ownsRow w.heap.size 9 1 (.slice (some ⟨w.heap.size, 0, none⟩) j j) (barVals l).length (barVals l) by
        have h1 := HO.out
        rw [List.drop_of_length_le (by rw [HX0.out]; exact Nat.le_refl _), List.append_nil, List.take_of_length_le (by rw [HN.out]; exact Nat.le_refl _)] at h1
        rw [barVals_length, HN.out]
        exact h1)
      go_wp2
      go_ret
      exact ⟨_, rfl, HF.out, HB.out⟩
theorem markStrs_own (w : World) (B : Nat) (T : TypeId) (A : Option Addr) (cap : Nat) (xs : List Value) (n : Nat) (h : w.ownsRow B T 1 (.slice A n cap) n xs) (hA : 0 < n → ∃ g, A = some ⟨g, 0, none⟩) (hn : n ≤ 2000000) :
    Calls Tryz.prog 19 #[.slice A n cap, .int .i64 1] w fun e w' => e = .returned (.int .i64 ((1 + n : Nat) : Int)) ∧ w.grownBy w' (Value.slice A n cap).ownBlock := by
  have H := Lib.hid h
  clear h
  go_enter Tryz.func19, Tryz.ntmps19
  go_wp2
  go_loopw [1, 5] (fun kk i wr => ∃ (j : Nat) (ys : List Value), j ≤ n ∧ kk = .int .i64 ((1 + j : Nat) : Int) ∧ i = .int .i64 (j : Int) ∧ wr.ownsRow B T 1 (.slice A n cap) n ys ∧ w.grownBy wr (Value.slice A n cap).ownBlock) (fun _ i _ => n - (intOf i).toNat)
  case atStart => exact ⟨0, xs, Nat.zero_le _, rfl, rfl, H.out, grown_refl _ _⟩
  case round =>
    obtain ⟨j, ys, hj, rfl, rfl, ho, hb⟩ := hrel
    have HO := Lib.hid ho
    have HB := Lib.hid hb
    clear ho hb
    obtain ⟨y, hy⟩ : ∃ y, 1 + j = y := ⟨_, rfl⟩
    have hy2 : y ≤ 3000000 := by omega
    have hy1 : 1 ≤ y := by omega
    rw [hy]
    by_cases hlt : j < n
    · obtain ⟨g, hA2⟩ := hA (by omega)
      subst hA2
      clear hA
      have HY := Lib.hid hy
      clear hy
      have hi1 : (j : Int) < (n : Int) := by omega
      generalize hmt : markT y = Y at *
      go_wp2_with fail
      refine (markText_any y hy1 (by omega) wr).mono ?_
      rintro e w' ⟨rfl, hb⟩
      rw [hmt]
      have HBm := Lib.hid hb
      clear hb
      have HO' : Hid (w'.ownsRow B T 1 (.slice (some ⟨g, 0, none⟩) n cap) n ys) := Lib.hid (HO.out.kept (grown_of_bel HBm.out none) (Classical.em _))
      obtain ⟨old, hold⟩ : ∃ x, ys[j]? = some x := ⟨_, List.getElem?_eq_getElem (by have := HO.out.1; omega)⟩
      have hc := (HO'.out.cellAt j (by omega)).trans hold
      clear hold
      have hf := HO'.out.frozenAt j
      have HS := Lib.hid (HO'.out.stored j (.string Y))
      go_wp2
      go_roundw
      case rel => exact ⟨j + 1, _, by omega, by have := HY.out; go_num, by go_num, HS.out.1, grown_trans (grown_trans HB.out (grown_of_bel HBm.out _)) (grown_setCell _ _ _ _)⟩
      case measure => simp [intOf]; omega
    · have hjn : j = n := by omega
      have HY := Lib.hid hy
      clear hy
      subst hjn
      go_wp2
      go_ret
      exact ⟨by rw [HY.out]; rfl, HB.out⟩
theorem markStrs_any (w : World) (B : Nat) (T : TypeId) (v : Value) (xs : List Value) (n : Nat) (h : w.ownsRow B T 1 v n xs) (hn : n ≤ 2000000) :
    Calls Tryz.prog 19 #[v, .int .i64 1] w fun e w' => e = .returned (.int .i64 ((1 + n : Nat) : Int)) ∧ w.grownBy w' v.ownBlock := by
  rcases h.2 with ⟨hv, h0⟩ | ⟨g, cap, cur, hv, hb, _⟩
  · subst h0
    subst hv
    exact markStrs_own w B T none 0 xs 0 h (fun h => absurd h (by omega)) hn
  · subst hv
    exact markStrs_own w B T _ cap xs n h (fun _ => ⟨g, rfl⟩) hn
end
end Go.Proofs.YtkjginibdablnaaGreatDoor
