/- The functions that write marks into a slice, and look for them; the exact laws of the two that return a slice. -/
import Derived.Test.YtpfhpmeefeodcaaLcutG
import Derived.Laws.OwnMore
namespace Go.Proofs.Ytpfhpmeefeodcaa
open Go.RowKit
/-- the marks k, k+1, .. -/
def marks (k n : Nat) : List Int := (List.range n).map fun i : Nat => ((k + i : Nat) : Int)
theorem marks_length (k n : Nat) : (marks k n).length = n := by simp [marks]
theorem marks_get (k n j : Nat) (h : j < n) : (marks k n)[j]? = some ((k + j : Nat) : Int) := by simp [marks, h]
theorem marks_next (k n : Nat) : marks k (n + 1) = marks k n ++ [((k + n : Nat) : Int)] := by simp [marks, List.range_succ]
theorem marks_set (k j : Nat) (xs : List Value) (h : j < xs.length) : (intVals (marks k j) ++ xs.drop j).set j (.int .i64 ((k + j : Nat) : Int)) = intVals (marks k (j + 1)) ++ xs.drop (j + 1) := by
  have hl : (intVals (marks k j)).length = j := by rw [intVals_length, marks_length]
  rw [List.set_append_right _ _ (by rw [hl]; exact Nat.le_refl _), hl, Nat.sub_self, List.drop_eq_getElem_cons h, List.set_cons_zero, marks_next]
  simp [intVals]
theorem marks_old (k j : Nat) (xs : List Value) (h : j < xs.length) : ∃ x, (intVals (marks k j) ++ xs.drop j)[j]? = some x := by
  refine ⟨xs[j], ?_⟩
  have hl : (intVals (marks k j)).length = j := by rw [intVals_length, marks_length]
  rw [List.getElem?_append_right (by rw [hl]; exact Nat.le_refl _), hl, Nat.sub_self, List.getElem?_drop, Nat.add_zero, List.getElem?_eq_getElem h]
section
set_option maxHeartbeats 800000
theorem heldIntS_any (w : World) (B : Nat) (v : Value) (k n : Nat) (h : Lst w B v (intVals (marks k n))) (hn : n ≤ 1000000000) (hk : k ≤ 1000000000) :
    Calls Try.prog 30 #[v, .int .i64 (k : Int)] w fun e w' => e = .returned (.int .i64 ((k + n : Nat) : Int)) ∧ w' = w := by
  obtain ⟨A, c, rfl⟩ := lst_form h
  have hl : (intVals (marks k n)).length = n := by rw [intVals_length, marks_length]
  have HL : Hid (Lst w B (.slice A n c) (intVals (marks k n))) := by rw [hl] at h; exact Lib.hid h
  clear h
  rw [hl]
  clear hl
  go_enter Try.func30, Try.ntmps30
  go_wp2
  go_loopw [1, 5] (fun kk i wr => ∃ j : Nat, j ≤ n ∧ kk = .int .i64 ((k + j : Nat) : Int) ∧ i = .int .i64 (j : Int) ∧ wr = w) (fun _ i _ => n - (intOf i).toNat)
  case atStart => exact ⟨0, Nat.zero_le _, rfl, rfl, rfl⟩
  case round =>
    obtain ⟨j, hj, rfl, rfl, rfl⟩ := hrel
    obtain ⟨y, hy⟩ : ∃ y, k + j = y := ⟨_, rfl⟩
    have hy2 : y ≤ 2000000000 := by omega
    rw [hy]
    by_cases hlt : j < n
    · obtain ⟨g, off, hA, _, hc⟩ := lst_at HL.out (intVals_get _ _ _ (marks_get k n j hlt))
      subst hA
      rw [hy] at hc
      have HY := Lib.hid hy
      clear hy
      have hi1 : (j : Int) < (n : Int) := by omega
      go_wp2
      go_roundw
      case rel => exact ⟨j + 1, by omega, by have := HY.out; go_num, by go_num, by first | rfl | trivial⟩
      case measure => simp [intOf]; omega
    · have hjn : j = n := by omega
      have HY := Lib.hid hy
      clear hy
      subst hjn
      go_wp2
      go_ret
      exact ⟨by rw [HY.out]; rfl, by first | rfl | trivial⟩
theorem markIntS_own (w : World) (B : Nat) (T : TypeId) (A : Option Addr) (cap : Nat) (xs : List Value) (k n : Nat) (h : w.ownsRow B T 1 (.slice A n cap) n xs) (hA : 0 < n → ∃ g, A = some ⟨g, 0, none⟩ ∧ B ≤ g) (hn : n ≤ 1000000000) (hk : k ≤ 1000000000) :
    Calls Try.prog 29 #[.slice A n cap, .int .i64 (k : Int)] w fun e w' => e = .returned (.int .i64 ((k + n : Nat) : Int)) ∧ w'.ownsRow B T 1 (.slice A n cap) n (intVals (marks k n)) ∧ Below B w w' := by
  have hx : xs.length = n := by have := h.1; omega
  have HX := Lib.hid hx
  have H := Lib.hid h
  clear h hx
  go_enter Try.func29, Try.ntmps29
  go_wp2
  go_loopw [1, 5] (fun kk i wr => ∃ j : Nat, j ≤ n ∧ kk = .int .i64 ((k + j : Nat) : Int) ∧ i = .int .i64 (j : Int) ∧ wr.ownsRow B T 1 (.slice A n cap) n (intVals (marks k j) ++ xs.drop j) ∧ Below B w wr) (fun _ i _ => n - (intOf i).toNat)
  case atStart => exact ⟨0, Nat.zero_le _, rfl, rfl, by simpa [marks, intVals] using H.out, Below.refl _ _⟩
  case round =>
    obtain ⟨j, hj, rfl, rfl, ho, hb⟩ := hrel
    have HO := Lib.hid ho
    have HB := Lib.hid hb
    clear ho hb
    obtain ⟨y, hy⟩ : ∃ y, k + j = y := ⟨_, rfl⟩
    have hy2 : y ≤ 2000000000 := by omega
    rw [hy]
    by_cases hlt : j < n
    · obtain ⟨g, hA2, hg⟩ := hA (by omega)
      subst hA2
      obtain ⟨old, hold⟩ := marks_old k j xs (by rw [HX.out]; exact hlt)
      have hc := (HO.out.cellAt j (by omega)).trans hold
      clear hold hA
      have hf := HO.out.frozenAt j
      have HS := Lib.hid (HO.out.stored j (.int .i64 (y : Int)))
      have HE := Lib.hid (marks_set k j xs (by rw [HX.out]; exact hlt))
      rw [hy] at HE
      have HY := Lib.hid hy
      clear hy
      have hi1 : (j : Int) < (n : Int) := by omega
      go_wp2
      go_roundw
      case rel => exact ⟨j + 1, by omega, by have := HY.out; go_num, by go_num, by rw [← HE.out]; exact HS.out.1, HB.out.setCell hg _⟩
      case measure => simp [intOf]; omega
    · have hjn : j = n := by omega
      have HY := Lib.hid hy
      clear hy
      subst hjn
      go_wp2
      go_ret
      exact ⟨by rw [HY.out]; rfl, by have := HO.out; rwa [List.drop_of_length_le (by rw [HX.out]; exact Nat.le_refl _), List.append_nil] at this, HB.out⟩
theorem markIntS_any (w : World) (B : Nat) (T : TypeId) (v : Value) (xs : List Value) (k n : Nat) (h : w.ownsRow B T 1 v n xs) (hn : n ≤ 1000000000) (hk : k ≤ 1000000000) :
    Calls Try.prog 29 #[v, .int .i64 (k : Int)] w fun e w' => e = .returned (.int .i64 ((k + n : Nat) : Int)) ∧ w'.ownsRow B T 1 v n (intVals (marks k n)) ∧ Below B w w' := by
  rcases h.2 with ⟨hv, h0⟩ | ⟨g, cap, cur, hv, hb, _⟩
  · subst h0
    subst hv
    exact markIntS_own w B T none 0 xs k 0 h (fun h => absurd h (by omega)) hn hk
  · subst hv
    exact markIntS_own w B T _ cap xs k n h (fun _ => ⟨g, rfl, hb⟩) hn hk
theorem lawFnExactCutEnds (s : ByteArray) (hs : s.size ≤ maxLen) (w : World) : Calls Try.prog 5 #[.string s] w fun e w' => e = .returned (.bool true) ∧ Below w.heap.size w w' := by
  have HM := Lib.hid hs
  unfold maxLen at hs
  by_cases h : s.size ≤ 1048576
  · have hi : (s.size : Int) ≤ 1048576 := by omega
    have hel : (endsZ s.data.toList).length ≤ 40 := endsZ_len _
    go_enter Try.func5, Try.ntmps5
    go_wp2_with fail
    refine (cutEndsS_any s w (HM.out)).mono ?_
    intro e w1 hg
    obtain ⟨v1, rfl, hlst, hb⟩ := gave_lst hg
    rw [natVals_nats] at hlst
    have HL1 := Lib.hid hlst
    have HB1 := Lib.hid hb
    clear hg hlst hb
    go_wp2_with fail
    refine (cutEnds_any s w1 (HM.out)).mono ?_
    intro e w2 hg
    obtain ⟨_, hgl, hlst, _⟩ := gave_lst hg
    obtain ⟨v2, rfl, hown, hb⟩ := hg
    injection hgl with hgl
    subst hgl
    rw [natVals_nats] at hlst
    rw [natVals_length] at hown
    have HL2 := Lib.hid hlst
    have HB2 := Lib.hid hb
    have HO := Lib.hid hown
    clear hlst hb hown
    have HN := Lib.hid (nats_length (endsZ s.data.toList))
    generalize hm : (endsZ s.data.toList).length = n at *
    have HNn := Lib.hid hm
    clear hm
    go_wp2_with fail
    refine (eqIntS_any w2 w2.heap.size v2 v1 _ _ HL2.out (lst_next HL1.out HB2.out) (by rw [HN.out]; omega) (by rw [HN.out]; omega)).mono ?_
    rintro e w3 ⟨rfl, nd, rfl⟩
    rw [dec_self]
    obtain ⟨z, hz⟩ : ∃ z, 1 + n = z := ⟨_, rfl⟩
    have HZ := Lib.hid hz
    have hz1 : z ≤ 41 := by omega
    have hz3 : (1 : Int) ≤ (z : Int) := by omega
    clear hz
    go_wp2_with fail
    refine (markIntS_any (w2.drewN nd) w1.heap.size _ v2 _ 1 n HO.out (by omega) (by omega)).mono ?_
    rintro e w4 ⟨he, hown, hb⟩
    rw [HZ.out] at he
    subst he
    have HO4 := Lib.hid hown
    have HB4 := Lib.hid ((below_drewN HB2.out nd).trans hb)
    have HL4 := Lib.hid (lst_of_own hown)
    clear hown hb
    go_wp2_with fail
    refine (heldIntS_any w4 w4.heap.size v2 1 n HL4.out (by omega) (by omega)).mono ?_
    rintro e w' ⟨he, rfl⟩
    rw [HZ.out] at he
    subst he
    go_wp2_with fail
    refine (cutEnds_any s w' (HM.out)).mono ?_
    intro e w5 hg
    obtain ⟨v5, rfl, hlst, hb⟩ := gave_lst hg
    rw [natVals_nats] at hlst
    have HL5 := Lib.hid hlst
    have HB5 := Lib.hid hb
    clear hg hlst hb
    have HL15 := Lib.hid (lst_next (lst_more (lst_below HL1.out HB4.out) HB4.out.size) HB5.out)
    go_wp2_with fail
    refine (eqIntS_any w5 w5.heap.size v5 v1 _ _ HL5.out HL15.out (by rw [HN.out]; omega) (by rw [HN.out]; omega)).mono ?_
    rintro e w6 ⟨rfl, nd6, rfl⟩
    rw [dec_self]
    go_wp2_with fail
    refine (heldIntS_any (w5.drewN nd6) w5.heap.size v2 1 n (lst_drewN (lst_next HL4.out HB5.out) nd6) (by omega) (by omega)).mono ?_
    rintro e w7 ⟨he, rfl⟩
    rw [HZ.out] at he
    subst he
    go_wp2
    go_ret
    exact ⟨rfl, below_drewN (HB1.out.trans ((HB4.out.trans (HB5.out.mono HB4.out.size)).mono HB1.out.size)) _⟩
  · have hi : (1048576 : Int) < (s.size : Int) := by omega
    go_enter Try.func5, Try.ntmps5
    go_wp2
    go_ret
    exact ⟨rfl, Below.refl _ _⟩
end
end Go.Proofs.Ytpfhpmeefeodcaa
