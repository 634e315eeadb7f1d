/- CutJoin and CutOk of any list of strings, here and in the reference: the text of a list that is the list of its text's pieces. -/
import Derived.Test.YthefpbnnmfjggaaCutAll
import Derived.Test.YthefpbnnmfjggaaShelf
namespace Go.Proofs.Ythefpbnnmfjggaa
open Go.RowKit

def raws (l : List ByteArray) : List (List UInt8) := l.map fun s => s.data.toList
theorem bars_raws (l : List ByteArray) : bars (raws l) = l := by
  induction l with
  | nil => rfl
  | cons x r ih =>
    simp only [bars, raws, List.map_cons, List.map_map] at ih ⊢
    rw [ih]
theorem raws_bars (l : List (List UInt8)) : raws (bars l) = l := by
  induction l with
  | nil => rfl
  | cons x r ih =>
    simp only [bars, raws, List.map_cons, List.map_map] at ih ⊢
    rw [ih]
theorem raws_length (l : List ByteArray) : (raws l).length = l.length := by simp [raws]
theorem raws_take (l : List ByteArray) (k : Nat) : raws (l.take k) = (raws l).take k := by simp [raws, List.map_take]
theorem raws_inj {l m : List ByteArray} (h : raws l = raws m) : l = m := by rw [← bars_raws l, ← bars_raws m, h]
def joinOk (l : List (List UInt8)) : Bool := textB l.flatten && decide (pieces l.flatten = l)
def joinT (l : List (List UInt8)) : List UInt8 := if joinOk l = true then l.flatten else []
theorem joinOk_yes {l : List (List UInt8)} (h : textB l.flatten = true) (h2 : pieces l.flatten = l) : joinOk l = true := by simp [joinOk, h, h2]
theorem joinOk_no {l : List (List UInt8)} (h : textB l.flatten = false) : joinOk l = false := by simp [joinOk, h]
theorem joinOk_ne {l : List (List UInt8)} (h : pieces l.flatten ≠ l) : joinOk l = false := by simp [joinOk, h]
theorem joinT_yes {l : List (List UInt8)} (h : joinOk l = true) : joinT l = l.flatten := by simp [joinT, h]
theorem joinT_no {l : List (List UInt8)} (h : joinOk l = false) : joinT l = [] := by simp [joinT, h]
theorem joinOk_long {l : List (List UInt8)} {k : Nat} {p : List UInt8} (h : l[k]? = some p) (hp : 8 < p.length) : joinOk l = false := by
  refine joinOk_ne fun he => ?_
  rw [← he] at h
  have := (pieces_size h).2.1
  omega
theorem flatten_take_le (l : List (List UInt8)) (k : Nat) : (l.take k).flatten.length ≤ l.flatten.length := by
  have h : l.flatten = (l.take k).flatten ++ (l.drop k).flatten := by rw [← List.flatten_append, List.take_append_drop]
  rw [h, List.length_append]
  omega
theorem textB_long {l : List UInt8} (h : 40 < l.length) : textB l = false := by
  simp [textB]; omega
theorem joinOk_much {l : List (List UInt8)} {k : Nat} (h : 40 < (l.take k).flatten.length) : joinOk l = false := by
  have := flatten_take_le l k
  exact joinOk_no (textB_long (by omega))
theorem flatten_snoc {l : List (List UInt8)} {k : Nat} {p : List UInt8} (h : l[k]? = some p) : (l.take (k + 1)).flatten = (l.take k).flatten ++ p := by
  rw [List.take_add_one, h, List.flatten_append]
  simp
theorem raws_get {l : List ByteArray} {k : Nat} {s : ByteArray} (h : l[k]? = some s) : (raws l)[k]? = some s.data.toList := by simp [raws, h]
theorem join_flat (l : List (List UInt8)) : Lib.join l [] = l.flatten := by
  cases l with
  | nil => rfl
  | cons x r => simp [Lib.join_cons, Lib.joinTail]
theorem bar_append (x : ByteArray) (y : ByteArray) : x ++ y = ⟨(x.data.toList ++ y.data.toList).toArray⟩ := by
  apply ByteArray.ext
  simp

section
set_option maxHeartbeats 800000
theorem getD_bars {l : List ByteArray} {j : Nat} (h : j < l.length) : (barVals l)[j]? = some (.string (l.getD j ByteArray.empty)) := by
  rw [barVals, List.getElem?_map, List.getD_eq_getElem?_getD, List.getElem?_eq_getElem h]
  rfl
theorem equal_any (w : World) (B : Nat) (va vb : Value) (la lb : List ByteArray) (ha : Lst w B va (barVals la)) (hb : Lst w B vb (barVals lb)) (hm : la.length ≤ 1000000000) (hm2 : lb.length ≤ 1000000000) :
    Calls Try.prog 23 #[va, vb] w (QuietBool (decide (la = lb)) w) := by
  obtain ⟨A, ca, rfl, hca, hxa⟩ := ha
  obtain ⟨C, cb, rfl, hcb, hxb⟩ := hb
  rw [barVals_length] at *
  rw [barVals_length] at *
  by_cases hl : la.length = lb.length
  · by_cases h0 : la.length = 0
    · have e1 : la = [] := List.length_eq_zero_iff.1 h0
      have e2 : lb = [] := List.length_eq_zero_iff.1 (by omega)
      subst e1
      subst e2
      refine (Try.slices_Equal_string_empty A C ca 0 cb w (by omega)).mono ?_
      rintro e w' ⟨rfl, rfl⟩
      exact ⟨ret_bool (by simp), 0, rfl⟩
    · obtain ⟨g, o, rfl, _, hc1⟩ := hxa (by omega)
      obtain ⟨g2, o2, rfl, _, hc2⟩ := hxb (by omega)
      refine (Try.slices_Equal_string g o la.length ca g2 o2 lb.length cb la lb w (Nat.le_refl _) (Nat.le_refl _) (by omega) (by omega) (fun j hj => hc1 j _ (getD_bars hj)) (fun j hj => hc2 j _ (getD_bars hj))).mono ?_
      rintro e w' ⟨rfl, q, rfl⟩
      exact ⟨ret_bool (by simp), q, rfl⟩
  · refine (Try.slices_Equal_string_lens A C la.length ca lb.length cb w hl).mono ?_
    rintro e w' ⟨rfl, rfl⟩
    have hne : la ≠ lb := fun h => hl (by rw [h])
    exact ⟨ret_bool (by simp [hne]), 0, rfl⟩
theorem join_any (w : World) (v : Value) (l : List ByteArray) (hl : Lst w w.heap.size v (barVals l)) (hn : l.length ≤ 1048576) (hlen : (raws l).flatten.length ≤ 1048576) :
    Calls Try.prog 21 #[v, .string ByteArray.empty] w fun e w' => e = .returned (.string ⟨(raws l).flatten.toArray⟩) ∧ Below w.heap.size w w' := by
  obtain ⟨A, c, rfl, hc, hx⟩ := hl
  rw [barVals_length] at *
  by_cases h0 : l.length = 0
  · have e1 : l = [] := List.length_eq_zero_iff.1 h0
    subst e1
    refine (Try.strings_Join_none A c ByteArray.empty w).mono ?_
    rintro e w' ⟨rfl, rfl⟩
    exact ⟨rfl, Below.refl _ _⟩
  · obtain ⟨g, o, rfl, hg, hcell⟩ := hx (by omega)
    have hj : Lib.join (l.map (·.data.toList)) ByteArray.empty.data.toList = (raws l).flatten := join_flat _
    refine (Try.strings_Join g o c l ByteArray.empty w (fun j x h => hcell j _ (barVals_get _ _ _ h)) hg (by omega) hc (by rw [hj]; omega)).mono ?_
    rintro e w' ⟨rfl, hb⟩
    rw [hj]
    exact ⟨rfl, hb⟩
def Joined (l : List ByteArray) (w : World) (e : Ending) (w' : World) : Prop :=
  e = .returned (.tuple #[.string ⟨(joinT (raws l)).toArray⟩, .bool (joinOk (raws l))]) ∧ Below w.heap.size w w'
theorem joined_no {l : List ByteArray} {w w' : World} (h : joinOk (raws l) = false) (hb : Below w.heap.size w w') : Joined l w (.returned (.tuple #[.string ByteArray.empty, .bool false])) w' := by
  refine ⟨?_, hb⟩
  rw [joinT_no h, h]
  rfl
theorem joined_yes {l : List ByteArray} {w w' : World} (h : joinOk (raws l) = true) (hb : Below w.heap.size w w') : Joined l w (.returned (.tuple #[.string ⟨(raws l).flatten.toArray⟩, .bool true])) w' := by
  refine ⟨?_, hb⟩
  rw [joinT_yes h, h]
theorem cutJoin_any (w : World) (v : Value) (l : List ByteArray) (hl : Lst w w.heap.size v (barVals l)) (hn : l.length ≤ 1048576) (hlen : (raws l).flatten.length ≤ 1048576) :
    Calls Try.prog 10 #[v] w (Joined l w) := by
  have HL := Lib.hid hl
  have HS := Lib.hid (show (⟨(raws l).flatten.toArray⟩ : ByteArray).size ≤ maxLen by unfold maxLen; show (raws l).flatten.toArray.size ≤ _; simp only [List.size_toArray]; omega)
  obtain ⟨s, hs⟩ : ∃ s : ByteArray, s = ⟨(raws l).flatten.toArray⟩ := ⟨_, rfl⟩
  have hst : s.data.toList = (raws l).flatten := by rw [hs]
  have HS2 := Lib.hid hs
  have HT := Lib.hid hst
  have HN := Lib.hid (show (pieces s.data.toList).length ≤ 1048576 by
    rw [pieces_length]
    have := (endsAt_length (l := s.data.toList) 0).1
    rw [hst] at this ⊢
    show (endsAt (raws l).flatten 0).length ≤ 1048576
    omega)
  clear hs hst hl
  cases ht : textB s.data.toList with
  | false =>
    go_enter Try.func10, Try.ntmps10
    go_wp2_with fail
    refine (join_any w v l HL.out hn hlen).mono ?_
    rintro e w1 ⟨rfl, hb⟩
    rw [← HS2.out]
    have HB := Lib.hid hb
    clear hb
    go_wp2_with (go_at_call 22; refine (textOk_any _ _ (by rw [HS2.out]; exact HS.out)).mono ?_; rintro e w' ⟨rfl, rfl⟩)
    go_ret2
    exact joined_no (joinOk_no (by rw [← HT.out]; exact ht)) HB.out
  | true =>
    go_enter Try.func10, Try.ntmps10
    go_wp2_with fail
    refine (join_any w v l HL.out hn hlen).mono ?_
    rintro e w1 ⟨rfl, hb⟩
    rw [← HS2.out]
    have HB := Lib.hid hb
    clear hb
    go_wp2_with (go_at_call 22; refine (textOk_any _ _ (by rw [HS2.out]; exact HS.out)).mono ?_; rintro e w' ⟨rfl, rfl⟩)
    refine (cutAll_any s _ (by rw [HS2.out]; exact HS.out)).mono ?_
    intro e w2 hg
    obtain ⟨v2, rfl, hlst, hb⟩ := gave_lst hg
    rw [strVals_bars, piecesZ_yes ht] at hlst
    have HL2 := Lib.hid hlst
    have HB2 := Lib.hid (bel_trans HB.out hb)
    have HL1 := Lib.hid (lst_next (lst_next HL.out HB.out) hb)
    clear hg hlst hb
    by_cases heq : bars (pieces s.data.toList) = l
    · have HE := Lib.hid (show decide (bars (pieces s.data.toList) = l) = true by simpa using heq)
      clear heq
      go_wp2_with fail
      refine (equal_any w2 w2.heap.size v2 v _ _ HL2.out HL1.out (by rw [bars_length]; have := HN.out; omega) (by omega)).mono ?_
      rintro e w3 ⟨rfl, q, rfl⟩
      rw [HE.out]
      go_wp2
      go_ret2
      rw [HS2.out]
      refine joined_yes (joinOk_yes (by rw [← HT.out]; exact ht) ?_) (below_drewN HB2.out _)
      have := congrArg raws (of_decide_eq_true HE.out)
      rw [raws_bars, HT.out] at this
      exact this
    · have HE := Lib.hid (show decide (bars (pieces s.data.toList) = l) = false by simpa using heq)
      clear heq
      go_wp2_with fail
      refine (equal_any w2 w2.heap.size v2 v _ _ HL2.out HL1.out (by rw [bars_length]; have := HN.out; omega) (by omega)).mono ?_
      rintro e w3 ⟨rfl, q, rfl⟩
      rw [HE.out]
      go_wp2
      go_ret2
      refine joined_no (joinOk_ne fun h => of_decide_eq_false HE.out ?_) (below_drewN HB2.out _)
      rw [HT.out, h, bars_raws]
theorem cutOk_any (w : World) (v : Value) (l : List ByteArray) (hl : Lst w w.heap.size v (barVals l)) (hn : l.length ≤ 1048576) (hlen : (raws l).flatten.length ≤ 1048576) :
    Calls Try.prog 13 #[v] w fun e w' => e = .returned (.bool (joinOk (raws l))) ∧ Below w.heap.size w w' := by
  have HL := Lib.hid hl
  clear hl
  go_enter Try.func13, Try.ntmps13
  go_wp2_with fail
  refine (cutJoin_any w v l HL.out hn hlen).mono ?_
  rintro e w1 ⟨rfl, hb⟩
  have HB := Lib.hid hb
  clear hb
  go_wp2
  go_ret
  exact ⟨rfl, HB.out⟩
theorem l1Join_any (w : World) (v : Value) (l : List ByteArray) (hl : Lst w w.heap.size v (barVals l)) (hn : l.length ≤ 1048576) :
    Calls Try.prog 20 #[v] w (Joined l w) := by
  have HL := Lib.hid hl
  obtain ⟨A, c, rfl, hc, hx⟩ := hl
  rw [barVals_length] at *
  have HX := Lib.hid hx
  clear hx
  obtain ⟨n, hnn⟩ : ∃ n, l.length = n := ⟨_, rfl⟩
  have HN := Lib.hid hnn
  have HLn := Lib.hid (show Lst w w.heap.size (.slice A n c) (barVals l) by rw [← hnn]; have := HL.out; first | (rwa [barVals_length] at this) | exact this)
  rw [hnn] at hn hc ⊢
  clear hnn
  go_enter Try.func20, Try.ntmps20
  go_wp2
  go_loopw [4, 5] (fun s i wr => ∃ (y : ByteArray) (k m : Nat), k ≤ n ∧ s = .string y ∧ i = .int .i64 (k : Int) ∧ y.data.toList = ((raws l).take k).flatten ∧ y.size ≤ 48 ∧ wr = w.drewN m) (fun _ i _ => n - (intOf i).toNat)
  case atStart => exact ⟨ByteArray.empty, 0, 0, Nat.zero_le _, rfl, rfl, rfl, by simp, rfl⟩
  case round =>
    obtain ⟨y, k, m, hk, rfl, rfl, hy, hys, rfl⟩ := hrel
    have HY := Lib.hid hy
    clear hy
    by_cases hlt : k < n
    · obtain ⟨x, hx⟩ : ∃ x, l[k]? = some x := ⟨_, List.getElem?_eq_getElem (by have := HN.out; omega)⟩
      obtain ⟨g, off, rfl, _, hcg⟩ := HX.out (by have := HN.out; omega)
      have hc1 := hcg k _ (barVals_get _ _ _ hx)
      have HXX := Lib.hid hx
      clear hx hcg
      have hi1 : (k : Int) < (n : Int) := by omega
      by_cases h8 : 8 < x.size
      · have h8i : (8 : Int) < (x.size : Int) := by omega
        go_wp2
        go_ret2
        exact joined_no (joinOk_long (raws_get HXX.out) (by rw [size_int]; exact h8)) (below_drewN (Below.refl _ _) _)
      · have h8i : (x.size : Int) ≤ 8 := by omega
        by_cases h40 : 40 < y.size
        · have h40i : (40 : Int) < (y.size : Int) := by omega
          go_wp2
          go_ret2
          exact joined_no (joinOk_much (k := k) (by rw [← HY.out, size_int]; exact h40)) (below_drewN (Below.refl _ _) _)
        · have h40i : (y.size : Int) ≤ 40 := by omega
          obtain ⟨z, hz⟩ : ∃ z, y ++ x = z := ⟨_, rfl⟩
          have hzs : z.size ≤ 48 := by rw [← hz]; simp; omega
          have HZ := Lib.hid (show z.data.toList = ((raws l).take (k + 1)).flatten by
            rw [flatten_snoc (raws_get HXX.out), ← HY.out, ← hz]; simp)
          have HZ2 := Lib.hid hz
          clear hz
          go_wp2
          rw [HZ2.out]
          go_roundw
          case rel => exact ⟨z, k + 1, _, by omega, rfl, by go_num, HZ.out, hzs, rfl⟩
          case measure => simp [intOf]; omega
    · have HYF := Lib.hid (show y.data.toList = (raws l).flatten by
        rw [HY.out, List.take_of_length_le (by rw [raws_length]; have := HN.out; omega)])
      have hmx : y.size ≤ maxLen := by unfold maxLen; omega
      have HM := Lib.hid hmx
      clear hmx
      cases ht : textB y.data.toList with
      | false =>
        go_wp2_with (go_at_call 18; refine (textOkS_any _ _ HM.out).mono ?_; rintro e w' ⟨rfl, rfl⟩)
        go_ret2
        exact joined_no (joinOk_no (by rw [← HYF.out]; exact ht)) (below_drewN (Below.refl _ _) _)
      | true =>
        obtain ⟨h40, hlet⟩ := textB_parts ht
        have HLet := Lib.hid hlet
        have HPL := Lib.hid (show (pieces y.data.toList).length ≤ 1048576 by
          rw [pieces_length]
          have h1 := (endsAt_length (l := y.data.toList) 0).1
          have h2 := size_int y
          show (endsAt y.data.toList 0).length ≤ 1048576
          omega)
        clear hlet
        go_wp2_with (go_at_call 18; refine (textOkS_any _ _ HM.out).mono ?_; rintro e w' ⟨rfl, rfl⟩)
        refine (l1All_any y _ h40 HLet.out).mono ?_
        rintro e w2 ⟨v2, rfl, ho, hb⟩
        have HL2 := Lib.hid (strVals_bars _ ▸ lst_of_own ho)
        have HB2 := Lib.hid (bel_drew hb)
        have HL1 := Lib.hid (lst_next HLn.out HB2.out)
        clear ho hb
        by_cases heq : bars (pieces y.data.toList) = l
        · have HE := Lib.hid (show decide (bars (pieces y.data.toList) = l) = true by simpa using heq)
          clear heq
          go_wp2_with fail
          refine (l1Same_any w2 w2.heap.size v2 _ _ _ HL2.out HL1.out (by rw [bars_length]; have := HPL.out; omega) (by have := HN.out; omega)).mono ?_
          rintro e w3 ⟨rfl, q, rfl⟩
          rw [HE.out]
          go_wp2
          go_ret2
          have hyb : y = ⟨(raws l).flatten.toArray⟩ := by
            apply ByteArray.ext
            rw [← HYF.out]
          rw [hyb]
          refine joined_yes (joinOk_yes (by rw [← HYF.out]; exact ht) ?_) (below_drewN HB2.out _)
          have := congrArg raws (of_decide_eq_true HE.out)
          rw [raws_bars, HYF.out] at this
          exact this
        · have HE := Lib.hid (show decide (bars (pieces y.data.toList) = l) = false by simpa using heq)
          clear heq
          go_wp2_with fail
          refine (l1Same_any w2 w2.heap.size v2 _ _ _ HL2.out HL1.out (by rw [bars_length]; have := HPL.out; omega) (by have := HN.out; omega)).mono ?_
          rintro e w3 ⟨rfl, q, rfl⟩
          rw [HE.out]
          go_wp2
          go_ret2
          refine joined_no (joinOk_ne fun h => of_decide_eq_false HE.out ?_) (below_drewN HB2.out _)
          rw [HYF.out, h, bars_raws]
theorem cutJoinS_any (w : World) (v : Value) (l : List ByteArray) (hl : Lst w w.heap.size v (barVals l)) (hn : l.length ≤ 1048576) :
    Calls Try.prog 8 #[v] w (Joined l w) := by
  have HL := Lib.hid hl
  clear hl
  go_enter Try.func8, Try.ntmps8
  go_wp2_with fail
  refine (l1Join_any w v l HL.out hn).mono ?_
  rintro e w1 ⟨rfl, hb⟩
  have HB := Lib.hid hb
  clear hb
  go_wp2
  go_ret2
  exact ⟨rfl, HB.out⟩
theorem cutOkS_any (w : World) (v : Value) (l : List ByteArray) (hl : Lst w w.heap.size v (barVals l)) (hn : l.length ≤ 1048576) :
    Calls Try.prog 12 #[v] w fun e w' => e = .returned (.bool (joinOk (raws l))) ∧ Below w.heap.size w w' := by
  have HL := Lib.hid hl
  clear hl
  go_enter Try.func12, Try.ntmps12
  go_wp2_with fail
  refine (l1Join_any w v l HL.out hn).mono ?_
  rintro e w1 ⟨rfl, hb⟩
  have HB := Lib.hid hb
  clear hb
  go_wp2
  go_ret
  exact ⟨rfl, HB.out⟩
end
end Go.Proofs.Ythefpbnnmfjggaa
