/- The drawing of some pieces, each once. -/
import Derived.Test.YtkjginibdablnaaDoorDraw
import Derived.Test.YtkjginibdablnaaDoorPackMk
namespace Go.Proofs.YtkjginibdablnaaDoor
open Go.RowKit
theorem infoStr : (Tryd.prog.info? 9).map (fun i => (i.zero, i.size, i.bytes)) = some (some (.string ByteArray.empty), 1, 16) := by kernel_rfl
theorem barVals_append (l m : List ByteArray) : barVals (l ++ m) = barVals l ++ barVals m := by simp [barVals]
theorem own_pickS {B r n : Nat} {e : TypeId} {w w' : World} {v : Value} {xs : List Value} (h : w.ownsRow B e 1 v n xs) (hg : w.grownBy w' (some r)) (hr : r < B) : w'.ownsRow B e 1 v n xs :=
  h.kept hg (by
    cases e2 : v.ownBlock with
    | none => exact .inl rfl
    | some g => right; intro e3; injection e3 with e3; have := (h.lt g e2).1; omega)
theorem grown_own {a b c : World} {row row' : Option Nat} (h : a.grownBy b row) (k : b.grownBy c row') (hr : ∀ g, row' = some g → a.heap.size ≤ g) : a.grownBy c row :=
  ⟨k.os.trans h.os, k.tape.trans h.tape, k.output.trans h.output, Nat.le_trans h.size k.size, fun i hi hne => (k.block i (by have := h.size; omega) (fun e => by have := hr i e.symm; omega)).trans (h.block i hi hne)⟩
section
set_option maxHeartbeats 1600000
theorem l12In_any (w : World) (B : Nat) (v : Value) (z : List ByteArray) (x : ByteArray) (h : Lst w B v (barVals z)) (hz : z.length ≤ 1000000) :
    Calls Tryd.prog 65 #[v, .string x] w fun e w' => (∃ b, e = .returned (.bool b)) ∧ w' = w := by
  obtain ⟨A, c, hv, hc, hx⟩ := h
  rw [barVals_length] at *
  subst hv
  have HX := Lib.hid hx
  clear hx
  obtain ⟨n, hn⟩ : ∃ n, z.length = n := ⟨_, rfl⟩
  have HN := Lib.hid hn
  rw [hn] at hz hc ⊢
  clear hn
  go_enter Tryd.func65, Tryd.ntmps65
  go_wp2_with fail
  go_loopw [5] (fun i wr => ∃ k : Nat, k ≤ n ∧ i = .int .i64 (k : Int) ∧ wr = w) (fun i _ => n - (intOf i).toNat)
  case atStart => exact ⟨0, Nat.zero_le _, rfl, rfl⟩
  case round =>
    obtain ⟨k, hk, rfl, rfl⟩ := hrel
    by_cases hlt : k < n
    · obtain ⟨y, hy⟩ : ∃ y, z[k]? = some y := ⟨_, List.getElem?_eq_getElem (by have := HN.out; omega)⟩
      obtain ⟨g, off, rfl, _, hcg⟩ := HX.out (by have := HN.out; omega)
      have hc1 := hcg k _ (barVals_get _ _ _ hy)
      clear hy hcg
      have hi1 : (k : Int) < (n : Int) := by omega
      have hi0 : (0 : Int) ≤ (k : Int) := by omega
      cases e : (y.toList == x.toList) with
      | true =>
        go_wp2
        go_ret
        exact ⟨⟨_, rfl⟩, rfl⟩
      | false =>
        go_wp2
        go_roundw
        case rel => exact ⟨k + 1, by omega, by go_num, trivial⟩
        case measure => simp [intOf]; omega
    · go_wp2
      go_ret
      exact ⟨⟨_, rfl⟩, rfl⟩
def GaveSome (m : Nat) (w : World) (r K : Nat) (e : Ending) (w' : World) : Prop :=
  ∃ (v : Value) (ps : List ByteArray), e = .returned v ∧ w'.ownsRow w.heap.size 9 1 v ps.length (barVals ps) ∧ ps.length ≤ m ∧ (∀ s ∈ ps, s.size ≤ 9) ∧ Rd w' r K ∧ w.grownBy w' (some r)
theorem l91Some_any (m : Nat) (w : World) (r K : Nat) (h : Rd w r K) (hK : K ≤ 70000) (hm1 : 1 ≤ m) (hm : m ≤ 5) :
    Calls Tryd.prog 48 #[.pointer (some ⟨r, 0, none⟩), .int .i64 (m : Int)] w (GaveSome m w r (K + 21)) := by
  obtain ⟨i0, hi, hz0, hz1, hz2⟩ := info_parts infoStr
  have hrw := h.lt
  have HR := Lib.hid (h.alloc (.cells #[] 9))
  have HE : Hid ((w.alloc (.cells #[] 9)).ownsRow w.heap.size 9 1 (.slice (some ⟨w.heap.size, 0, none⟩) 0 0) 0 []) := Lib.hid (World.ownsRow_lit w #[] 0 (Nat.le_refl _) (by unfold maxLen; omega) rfl)
  have HB0 := Lib.hid (show w.grownBy (w.alloc (.cells #[] 9)) (some r) from grown_alloc (grown_refl _ _) _)
  clear h
  go_enter Tryd.func48, Tryd.ntmps48
  go_wp2_with fail
  refine (pick_any (m : Int) _ r K HR.out (by omega) (by omega)).mono ?_
  rintro e w1 ⟨x, rfl, hx, _, hr1, hg1⟩
  have hxm : x < m := by have := hx (by omega); omega
  have HR1 := Lib.hid hr1
  have HO1 := Lib.hid (own_pickS HE.out hg1 hrw)
  have HB1 := Lib.hid (grown_trans HB0.out hg1)
  have hs1 : w.heap.size + 1 ≤ w1.heap.size := by have := hg1.size; simpa using this
  clear hx hr1 hg1
  go_wp2_with fail
  go_loopw [5, 6] (fun o n wr => ∃ (t : Nat) (ps : List ByteArray), t ≤ m ∧ n = .int .i64 (t : Int) ∧ wr.ownsRow w.heap.size 9 1 o ps.length (barVals ps) ∧ ps.length + t ≤ m ∧ (∀ s ∈ ps, s.size ≤ 9) ∧ Rd wr r (K + 1 + 4 * (m - t)) ∧ w.grownBy wr (some r) ∧ w.heap.size ≤ wr.heap.size) (fun _ n _ => (intOf n).toNat)
  case atStart => exact ⟨x + 1, [], by omega, by go_num, HO1.out, by simp; omega, (by simp), HR1.out.more (by omega), HB1.out, by omega⟩
  case round =>
    obtain ⟨t, ps, ht, rfl, ho, hl, hsz, hr, hb, hs⟩ := hrel
    have HO := Lib.hid ho
    have HRr := Lib.hid hr
    have HB := Lib.hid hb
    have HSZ := Lib.hid hsz
    clear ho hr hb hsz
    by_cases ht0 : 0 < t
    · have ht1 : (0 : Int) < (t : Int) := by omega
      go_wp2_with fail
      refine (l91Piece_any _ r _ HRr.out (by omega)).mono ?_
      rintro e w2 ⟨s, rfl, hs9, hr2, hg2⟩
      have HR2 := Lib.hid hr2
      have HS9 := Lib.hid (show s.size ≤ 9 from hs9)
      have HO2 := Lib.hid (own_pickS HO.out hg2 hrw)
      have HB2 := Lib.hid (grown_trans HB.out hg2)
      have hs2 : w.heap.size ≤ w2.heap.size := Nat.le_trans hs hg2.size
      clear hr2 hg2 hs9
      go_wp2_with fail
      refine (l12In_any w2 _ _ ps s (lst_of_own HO2.out) (by omega)).mono ?_
      rintro e w' ⟨⟨b, rfl⟩, hw⟩
      rw [hw]
      clear hw
      cases b with
      | false =>
        go_wp2_with (at_builtin; go_must (refine wpList_append_own _ rfl _ _ 50 rfl w.heap.size 9 i0 (.string ByteArray.empty) 1 16 Tryd.underlying50 hi hz0 hz1 hz2 rfl (by decide) _ _ _ rfl (own_alloc HO2.out _) _ 1 1 [.string s] rfl rfl (cell_one_new _ _ _) (by simp [Value.oneCell']) (by unfold maxLen; omega) (by omega) (by simp; omega) ?_); intro v1 w3 hown' hgrow _; have HO3 := Lib.hid hown'; have HG3 := Lib.hid hgrow; clear hown' hgrow)
        have HA := Lib.hid (show Below w2.heap.size w2 (w2.alloc (.cells #[.string s] 9)) from (Below.refl _ _).alloc (Nat.le_refl _) _)
        have HB3 := Lib.hid (show Below w.heap.size w2 w3 from bel_gb (HA.out.mono hs2) HG3.out (by simp; omega) (fun j hj => (HO2.out.lt j hj).1))
        go_wp2
        go_roundw
        case rel => exact ⟨t - 1, ps ++ [s], by omega, by go_num, by rw [barVals_append, List.length_append]; exact HO3.out, by simp; omega, (fun u hu => by rcases List.mem_append.1 hu with hu | hu; exact HSZ.out u hu; rw [List.mem_singleton.1 hu]; exact HS9.out), (HR2.out.below HB3.out hrw).more (by omega), grown_own (grown_alloc HB2.out _) HG3.out (fun j hj => (HO2.out.lt j hj).1), Nat.le_trans hs2 HB3.out.size⟩
        case measure => simp [intOf]; omega
      | true =>
        go_wp2_with fail
        refine (pick_any 30 _ r _ HR2.out (by omega) (by omega)).mono ?_
        rintro e w3 ⟨x3, rfl, hx3, _, hr3, hg3⟩
        have HR3 := Lib.hid hr3
        have HO3 := Lib.hid (own_pickS HO2.out hg3 hrw)
        have HB3 := Lib.hid (grown_trans HB2.out hg3)
        have hs3 : w.heap.size ≤ w3.heap.size := Nat.le_trans hs2 hg3.size
        clear hx3 hr3 hg3
        by_cases q3 : x3 = 0
        · subst q3
          go_wp2_with (at_builtin; go_must (refine wpList_append_own _ rfl _ _ 50 rfl w.heap.size 9 i0 (.string ByteArray.empty) 1 16 Tryd.underlying50 hi hz0 hz1 hz2 rfl (by decide) _ _ _ rfl (own_alloc HO3.out _) _ 1 1 [.string s] rfl rfl (cell_one_new _ _ _) (by simp [Value.oneCell']) (by unfold maxLen; omega) (by omega) (by simp; omega) ?_); intro v1 w4 hown' hgrow _; have HO4 := Lib.hid hown'; have HG4 := Lib.hid hgrow; clear hown' hgrow)
          have HA := Lib.hid (show Below w3.heap.size w3 (w3.alloc (.cells #[.string s] 9)) from (Below.refl _ _).alloc (Nat.le_refl _) _)
          have HB4 := Lib.hid (show Below w.heap.size w3 w4 from bel_gb (HA.out.mono hs3) HG4.out (by simp; omega) (fun j hj => (HO3.out.lt j hj).1))
          go_wp2
          go_roundw
          case rel => exact ⟨t - 1, ps ++ [s], by omega, by go_num, by rw [barVals_append, List.length_append]; exact HO4.out, by simp; omega, (fun u hu => by rcases List.mem_append.1 hu with hu | hu; exact HSZ.out u hu; rw [List.mem_singleton.1 hu]; exact HS9.out), (HR3.out.below HB4.out hrw).more (by omega), grown_own (grown_alloc HB3.out _) HG4.out (fun j hj => (HO3.out.lt j hj).1), Nat.le_trans hs3 HB4.out.size⟩
          case measure => simp [intOf]; omega
        · have b3 : ((x3 : Int) == 0) = false := by simp; omega
          clear q3
          go_wp2
          go_roundw
          case rel => exact ⟨t - 1, ps, by omega, by go_num, HO3.out, by omega, HSZ.out, HR3.out.more (by omega), HB3.out, hs3⟩
          case measure => simp [intOf]; omega
    · have ht1 : t = 0 := by omega
      subst ht1
      go_wp2
      go_ret
      exact ⟨_, ps, rfl, HO.out, by omega, HSZ.out, HRr.out.more (by omega), HB.out⟩
end
end Go.Proofs.YtkjginibdablnaaDoor
