/- Packs by value: measured, copied, compared; marked. -/
import Derived.Test.YtkjginibdablnaaDoorItemS
import Derived.Test.YtkjginibdablnaaDoorMarkT
import Derived.Deep.RegionWith
namespace Go.Proofs.YtkjginibdablnaaDoor
open Go.RowKit
theorem own_someP {T B : Nat} {w : World} {v : Value} {l : List (Value × Value)} (h : OwnP T B w v l) (hl : 1 ≤ l.length) : ∃ g c, v = .slice (some ⟨g, 0, none⟩) l.length c ∧ B ≤ g := by
  rcases h.2 with ⟨_, h0⟩ | ⟨g, cap, cur, hv, hb, _⟩
  · omega
  · exact ⟨g, cap, hv, hb⟩
theorem own_formP {T B : Nat} {w : World} {v : Value} {l : List (Value × Value)} (h : OwnP T B w v l) : ∃ A c, v = .slice A l.length c := lp_form (lp_of_own h)
abbrev packV (no : Int) (v : Value) : Value := .agg #[.int .i64 no, v]
/-- the marks k, k+1, .. as items -/
def mks (k n : Nat) : List (Value × Value) := (List.range n).map fun i : Nat => (.int .i64 ((k + 2 * i : Nat) : Int), .string (markT (k + 2 * i + 1)))
theorem mks_length (k n : Nat) : (mks k n).length = n := by simp [mks]
theorem mks_get (k n j : Nat) (h : j < n) : (mks k n)[j]? = some (.int .i64 ((k + 2 * j : Nat) : Int), .string (markT (k + 2 * j + 1))) := by simp [mks, h]
theorem ownP_set {T B b : Nat} {w : World} {v : Value} {l : List (Value × Value)} (h : OwnP T B w v l) (hb : b < B) (i : Nat) (u : Value) : OwnP T B (w.setCell ⟨b, i, none⟩ u) v l := ownP_pick h (grown_setCell w b i u) hb
section
set_option maxHeartbeats 1600000
theorem szPack_any (w : World) (no : Int) (v : Value) (l : List Itm) (z : Nat) (h : ItemsIn w v l) (hz : z ≤ 1048576) :
    Calls Tryd.prog 10 #[packV no v, .int .i64 (z : Int)] w fun e w' => ∃ r : Int, e = .returned (.int .i64 r) ∧ (0 ≤ r → l.length + isum l ≤ z) ∧ Below w.heap.size w w' := by
  have HB := Lib.hid ((Below.refl _ w).alloc (Nat.le_refl _) (.cells #[.int .i64 no, v] 24))
  have HI := Lib.hid (show ItemsIn (w.alloc (.cells #[.int .i64 no, v] 24)) v l from ⟨lp_next h.1 HB.out, h.2⟩)
  clear h
  go_enter Tryd.func10, Tryd.ntmps10
  go_wp2_with fail
  refine (szItemS_any _ v l z HI.out hz).mono ?_
  rintro e w1 ⟨r, rfl, hr, hb⟩
  have HB1 := Lib.hid (bel2 HB.out hb)
  have HR := Lib.hid hr
  clear hb hr
  by_cases hneg : r < 0
  · go_wp2
    go_ret
    exact ⟨-1, rfl, fun h => by omega, HB1.out⟩
  · go_wp2
    go_ret
    exact ⟨r, rfl, HR.out, HB1.out⟩
theorem toPack_any (w : World) (no : Int) (v : Value) (l : List Itm) (hl : Lp w w.heap.size v (ivals l)) (hn : l.length ≤ 1048576) :
    Calls Tryd.prog 12 #[packV no v] w fun e w' => ∃ v', e = .returned (packV no v') ∧ OwnP 40 w.heap.size w' v' (ivals l) ∧ Below w.heap.size w w' := by
  obtain ⟨W, hW⟩ : ∃ W, W = ((w.alloc (.cells #[.int .i64 no, v] 24)).alloc (.cells #[.int .i64 0, .slice none 0 0] 29)).alloc (.cells #[.int .i64 no, .slice none 0 0] 29) := ⟨_, rfl⟩
  have HB := Lib.hid (show Below w.heap.size w W by rw [hW]; exact (((Below.refl _ w).alloc (Nat.le_refl _) _).alloc (by simp) _).alloc (by simp; omega) _)
  have HL := Lib.hid (lp_next hl HB.out)
  have hs : W.heap.size = w.heap.size + 3 := by rw [hW]; simp
  have c1 : W.heap[w.heap.size + 1]? = some (.cells #[.int .i64 0, .slice none 0 0] 29 (0, 0)) := by
    rw [hW, Below.heap_alloc _ _ _ (by simp)]
    have := heap_alloc_new (w.alloc (.cells #[.int .i64 no, v] 24)) (.cells #[.int .i64 0, .slice none 0 0] 29)
    simpa using this
  have c2 : W.heap[w.heap.size + 2]? = some (.cells #[.int .i64 no, .slice none 0 0] 29 (0, 0)) := by
    rw [hW]
    have := heap_alloc_new ((w.alloc (.cells #[.int .i64 no, v] 24)).alloc (.cells #[.int .i64 0, .slice none 0 0] 29)) (.cells #[.int .i64 no, .slice none 0 0] 29)
    simpa using this
  have C1 := Lib.hid c1
  have C2 := Lib.hid c2
  have HW := Lib.hid hW
  have HS := Lib.hid hs
  clear hl c1 c2 hW hs
  go_enter Tryd.func12, Tryd.ntmps12
  go_wp2_with fail
  rw [← HW.out]
  refine (toItemS_any W v l HL.out hn).mono ?_
  rintro e w1 ⟨v', rfl, ho, hb⟩
  obtain ⟨A', c', rfl⟩ := own_formP ho
  rw [ivals_length] at *
  obtain ⟨n, hnn⟩ : ∃ n, l.length = n := ⟨_, rfl⟩
  have HN := Lib.hid hnn
  rw [hnn] at ho hn ⊢
  clear hnn
  have HO := Lib.hid ho
  have HB1 := Lib.hid hb
  have e1 : w1.heap[w.heap.size + 1]? = some (.cells #[.int .i64 0, .slice none 0 0] 29 (0, 0)) := (hb.block _ (by rw [HS.out]; omega)).trans C1.out
  have e2 : w1.heap[w.heap.size + 2]? = some (.cells #[.int .i64 no, .slice none 0 0] 29 (0, 0)) := (hb.block _ (by rw [HS.out]; omega)).trans C2.out
  obtain ⟨b1, hb1⟩ : ∃ b1, b1 = w.heap.size + 1 := ⟨_, rfl⟩
  obtain ⟨b2, hb2⟩ : ∃ b2, b2 = w.heap.size + 1 + 1 := ⟨_, rfl⟩
  have hne : b1 ≠ b2 := by omega
  have hne2 : b2 ≠ b1 := by omega
  have HB12 := Lib.hid (show b1 = w.heap.size + 1 ∧ b2 = w.heap.size + 2 from ⟨hb1, hb2⟩)
  rw [← hb1] at e1
  rw [show w.heap.size + 2 = b2 by omega] at e2
  rw [← hb2, ← hb1]
  have f0 : w1.cell? ⟨b2, 0, none⟩ = some (.int .i64 no) := by simp [World.cell?, e2]
  have f1 : w1.cell? ⟨b2, 1, none⟩ = some (.slice none 0 0) := by simp [World.cell?, e2]
  have f2 : w1.frozen? ⟨b2, 1, none⟩ = false := by simp [World.frozen?, e2]
  have f3 : w1.cell? ⟨b1, 0, none⟩ = some (.int .i64 0) := by simp [World.cell?, e1]
  have f4 : w1.cell? ⟨b1, 1, none⟩ = some (.slice none 0 0) := by simp [World.cell?, e1]
  have f5 : w1.frozen? ⟨b1, 0, none⟩ = false := by simp [World.frozen?, e1]
  have f6 : w1.frozen? ⟨b1, 1, none⟩ = false := by simp [World.frozen?, e1]
  clear ho hb hb1 hb2 e1 e2
  go_wp2
  refine bodyPost_ret_by (v := packV no (.slice A' n c')) ?_ rfl ⟨_, rfl, ?_, ?_⟩
  · simp [results, Tryd.results12, Tryd.isAgg29, Tryd.sizeOf29, go_sem, f3, f4]
  · have h12 := HB12.out
    have hs := HS.out
    exact ownP_less (ownP_set (ownP_set (ownP_set HO.out (by omega) 1 _) (by omega) 0 _) (by omega) 1 _) (by omega)
  · have h12 := HB12.out
    exact (((bel2 HB.out HB1.out).setCell (by show w.heap.size ≤ b2; omega) _).setCell (by show w.heap.size ≤ b1; omega) _).setCell (by show w.heap.size ≤ b1; omega) _
theorem eqPack_any (w : World) (na nb : Int) (va vb : Value) (la lb : List Itm) (ha : Lp w w.heap.size va (ivals la)) (hb : Lp w w.heap.size vb (ivals lb)) (hm : la.length ≤ 1000000000) :
    Calls Tryd.prog 14 #[packV na va, packV nb vb] w fun e w' => e = .returned (.bool (decide (na = nb ∧ la = lb))) ∧ Below w.heap.size w w' := by
  have HB := Lib.hid (((Below.refl _ w).alloc (Nat.le_refl _) (.cells #[.int .i64 na, va] 29)).alloc (by simp) (.cells #[.int .i64 nb, vb] 29))
  have HA := Lib.hid (lp_next ha HB.out)
  have HBb := Lib.hid (lp_next hb HB.out)
  obtain ⟨A, c, hva⟩ := lp_form ha
  obtain ⟨A', c', hvb⟩ := lp_form hb
  subst hva
  subst hvb
  clear ha hb
  by_cases hn : na = nb
  · subst hn
    have HE := Lib.hid (eqItemS_any _ _ _ la lb HA.out HBb.out hm)
    obtain ⟨o, ho⟩ : ∃ o, decide (la = lb) = o := ⟨_, rfl⟩
    have HO := Lib.hid (show decide (na = na ∧ la = lb) = o by rw [← ho]; simp)
    rw [ho] at HE
    clear ho
    go_enter Tryd.func14, Tryd.ntmps14
    go_wp2_with fail
    refine HE.out.mono ?_
    rintro e w1 ⟨rfl, hb⟩
    have HB1 := Lib.hid (bel2 HB.out hb)
    clear hb
    cases o with
    | true =>
      go_wp2
      go_ret
      exact ⟨ret_bool HO.out.symm, HB1.out⟩
    | false =>
      go_wp2
      go_ret
      exact ⟨ret_bool HO.out.symm, HB1.out⟩
  · have e2 : (na != nb) = true := by simpa using hn
    have HF := Lib.hid hn
    clear hn
    go_enter Tryd.func14, Tryd.ntmps14
    go_wp2
    go_ret
    exact ⟨ret_bool (by simp [HF.out]), HB.out⟩
end
end Go.Proofs.YtkjginibdablnaaDoor
