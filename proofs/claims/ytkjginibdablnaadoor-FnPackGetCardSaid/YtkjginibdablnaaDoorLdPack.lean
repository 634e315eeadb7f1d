/- Packs compared by the laws; whether a number is among others. -/
import Derived.Test.YtkjginibdablnaaDoorPackS
import Derived.Laws.StructEq
namespace Go.Proofs.YtkjginibdablnaaDoor
open Go.RowKit
theorem tk_snocI {l m : List Itm} {k : Nat} {s : Itm} (h : l.take k = m.take k) (h1 : l[k]? = some s) (h2 : m[k]? = some s) : l.take (k + 1) = m.take (k + 1) := by
  rw [List.take_add_one, List.take_add_one, h, h1, h2]
theorem neqItem (a c : Int) (b d : ByteArray) (w : World) : (binOp .neq 40 (.agg #[.int .i64 a, .string b]) (.agg #[.int .i64 c, .string d])).run Tryd.prog w = .ok (.bool (!((a == c) && (b.toList == d.toList)))) w := by
  have u3 := Tryd.underlying3
  have u9 := Tryd.underlying9
  have a3 := Tryd.isAgg3
  have z3 := Tryd.sizeOf3
  have a9 := Tryd.isAgg9
  have z9 := Tryd.sizeOf9
  have s1 : Tryd.prog.underlying 40 = some (.struct (Tryd.prog.fieldsOf 40)) := by kernel_rfl
  have s2 : Tryd.prog.stoodInHeld 40 = false := by kernel_rfl
  rw [run_neq_struct, show (10000 : Nat) = 9999 + 1 from rfl, run_equalIn_agg w 9999 40 _ _ s1 s2]
  simp only [Program.fieldsOf, Tryd.underlying40]
  go_simp
  by_cases h1 : a = c <;> by_cases h2 : b.toList = d.toList <;> simp [h1, h2]
section
set_option maxHeartbeats 1600000
set_option maxRecDepth 100000
theorem ldIn_any (w : World) (B : Nat) (v : Value) (z : List Int) (x : Int) (h : Lst w B v (intVals z)) (hz : z.length ≤ 1000000000) :
    Calls Tryd.prog 24 #[v, .int .i64 x] w fun e w' => e = .returned (.bool (z.contains x)) ∧ w' = w := by
  obtain ⟨A, c, hv, hc, hx⟩ := h
  rw [intVals_length] at *
  subst hv
  have HX := Lib.hid hx
  clear hx
  obtain ⟨n, hn⟩ : ∃ n, z.length = n := ⟨_, rfl⟩
  have HN := Lib.hid hn
  obtain ⟨r, hr⟩ : ∃ r, z.contains x = r := ⟨_, rfl⟩
  have HR := Lib.hid hr
  rw [hn] at hz hc ⊢
  rw [hr]
  clear hn hr
  go_enter Tryd.func24, Tryd.ntmps24
  go_wp2_with fail
  go_loopw [5] (fun i wr => ∃ k : Nat, k ≤ n ∧ i = .int .i64 (k : Int) ∧ (∀ y ∈ z.take k, y ≠ x) ∧ wr = w) (fun i _ => n - (intOf i).toNat)
  case atStart => exact ⟨0, Nat.zero_le _, rfl, by simp, rfl⟩
  case round =>
    obtain ⟨k, hk, rfl, ha, rfl⟩ := hrel
    have HA := Lib.hid ha
    clear ha
    by_cases hlt : k < n
    · obtain ⟨y, hy⟩ : ∃ y, z[k]? = some y := ⟨_, List.getElem?_eq_getElem (by have := HN.out; omega)⟩
      obtain ⟨g, off, rfl, _, hcg⟩ := HX.out (by have := HN.out; omega)
      have hc1 := hcg k _ (intVals_get _ _ _ hy)
      have HY := Lib.hid hy
      clear hy hcg
      have hi1 : (k : Int) < (n : Int) := by omega
      have hi0 : (0 : Int) ≤ (k : Int) := by omega
      by_cases e : y = x
      · obtain rfl : r = true := by
          rw [← HR.out, List.contains_iff_mem, ← e]
          exact List.mem_of_getElem? HY.out
        subst e
        have h2 : (y == y) = true := by simp
        go_wp2
        go_ret
        exact ⟨rfl, rfl⟩
      · have h2 : (y == x) = false := by simpa using e
        have HA2 := Lib.hid (show ∀ y ∈ z.take (k + 1), y ≠ x by
          rw [List.take_add_one, HY.out]
          intro u hu
          rcases List.mem_append.1 hu with hu | hu
          · exact HA.out u hu
          · simp at hu; rw [hu]; exact e)
        clear e
        go_wp2
        go_roundw
        case rel => exact ⟨k + 1, by omega, by go_num, HA2.out, trivial⟩
        case measure => simp [intOf]; omega
    · obtain rfl : r = false := by
        rw [← HR.out]
        cases hcc : z.contains x with
        | false => rfl
        | true =>
          have hm : x ∈ z := List.contains_iff_mem.1 hcc
          exact absurd rfl (HA.out x (by rw [List.take_of_length_le (by have := HN.out; omega)]; exact hm))
      go_wp2
      go_ret
      exact ⟨rfl, rfl⟩
theorem ldPack_any (w : World) (na nb : Int) (va vb : Value) (la lb : List Itm) (ha : Lp w w.heap.size va (ivals la)) (hb : Lp w w.heap.size vb (ivals lb)) (hm : la.length ≤ 1000000000) :
    Calls Tryd.prog 28 #[packV na va, packV nb vb] w fun e w' => e = .returned (.bool (decide (na = nb ∧ la = lb))) ∧ Below w.heap.size w w' := by
  obtain ⟨A, c, hva⟩ := lp_form ha
  obtain ⟨A', c', hvb⟩ := lp_form hb
  subst hva
  subst hvb
  rw [ivals_length, ivals_length] at *
  obtain ⟨W1, hW1⟩ : ∃ X, X = w.alloc (.cells #[.int .i64 na, .slice A la.length c] 29) := ⟨_, rfl⟩
  obtain ⟨W, hW⟩ : ∃ X, X = W1.alloc (.cells #[.int .i64 nb, .slice A' lb.length c'] 29) := ⟨_, rfl⟩
  have hs1 : W1.heap.size = w.heap.size + 1 := by rw [hW1]; simp
  have hb1 : Below w.heap.size w W1 := by rw [hW1]; exact (Below.refl _ _).alloc (Nat.le_refl _) _
  have hb2 : Below W1.heap.size W1 W := by rw [hW]; exact (Below.refl _ _).alloc (Nat.le_refl _) _
  have t1 : Two W w.heap.size 29 (.int .i64 na) (.slice A la.length c) := (hb2.block _ (by omega)).trans (by rw [hW1]; exact two_new _ _ _ _)
  have t2 : Two W (w.heap.size + 1) 29 (.int .i64 nb) (.slice A' lb.length c') := by rw [hW, ← hs1]; exact two_new _ _ _ _
  have HB := Lib.hid (bel2 hb1 hb2)
  have HA := Lib.hid (lp_next ha HB.out)
  have HBb := Lib.hid (lp_next hb HB.out)
  have HT1 := Lib.hid t1
  have HT2 := Lib.hid t2
  have a0 := t1.c0
  have a1 := t1.c1
  have b0 := t2.c0
  have b1 := t2.c1
  have HW := Lib.hid (show W = (w.alloc (.cells #[.int .i64 na, .slice A la.length c] 29)).alloc (.cells #[.int .i64 nb, .slice A' lb.length c'] 29) by rw [hW, hW1])
  clear ha hb t1 t2 hb1 hb2 hW hW1 hs1
  by_cases hn : na = nb
  · subst hn
    have hnn : (na != na) = false := by simp
    by_cases hl : la.length = lb.length
    · obtain ⟨n, hn⟩ : ∃ n, la.length = n := ⟨_, rfl⟩
      have hn2 : lb.length = n := by omega
      have HN := Lib.hid hn
      have HN2 := Lib.hid hn2
      have hll : ((n : Int) != (n : Int)) = false := by simp
      rw [hn] at hm HA a1 HW ⊢
      rw [hn2] at HBb b1 HW ⊢
      clear hl hn hn2 HT1 HT2
      go_enter Tryd.func28, Tryd.ntmps28
      go_wp2_with fail
      go_loopw [5] (fun i wr => ∃ k m : Nat, k ≤ n ∧ i = .int .i64 (k : Int) ∧ la.take k = lb.take k ∧ wr = W.drewN m) (fun i _ => n - (intOf i).toNat)
      case atStart => exact ⟨0, 0, Nat.zero_le _, rfl, rfl, by rw [HW.out]; rfl⟩
      case round =>
        obtain ⟨k, m, hk, rfl, ht, rfl⟩ := hrel
        have HT := Lib.hid ht
        clear ht
        by_cases hlt : k < n
        · obtain ⟨⟨x, y⟩, hx⟩ : ∃ x, la[k]? = some x := ⟨_, List.getElem?_eq_getElem (by have := HN.out; omega)⟩
          obtain ⟨⟨z, t⟩, hy⟩ : ∃ y, lb[k]? = some y := ⟨_, List.getElem?_eq_getElem (by have := HN2.out; omega)⟩
          obtain ⟨g, off, hA, hg, h1, h2⟩ := lp_at HA.out (ivals_get hx)
          obtain ⟨g2, off2, hA2, hg2, h3, h4⟩ := lp_at HBb.out (ivals_get hy)
          subst hA
          subst hA2
          have HX := Lib.hid hx
          have HY := Lib.hid hy
          clear hx hy hg hg2
          have hi1 : (k : Int) < (n : Int) := by omega
          have hi0 : (0 : Int) ≤ (k : Int) := by omega
          have s3 : Tryd.prog.eqGuardType Tryd.prog.depth 40 = false := by kernel_rfl
          by_cases hxy : x = z ∧ y = t
          · obtain ⟨rfl, rfl⟩ := hxy
            have s4 := neqItem x x y y
            simp only [beq_self_eq_true, Bool.and_self, Bool.not_true] at s4
            go_wp2_with fail
            go_quiet (fail)
            go_wp2
            go_roundw
            case rel => exact ⟨k + 1, _, by omega, by go_num, tk_snocI HT.out HX.out HY.out, rfl⟩
            case measure => simp [intOf]; omega
          · have s4 : ∀ w, (binOp .neq 40 (.agg #[.int .i64 x, .string y]) (.agg #[.int .i64 z, .string t])).run Tryd.prog w = .ok (.bool true) w := fun w => by
              rw [neqItem]
              congr 2
              by_cases h1 : x = z
              · have h2 : (y.toList == t.toList) = false := by simpa using fun h => hxy ⟨h1, toList_injF h⟩
                rw [h2]; simp
              · have h2 : (x == z) = false := by simpa using h1
                rw [h2]; simp
            have HF := Lib.hid (show la ≠ lb by
              rintro rfl
              have h := HX.out
              rw [HY.out] at h
              injection h with h
              injection h with h1 h2
              exact hxy ⟨h1.symm, h2.symm⟩)
            clear hxy
            go_wp2_with fail
            go_quiet (fail)
            go_wp2
            go_ret
            exact ⟨ret_bool (by simp [HF.out]), below_drewN (below_drewN HB.out _) _⟩
        · have HE := Lib.hid (show la = lb by
            have h1 := HT.out
            rwa [List.take_of_length_le (by have := HN.out; omega), List.take_of_length_le (by have := HN2.out; omega)] at h1)
          go_wp2
          go_ret
          exact ⟨ret_bool (by simp [HE.out]), below_drewN HB.out _⟩
    · have HF := Lib.hid (show la ≠ lb from fun h => hl (by rw [h]))
      have hne : ((la.length : Int) != (lb.length : Int)) = true := by simp; omega
      generalize la.length = n at *
      generalize lb.length = m at *
      go_enter Tryd.func28, Tryd.ntmps28
      go_wp2_with fail
      go_ret
      exact ⟨ret_bool (by simp [HF.out]), by rw [← HW.out]; exact HB.out⟩
  · have e2 : (na != nb) = true := by simpa using hn
    have HF := Lib.hid hn
    clear hn
    go_enter Tryd.func28, Tryd.ntmps28
    go_wp2_with fail
    go_ret
    exact ⟨ret_bool (by simp [HF.out]), by rw [← HW.out]; exact HB.out⟩
end
end Go.Proofs.YtkjginibdablnaaDoor
