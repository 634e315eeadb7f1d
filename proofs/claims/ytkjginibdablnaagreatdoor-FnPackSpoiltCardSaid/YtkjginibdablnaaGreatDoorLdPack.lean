/- Packs compared by the laws; whether a number is among others. -/
import Derived.Test.YtkjginibdablnaaGreatDoorPackS
import Derived.Laws.StructEq
namespace Go.Proofs.YtkjginibdablnaaGreatDoor
open Go.RowKit
theorem tk_snocI {l m : List Itm} {k : Nat} {s : Itm} (h : l.take k = m.take k) (h1 : l[k]? = some s) (h2 : m[k]? = some s) : l.take (k + 1) = m.take (k + 1) := by
  rw [List.take_add_one, List.take_add_one, h, h1, h2]
theorem neqItem (a c : Int) (b d : ByteArray) (w : World) : (binOp .neq 39 (.agg #[.int .i64 a, .string b]) (.agg #[.int .i64 c, .string d])).run Tryz.prog w = .ok (.bool (!((a == c) && (b.toList == d.toList)))) w := by
  have u3 := Tryz.underlying3
  have u9 := Tryz.underlying9
  have a3 := Tryz.isAgg3
  have z3 := Tryz.sizeOf3
  have a9 := Tryz.isAgg9
  have z9 := Tryz.sizeOf9
  have s1 : Tryz.prog.underlying 39 = some (.struct (Tryz.prog.fieldsOf 39)) := by kernel_rfl
  have s2 : Tryz.prog.stoodInHeld 39 = false := by kernel_rfl
  rw [run_neq_struct, show (10000 : Nat) = 9999 + 1 from rfl, run_equalIn_agg w 9999 39 _ _ s1 s2]
  simp only [Program.fieldsOf, Tryz.underlying39]
  go_simp
  by_cases h1 : a = c <;> by_cases h2 : b.toList = d.toList <;> simp [h1, h2]
section
set_option maxHeartbeats 1600000
set_option maxRecDepth 100000
theorem ldPack_any (w : World) (na nb : Int) (va vb : Value) (la lb : List Itm) (ha : Lp w w.heap.size va (ivals la)) (hb : Lp w w.heap.size vb (ivals lb)) (hm : la.length ≤ 1000000000) :
    Calls Tryz.prog 10 #[packV na va, packV nb vb] w fun e w' => e = .returned (.bool (decide (na = nb ∧ la = lb))) ∧ Below w.heap.size w w' := by
  obtain ⟨A, c, hva⟩ := lp_form ha
  obtain ⟨A', c', hvb⟩ := lp_form hb
  subst hva
  subst hvb
  rw [ivals_length, ivals_length] at *
  obtain ⟨W1, hW1⟩ : ∃ X, X = w.alloc (.cells #[.int .i64 na, .slice A la.length c] 28) := ⟨_, rfl⟩
  obtain ⟨W, hW⟩ : ∃ X, X = W1.alloc (.cells #[.int .i64 nb, .slice A' lb.length c'] 28) := ⟨_, rfl⟩
  have hs1 : W1.heap.size = w.heap.size + 1 := by rw [hW1]; simp
  have hb1 : Below w.heap.size w W1 := by rw [hW1]; exact (Below.refl _ _).alloc (Nat.le_refl _) _
  have hb2 : Below W1.heap.size W1 W := by rw [hW]; exact (Below.refl _ _).alloc (Nat.le_refl _) _
  have t1 : Two W w.heap.size 28 (.int .i64 na) (.slice A la.length c) := (hb2.block _ (by omega)).trans (by rw [hW1]; exact two_new _ _ _ _)
  have t2 : Two W (w.heap.size + 1) 28 (.int .i64 nb) (.slice A' lb.length c') := by rw [hW, ← hs1]; exact two_new _ _ _ _
  have HB := Lib.hid (bel2 hb1 hb2)
  have HA := Lib.hid (lp_next ha HB.out)
  have HBb := Lib.hid (lp_next hb HB.out)
  have HT1 := Lib.hid t1
  have HT2 := Lib.hid t2
  have a0 := t1.c0
  have a1 := t1.c1
  have b0 := t2.c0
  have b1 := t2.c1
  have HW := Lib.hid (show W = (w.alloc (.cells #[.int .i64 na, .slice A la.length c] 28)).alloc (.cells #[.int .i64 nb, .slice A' lb.length c'] 28) by rw [hW, hW1])
  clear ha hb t1 t2 hb1 hb2 hW hW1 hs1
  by_cases hn : na = nb
  · subst hn
    have hnn : (na != na) = false := by simp
    by_cases hl : la.length = lb.length
    · obtain ⟨n, hn⟩ : ∃ n, la.length = n := ⟨_, rfl⟩
      have hn2 : lb.length = n := by omega
      have HN := Lib.hid hn
      have HN2 := Lib.hid hn2
      have hll : ((n : Int) != (n : Int)) = false := by simp
      rw [hn] at hm HA a1 HW ⊢
      rw [hn2] at HBb b1 HW ⊢
      clear hl hn hn2 HT1 HT2
      go_enter Tryz.func10, Tryz.ntmps10
      go_wp2_with fail
      go_loopw [5] (fun i wr => ∃ k m : Nat, k ≤ n ∧ i = .int .i64 (k : Int) ∧ la.take k = lb.take k ∧ wr = W.drewN m) (fun i _ => n - (intOf i).toNat)
      case atStart => exact ⟨0, 0, Nat.zero_le _, rfl, rfl, by rw [HW.out]; rfl⟩
      case round =>
        obtain ⟨k, m, hk, rfl, ht, rfl⟩ := hrel
        have HT := Lib.hid ht
        clear ht
        by_cases hlt : k < n
        · obtain ⟨⟨x, y⟩, hx⟩ : ∃ x, la[k]? = some x := ⟨_, List.getElem?_eq_getElem (by have := HN.out; omega)⟩
          obtain ⟨⟨z, t⟩, hy⟩ : ∃ y, lb[k]? = some y := ⟨_, List.getElem?_eq_getElem (by have := HN2.out; omega)⟩
          obtain ⟨g, off, hA, hg, h1, h2⟩ := lp_at HA.out (ivals_get hx)
          obtain ⟨g2, off2, hA2, hg2, h3, h4⟩ := lp_at HBb.out (ivals_get hy)
          subst hA
          subst hA2
          have HX := Lib.hid hx
          have HY := Lib.hid hy
          clear hx hy hg hg2
          have hi1 : (k : Int) < (n : Int) := by omega
          have hi0 : (0 : Int) ≤ (k : Int) := by omega
          have s3 : Tryz.prog.eqGuardType Tryz.prog.depth 39 = false := by kernel_rfl
          by_cases hxy : x = z ∧ y = t
          · obtain ⟨rfl, rfl⟩ := hxy
            have s4 := neqItem x x y y
            simp only [beq_self_eq_true, Bool.and_self, Bool.not_true] at s4
            go_wp2_with fail
            go_quiet (fail)
            go_wp2
            go_roundw
            case rel => exact ⟨k + 1, _, by omega, by go_num, tk_snocI HT.out HX.out HY.out, rfl⟩
            case measure => simp [intOf]; omega
          · have s4 : ∀ w, (binOp .neq 39 (.agg #[.int .i64 x, .string y]) (.agg #[.int .i64 z, .string t])).run Tryz.prog w = .ok (.bool true) w := fun w => by
              rw [neqItem]
              congr 2
              by_cases h1 : x = z
              · have h2 : (y.toList == t.toList) = false := by simpa using fun h => hxy ⟨h1, toList_injF h⟩
                rw [h2]; simp
              · have h2 : (x == z) = false := by simpa using h1
                rw [h2]; simp
            have HF := Lib.hid (show la ≠ lb by
              rintro rfl
              have h := HX.out
              rw [HY.out] at h
              injection h with h
              injection h with h1 h2
              exact hxy ⟨h1.symm, h2.symm⟩)
            clear hxy
            go_wp2_with fail
            go_quiet (fail)
            go_wp2
            go_ret
            exact ⟨ret_bool (by simp [HF.out]), below_drewN (below_drewN HB.out _) _⟩
        · have HE := Lib.hid (show la = lb by
            have h1 := HT.out
            rwa [List.take_of_length_le (by have := HN.out; omega), List.take_of_length_le (by have := HN2.out; omega)] at h1)
          go_wp2
          go_ret
          exact ⟨ret_bool (by simp [HE.out]), below_drewN HB.out _⟩
    · have HF := Lib.hid (show la ≠ lb from fun h => hl (by rw [h]))
      have hne : ((la.length : Int) != (lb.length : Int)) = true := by simp; omega
      generalize la.length = n at *
      generalize lb.length = m at *
      go_enter Tryz.func10, Tryz.ntmps10
      go_wp2_with fail
      go_ret
      exact ⟨ret_bool (by simp [HF.out]), by rw [← HW.out]; exact HB.out⟩
  · have e2 : (na != nb) = true := by simpa using hn
    have HF := Lib.hid hn
    clear hn
    go_enter Tryz.func10, Tryz.ntmps10
    go_wp2_with fail
    go_ret
    exact ⟨ret_bool (by simp [HF.out]), by rw [← HW.out]; exact HB.out⟩
end
end Go.Proofs.YtkjginibdablnaaGreatDoor
