/- The law of drawn trees: a file is there, or not. -/
import Derived.Test.YtndiofhinlogmaaDrawTree4
import Derived.Test.YtndiofhinlogmaaLtreeB
namespace Go.Proofs.Ytndiofhinlogmaa
open Go.RowKit
section
set_option maxHeartbeats 1600000
theorem lawFnTreeGet (a : Option Addr) (len cap : Nat) (zs : List Int) (w : World) (h : Code w a len cap zs) (mx : Mx w) :
    Calls Try.prog 8 #[.slice a len cap] w fun e w' => e = .returned (.bool true) ∧ Below w.heap.size w w' := by
  by_cases hlen : len ≤ 1048576
  · have MX := Lib.hid mx
    clear mx
    go_enter Try.func8, Try.ntmps8
    go_wp2_with fail
    refine (drawTreeGet_any a len cap zs w h).mono ?_
    rintro e w1 ⟨l, g0, c, p, rfl, hl, hn, ht, hp, hb⟩
    have HL := Lib.hid hl
    have HT := Lib.hid (tameF_big ht)
    have HB := Lib.hid hb
    have HP := Lib.hid hp
    clear hl ht hb h hp
    obtain ⟨n, hnn⟩ : ∃ n, l.length = n := ⟨_, rfl⟩
    have HN := Lib.hid hnn
    have HL' : Hid (Lp w1 w1.heap.size (.slice (some ⟨g0, 0, none⟩) n c) (fvals l)) := Lib.hid (by rw [← hnn]; exact HL.out)
    rw [hnn] at hn ⊢
    clear HL hnn
    obtain ⟨s, hs⟩ : ∃ s, (treeGet l p).getD ByteArray.empty = s := ⟨_, rfl⟩
    obtain ⟨o, ho⟩ : ∃ o, (treeGet l p).isSome = o := ⟨_, rfl⟩
    have HG := Lib.hid (show got (treeGet l p) = .tuple #[.string s, .bool o] by unfold got; rw [hs, ho])
    have HS := Lib.hid hs
    have HO := Lib.hid ho
    clear hs ho
    go_wp2_with fail
    refine (treeGetS_any w1 _ l p HL'.out (by rw [HN.out]; omega) HT.out).mono ?_
    rw [HG.out]
    rintro e w2 ⟨rfl, m2, hW2⟩
    have HB2 := Lib.hid (show Below w.heap.size w w2 by rw [hW2]; exact belN HB.out m2)
    have HL2 := Lib.hid (show Lp w2 w2.heap.size (.slice (some ⟨g0, 0, none⟩) n c) (fvals l) by rw [hW2]; exact lp_drewN HL'.out m2)
    clear hW2
    go_wp2_with fail
    refine (treeGet_any w2 _ l p HL2.out (by rw [HN.out]; omega) HT.out (by have := HP.out; omega) (MX.out.next HB2.out)).mono ?_
    rw [HG.out]
    rintro e w3 ⟨rfl, hb⟩
    have HB3 := Lib.hid (bel2 HB2.out hb)
    have HL3 := Lib.hid (lp_next HL2.out hb)
    clear hb
    have hoo : (o != o) = false := by simp
    have hoo2 : (o == o) = true := by simp
    have hss : (s.toList == s.toList) = true := by simp
    go_wp2_with fail
    refine (treeOkS_any w3 _ l HL3.out (by rw [HN.out]; omega) HT.out).mono ?_
    cases hto : treeB l with
    | false =>
      rintro e w4 ⟨rfl, m4, hW4⟩
      have HB4 := Lib.hid (show Below w.heap.size w w4 by rw [hW4]; exact belN HB3.out m4)
      clear hW4 hto
      go_wp2
      go_ret
      exact ⟨rfl, HB4.out⟩
    | true =>
      rintro e w4 ⟨rfl, m4, hW4⟩
      have HB4 := Lib.hid (show Below w.heap.size w w4 by rw [hW4]; exact belN HB3.out m4)
      have HL4 := Lib.hid (show Lp w4 w4.heap.size (.slice (some ⟨g0, 0, none⟩) n c) (fvals l) by rw [hW4]; exact lp_drewN HL3.out m4)
      have HE := Lib.hid (treeGet_yes hto p)
      clear hW4 hto
      go_wp2_with fail
      go_loopw [9] (fun i wr => ∃ k : Nat, k ≤ n ∧ i = .int .i64 (k : Int) ∧ (∀ x ∈ l.take k, x.1 ≠ p) ∧ wr = w4) (fun i _ => n - (intOf i).toNat)
      case atStart => exact ⟨0, Nat.zero_le _, rfl, by simp, rfl⟩
      case round =>
        obtain ⟨k, hk, rfl, ha, rfl⟩ := hrel
        have HA := Lib.hid ha
        clear ha
        by_cases hlt : k < n
        · obtain ⟨⟨a', b'⟩, hs'⟩ : ∃ s, l[k]? = some s := ⟨_, List.getElem?_eq_getElem (by have := HN.out; omega)⟩
          obtain ⟨g, off, hA, hg, hc1, hc2⟩ := lp_at HL4.out (fvals_get hs')
          cases hA
          rw [Nat.zero_add] at hc1 hc2
          have HS' := Lib.hid hs'
          clear hs'
          have hi1 : (k : Int) < (n : Int) := by omega
          have hi0 : (0 : Int) ≤ (k : Int) := by omega
          by_cases e : a' = p
          · have HF := Lib.hid (show treeGet l p = some b' by rw [HE.out]; exact getF_take HS'.out e HA.out)
            obtain rfl : o = true := by rw [← HO.out, HF.out]; rfl
            obtain rfl : s = b' := by rw [← HS.out, HF.out]; rfl
            subst e
            go_wp2
            go_ret
            exact ⟨rfl, HB4.out⟩
          · have e2 : (a'.toList == p.toList) = false := by simpa using fun h => e (toList_injF h)
            have HA2 := Lib.hid (show ∀ x ∈ l.take (k + 1), x.1 ≠ p by
              rw [List.take_add_one, HS'.out]
              intro x hx
              rcases List.mem_append.1 hx with hx | hx
              · exact HA.out x hx
              · simp at hx; rw [hx]; exact e)
            clear e
            go_wp2
            go_roundw
            case rel => exact ⟨k + 1, by omega, by go_num, HA2.out, trivial⟩
            case measure => simp [intOf]; omega
        · have HF := Lib.hid (show treeGet l p = none by
            rw [HE.out]
            refine getF_none fun x hx => HA.out x ?_
            rw [List.take_of_length_le (by have := HN.out; omega)]
            exact hx)
          obtain rfl : o = false := by rw [← HO.out, HF.out]; rfl
          go_wp2
          go_ret
          exact ⟨rfl, HB4.out⟩
  · go_enter Try.func8, Try.ntmps8
    go_wp2
    go_ret
    exact ⟨rfl, Below.refl _ _⟩
end
end Go.Proofs.Ytndiofhinlogmaa
