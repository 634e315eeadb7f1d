/- The law of drawn indexes: names stand in order, each once. -/
import Derived.Test.YtfoocgfedcfkhaaGrew
namespace Go.Proofs.Ytfoocgfedcfkhaa
open Go.RowKit
section
set_option maxHeartbeats 1600000
theorem lawFnIndexForm (a : Option Addr) (len cap : Nat) (zs : List Int) (a1 : Option Addr) (len1 cap1 : Nat) (zs1 : List Int) (w : World) (h : Code w a len cap zs) (_ : Code w a1 len1 cap1 zs1) :
    Calls Try.prog 4 #[.slice a len cap, .slice a1 len1 cap1] w fun e w' => e = .returned (.bool true) ∧ Below w.heap.size w w' := by
  by_cases hlen : len ≤ 1048576
  · by_cases hlen1 : len1 ≤ 1048576
    · go_enter Try.func4, Try.ntmps4
      go_wp2_with fail
      refine (drawIndexOk_any a len cap zs w h).mono ?_
      rintro e w1 ⟨v, l, rfl, hl, hn, ht, hb⟩
      have HL := Lib.hid hl
      have HT := Lib.hid ht
      have HB := Lib.hid hb
      obtain ⟨A, c, rfl⟩ := lsp_form hl
      clear hl ht hb h
      go_wp2_with fail
      refine (indexOk_any w1 _ l HL.out (by omega)).mono ?_
      rintro e w2 ⟨rfl, hb⟩
      have HB2 := Lib.hid (bel2 HB.out hb)
      have HL2 := Lib.hid (lsp_next HL.out hb)
      clear hb
      go_wp2_with fail
      refine (indexOkS_any w2 _ l HL2.out (by omega)).mono ?_
      rintro e w3 ⟨rfl, hb⟩
      have HB3 := Lib.hid (bel2 HB2.out hb)
      have HL3 := Lib.hid (lsp_next HL2.out hb)
      clear hb
      cases hi : idxB l with
      | false =>
        have HI := Lib.hid hi
        clear hi
        go_wp2_with fail
        refine (indexOkS_any w3 _ l HL3.out (by omega)).mono ?_
        rintro e w4 ⟨rfl, hb⟩
        have HB4 := Lib.hid (bel2 HB3.out hb)
        rw [HI.out]
        clear hb
        go_wp2
        go_ret
        exact ⟨rfl, HB4.out⟩
      | true =>
        have HI := Lib.hid hi
        clear hi
        by_cases h0 : l.length = 0
        · have hl0 : ((l.length : Int) == 0) = true := by simp [h0]
          clear h0
          go_wp2_with fail
          refine (indexOkS_any w3 _ l HL3.out (by omega)).mono ?_
          rintro e w4 ⟨rfl, hb⟩
          have HB4 := Lib.hid (bel2 HB3.out hb)
          rw [HI.out]
          clear hb
          go_wp2
          go_ret
          exact ⟨rfl, HB4.out⟩
        · have hl0 : ((l.length : Int) == 0) = false := beq_eq_false_iff_ne.2 (by omega)
          obtain ⟨k, hk⟩ : ∃ k, len1 % l.length = k := ⟨_, rfl⟩
          have hkl : k < l.length := by rw [← hk]; exact Nat.mod_lt _ (by omega)
          have hki : (len1 : Int) % (l.length : Int) = (k : Int) := by rw [← hk]; exact (Int.natCast_emod ..).symm
          clear hk
          obtain ⟨hc, hcell⟩ : l.length ≤ c ∧ True := by
            obtain ⟨A', c', h1, h2, _⟩ := HL3.out
            cases h1
            exact ⟨h2, trivial⟩
          obtain ⟨n, hnn⟩ : ∃ n, l.length = n := ⟨_, rfl⟩
          have HN := Lib.hid hnn
          have HL3' := HL3.out
          rw [hnn] at hc hkl hl0 hki HL3' hn ⊢
          clear HL3 hnn h0
          have HL3 := Lib.hid HL3'
          clear HL3'
          have q0 : (0 : Int) ≤ (k : Int) := by omega
          have q1 : (k : Int) ≤ (c : Int) := by omega
          have q2 : IntKind.i64.wrap ((k : Int) + 1) = (k : Int) + 1 := IntWalk.i64_in _ (by omega)
          have q3 : (0 : Int) ≤ (k : Int) + 1 := by omega
          have q4 : (k : Int) + 1 ≤ (n : Int) := by omega
          have q5 : (n : Int) ≤ (c : Int) := by omega
          have q6 : (k : Int) ≤ (n : Int) := by omega
          have q7 : (k : Int) + 1 ≤ (c : Int) := by omega
          obtain ⟨ad, rfl⟩ : ∃ ad, A = some ad := by
            obtain ⟨A', c', hv, _, hx⟩ := HL3.out
            obtain ⟨g, off, hA, _⟩ := hx (by have := HN.out; omega)
            cases hv
            exact ⟨_, hA⟩
          obtain ⟨AD, hAD⟩ : ∃ AD, (if c = k + 1 then some ad else some (ad.add ((k + 1) * 2))) = some AD := by
            by_cases e : c = k + 1
            · exact ⟨_, if_pos e⟩
            · exact ⟨_, if_neg e⟩
          obtain ⟨AE, hAE⟩ : ∃ AE, (if c = k then some ad else some (ad.add (k * 2))) = some AE := ⟨_, if_neg (by omega)⟩
          have HG0 := Lib.hid (grew_start w3)
          have HN1 := Lib.hid (news_take HL3.out k)
          have HN2 := Lib.hid (news_drop HL3.out hAD)
          go_wp2_with fail
          go_region_held3 (fun _ => True) (trivial) (first | (refine step_append_sp w3 _ (by rfl) (.tmp 44) (.tmp 47) (by rfl) _ [] (by rfl) HG0.out _ _ _ (l.take k) (by rfl) (by rw [List.length_take, HN.out]; omega) HN1.out (by simp; omega) ?_; intro v5 w5 hg5; have HG5 := Lib.hid hg5; clear hg5) | (refine step_append_sp w3 _ (by rfl) (.tmp 48) (.tmp 52) (by rfl) _ _ (by rfl) HG5.out _ _ _ (l.drop (k + 1)) (by rfl) (by rw [List.length_drop, HN.out]) HN2.out (by simp; omega) ?_; intro v6 w6 hg6; have HG6 := Lib.hid hg6; clear hg6))
          have HB6 := Lib.hid (bel2 HB3.out HG6.out.2)
          have HV6 := Lib.hid (lsp_of_own HG6.out.1)
          have HL6 := Lib.hid (lsp_next HL3.out HG6.out.2)
          have HI6 := Lib.hid (idx_out HI.out k)
          have HI7 := Lib.hid (idx_two (l := l) (k := k) (by rw [HN.out]; exact hkl))
          have hm6 : (l.take k ++ l.drop (k + 1)).length ≤ 100 := by rw [List.length_append, List.length_take, List.length_drop, HN.out]; omega
          have hm7 : (l.take (k + 1) ++ l.drop k).length ≤ 100 := by rw [List.length_append, List.length_take, List.length_drop, HN.out]; omega
          obtain ⟨less, hless⟩ : ∃ L, l.take k ++ l.drop (k + 1) = L := ⟨_, rfl⟩
          have HLE := Lib.hid hless
          rw [List.nil_append] at HV6
          rw [hless] at HV6 HI6 hm6
          clear hless HG0 HN1 HN2 HG5 HG6 HL HL2 HL3
          have HG0 := Lib.hid (grew_start w6)
          have HN1 := Lib.hid (news_take HL6.out (k + 1))
          have HN2 := Lib.hid (news_drop HL6.out hAE)
          go_wp2_with fail
          go_region_held3 (fun _ => True) (trivial) (first | (refine step_append_sp w6 _ (by rfl) (.tmp 54) (.tmp 58) (by rfl) _ [] (by rfl) HG0.out _ _ _ (l.take (k + 1)) (by rfl) (by rw [List.length_take, HN.out]; omega) HN1.out (by simp; omega) ?_; intro v7 w7 hg7; have HG7 := Lib.hid hg7; clear hg7) | (refine step_append_sp w6 _ (by rfl) (.tmp 59) (.tmp 62) (by rfl) _ _ (by rfl) HG7.out _ _ _ (l.drop k) (by rfl) (by rw [List.length_drop, HN.out]) HN2.out (by simp; omega) ?_; intro v8 w8 hg8; have HG8 := Lib.hid hg8; clear hg8))
          have HB8 := Lib.hid (bel2 HB6.out HG8.out.2)
          have HV8 := Lib.hid (lsp_of_own HG8.out.1)
          have HU8 := Lib.hid (lsp_next HV6.out HG8.out.2)
          obtain ⟨twice, htwice⟩ : ∃ L, l.take (k + 1) ++ l.drop k = L := ⟨_, rfl⟩
          have HTW := Lib.hid htwice
          rw [List.nil_append] at HV8
          rw [htwice] at HV8 HI7 hm7
          clear htwice HG0 HN1 HN2 HG7 HG8
          go_wp2_with fail
          refine (indexOk_any w8 _ less HU8.out (by omega)).mono ?_
          rw [HI6.out]
          rintro e w9 ⟨rfl, hb⟩
          have HB9 := Lib.hid (bel2 HB8.out hb)
          have HV9 := Lib.hid (lsp_next HV8.out hb)
          clear hb
          go_wp2_with fail
          refine (indexOk_any w9 _ twice HV9.out (by omega)).mono ?_
          rw [HI7.out]
          rintro e w10 ⟨rfl, hb⟩
          have HB10 := Lib.hid (bel2 HB9.out hb)
          clear hb
          go_wp2_with fail
          refine (indexOk_any _ _ [(1, 0)] (lsp_lit w10) (by simp)).mono ?_
          rw [show idxB [(1, 0)] = false by decide]
          rintro e w11 ⟨rfl, hb⟩
          have HB11 := Lib.hid (bel2 (HB10.out.alloc HB10.out.size _) hb)
          clear hb
          go_wp2
          go_ret
          exact ⟨rfl, HB11.out⟩
    · go_enter Try.func4, Try.ntmps4
      go_wp2
      go_ret
      exact ⟨rfl, Below.refl _ _⟩
  · go_enter Try.func4, Try.ntmps4
    go_wp2
    go_ret
    exact ⟨rfl, Below.refl _ _⟩
end
end Go.Proofs.Ytfoocgfedcfkhaa
