/- The law of drawn indexes: a name is found, if it is there. -/
import Derived.Test.YtfoocgfedcfkhaaLidxD
namespace Go.Proofs.Ytfoocgfedcfkhaa
open Go.RowKit
section
set_option maxHeartbeats 1600000
theorem lawFnIndexFind (a : Option Addr) (len cap : Nat) (zs : List Int) (w : World) (h : Code w a len cap zs) :
    Calls Try.prog 8 #[.slice a len cap] w fun e w' => e = .returned (.bool true) ∧ Below w.heap.size w w' := by
  by_cases hlen : len ≤ 1048576
  · go_enter Try.func8, Try.ntmps8
    go_wp2_with fail
    refine (drawIndexFind_any a len cap zs w h).mono ?_
    rintro e w1 ⟨v, l, p, rfl, hl, hn, ht, hp0, hp1, hb⟩
    have HL := Lib.hid hl
    have HT := Lib.hid ht
    have HB := Lib.hid hb
    obtain ⟨A, c, rfl⟩ := lsp_form hl
    clear hl ht hb h
    go_wp2_with fail
    refine (indexFind_any w1 _ l p HL.out (by omega)).mono ?_
    rintro e w2 ⟨rfl, hb⟩
    have HB2 := Lib.hid (bel2 HB.out hb)
    have HL2 := Lib.hid (lsp_next HL.out hb)
    clear hb
    obtain ⟨o, ho⟩ : ∃ o, findZ l p = o := ⟨_, rfl⟩
    have HO := Lib.hid ho
    rw [ho]
    clear ho
    go_wp2_with fail
    refine (indexFindS_any w2 _ l p HL2.out (by omega)).mono ?_
    rintro e w3 ⟨rfl, hb⟩
    have HB3 := Lib.hid (bel2 HB2.out hb)
    have HL3 := Lib.hid (lsp_next HL2.out hb)
    clear hb
    rw [HO.out]
    go_wp2_with fail
    refine (indexOkS_any w3 _ l HL3.out (by omega)).mono ?_
    rintro e w4 ⟨rfl, hb⟩
    have HB4 := Lib.hid (bel2 HB3.out hb)
    have HL4 := Lib.hid (lsp_next HL3.out hb)
    clear hb
    cases hi : idxB l with
    | false =>
      have HI := Lib.hid hi
      clear hi
      go_wp2_with fail
      refine (indexFindS_any w4 _ l p HL4.out (by omega)).mono ?_
      rintro e w5 ⟨rfl, hb⟩
      have HB5 := Lib.hid (bel2 HB4.out hb)
      rw [HO.out]
      clear hb
      go_wp2
      go_ret
      exact ⟨rfl, HB5.out⟩
    | true =>
      have HI := Lib.hid hi
      have HF := Lib.hid (show findL l p = o by rw [← HO.out]; simp [findZ, hi])
      clear hi
      obtain ⟨n, hnn⟩ : ∃ n, l.length = n := ⟨_, rfl⟩
      have HN := Lib.hid hnn
      rw [hnn] at hn HL4 ⊢
      go_wp2_with fail
      go_loopw [6] (fun i wr => ∃ k : Nat, k ≤ n ∧ i = .int .i64 (k : Int) ∧ findL (l.drop k) p = o ∧ wr = w4) (fun i _ => n - (intOf i).toNat)
      case atStart => exact ⟨0, Nat.zero_le _, rfl, by simpa using HF.out, rfl⟩
      case round =>
        obtain ⟨k, hk, rfl, hf, rfl⟩ := hrel
        have HFk := Lib.hid hf
        clear hf
        by_cases hlt : k < n
        · obtain ⟨⟨s, q⟩, hs⟩ : ∃ s, l[k]? = some s := ⟨_, List.getElem?_eq_getElem (by omega)⟩
          obtain ⟨g, off, rfl, hg, h1, h2⟩ := lsp_at HL4.out hs
          have HS := Lib.hid hs
          clear hs
          have hi1 : (k : Int) < (n : Int) := by omega
          by_cases e : s = p
          · subst e
            obtain rfl : o = q := by rw [← HFk.out, findL_drop HS.out, if_pos rfl]
            go_wp2
            go_ret
            exact ⟨ret_bool (by simp), HB4.out⟩
          · have hne : (s == p) = false := beq_eq_false_iff_ne.2 e
            have HFn := Lib.hid (show findL (l.drop (k + 1)) p = o by have h := HFk.out; rwa [findL_drop HS.out, if_neg e] at h)
            clear e
            go_wp2
            go_roundw
            case rel => exact ⟨k + 1, by omega, by go_num, HFn.out, trivial⟩
            case measure => simp [intOf]; omega
        · obtain rfl : o = 0 := by rw [← HFk.out, List.drop_eq_nil_of_le (by omega)]; rfl
          go_wp2
          go_ret
          exact ⟨rfl, HB4.out⟩
  · go_enter Try.func8, Try.ntmps8
    go_wp2
    go_ret
    exact ⟨rfl, Below.refl _ _⟩
end
end Go.Proofs.Ytfoocgfedcfkhaa
