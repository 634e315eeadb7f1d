/- The walks of laws on ends told one behind the other, and on a text's rest: each returns true. -/
import Derived.Test.YtpfhpmeefeodcaaLcutB
import Derived.Deep.RegionWith
namespace Go.Proofs.Ytpfhpmeefeodcaa
open Go.RowKit
theorem quiet_add {P : Program} {f : FuncId} {args : Array Value} {w : World} {a n : Nat} {v : Value}
    (h : Calls P f args (w.drewN (a + n)) fun e w' => e = .returned v ∧ ∃ m, w' = (w.drewN (a + n)).drewN m) :
    Calls P f args (w.drewN (a + n)) fun e w'' => e = .returned v ∧ ∃ m, w'' = w.drewN (a + m) :=
  h.mono fun _ _ ⟨he, m, hm⟩ => ⟨he, n + m, by rw [hm, World.drewN_drewN, Nat.add_assoc]⟩
theorem CutAt_is (s : ByteArray) (fr : Nat) (E : Nat) (hs : s.size ≤ maxLen) (hz : cutZ s.data.toList (fr : Int) = (E : Int)) (w : World) :
    Calls Try.prog 32 #[.string s, .int .i64 (fr : Int)] w fun e w' => e = .returned (.int .i64 (E : Int)) ∧ ∃ n, w' = w.drewN n := by
  refine (CutAt_any s fr w hs).mono ?_
  rintro e w' ⟨rfl, n, rfl⟩
  exact ⟨by rw [hz], n, rfl⟩
section
set_option maxHeartbeats 1000000
theorem lawFnCutEnds (a : Option Addr) (len cap : Nat) (zs : List Int) (w : World) (h : Code w a len cap zs) : Calls Try.prog 12 #[.slice a len cap] w fun e w' => e = .returned (.bool true) ∧ Below w.heap.size w w' := by
  by_cases hl : len ≤ 1048576
  · go_enter Try.func12, Try.ntmps12
    go_wp2_with fail
    refine (drawCutEnds_any a len cap zs w h).mono ?_
    rintro e w1 ⟨s, rfl, hs, hb⟩
    have HB := Lib.hid hb
    have HM := Lib.hid (maxLen_of (show s.size ≤ 1000000000 by omega))
    clear hb h
    have hel := endsZ_len s.data.toList
    go_wp2_with fail
    refine (cutEnds_any s _ (HM.out)).mono ?_
    intro e w2 hg
    obtain ⟨v2, rfl, hlst, hb⟩ := gave_lst hg
    obtain ⟨A, c, rfl⟩ := lst_form hlst
    rw [natVals_length] at *
    rw [natVals_nats] at hlst
    have HL2 := Lib.hid hlst
    have HB2 := Lib.hid hb
    clear hg hlst hb
    go_wp2_with fail
    refine (cutEndsS_any s _ (HM.out)).mono ?_
    intro e w3 hg
    obtain ⟨v3, rfl, hlst, hb⟩ := gave_lst hg
    rw [natVals_nats] at hlst
    have HL3 := Lib.hid hlst
    have HB3 := Lib.hid hb
    clear hg hlst hb
    go_wp2_with fail
    refine (ldInts_any _ w3.heap.size _ _ _ _ (lst_next HL2.out HB3.out) HL3.out (by rw [nats_length]; omega) (by rw [nats_length]; omega)).mono ?_
    rintro e w' ⟨rfl, nd3, rfl⟩
    rw [dec_self]
    go_wp2_with fail
    refine (textOkS_any s _ HM.out).mono ?_
    rintro e w' ⟨rfl, rfl⟩
    cases ht : textB s.data.toList with
    | false =>
      go_wp2_with fail
      refine (cutEndsS_any s _ (HM.out)).mono ?_
      intro e w4 hg
      obtain ⟨v4, rfl, hlst, hb⟩ := gave_lst hg
      rw [natVals_nats] at hlst
      have HL4 := Lib.hid hlst
      have HB4 := Lib.hid (bel_drew hb)
      clear hg hlst hb
      go_wp2_with fail
      refine (ldInts_any _ w4.heap.size _ _ _ _ (lst_next (lst_next HL2.out HB3.out) HB4.out) HL4.out (by rw [nats_length]; omega) (by rw [nats_length]; omega)).mono ?_
      rintro e w' ⟨rfl, nd4, rfl⟩
      rw [dec_self]
      go_wp2
      go_ret
      exact ⟨rfl, below_drewN (bel_trans (bel_trans (bel_trans HB.out HB2.out) HB3.out) HB4.out) _⟩
    | true =>
      obtain ⟨h40, hlet⟩ := textB_parts ht
      have hpl : (piecesZ s.data.toList).length = (endsZ s.data.toList).length := piecesZ_len _
      go_wp2_with fail
      refine (cutAll_any s _ (HM.out)).mono ?_
      intro e w4 hg
      obtain ⟨v4, rfl, hlst, hb⟩ := gave_lst hg
      obtain ⟨A2, c2, rfl⟩ := lst_form hlst
      rw [strVals_length] at *
      rw [strVals_bars] at hlst
      have HL4 := Lib.hid hlst
      have HB4 := Lib.hid (bel_drew hb)
      clear hg hlst hb
      have HLe := Lib.hid (lst_next (lst_next HL2.out HB3.out) HB4.out)
      have HBw := Lib.hid (bel_trans (bel_trans (bel_trans HB.out HB2.out) HB3.out) HB4.out)
      rw [hpl] at *
      rw [endsZ_yes ht] at *
      rw [piecesZ_yes ht] at *
      have HG : Hid (∀ k, k < (ends s.data.toList).length → (ends s.data.toList)[k]? = some (atk s.data.toList 0 (k + 1)) ∧ (bars (pieces s.data.toList))[k]? = some (s.extract (atk s.data.toList 0 k) (atk s.data.toList 0 (k + 1))) ∧
          atk s.data.toList 0 k < atk s.data.toList 0 (k + 1) ∧ atk s.data.toList 0 (k + 1) ≤ s.size ∧ cutZ s.data.toList ((atk s.data.toList 0 k : Nat) : Int) = ((atk s.data.toList 0 (k + 1) : Nat) : Int)) := by
        intro k hk
        obtain ⟨p1, p2, p3⟩ := piecesAt_get s.data.toList k 0 hk
        refine ⟨endsAt_get _ k 0 hk, ?_, p2, by rw [size_int] at p3; exact p3, ?_⟩
        · rw [extract_str]; simp only [bars, List.getElem?_map, Option.map_eq_some_iff]; exact ⟨_, p1, rfl⟩
        · unfold cutZ; rw [if_pos ⟨ht, by omega, by omega⟩, Int.toNat_natCast, atk_succ]
      have HEnd := Lib.hid (atk_end s.data.toList)
      rw [size_int] at HEnd
      clear hlet ht hpl
      generalize (ends s.data.toList).length = n at *
      go_wp2_with fail
      go_loopw [5, 7] (fun t i wr => ∃ k m : Nat, k ≤ n ∧ i = .int .i64 (k : Int) ∧ t = .int .i64 ((atk s.data.toList 0 k : Nat) : Int) ∧ wr = w4.drewN m) (fun _ i _ => n - (intOf i).toNat)
      case atStart => exact ⟨0, 0, Nat.zero_le _, rfl, rfl, rfl⟩
      case round =>
        obtain ⟨k, m, hk, rfl, rfl, rfl⟩ := hrel
        by_cases hlt : k < n
        · obtain ⟨g1, g2, g3, g4, g5⟩ := HG.out k hlt
          obtain ⟨g, off, rfl, _, hc1⟩ := lst_at HLe.out (intVals_get _ _ _ (show (nats (ends s.data.toList))[k]? = some ((atk s.data.toList 0 (k + 1) : Nat) : Int) by simp [nats, g1]))
          obtain ⟨g', off', rfl, _, hc2⟩ := lst_at HL4.out (barVals_get _ _ _ g2)
          have H5 := Lib.hid g5
          clear g1 g2 g5
          have g6 : atk s.data.toList 0 k ≤ atk s.data.toList 0 (k + 1) := Nat.le_of_lt g3
          have HA := Lib.hid (show atk s.data.toList 0 (k + 1) = atk s.data.toList 0 (k + 1) from rfl)
          generalize atk s.data.toList 0 k = x at *
          generalize hy : atk s.data.toList 0 (k + 1) = y at *
          have HY := Lib.hid hy
          clear hy
          have hi1 : (k : Int) < (n : Int) := by omega
          go_wp2
          go_quiet ((go_at_call 32; exact quiet_add (CutAt_is s x y HM.out H5.out _)))
          go_wp2
          go_roundw
          case rel => exact ⟨k + 1, _, by omega, by go_num, by rw [HY.out], rfl⟩
          case measure => simp [intOf]; omega
        · have hkn : k = n := by omega
          subst hkn
          have HEnd2 := HEnd.out
          generalize atk s.data.toList 0 k = x at *
          subst HEnd2
          go_wp2
          go_ret
          exact ⟨by first | rfl | exact ret_bool (by simp), below_drewN HBw.out _⟩
  · go_enter Try.func12, Try.ntmps12
    go_wp2
    go_ret
    exact ⟨rfl, Below.refl _ _⟩
end
end Go.Proofs.Ytpfhpmeefeodcaa
