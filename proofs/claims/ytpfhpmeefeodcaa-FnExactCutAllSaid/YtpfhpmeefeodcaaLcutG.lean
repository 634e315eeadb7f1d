/- The walk of the law that behind where both end alike two texts with one rest are cut alike: it returns true. -/
import Derived.Test.YtpfhpmeefeodcaaLcutF
namespace Go.Proofs.Ytpfhpmeefeodcaa
open Go.RowKit
theorem extract_none (s : ByteArray) (a : Nat) : s.extract a a = ⟨#[]⟩ := by
  rw [extract_str, Nat.sub_self]; rfl
theorem extract_join (s : ByteArray) (a b c : Nat) (h1 : a ≤ b) (h2 : b ≤ c) : s.extract a b ++ s.extract b c = s.extract a c := by
  apply ByteArray.ext
  apply Array.toList_inj.1
  rw [extract_str, extract_str, extract_str]
  simp only [ByteArray.data_append, Array.toList_append]
  rw [show c - a = (b - a) + (c - b) by omega, List.take_add, List.drop_drop, show a + (b - a) = b by omega]
section
set_option maxHeartbeats 2000000
theorem lawFnCutMeet (a : Option Addr) (len cap : Nat) (zs : List Int) (a1 : Option Addr) (len1 cap1 : Nat) (zs1 : List Int) (w : World) (h : Code w a len cap zs) (_ : Code w a1 len1 cap1 zs1) :
    Calls Try.prog 15 #[.slice a len cap, .slice a1 len1 cap1] w fun e w' => e = .returned (.bool true) ∧ Below w.heap.size w w' := by
  by_cases hl : len ≤ 1048576
  · by_cases hl1 : len1 ≤ 1048576
    · go_enter Try.func15, Try.ntmps15
      go_wp2_with fail
      refine (drawCutAll_any a len cap zs w h).mono ?_
      rintro e w1 ⟨s, rfl, hs, hb⟩
      have HB := Lib.hid hb
      have HM := Lib.hid (maxLen_of (show s.size ≤ 1000000000 by omega))
      clear hb h
      have hel : (piecesZ s.data.toList).length ≤ 40 := by rw [piecesZ_len]; exact endsZ_len _
      go_wp2_with fail
      refine (cutAll_any s _ (HM.out)).mono ?_
      intro e w2 hg
      obtain ⟨v2, rfl, hlst, hb⟩ := gave_lst hg
      obtain ⟨A, c, rfl⟩ := lst_form hlst
      rw [strVals_length] at *
      rw [strVals_bars] at hlst
      have HL2 := Lib.hid hlst
      have HB2 := Lib.hid hb
      clear hg hlst hb
      go_wp2_with fail
      refine (cutAllS_any s _ (HM.out)).mono ?_
      intro e w3 hg
      obtain ⟨v3, rfl, hlst, hb⟩ := gave_lst hg
      rw [strVals_bars] at hlst
      have HL3 := Lib.hid hlst
      have HB3 := Lib.hid hb
      clear hg hlst hb
      have HLa := Lib.hid (lst_next HL2.out HB3.out)
      have HBa := Lib.hid (bel_trans (bel_trans HB.out HB2.out) HB3.out)
      go_wp2_with fail
      refine (ldTexts_is _ w3.heap.size _ _ _ _ HLa.out HL3.out (by rw [bars_length]; omega) rfl).mono ?_
      rintro e w' ⟨rfl, nd3, rfl⟩
      have HN := Lib.hid (bars_length (piecesZ s.data.toList))
      by_cases hn : 0 < (piecesZ s.data.toList).length
      · have ht : textB s.data.toList = true := by
          cases ht : textB s.data.toList with
          | true => rfl
          | false => rw [piecesZ_no ht] at hn; simp at hn
        have hpe : (piecesZ s.data.toList).length = (ends s.data.toList).length := by rw [piecesZ_yes ht, pieces_length]
        have HE0 := Lib.hid (endsZ_yes ht)
        have HR : Hid (∀ K, K ≤ (piecesZ s.data.toList).length → textB (s.extract (atk s.data.toList 0 K) s.size).data.toList = true ∧ piecesZ (s.extract (atk s.data.toList 0 K) s.size).data.toList = (piecesZ s.data.toList).drop K ∧ atk s.data.toList 0 K ≤ s.size) := by
          intro K hK
          have h1 := rest_text ht K (by omega)
          rw [piecesZ_yes ht]
          refine ⟨h1.2.1, h1.2.2, ?_⟩
          have := atk_le s.data.toList K 0 (Nat.zero_le _) (by rw [hpe] at hK; exact hK)
          rwa [size_int] at this
        have HG : Hid (∀ k, k < (piecesZ s.data.toList).length → (ends s.data.toList)[k]? = some (atk s.data.toList 0 (k + 1))) := fun k hk => endsAt_get _ k 0 (by rw [hpe] at hk; exact hk)
        have HJ : Hid (∀ i, i < (piecesZ s.data.toList).length → (bars (piecesZ s.data.toList))[i]? = some (s.extract (atk s.data.toList 0 i) (atk s.data.toList 0 (i + 1))) ∧ atk s.data.toList 0 i < atk s.data.toList 0 (i + 1) ∧ atk s.data.toList 0 (i + 1) ≤ s.size) := by
          intro i hi
          obtain ⟨p1, p2, p3⟩ := piecesAt_get s.data.toList i 0 (by rw [hpe] at hi; exact hi)
          rw [size_int] at p3
          refine ⟨?_, p2, p3⟩
          rw [piecesZ_yes ht, extract_str]; simp only [bars, List.getElem?_map, Option.map_eq_some_iff]; exact ⟨_, p1, rfl⟩
        have HS9 : Hid (atk s.data.toList 0 (piecesZ s.data.toList).length = s.size) := by
          have := atk_end s.data.toList
          rw [← hpe, size_int] at this; exact this
        have HPE := Lib.hid hpe.symm
        clear ht hpe
        generalize hNn : (piecesZ s.data.toList).length = n at *
        have HNn := Lib.hid hNn
        clear hNn
        obtain ⟨K, hK⟩ : ∃ K, len1 % n = K := ⟨_, rfl⟩
        have hKn : K < n := by rw [← hK]; exact Nat.mod_lt _ hn
        have hem : (len1 : Int) % (n : Int) = (K : Int) := by rw [← hK]; rfl
        have hz : ¬ ((n : Int) = 0) := by omega
        have hz2 : ((n : Int) == 0) = false := beq_eq_false_iff_ne.2 (by omega)
        obtain ⟨g, off, hA, _, _⟩ := lst_at HLa.out (barVals_get _ 0 _ (List.getElem?_eq_getElem (by rw [HN.out]; omega)))
        subst hA
        clear hK
        have hdiv : ∃ d : Nat, len1 / 3 + 2 = d := ⟨_, rfl⟩
        obtain ⟨d, hd⟩ := hdiv
        have hdi : (len1 : Int) / 3 + 2 = (d : Int) := by rw [← hd]; rfl
        have hd9 : d ≤ 2000000 := by omega
        clear hd
        go_wp2_with fail
        refine (ldText_any (d : Int) (by omega) (by omega) _).mono ?_
        rintro e w5 ⟨⟨x, rfl, hx16, hxl⟩, hb⟩
        have HX := Lib.hid hxl
        have HB5 := Lib.hid (bel_drew hb)
        clear hb hxl
        have HLb := Lib.hid (lst_next HLa.out HB5.out)
        have HBb := Lib.hid (bel_trans HBa.out HB5.out)
        go_wp2_with fail
        go_loopw [9, 10] (fun t i wr => ∃ j : Nat, K ≤ j ∧ j ≤ n ∧ i = .int .i64 (j : Int) ∧ t = .string (s.extract (atk s.data.toList 0 K) (atk s.data.toList 0 j)) ∧ atk s.data.toList 0 K ≤ atk s.data.toList 0 j ∧ atk s.data.toList 0 j ≤ s.size ∧ wr = w5) (fun _ i _ => n - (intOf i).toNat)
        case atStart => exact ⟨K, Nat.le_refl _, by omega, rfl, congrArg Value.string (extract_none s _).symm, Nat.le_refl _, (HR.out K (by omega)).2.2, rfl⟩
        case round =>
          obtain ⟨j, hKj, hjn, rfl, rfl, hm1, hm2, rfl⟩ := hrel
          by_cases hlt : j < n
          · obtain ⟨p1, p2, p3⟩ := HJ.out j hlt
            obtain ⟨g', off', hA, _, hc⟩ := lst_at HLb.out (barVals_get _ _ _ p1)
            cases hA
            have HEx := Lib.hid (extract_join s (atk s.data.toList 0 K) (atk s.data.toList 0 j) (atk s.data.toList 0 (j + 1)) hm1 (Nat.le_of_lt p2))
            have HP := Lib.hid p1
            clear p1
            have hsz1 : (s.extract (atk s.data.toList 0 K) (atk s.data.toList 0 j)).size ≤ 45 := by rw [ByteArray.size_extract]; omega
            have hsz2 : (s.extract (atk s.data.toList 0 j) (atk s.data.toList 0 (j + 1))).size ≤ 45 := by rw [ByteArray.size_extract]; omega
            have hK2 : atk s.data.toList 0 K ≤ atk s.data.toList 0 (j + 1) := by omega
            generalize s.extract (atk s.data.toList 0 K) (atk s.data.toList 0 j) = Y at *
            generalize s.extract (atk s.data.toList 0 j) (atk s.data.toList 0 (j + 1)) = Z at *
            have hi1 : (j : Int) < (n : Int) := by omega
            clear hm1 hm2 p2
            go_wp2
            go_roundw
            case rel => exact ⟨j + 1, by omega, by omega, by go_num, by rw [← HEx.out], hK2, p3, by first | rfl | trivial⟩
            case measure => simp [intOf]; omega
          · have hjn2 : j = n := by omega
            subst hjn2
            obtain ⟨r1, r2, r3⟩ := HR.out K (by omega)
            rw [HS9.out]
            have HT1 := Lib.hid r1
            have HP1 := Lib.hid r2
            have hsz : (s.extract (atk s.data.toList 0 K) s.size).size ≤ 45 := by rw [ByteArray.size_extract]; omega
            clear r1 r2 r3 hm1 hm2
            generalize s.extract (atk s.data.toList 0 K) s.size = R at *
            by_cases h40 : x.size + R.size ≤ 40
            · have hb40 : (x.size : Int) + (R.size : Int) ≤ 40 := by omega
              obtain ⟨T, hT⟩ : ∃ T, x ++ R = T := ⟨_, rfl⟩
              have hTd : T.data.toList = x.data.toList ++ R.data.toList := by rw [← hT, data_app]
              have hTs : T.size = x.size + R.size := by rw [← hT]; simp
              have hTt : textB T.data.toList = true := by
                simp only [textB, Bool.and_eq_true, decide_eq_true_eq, size_int]
                exact ⟨by omega, by rw [hTd, lets_append, HX.out, (textB_parts HT1.out).2]; rfl⟩
              have HM2 := Lib.hid (maxLen_of (show T.size ≤ 1000000000 by omega))
              have hlen : (piecesZ T.data.toList).length = (endsZ T.data.toList).length := piecesZ_len _
              have hm40 : (endsZ T.data.toList).length ≤ 40 := endsZ_len _
              have HMe : Hid (∀ i, i < (endsZ T.data.toList).length → (nats (endsZ T.data.toList))[i]? = some ((atk T.data.toList 0 (i + 1) : Nat) : Int) ∧
                  (atk T.data.toList 0 (i + 1) = x.size → (bars (piecesZ T.data.toList)).drop (i + 1) = (bars (piecesZ s.data.toList)).drop K)) := by
                intro i hi
                rw [endsZ_yes hTt] at hi ⊢
                refine ⟨?_, fun he => ?_⟩
                · rw [nats, List.getElem?_map, show (ends T.data.toList)[i]? = _ from endsAt_get _ i 0 hi]; rfl
                · have h1 := pieces_rest T.data.toList (i + 1) hi
                  rw [he, hTd, List.drop_left' (size_int x)] at h1
                  rw [← hTd] at h1
                  rw [piecesZ_yes hTt, bars, bars, ← List.map_drop, ← List.map_drop, ← h1, ← HP1.out, piecesZ_yes HT1.out]
              clear hTd
              clear hTs hTt
              go_wp2_with fail
              refine (cutEnds_any T _ (HM2.out)).mono ?_
              intro e w6 hg
              obtain ⟨v6, rfl, hlst, hb⟩ := gave_lst hg
              obtain ⟨A6, c6, rfl⟩ := lst_form hlst
              rw [natVals_length] at *
              rw [natVals_nats] at hlst
              have HL6 := Lib.hid hlst
              have HB6 := Lib.hid hb
              clear hg hlst hb
              go_wp2_with fail
              refine (cutAll_any T _ (HM2.out)).mono ?_
              intro e w7 hg
              obtain ⟨v7, rfl, hlst, hb⟩ := gave_lst hg
              obtain ⟨A7, c7, rfl⟩ := lst_form hlst
              rw [strVals_length] at *
              rw [strVals_bars] at hlst
              have HL7 := Lib.hid hlst
              have HB7 := Lib.hid hb
              clear hg hlst hb
              rw [hlen] at *
              have HLe := Lib.hid (lst_next HL6.out HB7.out)
              have HLl := Lib.hid (lst_next (lst_next HLb.out HB6.out) HB7.out)
              have HBz := Lib.hid (bel_trans (bel_trans HBb.out HB6.out) HB7.out)
              have HNb := Lib.hid (bars_length (piecesZ T.data.toList))
              have HNb2 := Lib.hid hlen
              clear hlen
              generalize (endsZ T.data.toList).length = m at *
              go_wp2_with fail
              go_loopw [13] (fun i wr => ∃ k q : Nat, k ≤ m ∧ i = .int .i64 (k : Int) ∧ wr = w7.drewN q) (fun i _ => m - (intOf i).toNat)
              case atStart => exact ⟨0, 0, Nat.zero_le _, rfl, rfl⟩
              case round =>
                obtain ⟨k, q, hk, rfl, rfl⟩ := hrel
                by_cases hkm : k < m
                · obtain ⟨e1, e2⟩ := HMe.out k hkm
                  obtain ⟨g6, off6, hA6, _, hc6⟩ := lst_at HLe.out (intVals_get _ _ _ e1)
                  cases hA6
                  have hi1 : (k : Int) < (m : Int) := by omega
                  by_cases heq : atk T.data.toList 0 (k + 1) = x.size
                  · have hdr := e2 heq
                    have hne : (((atk T.data.toList 0 (k + 1) : Nat) : Int) == (x.size : Int)) = true := beq_iff_eq.2 (by omega)
                    clear e1 e2
                    obtain ⟨hm7, hc7⟩ := lst_cap HL7.out
                    rw [barVals_length] at hm7 hc7
                    rw [← hm7] at hc7
                    have HM7 := Lib.hid hm7
                    clear hm7
                    have hcl := (lst_cap HLl.out).2
                    rw [barVals_length, HN.out] at hcl
                    have hd2 := congrArg List.length hdr
                    rw [List.length_drop, List.length_drop, HN.out, ← HM7.out] at hd2
                    obtain ⟨g7, off7, hA7, -, -⟩ := lst_at HL7.out (barVals_get _ 0 _ (List.getElem?_eq_getElem (by rw [← HM7.out]; omega)))
                    subst hA7
                    have HD7 := Lib.hid (lst_drop (K := k + 1) HL7.out (by omega))
                    have HDl := Lib.hid (lst_drop (K := K) HLl.out (by omega))
                    have HDq := Lib.hid hdr
                    have HDn := Lib.hid (show ((bars (piecesZ T.data.toList)).drop (k + 1)).length ≤ 1000000000 by rw [List.length_drop, ← HM7.out]; omega)
                    have hkc7 : ¬ c7 = k + 1 := by omega
                    have hKc : ¬ c = K := by omega
                    have hi2 : (k : Int) + 1 ≤ (m : Int) := by omega
                    have hi3 : (k : Int) + 1 ≤ (c7 : Int) := by omega
                    have hi4 : (K : Int) ≤ (j : Int) := by omega
                    have hi5 : (K : Int) ≤ (c : Int) := by omega
                    have hw1 : IntKind.i64.wrap ((k : Int) + 1) = (k : Int) + 1 := IntWalk.i64_in _ (by omega)
                    clear hdr hd2
                    generalize atk T.data.toList 0 (k + 1) = y at *
                    go_wp2_with fail
                    go_quiet ((go_at_call 42; exact quiet_add (ldTexts_is _ w7.heap.size _ _ _ _ (lst_next HD7.out (below_drewN (Below.refl _ _) _)) (lst_next HDl.out (below_drewN (Below.refl _ _) _)) HDn.out HDq.out)))
                    go_wp2
                    go_ret
                    exact ⟨rfl, below_drewN (below_drewN HBz.out _) _⟩
                  · have hne : (((atk T.data.toList 0 (k + 1) : Nat) : Int) == (x.size : Int)) = false := beq_eq_false_iff_ne.2 (by omega)
                    clear e1 e2 heq
                    generalize atk T.data.toList 0 (k + 1) = y at *
                    go_wp2
                    go_roundw
                    case rel => exact ⟨k + 1, _, by omega, by go_num, rfl⟩
                    case measure => simp [intOf]; omega
                · have hkm2 : k = m := by omega
                  subst hkm2
                  go_wp2
                  go_ret
                  exact ⟨rfl, below_drewN HBz.out _⟩
            · have hb40 : (40 : Int) < (x.size : Int) + (R.size : Int) := by omega
              clear h40
              go_wp2
              go_ret
              exact ⟨rfl, HBb.out⟩
      · have h0 : (piecesZ s.data.toList).length = 0 := by omega
        generalize (piecesZ s.data.toList).length = n at *
        have hb0 : ((n : Int) == 0) = true := beq_iff_eq.2 (by omega)
        clear hn h0
        go_wp2_with fail
        refine (cutAllS_any s _ (HM.out)).mono ?_
        intro e w5 hg
        obtain ⟨v5, rfl, hlst, hb⟩ := gave_lst hg
        rw [strVals_bars] at hlst
        have HL5 := Lib.hid hlst
        have HB5 := Lib.hid (bel_drew hb)
        clear hg hlst hb
        go_wp2_with fail
        refine (ldTexts_is _ w5.heap.size _ _ _ _ (lst_next HLa.out HB5.out) HL5.out (by rw [HN.out]; omega) rfl).mono ?_
        rintro e w' ⟨rfl, nd5, rfl⟩
        go_wp2
        go_ret
        exact ⟨rfl, below_drewN (bel_trans HBa.out HB5.out) _⟩
    · go_enter Try.func15, Try.ntmps15
      go_wp2
      go_ret
      exact ⟨rfl, Below.refl _ _⟩
  · go_enter Try.func15, Try.ntmps15
    go_wp2
    go_ret
    exact ⟨rfl, Below.refl _ _⟩
end
end Go.Proofs.Ytpfhpmeefeodcaa
