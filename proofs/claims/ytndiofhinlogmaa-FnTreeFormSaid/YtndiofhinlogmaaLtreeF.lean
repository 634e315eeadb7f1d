/- The law of drawn trees: no file is a folder (the walk). -/
import Derived.Test.YtndiofhinlogmaaLtreeE
namespace Go.Proofs.Ytndiofhinlogmaa
open Go.RowKit
theorem lt_take {l : List (Value × Value)} {n k : Nat} (h : l.length = n) (hk : k ≤ n) : (l.take k).length = k := by rw [List.length_take]; omega
theorem lt_drop {l : List (Value × Value)} {n k : Nat} (h : l.length = n) : (l.drop k).length = n - k := by rw [List.length_drop, h]
theorem tk_le {l : List (Value × Value)} {n : Nat} (h : l.length = n) (hn : n ≤ 100) (k : Nat) : (l.take k).length ≤ 100 := by rw [List.length_take]; omega
theorem dr_le {l : List (Value × Value)} {n : Nat} (h : l.length = n) (hn : n ≤ 100) (k : Nat) : (l.drop k).length ≤ 100 := by rw [List.length_drop]; omega
theorem lt_small {a b : List (Value × Value)} (ha : a.length ≤ 100) (hb : b.length ≤ 100) : a.length + b.length ≤ 2000000 := by omega
section
set_option maxHeartbeats 3200000
theorem lawFnTreeForm (a : Option Addr) (len cap : Nat) (zs : List Int) (a1 : Option Addr) (len1 cap1 : Nat) (zs1 : List Int) (w : World) (h : Code w a len cap zs) (_ : Code w a1 len1 cap1 zs1) (mx : Mx w) :
    Calls Try.prog 7 #[.slice a len cap, .slice a1 len1 cap1] w fun e w' => e = .returned (.bool true) ∧ Below w.heap.size w w' := by
  have MX := Lib.hid mx
  clear mx
  obtain ⟨i0, hi, hz0, hz1, hz2⟩ := infoFile_parts
  by_cases hlen : len ≤ 1048576
  · by_cases hlen1 : len1 ≤ 1048576
    · go_enter Try.func7, Try.ntmps7
      go_wp2_with fail
      refine (drawTreeOk_any a len cap zs w h).mono ?_
      rintro e w1 ⟨l, g0, c, rfl, hl, hn, ht, hb⟩
      have HL := Lib.hid hl
      have HT := Lib.hid (tameF_big ht)
      have HB := Lib.hid hb
      have HTT := Lib.hid ht
      clear hl ht hb h
      go_wp2_with fail
      refine (treeOk_any w1 _ l HL.out (by omega) HT.out (MX.out.next HB.out)).mono ?_
      rintro e w2 ⟨rfl, hb⟩
      have HB2 := Lib.hid (bel2 HB.out hb)
      have HL2 := Lib.hid (lp_next HL.out hb)
      clear hb
      go_wp2_with fail
      refine (treeOkS_any w2 _ l HL2.out (by omega) HT.out).mono ?_
      rintro e w3 ⟨rfl, m3, hW3⟩
      have HB3 := Lib.hid (show Below w.heap.size w w3 by rw [hW3]; exact belN HB2.out m3)
      have HL3 := Lib.hid (show Lp w3 w3.heap.size _ (fvals l) by rw [hW3]; exact lp_drewN HL2.out m3)
      clear hW3
      cases hi : treeB l with
      | false =>
        have HI := Lib.hid hi
        clear hi
        go_wp2_with fail
        refine (treeOkS_any w3 _ l HL3.out (by omega) HT.out).mono ?_
        rintro e w4 ⟨rfl, m4, hW4⟩
        have HB4 := Lib.hid (show Below w.heap.size w w4 by rw [hW4]; exact belN HB3.out m4)
        rw [HI.out]
        clear hW4
        go_wp2
        go_ret
        exact ⟨rfl, HB4.out⟩
      | true =>
        have HI := Lib.hid hi
        clear hi
        by_cases h0 : l.length = 0
        · have hl0 : ((l.length : Int) == 0) = true := by simp [h0]
          clear h0
          go_wp2_with fail
          refine (treeOkS_any w3 _ l HL3.out (by omega) HT.out).mono ?_
          rintro e w4 ⟨rfl, m4, hW4⟩
          have HB4 := Lib.hid (show Below w.heap.size w w4 by rw [hW4]; exact belN HB3.out m4)
          rw [HI.out]
          clear hW4
          go_wp2
          go_ret
          exact ⟨rfl, HB4.out⟩
        · have hl0 : ((l.length : Int) == 0) = false := beq_eq_false_iff_ne.2 (by omega)
          obtain ⟨k, hk⟩ : ∃ k, len1 % l.length = k := ⟨_, rfl⟩
          have hkl : k < l.length := by rw [← hk]; exact Nat.mod_lt _ (by omega)
          have hki : (len1 : Int) % (l.length : Int) = (k : Int) := by rw [← hk]; exact (Int.natCast_emod ..).symm
          clear hk
          obtain ⟨⟨pa, tx⟩, hsk⟩ : ∃ s, l[k]? = some s := ⟨_, List.getElem?_eq_getElem hkl⟩
          have HSK := Lib.hid hsk
          have HPB := Lib.hid (tree_all HI.out (pa, tx) (List.mem_of_getElem? hsk)).1
          have hpas : pa.size ≤ 5 := (HTT.out _ (List.mem_of_getElem? hsk)).1
          have hpa0 : 0 < pa.size := size_pos HPB.out
          have hc : l.length ≤ c := by have := (lp_cap HL3.out).1; rw [fvals_length] at this; exact this
          have hn6 := tree_short HI.out
          obtain ⟨n, hnn⟩ : ∃ n, l.length = n := ⟨_, rfl⟩
          have HN := Lib.hid hnn
          have HL3' := HL3.out
          rw [hnn] at hc hkl hl0 hki HL3' hn hn6 ⊢
          clear HL3 hnn h0 hsk
          have HL3 := Lib.hid HL3'
          clear HL3'
          have hfl : (fvals l).length = n := by rw [fvals_length]; exact HN.out
          have HFL := Lib.hid hfl
          clear hfl
          have q0 : (0 : Int) ≤ (k : Int) := by omega
          have q1 : (k : Int) ≤ (c : Int) := by omega
          have q2 : IntKind.i64.wrap ((k : Int) + 1) = (k : Int) + 1 := IntWalk.i64_in _ (by omega)
          have q3 : (0 : Int) ≤ (k : Int) + 1 := by omega
          have q4 : (k : Int) + 1 ≤ (n : Int) := by omega
          have q5 : (n : Int) ≤ (c : Int) := by omega
          have q6 : (k : Int) ≤ (n : Int) := by omega
          have q7 : (k : Int) + 1 ≤ (c : Int) := by omega
          have q8 : (k : Int) < (n : Int) := by omega
          have q9 : (1 : Int) ≤ (pa.size : Int) := by omega
          obtain ⟨AD, hAD⟩ : ∃ AD, (if c = k + 1 then some (⟨g0, 0, none⟩ : Addr) else some (⟨g0, (k + 1) * 2, none⟩ : Addr)) = some AD := by
            by_cases e : c = k + 1
            · exact ⟨_, if_pos e⟩
            · exact ⟨_, if_neg e⟩
          obtain ⟨AE, hAE⟩ : ∃ AE, (if c = k then some (⟨g0, 0, none⟩ : Addr) else some (⟨g0, k * 2, none⟩ : Addr)) = some AE := ⟨_, if_neg (by omega)⟩
          have hAD2 : (if c = k + 1 then some (⟨g0, 0, none⟩ : Addr) else some ((⟨g0, 0, none⟩ : Addr).add ((k + 1) * 2))) = some AD := by rw [add_at, Nat.zero_add]; exact hAD
          have hAE2 : (if c = k then some (⟨g0, 0, none⟩ : Addr) else some ((⟨g0, 0, none⟩ : Addr).add (k * 2))) = some AE := by rw [add_at, Nat.zero_add]; exact hAE
          have HG0 := Lib.hid (grew_start 38 w3)
          have HN1 := Lib.hid (news_take HL3.out k)
          have HN2 := Lib.hid (news_drop HL3.out hAD2)
          have HON := Lib.hid (fvals_ones l)
          have hon : ∀ j, Ones ((fvals l).take j) := fun j u hu => fvals_ones (l.take j) u (by rw [fvals_take]; exact hu)
          have hon2 : ∀ j, Ones ((fvals l).drop j) := fun j u hu => fvals_ones (l.drop j) u (by rw [fvals_drop]; exact hu)
          have HT1 := Lib.hid hon
          have HT2 := Lib.hid hon2
          clear hon hon2
          go_wp2_with fail
          go_region_held3 (fun _ => True) (trivial) (first | (refine step_append_p w3 _ (by rfl) (.tmp 45) (.tmp 48) 29 38 (by rfl) i0 _ 32 Try.underlying29 hi hz0 hz1 hz2 (by rfl) (by omega) _ [] (by rfl) HG0.out _ _ _ ((fvals l).take k) (by rfl) (lt_take HFL.out (by omega)) (newsInP HN1.out HG0.out.2) (HT1.out _) (lt_small (Nat.zero_le 100) (tk_le HFL.out (by omega) _)) ?_; intro v5 w5 hg5 _; have HG5 := Lib.hid hg5; clear hg5) | (refine step_append_p w3 _ (by rfl) (.tmp 49) (.tmp 53) 29 38 (by rfl) i0 _ 32 Try.underlying29 hi hz0 hz1 hz2 (by rfl) (by omega) _ _ (by rfl) HG5.out _ _ _ ((fvals l).drop (k + 1)) (by rfl) (lt_drop HFL.out) (newsInP HN2.out HG5.out.2) (HT2.out _) (lt_small (by rw [List.nil_append]; exact tk_le HFL.out (by omega) _) (dr_le HFL.out (by omega) _)) ?_; intro v6 w6 hg6 _; have HG6 := Lib.hid hg6; clear hg6))
          have HB6 := Lib.hid (bel2 HB3.out HG6.out.2)
          have HV6 := Lib.hid (lp_of_own HG6.out.1)
          have HL6 := Lib.hid (lp_next HL3.out HG6.out.2)
          obtain ⟨less, hless⟩ : ∃ L, l.take k ++ l.drop (k + 1) = L := ⟨_, rfl⟩
          obtain ⟨twice, htwice⟩ : ∃ L, l.take (k + 1) ++ l.drop k = L := ⟨_, rfl⟩
          have HI6 := Lib.hid (show treeB less = true by rw [← hless]; exact tree_out HI.out k)
          have HI7 := Lib.hid (show treeB twice = false by rw [← htwice]; exact tree_two (by rw [HN.out]; exact hkl))
          have hm6 : less.length ≤ 100 := by rw [← hless, List.length_append, List.length_take, List.length_drop, HN.out]; omega
          have hm7 : twice.length ≤ 100 := by rw [← htwice, List.length_append, List.length_take, List.length_drop, HN.out]; omega
          have HS6 := Lib.hid (show ∀ s ∈ less, s.1.size ≤ 1048600 ∧ s.2.size ≤ 1048600 from fun s hs => HT.out s (by
            rw [← hless] at hs
            rcases List.mem_append.1 hs with h | h
            · exact List.mem_of_mem_take h
            · exact List.mem_of_mem_drop h))
          have HS7 := Lib.hid (show ∀ s ∈ twice, s.1.size ≤ 1048600 ∧ s.2.size ≤ 1048600 from fun s hs => HT.out s (by
            rw [← htwice] at hs
            rcases List.mem_append.1 hs with h | h
            · exact List.mem_of_mem_take h
            · exact List.mem_of_mem_drop h))
          rw [List.nil_append, ← fvals_take, ← fvals_drop, ← fvals_append, hless] at HV6
          clear hless HG0 HN1 HN2 HG5 HG6 HL HL2 HL3
          have HG0 := Lib.hid (grew_start 38 w6)
          have HN1 := Lib.hid (news_take HL6.out (k + 1))
          have HN2 := Lib.hid (news_drop HL6.out hAE2)
          go_wp2_with fail
          go_region_held3 (fun _ => True) (trivial) (first | (refine step_append_p w6 _ (by rfl) (.tmp 55) (.tmp 59) 29 38 (by rfl) i0 _ 32 Try.underlying29 hi hz0 hz1 hz2 (by rfl) (by omega) _ [] (by rfl) HG0.out _ _ _ ((fvals l).take (k + 1)) (by rfl) (lt_take HFL.out (by omega)) (newsInP HN1.out HG0.out.2) (HT1.out _) (lt_small (Nat.zero_le 100) (tk_le HFL.out (by omega) _)) ?_; intro v7 w7 hg7 _; have HG7 := Lib.hid hg7; clear hg7) | (refine step_append_p w6 _ (by rfl) (.tmp 60) (.tmp 63) 29 38 (by rfl) i0 _ 32 Try.underlying29 hi hz0 hz1 hz2 (by rfl) (by omega) _ _ (by rfl) HG7.out _ _ _ ((fvals l).drop k) (by rfl) (lt_drop HFL.out) (newsInP HN2.out HG7.out.2) (HT2.out _) (lt_small (by rw [List.nil_append]; exact tk_le HFL.out (by omega) _) (dr_le HFL.out (by omega) _)) ?_; intro v8 w8 hg8 _; have HG8 := Lib.hid hg8; clear hg8))
          have HB8 := Lib.hid (bel2 HB6.out HG8.out.2)
          have HV8 := Lib.hid (lp_of_own HG8.out.1)
          have HU8 := Lib.hid (lp_next HV6.out HG8.out.2)
          have HL8 := Lib.hid (lp_next HL6.out HG8.out.2)
          rw [List.nil_append, ← fvals_take, ← fvals_drop, ← fvals_append, htwice] at HV8
          clear htwice HG0 HN1 HN2 HG7 HG8 HV6 HL6
          have HN1 := Lib.hid (news_take HL8.out (k + 1))
          obtain ⟨g', off', hA', hgk, hck, _⟩ := lp_at HL8.out (fvals_get HSK.out)
          cases hA'
          rw [Nat.zero_add] at hck
          have hqs : (pa.extract 0 1).size = 1 := by simp; omega
          have hng : ¬ (9223372036854775807 < (pa.extract 0 1).size + (⟨#[47, 101]⟩ : ByteArray).size) := by rw [hqs]; decide
          obtain ⟨z, hz⟩ : ∃ z, pa.extract 0 1 ++ (⟨#[47, 101]⟩ : ByteArray) = z := ⟨_, rfl⟩
          go_wp2_with fail
          go_region_held3 (fun w' => w'.cell? ⟨g0, k * 2, none⟩ = some (.string pa)) ((first | assumption | exact cell_alP (by assumption) _ | exact cell_alP (cell_alP (by assumption) _) _)) (first | (refine step_append_p w8 _ (by rfl) (.tmp 65) (.tmp 69) 29 38 (by rfl) i0 _ 32 Try.underlying29 hi hz0 hz1 hz2 (by rfl) (by omega) _ [] (by rfl) (by first | exact grewP_1 _ w8 | exact grewP_2 _ w8 _ | exact grewP_3 _ w8 _) _ _ _ ((fvals l).take (k + 1)) (by rfl) (lt_take HFL.out (by omega)) (by first | exact newsInP HN1.out (grewP_1 _ w8).2 | exact newsInP HN1.out (grewP_2 _ w8 _).2 | exact newsInP HN1.out (grewP_3 _ w8 _).2) (HT1.out _) (lt_small (Nat.zero_le 100) (tk_le HFL.out (by omega) _)) ?_; intro v9 w9 hg9 hgr9; have HG9 := Lib.hid hg9; have k1 := (HG9.out.2.cell (p := ⟨g0, k * 2, none⟩) hgk).trans hck; clear hg9) | (refine step_append_p w8 _ (by rfl) (.tmp 70) (.tmp 79) 29 38 (by rfl) i0 _ 32 Try.underlying29 hi hz0 hz1 hz2 (by rfl) (by omega) _ ((fvals l).take (k + 1)) (by rfl) (by first | exact HG9.out | exact grew_alloc HG9.out _) _ _ _ ([(.string z, .string ByteArray.empty)]) (by rfl) rfl (by first | exact news_one _ _ _ _ _ (Below.refl _ _) | exact pcell_2 hgr9 | exact pcell_3 hgr9) (ones_two _ _ rfl rfl) (lt_small (tk_le HFL.out (by omega) _) (Nat.le_add_left 1 99)) ?_; intro v10 w10 hg10 _; have HG10 := Lib.hid hg10; clear hg10; have k3 := (HG10.out.2.cell (p := ⟨g0, k * 2, none⟩) hgk).trans hck))
          all_goals
            have HB10 := Lib.hid (bel2 HB8.out HG10.out.2)
            have HW10 : Hid (Lp w10 w10.heap.size v10 (fvals (l.take (k + 1) ++ [(z, ByteArray.empty)]))) := Lib.hid (by rw [fvals_append, fvals_take]; exact lp_of_own HG10.out.1)
            have HU10 := Lib.hid (lp_next HU8.out HG10.out.2)
            have HV10 := Lib.hid (lp_next HV8.out HG10.out.2)
            have HL10 := Lib.hid (lp_next HL8.out HG10.out.2)
            have HI10 := Lib.hid (fun (h1 : pa.size = 1) => tree_in (t := ByteArray.empty) HSK.out (list_one pa h1) (show z.data.toList = [pa[0], 47, 101] by
              rw [← hz, ByteArray.data_append, Array.toList_append, ByteArray.data_extract, Array.toList_extract, list_one pa h1]; rfl))
            have HZ := Lib.hid (show z.size = 3 by rw [← hz, ByteArray.size_append, hqs]; rfl)
            clear HG10 HN1 k3 hck hqs hng HU8 HV8 HL8 HB8
            go_wp2_with fail
            refine (treeOk_any w10 _ less HU10.out (by omega) HS6.out (MX.out.next HB10.out)).mono ?_
            rw [HI6.out]
            rintro e w11 ⟨rfl, hb⟩
            have HB11 := Lib.hid (bel2 HB10.out hb)
            have HV11 := Lib.hid (lp_next HV10.out hb)
            have HL11 := Lib.hid (lp_next HL10.out hb)
            have HW11 := Lib.hid (lp_next HW10.out hb)
            clear hb
            go_wp2_with fail
            refine (treeOk_any w11 _ twice HV11.out (by omega) HS7.out (MX.out.next HB11.out)).mono ?_
            rw [HI7.out]
            rintro e w12 ⟨rfl, hb⟩
            have HB12 := Lib.hid (bel2 HB11.out hb)
            have HL12 := Lib.hid (lp_next HL11.out hb)
            have HW12 := Lib.hid (lp_next HW11.out hb)
            clear hb
            obtain ⟨g', off', hA', _, hck, _⟩ := lp_at HL12.out (fvals_get HSK.out)
            cases hA'
            rw [Nat.zero_add] at hck
            by_cases hp1 : pa.size = 1
            · have h1 : ¬ (1 : Int) < (pa.size : Int) := by omega
              have HI12 := Lib.hid (HI10.out hp1)
              clear hp1
              go_wp2_with fail
              refine (treeOk_any w12 _ (l.take (k + 1) ++ [(z, ByteArray.empty)]) HW12.out (by rw [List.length_append, List.length_take, HN.out]; simp; omega) (fun s hs => by
                rcases List.mem_append.1 hs with h | h
                · exact HT.out s (List.mem_of_mem_take h)
                · rw [List.mem_singleton.1 h]
                  exact ⟨by show z.size ≤ 1048600; rw [HZ.out]; omega, by show ByteArray.empty.size ≤ 1048600; decide⟩) (MX.out.next HB12.out)).mono ?_
              rw [HI12.out]
              rintro e w13 ⟨rfl, hb⟩
              have HB13 := Lib.hid (bel2 HB12.out hb)
              clear hb
              go_wp2
              go_ret
              exact ⟨ret_bool (decide_eq_true (by omega)), HB13.out⟩
            · have h1 : (1 : Int) < (pa.size : Int) := by omega
              clear hp1
              go_wp2
              go_ret
              exact ⟨ret_bool (decide_eq_true (by omega)), HB12.out⟩
    · go_enter Try.func7, Try.ntmps7
      go_wp2
      go_ret
      exact ⟨rfl, Below.refl _ _⟩
  · go_enter Try.func7, Try.ntmps7
    go_wp2
    go_ret
    exact ⟨rfl, Below.refl _ _⟩
end
end Go.Proofs.Ytndiofhinlogmaa
