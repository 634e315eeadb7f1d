/- Whether a pack is one. -/
import Derived.Test.YtkjginibdablnaaDoorChunk
namespace Go.Proofs.YtkjginibdablnaaDoor
open Go.RowKit
section
set_option maxHeartbeats 1600000
theorem packOk_any (key no : Int) (v : Value) (l : List Itm) (w : World) (a0 a1 : Addr) (he : Errs w a0 a1) (hl : Lp w w.heap.size v (ivals l)) (hn : l.length ≤ 1048600) (hs : ∀ s ∈ l, s.2.size ≤ 1048576) :
    Calls Tryd.prog 13 #[.int .i64 key, packV no v] w fun e w' => e = .returned (.bool (packB key no l)) ∧ Below w.heap.size w w' := by
  obtain ⟨A, c, hv⟩ := lp_form hl
  subst hv
  rw [ivals_length] at *
  obtain ⟨W, hW⟩ : ∃ W, W = w.alloc (.cells #[.int .i64 no, .slice A l.length c] 29) := ⟨_, rfl⟩
  have HWs := Lib.hid (show W.heap.size = w.heap.size + 1 by rw [hW]; simp)
  have HBW := Lib.hid (show Below w.heap.size w W by rw [hW]; exact (Below.refl _ _).alloc (Nat.le_refl _) _)
  have HBX := Lib.hid (show ∀ X, Below W.heap.size W X → X.cell? ⟨w.heap.size, 0, none⟩ = some (.int .i64 no) ∧ X.cell? ⟨w.heap.size, 1, none⟩ = some (.slice A l.length c) from fun X hX => box_cellsI w X _ _ 29 (by rw [← hW, ← HWs.out]; exact hX))
  have HL := Lib.hid (lp_next hl HBW.out)
  have HSZ := Lib.hid hs
  have HE := Lib.hid (he.below HBW.out)
  clear hs hl he
  obtain ⟨n, hnn⟩ : ∃ n, l.length = n := ⟨_, rfl⟩
  have HN := Lib.hid hnn
  rw [hnn] at hn HBX HL
  have HW := Lib.hid (show w.alloc (.cells #[.int .i64 no, .slice A n c] 29) = W by rw [hW, hnn])
  clear hW
  obtain ⟨q0, q1⟩ := HBX.out W (Below.refl _ _)
  rw [hnn]
  clear hnn
  go_enter Tryd.func13, Tryd.ntmps13
  go_wp2_with fail
  rw [HW.out]
  clear q0 q1
  go_loopw [12] (fun i wr => ∃ j : Nat, j ≤ n ∧ i = .int .i64 (j : Int) ∧ (j = 0 ∨ keyB key = true ∧ okToI key.toNat l j = true) ∧ Below W.heap.size W wr) (fun i _ => n - (intOf i).toNat)
  case atStart => exact ⟨0, Nat.zero_le _, rfl, .inl rfl, Below.refl _ _⟩
  case round =>
    obtain ⟨j, hj, rfl, ht, hb⟩ := hrel
    have HT := Lib.hid ht
    have HB := Lib.hid hb
    clear ht hb
    by_cases hlt : j < n
    · obtain ⟨⟨a, b⟩, hs⟩ : ∃ s, l[j]? = some s := ⟨_, List.getElem?_eq_getElem (by have := HN.out; omega)⟩
      obtain ⟨g, off, hA, hg, c1, c2⟩ := lp_at HL.out (ivals_get hs)
      subst hA
      have HS := Lib.hid hs
      have HKL := Lib.hid (show j < l.length by rw [HN.out]; exact hlt)
      have hc1 := (HB.out.cell (p := ⟨g, off + j * 2, none⟩) hg).trans c1
      have hc2 := (HB.out.cell (p := ⟨g, off + j * 2 + 1, none⟩) hg).trans c2
      have HG := Lib.hid hg
      have HSS := Lib.hid (show b.size ≤ 1048576 from HSZ.out _ (List.mem_of_getElem? hs))
      clear c1 c2 hs hg
      have hi1 : (j : Int) < (n : Int) := by omega
      have hi0 : (0 : Int) ≤ (j : Int) := by omega
      obtain ⟨W2, hW2⟩ : ∃ X, X = wr.alloc (.cells #[.int .i64 a, .string b] 40) := ⟨_, rfl⟩
      have hb2 : Below wr.heap.size wr W2 := by rw [hW2]; exact (Below.refl _ _).alloc (Nat.le_refl _) _
      have HT2 := Lib.hid (show Two W2 wr.heap.size 40 (.int .i64 a) (.string b) by rw [hW2]; exact two_new _ _ _ _)
      have HB2 := Lib.hid (show Below W.heap.size W W2 from bel2 HB.out hb2)
      have t0 := HT2.out.c0
      have t1 := HT2.out.c1
      have HCH := Lib.hid (chunk_any key a b W2 a0 a1 (HE.out.below HB2.out) (by have := HSS.out; unfold maxLen; omega))
      obtain ⟨o, ho⟩ : ∃ o, chunkB key (a, b) = o := ⟨_, rfl⟩
      obtain ⟨ct, hct⟩ : ∃ ct, chunkT key (a, b) = ct := ⟨_, rfl⟩
      have HO := Lib.hid (show (keyB key && rightB key.toNat (a, b)) = o by rw [← ho, chunk_is])
      rw [ho, hct] at HCH
      have HW2 := Lib.hid hW2
      clear ho hct hb2 hW2
      cases o with
      | false =>
        have HF := Lib.hid (show packB key no l = false by
          cases hk : keyB key with
          | false => exact packB_key hk
          | true => exact packB_item HKL.out (okI_right HS.out (by have h := HO.out; rw [hk, Bool.true_and] at h; exact h)))
        go_wp2_with fail
        rw [← HW2.out]
        refine HCH.out.mono ?_
        rintro e w3 ⟨rfl, hb3⟩
        have HB3 := Lib.hid (show Below W.heap.size W w3 from bel2 HB2.out hb3)
        have HT3 := Lib.hid (HT2.out.keep (grown_of_bel hb3 none) (by simp))
        clear hb3
        go_wp2_with fail
        go_quiet (fail)
        go_wp2
        go_ret
        exact ⟨ret_bool HF.out.symm, below_drewN (bel2 HBW.out HB3.out) _⟩
      | true =>
        have HKR := Lib.hid (show keyB key = true ∧ rightB key.toNat (a, b) = true by have h := HO.out; simpa using h)
        have HTJ := Lib.hid (show okToI key.toNat l j = true by
          rcases HT.out with h | h
          · rw [h]; rfl
          · exact h.2)
        rcases Nat.eq_zero_or_pos j with h0 | h0
        · have hdk : decide (0 < j) = false := decide_eq_false (by omega)
          have HOK := Lib.hid (show okToI key.toNat l (j + 1) = true by
            have h1 := HS.out
            subst h0
            simp only [okToI]
            rw [okI_zero h1 HKR.out.2]
            rfl)
          clear h0
          go_wp2_with fail
          rw [← HW2.out]
          refine HCH.out.mono ?_
          rintro e w3 ⟨rfl, hb3⟩
          have HB3 := Lib.hid (show Below W.heap.size W w3 from bel2 HB2.out hb3)
          clear hb3
          go_wp2_with fail
          go_quiet (fail)
          go_wp2
          go_roundw
          case rel => exact ⟨j + 1, by omega, by go_num, .inr ⟨HKR.out.1, HOK.out⟩, below_drewN HB3.out _⟩
          case measure => simp [intOf]; omega
        · obtain ⟨j', hj'⟩ : ∃ j', j = j' + 1 := ⟨j - 1, by omega⟩
          obtain ⟨⟨a', b'⟩, hs'⟩ : ∃ s, l[j']? = some s := ⟨_, List.getElem?_eq_getElem (by have := HN.out; omega)⟩
          obtain ⟨g2, off2, hA2, hg2, c1, c2⟩ := lp_at HL.out (ivals_get hs')
          injection hA2 with hA2
          injection hA2 with hA2 hA3
          subst hA2
          subst hA3
          have HP1 := Lib.hid c1
          have hw : IntKind.i64.wrap ((j : Int) - 1) = (j' : Int) := by rw [IntKind.wrap_i64]; omega
          have hm0 : (0 : Int) ≤ (j' : Int) := by omega
          have hmn : (j' : Int) < (n : Int) := by omega
          have hk0 : (0 : Int) < (j : Int) := by omega
          have hdk : decide (0 < j) = true := decide_eq_true h0
          have HS' := Lib.hid hs'
          have HJ := Lib.hid hj'
          clear c1 c2 hg2 hs' hj' h0
          cases hle : decide (a ≤ a') with
          | true =>
            have HF := Lib.hid (show packB key no l = false from packB_item HKL.out (by
              have h1 := HS.out
              rw [HJ.out] at h1 ⊢
              exact okI_less h1 HS'.out (decide_eq_false (by have := of_decide_eq_true hle; show ¬ a' < a; omega))))
            go_wp2_with fail
            rw [← HW2.out]
            refine HCH.out.mono ?_
            rintro e w3 ⟨rfl, hb3⟩
            have HB3 := Lib.hid (show Below W.heap.size W w3 from bel2 HB2.out hb3)
            have HT3 := Lib.hid (HT2.out.keep (grown_of_bel hb3 none) (by simp))
            clear hb3 t0 t1
            obtain ⟨_, q1⟩ := HBX.out w3 HB3.out
            have r0 := HT3.out.c0
            have r1 := (HB3.out.cell (p := ⟨g, off + j' * 2, none⟩) HG.out).trans HP1.out
            go_wp2_with fail
            go_quiet (fail)
            go_wp2
            go_ret
            exact ⟨ret_bool HF.out.symm, below_drewN (bel2 HBW.out HB3.out) _⟩
          | false =>
            have HOK := Lib.hid (show okToI key.toNat l (j + 1) = true by
              have h1 := HS.out
              have h2 := HTJ.out
              rw [HJ.out] at h1 h2 ⊢
              rw [okToI, h2, okI_next h1 HS'.out HKR.out.2 (decide_eq_true (by have := of_decide_eq_false hle; show a' < a; omega))]
              rfl)
            go_wp2_with fail
            rw [← HW2.out]
            refine HCH.out.mono ?_
            rintro e w3 ⟨rfl, hb3⟩
            have HB3 := Lib.hid (show Below W.heap.size W w3 from bel2 HB2.out hb3)
            have HT3 := Lib.hid (HT2.out.keep (grown_of_bel hb3 none) (by simp))
            clear hb3 t0 t1
            obtain ⟨_, q1⟩ := HBX.out w3 HB3.out
            have r0 := HT3.out.c0
            have r1 := (HB3.out.cell (p := ⟨g, off + j' * 2, none⟩) HG.out).trans HP1.out
            go_wp2_with fail
            go_quiet (fail)
            go_wp2
            go_roundw
            case rel => exact ⟨j + 1, by omega, by go_num, .inr ⟨HKR.out.1, HOK.out⟩, below_drewN HB3.out _⟩
            case measure => simp [intOf]; omega
    · have hjn : j = n := by omega
      obtain ⟨q0, q1⟩ := HBX.out wr HB.out
      obtain ⟨kb, hkb⟩ : ∃ kb, keyB key = kb := ⟨_, rfl⟩
      have HPB := Lib.hid (show packB key no l = (decide (1 ≤ no ∧ no ≤ 99) && (kb && decide (1 ≤ n ∧ n ≤ 4))) by
        unfold packB
        rw [HN.out, hkb]
        cases kb with
        | false => simp
        | true =>
          have : okToI key.toNat l n = true := by
            rcases HT.out with h | h
            · rw [show n = 0 by omega]; rfl
            · rw [← hjn]; exact h.2
          rw [this, Bool.and_true])
      have HKO := Lib.hid (fun X => keyOk_any key X)
      rw [hkb] at HKO
      clear hkb
      subst hjn
      cases kb with
      | false =>
        go_wp2_with (go_at_call 36; refine (HKO.out _).mono ?_; rintro e w' ⟨rfl, rfl⟩)
        go_ret
        exact ⟨ret_bool (by rw [HPB.out]; simp), bel2 HBW.out HB.out⟩
      | true =>
        by_cases e1 : 1 ≤ no
        · by_cases e2 : no ≤ 99
          · by_cases e3 : 1 ≤ j
            · by_cases e4 : j ≤ 4
              · have HF := Lib.hid (show packB key no l = true by rw [HPB.out]; simp [e1, e2, e3, e4])
                have e3' : (1 : Int) ≤ (j : Int) := by omega
                have e4' : (j : Int) ≤ 4 := by omega
                go_wp2_with (go_at_call 36; refine (HKO.out _).mono ?_; rintro e w' ⟨rfl, rfl⟩)
                go_ret
                exact ⟨ret_bool HF.out.symm, bel2 HBW.out HB.out⟩
              · have HF := Lib.hid (show packB key no l = false by rw [HPB.out]; simp [e4])
                have e3' : (1 : Int) ≤ (j : Int) := by omega
                have e4' : ¬ (j : Int) ≤ 4 := by omega
                go_wp2_with (go_at_call 36; refine (HKO.out _).mono ?_; rintro e w' ⟨rfl, rfl⟩)
                go_ret
                exact ⟨ret_bool (by rw [HF.out]; exact decide_eq_false (by omega)), bel2 HBW.out HB.out⟩
            · have HF := Lib.hid (show packB key no l = false by rw [HPB.out]; simp [e3])
              have e3' : ¬ (1 : Int) ≤ (j : Int) := by omega
              go_wp2_with (go_at_call 36; refine (HKO.out _).mono ?_; rintro e w' ⟨rfl, rfl⟩)
              go_ret
              exact ⟨ret_bool HF.out.symm, bel2 HBW.out HB.out⟩
          · have HF := Lib.hid (show packB key no l = false by rw [HPB.out]; simp [e2])
            go_wp2_with (go_at_call 36; refine (HKO.out _).mono ?_; rintro e w' ⟨rfl, rfl⟩)
            go_ret
            exact ⟨ret_bool HF.out.symm, bel2 HBW.out HB.out⟩
        · have HF := Lib.hid (show packB key no l = false by rw [HPB.out]; simp [e1])
          go_wp2_with (go_at_call 36; refine (HKO.out _).mono ?_; rintro e w' ⟨rfl, rfl⟩)
          go_ret
          exact ⟨ret_bool HF.out.symm, bel2 HBW.out HB.out⟩
end
end Go.Proofs.YtkjginibdablnaaDoor
