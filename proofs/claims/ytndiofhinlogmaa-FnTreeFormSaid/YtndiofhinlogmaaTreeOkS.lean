/- Whether files are a tree, in the reference. -/
import Derived.Test.YtndiofhinlogmaaTreeP
import Derived.Test.YtndiofhinlogmaaPathOk
import Derived.Test.YtndiofhinlogmaaFileS
namespace Go.Proofs.Ytndiofhinlogmaa
open Go.RowKit
theorem size_pos {s : ByteArray} (h : pathB s.data.toList = true) : 0 < s.size := by
  rw [← size_list]
  match hd : s.data.toList, h with
  | x :: _, _ => simp
theorem ex_d (w : World) (m n : Nat) : ∃ k, (w.drewN m).drewN n = w.drewN k := ⟨m + n, World.drewN_drewN ..⟩
theorem quiet_plus {P : Program} {f : FuncId} {args : Array Value} {w : World} {a n : Nat} {v : Value}
    (h : Calls P f args (w.drewN (a + n)) fun e w' => e = .returned v ∧ ∃ m, w' = (w.drewN (a + n)).drewN m) :
    Calls P f args (w.drewN (a + n)) fun e w'' => e = .returned v ∧ ∃ m, w'' = w.drewN (a + m) :=
  h.mono fun _ _ ⟨he, m, hm⟩ => ⟨he, n + m, by rw [hm, World.drewN_drewN, Nat.add_assoc]⟩
section
set_option maxHeartbeats 1600000
theorem l11Clash_any (a b : ByteArray) (ha : 0 < a.size) (hb : 0 < b.size) (w : World) :
    Calls Try.prog 30 #[.string a, .string b] w fun e w' => e = .returned (.bool (clash a.data.toList b.data.toList)) ∧ ∃ n, w' = w.drewN n := by
  by_cases h : a.size = b.size
  · have hne : ((a.size : Int) != (b.size : Int)) = false := by simp [h]
    have HC := Lib.hid (show clash a.data.toList b.data.toList = false by simp [clash, h])
    clear h
    go_enter Try.func30, Try.ntmps30
    go_wp2_with fail
    go_quiet (fail)
    go_wp2
    go_ret
    exact ⟨ret_bool HC.out.symm, nq, rfl⟩
  · have hne : ((a.size : Int) != (b.size : Int)) = true := by simp; omega
    have hia : (0 : Int) < (a.size : Int) := by omega
    have hib : (0 : Int) < (b.size : Int) := by omega
    have HC := Lib.hid (show clash a.data.toList b.data.toList = ((a[0].toNat : Int) == (b[0].toNat : Int)) by
      simp only [clash, size_list, get_data a 0 ha, get_data b 0 hb]
      rw [show (a.size != b.size) = true by simpa using h, Bool.true_and]
      rw [Bool.eq_iff_iff]
      simp only [beq_iff_eq, Option.some.injEq]
      constructor
      · intro e; rw [e]
      · intro e; apply UInt8.toNat_inj.1; omega)
    clear h
    go_enter Try.func30, Try.ntmps30
    go_wp2_with fail
    go_quiet (fail)
    go_wp2
    go_ret
    exact ⟨ret_bool HC.out.symm, nq, rfl⟩
theorem path_is (a : ByteArray) (v : Bool) (h : pathB a.data.toList = v) (W : World) : Calls Try.prog 9 #[.string a] W fun e w' => e = .returned (.bool v) ∧ ∃ m, w' = W.drewN m := h ▸ pathOkS_any a W
theorem text_isS (b : ByteArray) (v : Bool) (h : textB b.data.toList = v) (hs : b.size ≤ 1048600) (W : World) : Calls Try.prog 29 #[.string b] W fun e w' => e = .returned (.bool v) ∧ ∃ m, w' = W.drewN m :=
  (textOkS_any b W (by unfold maxLen; omega)).mono fun _ _ h2 => ⟨by rw [h2.1, h], 0, h2.2.symm⟩
theorem clash_is (a b : ByteArray) (v : Bool) (h : clash a.data.toList b.data.toList = v) (ha : 0 < a.size) (hb : 0 < b.size) (W : World) : Calls Try.prog 30 #[.string a, .string b] W fun e w' => e = .returned (.bool v) ∧ ∃ m, w' = W.drewN m := h ▸ l11Clash_any a b ha hb W
theorem treeOkS_any (w : World) (v : Value) (l : List Fil) (hl : Lp w w.heap.size v (fvals l)) (hn : l.length ≤ 1048600) (hs : ∀ s ∈ l, s.1.size ≤ 1048600 ∧ s.2.size ≤ 1048600) :
    Calls Try.prog 13 #[v] w fun e w' => e = .returned (.bool (treeB l)) ∧ ∃ n, w' = w.drewN n := by
  obtain ⟨A, c, rfl, hc, hx⟩ := hl
  rw [fvals_length] at *
  have HX := Lib.hid hx
  have HSZ := Lib.hid hs
  clear hx hs
  obtain ⟨n, hnn⟩ : ∃ n, l.length = n := ⟨_, rfl⟩
  have HN := Lib.hid hnn
  rw [hnn] at hn hc ⊢
  clear hnn
  go_enter Try.func13, Try.ntmps13
  go_wp2_with fail
  go_loopw [3] (fun i wr => ∃ k m : Nat, k ≤ n ∧ i = .int .i64 (k : Int) ∧ okTo l k = true ∧ wr = w.drewN m) (fun i _ => n - (intOf i).toNat)
  case atStart => exact ⟨0, 0, Nat.zero_le _, rfl, rfl, rfl⟩
  case round =>
    obtain ⟨k, m0, hk, rfl, ht, rfl⟩ := hrel
    have HT := Lib.hid ht
    clear ht
    by_cases hlt : k < n
    · obtain ⟨⟨a, b⟩, hs⟩ : ∃ s, l[k]? = some s := ⟨_, List.getElem?_eq_getElem (by have := HN.out; omega)⟩
      obtain ⟨g, off, rfl, hg, hcg⟩ := HX.out (by have := HN.out; omega)
      obtain ⟨hc1, hc2⟩ := hcg k _ (fvals_get hs)
      have HS := Lib.hid hs
      have HCG := Lib.hid hcg
      have HSS := Lib.hid (HSZ.out _ (List.mem_of_getElem? hs))
      have HKL := Lib.hid (show k < l.length by rw [HN.out]; exact hlt)
      clear hs hcg
      have hi1 : (k : Int) < (n : Int) := by omega
      have hi0 : (0 : Int) ≤ (k : Int) := by omega
      cases hp : pathB (pth (a, b)) with
      | false =>
        have HF := Lib.hid (tree_no HKL.out (okF_path HS.out hp))
        have HP := Lib.hid (fun W => path_is a false hp W)
        clear hp
        go_wp2_with fail
        go_quiet ((go_at_call 9; exact quiet_plus (HP.out _)))
        go_wp2
        go_ret
        exact ⟨ret_bool HF.out.symm, ex_d _ _ _⟩
      | true =>
        have HPT := Lib.hid hp
        have HP := Lib.hid (fun W => path_is a true hp W)
        clear hp
        cases htx : textB b.data.toList with
        | false =>
          have HF := Lib.hid (tree_no HKL.out (okF_text HS.out htx))
          have HX2 := Lib.hid (fun W => text_isS b false htx HSS.out.2 W)
          clear htx
          go_wp2_with fail
          go_quiet (first | (go_at_call 9; exact quiet_plus (HP.out _)) | (go_at_call 29; exact quiet_plus (HX2.out _)))
          go_wp2
          go_ret
          exact ⟨ret_bool HF.out.symm, ex_d _ _ _⟩
        | true =>
          have HTX := Lib.hid htx
          have HX2 := Lib.hid (fun W => text_isS b true htx HSS.out.2 W)
          clear htx
          rcases Nat.eq_zero_or_pos k with h0 | h0
          · have hdk : decide (0 < k) = false := decide_eq_false (by omega)
            have HLS := Lib.hid (show ∀ j p, k = j + 1 → l[j]? = some p → Op.bytesLess (pth p) (pth (a, b)) = true from fun j p e _ => by omega)
            clear h0
            go_wp2_with fail
            go_quiet (first | (go_at_call 9; exact quiet_plus (HP.out _)) | (go_at_call 29; exact quiet_plus (HX2.out _)))
            go_wp2_with fail
            go_loopw [4] (fun q wr => ∃ i m : Nat, i ≤ k ∧ q = .int .i64 (i : Int) ∧ (l.take i).all (fun g => !clash (pth g) (pth (a, b))) = true ∧ wr = w.drewN m) (fun q _ => k - (intOf q).toNat)
            case atStart =>
              obtain ⟨kk, hkk⟩ := ex_d w m0 nq
              exact ⟨0, kk, Nat.zero_le _, rfl, rfl, hkk⟩
            case round =>
              obtain ⟨i, m1, hik, rfl, hall, rfl⟩ := hrel
              have HA := Lib.hid hall
              clear hall
              by_cases hik2 : i < k
              · obtain ⟨⟨c', d'⟩, hq⟩ : ∃ s, l[i]? = some s := ⟨_, List.getElem?_eq_getElem (by have := HN.out; omega)⟩
                have hcq := (HCG.out i _ (fvals_get hq)).1
                have hq1 : (i : Int) < (k : Int) := by omega
                have hq0 : (0 : Int) ≤ (i : Int) := by omega
                have hq2 : (i : Int) < (n : Int) := by omega
                have HPP := Lib.hid (size_pos (okF_parts hq (okTo_of HT.out hik2)).1)
                have HPA := Lib.hid (size_pos HPT.out)
                have HQ := Lib.hid hq
                clear hq
                cases hcl : clash (pth (c', d')) (pth (a, b)) with
                | false =>
                  have HCL := Lib.hid (fun W => clash_is c' a false hcl HPP.out HPA.out W)
                  have HA2 := Lib.hid (show (l.take (i + 1)).all (fun g => !clash (pth g) (pth (a, b))) = true by
                    rw [List.take_add_one, HQ.out, List.all_append, HA.out]; simp [hcl])
                  clear hcl
                  go_wp2_with fail
                  go_quiet ((go_at_call 30; exact quiet_plus (HCL.out _)))
                  go_wp2
                  go_roundw
                  case rel => exact ⟨i + 1, _, by omega, by go_num, HA2.out, rfl⟩
                  case measure => simp [intOf]; omega
                | true =>
                  have HCL := Lib.hid (fun W => clash_is c' a true hcl HPP.out HPA.out W)
                  have HF := Lib.hid (tree_no HKL.out (show okF l k = false by
                    rw [okF_eq HS.out HPT.out HTX.out HLS.out, List.all_eq_false]
                    exact ⟨(c', d'), List.mem_of_getElem? (by rw [List.getElem?_take_of_lt hik2]; exact HQ.out), by simp [hcl]⟩))
                  clear hcl
                  go_wp2_with fail
                  go_quiet ((go_at_call 30; exact quiet_plus (HCL.out _)))
                  go_wp2
                  go_ret
                  exact ⟨ret_bool HF.out.symm, ex_d _ _ _⟩
              · have HOK := Lib.hid (show okTo l (k + 1) = true by
                  rw [okTo_succ, HT.out, okF_eq HS.out HPT.out HTX.out HLS.out, ← show i = k by omega, HA.out]; rfl)
                go_wp2
                go_roundw
                case rel => exact ⟨k + 1, _, by omega, by go_num, HOK.out, rfl⟩
                case measure => simp [intOf]; omega
          · obtain ⟨j, hj⟩ : ∃ j, k = j + 1 := ⟨k - 1, by omega⟩
            obtain ⟨⟨a', b'⟩, hs'⟩ : ∃ s, l[j]? = some s := ⟨_, List.getElem?_eq_getElem (by have := HN.out; omega)⟩
            have hP := (HCG.out j _ (fvals_get hs')).1
            have hw : IntKind.i64.wrap ((k : Int) - 1) = (j : Int) := by rw [IntKind.wrap_i64]; omega
            have hm0 : (0 : Int) ≤ (j : Int) := by omega
            have hmn : (j : Int) < (n : Int) := by omega
            have hk0 : (0 : Int) < (k : Int) := by omega
            have hdk : decide (0 < k) = true := decide_eq_true h0
            have HS' := Lib.hid hs'
            have HJ := Lib.hid hj
            clear hs' hj h0
            cases hbl : Op.bytesLess a'.toList a.toList with
            | false =>
              have HF := Lib.hid (show treeB l = false from tree_no HKL.out (by
                have hj := HJ.out
                have hs := HS.out
                rw [hj] at hs ⊢
                exact okF_less hs HS'.out (by rw [← hbl, ByteArray.toList_eq, ByteArray.toList_eq])))
              go_wp2_with fail
              go_quiet (first | (go_at_call 9; exact quiet_plus (HP.out _)) | (go_at_call 29; exact quiet_plus (HX2.out _)))
              go_wp2
              go_ret
              exact ⟨ret_bool HF.out.symm, ex_d _ _ _⟩
            | true =>
              have HLS := Lib.hid (show ∀ j p, k = j + 1 → l[j]? = some p → Op.bytesLess (pth p) (pth (a, b)) = true from fun j2 p e hp => by
                have e2 : j2 = j := by have := HJ.out; omega
                subst e2
                rw [HS'.out] at hp
                injection hp with hp
                subst hp
                rw [← hbl, ByteArray.toList_eq, ByteArray.toList_eq])
              go_wp2_with fail
              go_quiet (first | (go_at_call 9; exact quiet_plus (HP.out _)) | (go_at_call 29; exact quiet_plus (HX2.out _)))
              go_wp2_with fail
              go_loopw [4] (fun q wr => ∃ i m : Nat, i ≤ k ∧ q = .int .i64 (i : Int) ∧ (l.take i).all (fun g => !clash (pth g) (pth (a, b))) = true ∧ wr = w.drewN m) (fun q _ => k - (intOf q).toNat)
              case atStart =>
                obtain ⟨kk, hkk⟩ := ex_d w m0 nq
                exact ⟨0, kk, Nat.zero_le _, rfl, rfl, hkk⟩
              case round =>
                obtain ⟨i, m1, hik, rfl, hall, rfl⟩ := hrel
                have HA := Lib.hid hall
                clear hall
                by_cases hik2 : i < k
                · obtain ⟨⟨c', d'⟩, hq⟩ : ∃ s, l[i]? = some s := ⟨_, List.getElem?_eq_getElem (by have := HN.out; omega)⟩
                  have hcq := (HCG.out i _ (fvals_get hq)).1
                  have hq1 : (i : Int) < (k : Int) := by omega
                  have hq0 : (0 : Int) ≤ (i : Int) := by omega
                  have hq2 : (i : Int) < (n : Int) := by omega
                  have HPP := Lib.hid (size_pos (okF_parts hq (okTo_of HT.out hik2)).1)
                  have HPA := Lib.hid (size_pos HPT.out)
                  have HQ := Lib.hid hq
                  clear hq
                  cases hcl : clash (pth (c', d')) (pth (a, b)) with
                  | false =>
                    have HCL := Lib.hid (fun W => clash_is c' a false hcl HPP.out HPA.out W)
                    have HA2 := Lib.hid (show (l.take (i + 1)).all (fun g => !clash (pth g) (pth (a, b))) = true by
                      rw [List.take_add_one, HQ.out, List.all_append, HA.out]; simp [hcl])
                    clear hcl
                    go_wp2_with fail
                    go_quiet ((go_at_call 30; exact quiet_plus (HCL.out _)))
                    go_wp2
                    go_roundw
                    case rel => exact ⟨i + 1, _, by omega, by go_num, HA2.out, rfl⟩
                    case measure => simp [intOf]; omega
                  | true =>
                    have HCL := Lib.hid (fun W => clash_is c' a true hcl HPP.out HPA.out W)
                    have HF := Lib.hid (tree_no HKL.out (show okF l k = false by
                      rw [okF_eq HS.out HPT.out HTX.out HLS.out, List.all_eq_false]
                      exact ⟨(c', d'), List.mem_of_getElem? (by rw [List.getElem?_take_of_lt hik2]; exact HQ.out), by simp [hcl]⟩))
                    clear hcl
                    go_wp2_with fail
                    go_quiet ((go_at_call 30; exact quiet_plus (HCL.out _)))
                    go_wp2
                    go_ret
                    exact ⟨ret_bool HF.out.symm, ex_d _ _ _⟩
                · have HOK := Lib.hid (show okTo l (k + 1) = true by
                    rw [okTo_succ, HT.out, okF_eq HS.out HPT.out HTX.out HLS.out, ← show i = k by omega, HA.out]; rfl)
                  go_wp2
                  go_roundw
                  case rel => exact ⟨k + 1, _, by omega, by go_num, HOK.out, rfl⟩
                  case measure => simp [intOf]; omega
    · have HF := Lib.hid (show treeB l = decide (n ≤ 6) by
        have h1 := HT.out
        rw [show k = l.length by have := HN.out; omega] at h1
        unfold treeB
        rw [h1, HN.out]
        rfl)
      have hi1 : ¬ (k : Int) < (n : Int) := by omega
      go_wp2
      go_ret
      exact ⟨ret_bool (by rw [HF.out]; simp; omega), _, rfl⟩
end
end Go.Proofs.Ytndiofhinlogmaa
