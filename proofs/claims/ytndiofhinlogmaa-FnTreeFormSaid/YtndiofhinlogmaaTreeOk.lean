/- Whether files are a tree, in the program. -/
import Derived.Test.YtndiofhinlogmaaContains
namespace Go.Proofs.Ytndiofhinlogmaa
open Go.RowKit
theorem lp_take {w : World} {B n c k : Nat} {A : Option Addr} {l : List (Value × Value)} (h : Lp w B (.slice A n c) l) (hk : k ≤ n) : Lp w B (.slice A k c) (l.take k) := by
  obtain ⟨A', c', hv, hc, hx⟩ := h
  cases hv
  have e : (l.take k).length = k := by rw [List.length_take]; omega
  refine ⟨_, _, by rw [e], by omega, fun h0 => ?_⟩
  obtain ⟨g, off, hA, hg, hcell⟩ := hx (by omega)
  exact ⟨g, off, hA, hg, fun j s hj => hcell j s (by rw [List.getElem?_take_of_lt (by have := (List.getElem?_eq_some_iff.1 hj).1; omega)] at hj; exact hj)⟩
theorem new_cellF (w : World) (cs : Array Value) (T : TypeId) (j : Nat) (v : Value) (h : cs[j]? = some v) (n : Nat) (os : Array Obj) : (Sort.grow ((w.alloc (.cells cs T)).drewN n) os).cell? ⟨w.heap.size, j, none⟩ = some v :=
  cell_grown (by simp) (by rw [cell_of_row (w.alloc (.cells cs T)) w.heap.size j cs T (0, 0) (heap_alloc_new w _)]; exact h) n os
theorem old_cellF {w : World} {o : Obj} {a : Addr} {v : Value} (hb : a.block < w.heap.size) (h : w.cell? a = some v) (n : Nat) (os : Array Obj) : (Sort.grow ((w.alloc o).drewN n) os).cell? a = some v :=
  cell_grown (by simp; omega) ((World.cell?_alloc_lt w o a hb).trans h) n os
section
set_option maxHeartbeats 1600000
theorem path_isG (a : ByteArray) (v : Bool) (h : pathB a.data.toList = v) (hs : a.size ≤ 1048600) {w : World} {n : Nat} {os : Array Obj} (mx : Mx (Sort.grow (w.drewN n) os)) :
    Calls Try.prog 10 #[.string a] (Sort.grow (w.drewN n) os) fun e w'' => e = .returned (.bool v) ∧ ∃ p : GrownBy, w'' = Sort.grow (w.drewN p.n) p.os :=
  Calls.grown_of ((pathOk_any a _ hs mx).mono fun _ _ ⟨h1, m, h2⟩ => ⟨by rw [h1, h], m, #[], by rw [h2, Sort.grow_empty]⟩)
theorem text_isG (b : ByteArray) (v : Bool) (h : textB b.data.toList = v) (hs : b.size ≤ 1048600) {w : World} {n : Nat} {os : Array Obj} :
    Calls Try.prog 32 #[.string b] (Sort.grow (w.drewN n) os) fun e w'' => e = .returned (.bool v) ∧ ∃ p : GrownBy, w'' = Sort.grow (w.drewN p.n) p.os :=
  (textOk_any b _ (by unfold maxLen; omega)).mono fun _ _ ⟨h1, h2⟩ => ⟨by rw [h1, h], ⟨n, os⟩, h2.symm⟩
theorem treeOk_any (w : World) (v : Value) (l : List Fil) (hl : Lp w w.heap.size v (fvals l)) (hn : l.length ≤ 1048600) (hs : ∀ s ∈ l, s.1.size ≤ 1048600 ∧ s.2.size ≤ 1048600) (mx : Mx w) :
    Calls Try.prog 15 #[v] w fun e w' => e = .returned (.bool (treeB l)) ∧ Below w.heap.size w w' := by
  obtain ⟨A, c, rfl, hc, hx⟩ := hl
  rw [fvals_length] at *
  have HX := Lib.hid hx
  have HSZ := Lib.hid hs
  have MX := Lib.hid mx
  clear hs mx
  obtain ⟨n, hnn⟩ : ∃ n, l.length = n := ⟨_, rfl⟩
  have HN := Lib.hid hnn
  have HLP := Lib.hid (show Lp w w.heap.size (.slice A n c) (fvals l) from ⟨A, c, by rw [fvals_length, hnn], by rw [fvals_length]; exact hc, by rw [fvals_length]; exact hx⟩)
  rw [hnn] at hn hc ⊢
  clear hnn hx
  have mixed := mixedO
  go_enter Try.func15, Try.ntmps15
  go_wp2_with fail
  go_loopw [7] (fun i wr => ∃ k : Nat, k ≤ n ∧ i = .int .i64 (k : Int) ∧ okTo l k = true ∧ Below w.heap.size w wr) (fun i _ => n - (intOf i).toNat)
  case atStart => exact ⟨0, Nat.zero_le _, rfl, rfl, Below.refl _ _⟩
  case round =>
    obtain ⟨k, hk, rfl, ht, hb⟩ := hrel
    have HT := Lib.hid ht
    have HB := Lib.hid hb
    clear ht hb
    by_cases hlt : k < n
    · obtain ⟨⟨a, b⟩, hs⟩ : ∃ s, l[k]? = some s := ⟨_, List.getElem?_eq_getElem (by have := HN.out; omega)⟩
      obtain ⟨g, off, rfl, hg, hcg⟩ := HX.out (by have := HN.out; omega)
      obtain ⟨h1, h2⟩ := hcg k _ (fvals_get hs)
      have hc1 := (HB.out.cell (p := ⟨g, off + k * 2, none⟩) hg).trans h1
      have hc2 := (HB.out.cell (p := ⟨g, off + k * 2 + 1, none⟩) hg).trans h2
      have hgr : g < wr.heap.size := Nat.lt_of_lt_of_le hg HB.out.size
      have HS := Lib.hid hs
      have HCG := Lib.hid hcg
      have HSS := Lib.hid (HSZ.out _ (List.mem_of_getElem? hs))
      have HKL := Lib.hid (show k < l.length by rw [HN.out]; exact hlt)
      clear h1 h2 hs hcg
      have hi1 : (k : Int) < (n : Int) := by omega
      have hi0 : (0 : Int) ≤ (k : Int) := by omega
      have hkc : (k : Int) ≤ (c : Int) := by omega
      have hA := new_cellF wr #[.string a, .string b] 38 0 _ rfl
      have hB := new_cellF wr #[.string a, .string b] 38 1 _ rfl
      have HA := Lib.hid hA
      have HBW := Lib.hid (fun (n : Nat) (os : Array Obj) => below_grow (HB.out.alloc HB.out.size (.cells #[.string a, .string b] 38)) (by simp; have := HB.out.size; omega) n os)
      have HMX := Lib.hid (fun (n : Nat) (os : Array Obj) => MX.out.next (HBW.out n os))
      cases hp : pathB (pth (a, b)) with
      | false =>
        have HF := Lib.hid (tree_no HKL.out (okF_path HS.out hp))
        have HP := Lib.hid (fun (n : Nat) (os : Array Obj) => path_isG a false hp HSS.out.1 (HMX.out n os))
        clear hp
        go_wp2_with fail
        refine wp_region_quiet_grown (by assumption) (by kernel_rfl) ?_
        repeat (first | go_big_quiet_skip | quiet_step (first | (go_at_call 10; exact HP.out _ _)))
        refine wpQuiet_nil ?_
        intro _ hw'
        obtain ⟨⟨nq, osq⟩, hw''⟩ := hw'
        subst hw''
        go_wp2
        go_ret
        exact ⟨ret_bool HF.out.symm, HBW.out _ _⟩
      | true =>
        have HPT := Lib.hid hp
        have HP := Lib.hid (fun (n : Nat) (os : Array Obj) => path_isG a true hp HSS.out.1 (HMX.out n os))
        clear hp
        cases htx : textB b.data.toList with
        | false =>
          have HF := Lib.hid (tree_no HKL.out (okF_text HS.out htx))
          have HX2 := Lib.hid (fun (n : Nat) (os : Array Obj) => text_isG b false htx HSS.out.2 (w := wr.alloc (.cells #[.string a, .string b] 38)) (n := n) (os := os))
          clear htx
          go_wp2_with fail
          refine wp_region_quiet_grown (by assumption) (by kernel_rfl) ?_
          repeat (first | go_big_quiet_skip | quiet_step (first | first | (go_at_call 10; exact HP.out _ _) | (go_at_call 32; exact HX2.out _ _)))
          refine wpQuiet_nil ?_
          intro _ hw'
          obtain ⟨⟨nq, osq⟩, hw''⟩ := hw'
          subst hw''
          go_wp2
          go_ret
          exact ⟨ret_bool HF.out.symm, HBW.out _ _⟩
        | true =>
          have HTX := Lib.hid htx
          have HX2 := Lib.hid (fun (n : Nat) (os : Array Obj) => text_isG b true htx HSS.out.2 (w := wr.alloc (.cells #[.string a, .string b] 38)) (n := n) (os := os))
          clear htx
          rcases Nat.eq_zero_or_pos k with h0 | h0
          · have hdk : decide (0 < k) = false := decide_eq_false (by omega)
            have HLS := Lib.hid (show ∀ j p, k = j + 1 → l[j]? = some p → Op.bytesLess (pth p) (pth (a, b)) = true from fun j p e _ => by omega)
            clear h0
            go_wp2_with fail
            refine wp_region_quiet_grown (by assumption) (by kernel_rfl) ?_
            repeat (first | go_big_quiet_skip | quiet_step (first | first | (go_at_call 10; exact HP.out _ _) | (go_at_call 32; exact HX2.out _ _)))
            refine wpQuiet_nil ?_
            intro _ hw'
            obtain ⟨⟨nq, osq⟩, hw''⟩ := hw'
            subst hw''
            have HM := Lib.hid (HBW.out nq osq)
            have HLT := Lib.hid (lp_next (lp_take HLP.out (show k ≤ n by omega)) HM.out)
            have HCF := Lib.hid (containsFunc_any _ _ (l.take k) wr.heap.size (fun x => under (pth x) (pth (a, b))) (by rw [fvals_take]; exact HLT.out) (by rw [List.length_take]; omega)
              (fun W x hx hbw => closure_any (a, b) x wr.heap.size (HSZ.out x (List.mem_of_mem_take hx)).1 W (by have := hbw.size; simp at this; omega) ((hbw.cell (p := ⟨wr.heap.size, 0, none⟩) (by simp; omega)).trans (HA.out nq osq))))
            have HU := Lib.hid (under_all HS.out HT.out HPT.out HLS.out)
            cases hall : (l.take k).all (fun g => !clash (pth g) (pth (a, b))) with
            | true =>
              have HOK := Lib.hid (show okTo l (k + 1) = true by rw [okTo_succ, HT.out, okF_eq HS.out HPT.out HTX.out HLS.out, hall]; rfl)
              have HU2 := Lib.hid (show (l.take k).any (fun x => under (pth x) (pth (a, b))) = false by rw [HU.out, hall]; rfl)
              clear hall
              go_wp2_with fail
              refine HCF.out.mono ?_
              rw [HU2.out]
              rintro e w' ⟨rfl, hb⟩
              have HB2 := Lib.hid (bel2 HM.out hb)
              clear hb
              go_wp2
              go_roundw
              case rel => exact ⟨k + 1, by omega, by go_num, HOK.out, HB2.out⟩
              case measure => simp [intOf]; omega
            | false =>
              have HF := Lib.hid (tree_no HKL.out (show okF l k = false by rw [okF_eq HS.out HPT.out HTX.out HLS.out, hall]))
              have HU2 := Lib.hid (show (l.take k).any (fun x => under (pth x) (pth (a, b))) = true by rw [HU.out, hall]; rfl)
              clear hall
              go_wp2_with fail
              refine HCF.out.mono ?_
              rw [HU2.out]
              rintro e w' ⟨rfl, hb⟩
              have HB2 := Lib.hid (bel2 HM.out hb)
              clear hb
              go_wp2
              go_ret
              exact ⟨ret_bool HF.out.symm, HB2.out⟩
          · obtain ⟨j, hj⟩ : ∃ j, k = j + 1 := ⟨k - 1, by omega⟩
            obtain ⟨⟨a', b'⟩, hs'⟩ : ∃ s, l[j]? = some s := ⟨_, List.getElem?_eq_getElem (by have := HN.out; omega)⟩
            have hP := old_cellF (o := .cells #[.string a, .string b] 38) (a := ⟨g, off + j * 2, none⟩) hgr ((HB.out.cell (p := ⟨g, off + j * 2, none⟩) hg).trans (HCG.out j _ (fvals_get hs')).1)
            have hw : IntKind.i64.wrap ((k : Int) - 1) = (j : Int) := by rw [IntKind.wrap_i64]; omega
            have hm0 : (0 : Int) ≤ (j : Int) := by omega
            have hmn : (j : Int) < (n : Int) := by omega
            have hk0 : (0 : Int) < (k : Int) := by omega
            have hdk : decide (0 < k) = true := decide_eq_true h0
            have HS' := Lib.hid hs'
            have HJ := Lib.hid hj
            clear hs' hj h0
            cases hbl : Op.bytesLess a'.toList a.toList with
            | false =>
              have HF := Lib.hid (show treeB l = false from tree_no HKL.out (by
                have hj := HJ.out
                have hs := HS.out
                rw [hj] at hs ⊢
                exact okF_less hs HS'.out (by rw [← hbl, ByteArray.toList_eq, ByteArray.toList_eq])))
              have hle : (Op.bytesLess a.toList a'.toList || a.toList == a'.toList) = true := (bl_tri a.toList a'.toList).trans (by rw [hbl]; rfl)
              clear hbl
              go_wp2_with fail
              refine wp_region_quiet_grown (by assumption) (by kernel_rfl) ?_
              repeat (first | go_big_quiet_skip | quiet_step (first | first | (go_at_call 10; exact HP.out _ _) | (go_at_call 32; exact HX2.out _ _)))
              refine wpQuiet_nil ?_
              intro _ hw'
              obtain ⟨⟨nq, osq⟩, hw''⟩ := hw'
              subst hw''
              go_wp2
              go_ret
              exact ⟨ret_bool HF.out.symm, HBW.out _ _⟩
            | true =>
              have HLS := Lib.hid (show ∀ j p, k = j + 1 → l[j]? = some p → Op.bytesLess (pth p) (pth (a, b)) = true from fun j2 p e hp => by
                have e2 : j2 = j := by have := HJ.out; omega
                subst e2
                rw [HS'.out] at hp
                injection hp with hp
                subst hp
                rw [← hbl, ByteArray.toList_eq, ByteArray.toList_eq])
              have hle : (Op.bytesLess a.toList a'.toList || a.toList == a'.toList) = false := (bl_tri a.toList a'.toList).trans (by rw [hbl]; rfl)
              clear hbl
              go_wp2_with fail
              refine wp_region_quiet_grown (by assumption) (by kernel_rfl) ?_
              repeat (first | go_big_quiet_skip | quiet_step (first | first | (go_at_call 10; exact HP.out _ _) | (go_at_call 32; exact HX2.out _ _)))
              refine wpQuiet_nil ?_
              intro _ hw'
              obtain ⟨⟨nq, osq⟩, hw''⟩ := hw'
              subst hw''
              have HM := Lib.hid (HBW.out nq osq)
              have HLT := Lib.hid (lp_next (lp_take HLP.out (show k ≤ n by omega)) HM.out)
              have HCF := Lib.hid (containsFunc_any _ _ (l.take k) wr.heap.size (fun x => under (pth x) (pth (a, b))) (by rw [fvals_take]; exact HLT.out) (by rw [List.length_take]; omega)
                (fun W x hx hbw => closure_any (a, b) x wr.heap.size (HSZ.out x (List.mem_of_mem_take hx)).1 W (by have := hbw.size; simp at this; omega) ((hbw.cell (p := ⟨wr.heap.size, 0, none⟩) (by simp; omega)).trans (HA.out nq osq))))
              have HU := Lib.hid (under_all HS.out HT.out HPT.out HLS.out)
              cases hall : (l.take k).all (fun g => !clash (pth g) (pth (a, b))) with
              | true =>
                have HOK := Lib.hid (show okTo l (k + 1) = true by rw [okTo_succ, HT.out, okF_eq HS.out HPT.out HTX.out HLS.out, hall]; rfl)
                have HU2 := Lib.hid (show (l.take k).any (fun x => under (pth x) (pth (a, b))) = false by rw [HU.out, hall]; rfl)
                clear hall
                go_wp2_with fail
                refine HCF.out.mono ?_
                rw [HU2.out]
                rintro e w' ⟨rfl, hb⟩
                have HB2 := Lib.hid (bel2 HM.out hb)
                clear hb
                go_wp2
                go_roundw
                case rel => exact ⟨k + 1, by omega, by go_num, HOK.out, HB2.out⟩
                case measure => simp [intOf]; omega
              | false =>
                have HF := Lib.hid (tree_no HKL.out (show okF l k = false by rw [okF_eq HS.out HPT.out HTX.out HLS.out, hall]))
                have HU2 := Lib.hid (show (l.take k).any (fun x => under (pth x) (pth (a, b))) = true by rw [HU.out, hall]; rfl)
                clear hall
                go_wp2_with fail
                refine HCF.out.mono ?_
                rw [HU2.out]
                rintro e w' ⟨rfl, hb⟩
                have HB2 := Lib.hid (bel2 HM.out hb)
                clear hb
                go_wp2
                go_ret
                exact ⟨ret_bool HF.out.symm, HB2.out⟩
    · have HF := Lib.hid (show treeB l = decide (n ≤ 6) by
        have h1 := HT.out
        rw [show k = l.length by have := HN.out; omega] at h1
        unfold treeB
        rw [h1, HN.out]
        rfl)
      have hi1 : ¬ (k : Int) < (n : Int) := by omega
      go_wp2
      go_ret
      exact ⟨ret_bool (by rw [HF.out]; simp; omega), HB.out⟩
end
end Go.Proofs.Ytndiofhinlogmaa
