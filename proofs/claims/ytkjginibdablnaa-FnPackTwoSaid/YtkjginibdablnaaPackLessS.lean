/- A pack of what is wanted alone, in the reference. -/
import Derived.Test.YtkjginibdablnaaPackLess
import Derived.Deep.RegionLaw
namespace Go.Proofs.Ytkjginibdablnaa
open Go.RowKit
theorem cell_alI {w : World} {a : Addr} {v : Value} (h : w.cell? a = some v) (o : Obj) : (w.alloc o).cell? a = some v := by
  refine (World.cell?_alloc_lt w o a ?_).trans h
  rcases Nat.lt_or_ge a.block w.heap.size with h' | h'
  · exact h'
  · simp [World.cell?, Array.getElem?_eq_none h'] at h
theorem ownP_set_ne {T B b : Nat} {w : World} {v : Value} {l : List (Value × Value)} (h : OwnP T B w v l) (hb : v.ownBlock ≠ some b) (i : Nat) (u : Value) : OwnP T B (w.setCell ⟨b, i, none⟩ u) v l := h.kept (grown_setCell w b i u) (.inr hb)
section
set_option maxHeartbeats 1600000
theorem packLessS_any (w : World) (no : Int) (v vn : Value) (l : List Itm) (ns : List Int) (hl : Lp w w.heap.size v (ivals l)) (hns : Lst w w.heap.size vn (intVals ns)) (hn : l.length ≤ 1048600) (hz : ns.length ≤ 1000000000) :
    Calls Try.prog 16 #[packV no v, vn] w fun e w' => ∃ v', e = .returned (packV no v') ∧ OwnP 45 w.heap.size w' v' (ivals (lessL l ns)) ∧ Below w.heap.size w w' := by
  obtain ⟨i0, hi, hz0, hz1, hz2⟩ := infoItem_parts
  obtain ⟨A, c, hv⟩ := lp_form hl
  subst hv
  obtain ⟨An, cn, hvn⟩ : ∃ A c, vn = .slice A ns.length c := by
    obtain ⟨A, c, h, _⟩ := hns
    exact ⟨A, c, by rw [h, intVals_length]⟩
  subst hvn
  obtain ⟨W1, hW1⟩ : ∃ W, W = (w.alloc (.cells #[.int .i64 no, .slice A (ivals l).length c] 30)).alloc (.cells #[.int .i64 0, .slice none 0 0] 30) := ⟨_, rfl⟩
  have hs1 : W1.heap.size = w.heap.size + 2 := by rw [hW1]; simp
  have HS1 := Lib.hid hs1
  have hb1 : Below w.heap.size w W1 := by rw [hW1]; exact ((Below.refl _ _).alloc (Nat.le_refl _) _).alloc (by simp) _
  have HB1 := Lib.hid hb1
  have t1 : Two W1 (w.heap.size + 1) 30 (.int .i64 0) (.slice none 0 0) := by
    rw [hW1]
    have := two_new (w.alloc (.cells #[.int .i64 no, .slice A (ivals l).length c] 30)) (.int .i64 0) (.slice none 0 0) 30
    simpa using this
  obtain ⟨X2, hX2⟩ : ∃ X, X = W1.alloc (.cells #[] 45) := ⟨_, rfl⟩
  have hs2 : X2.heap.size = w.heap.size + 3 := by rw [hX2]; simp; omega
  have hb2 : Below W1.heap.size W1 X2 := by rw [hX2]; exact (Below.refl _ _).alloc (Nat.le_refl _) _
  obtain ⟨X, hX⟩ : ∃ X, X = X2.alloc (.cells #[.int .i64 no, .slice (some ⟨w.heap.size + 2, 0, none⟩) 0 0] 30) := ⟨_, rfl⟩
  have hxs : X.heap.size = w.heap.size + 4 := by rw [hX]; simp; omega
  have HE0 := Lib.hid (show OwnP 45 W1.heap.size X (.slice (some ⟨w.heap.size + 2, 0, none⟩) 0 0) [] by
    have h := ownP_empty 45 W1
    rw [← hX2] at h
    rw [hX, ← hs1]
    exact ownP_below h ((Below.refl _ _).alloc (Nat.le_refl _) _))
  have HXS := Lib.hid hxs
  have T2 := Lib.hid (show Two X (w.heap.size + 3) 30 (.int .i64 no) (.slice (some ⟨w.heap.size + 2, 0, none⟩) 0 0) by rw [hX, ← hs2]; exact two_new _ _ _ _)
  have HBX := Lib.hid (show Below W1.heap.size W1 X by rw [hX]; exact hb2.alloc hb2.size _)
  have HT1 := Lib.hid t1
  have HL := Lib.hid (lp_next hl hb1)
  have HNS := Lib.hid (lst_next hns hb1)
  have HBOX := Lib.hid (show ∀ Z : World, Below W1.heap.size W1 Z → Below (w.heap.size + 1) (w.alloc (.cells #[.int .i64 no, .slice A (ivals l).length c] 30)) Z from fun Z hZ => (show Below (w.heap.size + 1) (w.alloc (.cells #[.int .i64 no, .slice A (ivals l).length c] 30)) W1 by rw [hW1]; exact (Below.refl _ _).alloc (by simp) _).trans (hZ.mono (by omega)))
  have HXE := Lib.hid (show X = (((w.alloc (.cells #[.int .i64 no, .slice A (ivals l).length c] 30)).alloc (.cells #[.int .i64 0, .slice none 0 0] 30)).alloc (.cells #[] 45)).alloc (.cells #[.int .i64 no, .slice (some ⟨w.heap.size + 2, 0, none⟩) 0 0] 30) by rw [hX, hX2, hW1])
  rw [ivals_length] at *
  obtain ⟨n, hnn⟩ : ∃ n, l.length = n := ⟨_, rfl⟩
  have HN := Lib.hid hnn
  obtain ⟨nn, hnm⟩ : ∃ n, ns.length = n := ⟨_, rfl⟩
  have HNN := Lib.hid hnm
  rw [hnn] at hn HL HXE HBOX ⊢
  rw [hnm] at hz HNS ⊢
  clear hnn hl hns hW1 hX hX2 hs1 hs2 hb1 hb2 t1 hxs hnm
  go_enter Try.func16, Try.ntmps16
  go_wp2_with fail
  rw [← HXE.out]
  obtain ⟨b2, hb2⟩ : ∃ b, b = w.heap.size + 3 := ⟨_, rfl⟩
  have HB2 := Lib.hid hb2
  have T2' : Hid (Two X b2 30 (.int .i64 no) (.slice (some ⟨w.heap.size + 2, 0, none⟩) 0 0)) := Lib.hid (by rw [hb2]; exact T2.out)
  rw [show w.heap.size + 1 + 1 + 1 = b2 by omega]
  clear hb2
  go_loopw [6] (fun i wr => ∃ (k : Nat) (o : Value), k ≤ n ∧ i = .int .i64 (k : Int) ∧ Two wr b2 30 (.int .i64 no) o ∧ OwnP 45 W1.heap.size wr o (ivals (lessL (l.take k) ns)) ∧ o.ownBlock ≠ some b2 ∧ Below W1.heap.size W1 wr ∧ X.heap.size ≤ wr.heap.size) (fun i _ => n - (intOf i).toNat)
  case atStart => exact ⟨0, _, Nat.zero_le _, rfl, T2'.out, HE0.out, (by simp only [Value.ownBlock]; intro e; injection e with e; have := HB2.out; omega), HBX.out, Nat.le_refl _⟩
  case round =>
    obtain ⟨k, o, hk, rfl, h2, ho, hne0, hb, hs⟩ := hrel
    have H2 := Lib.hid h2
    have HO := Lib.hid ho
    have HB := Lib.hid hb
    have HNE := Lib.hid hne0
    clear h2 ho hb hne0
    have hbx1 := box_cell w wr #[.int .i64 no, .slice A n c] 30 1 _ rfl (HBOX.out wr HB.out)
    by_cases hlt : k < n
    · obtain ⟨⟨a, b⟩, hsk⟩ : ∃ s, l[k]? = some s := ⟨_, List.getElem?_eq_getElem (by have := HN.out; omega)⟩
      obtain ⟨g, off, hA, hg, q1, q2⟩ := lp_at HL.out (ivals_get hsk)
      subst hA
      have HQ1 := Lib.hid q1
      have HQ2 := Lib.hid q2
      have HGl := Lib.hid hg
      have h1 := (HB.out.cell (p := ⟨g, off + k * 2, none⟩) hg).trans q1
      have h2 := (HB.out.cell (p := ⟨g, off + k * 2 + 1, none⟩) hg).trans q2
      have HT := Lib.hid (lessL_take (ns := ns) hsk)
      clear hsk hg q1 q2
      have hi1 : (k : Int) < (n : Int) := by omega
      have hi0 : (0 : Int) ≤ (k : Int) := by omega
      have HCO := Lib.hid (l3Has_any wr W1.heap.size (.slice An nn cn) ns a (lst_below HNS.out HB.out) (by rw [HNN.out]; exact hz))
      have hcell := H2.out.c1
      cases hco : ns.contains a with
      | false =>
        rw [hco] at HCO
        have HT2 := Lib.hid (show lessL (l.take (k + 1)) ns = lessL (l.take k) ns by rw [HT.out, hco]; rfl)
        clear hco hcell
        go_wp2_with fail
        refine HCO.out.mono ?_
        rintro e w' ⟨rfl, hw⟩
        rw [hw]
        clear hw
        go_wp2
        go_roundw
        case rel => exact ⟨k + 1, o, by omega, by go_num, H2.out, by rw [HT2.out]; exact HO.out, HNE.out, HB.out, hs⟩
        case measure => simp [intOf]; omega
      | true =>
        rw [hco] at HCO
        have HT2 := Lib.hid (show lessL (l.take (k + 1)) ns = lessL (l.take k) ns ++ [(a, b)] by rw [HT.out, hco]; rfl)
        have HLE := Lib.hid (show (lessL (l.take k) ns).length ≤ k from Nat.le_trans (lessL_le _ _) (List.length_take_le _ _))
        clear hco
        go_wp2_with fail
        refine HCO.out.mono ?_
        rintro e w' ⟨rfl, hw⟩
        rw [hw]
        clear hw
        obtain ⟨Y, hY⟩ : ∃ Y, Y = (wr.alloc (.cells #[.int .i64 a, .string b] 45)).drew := ⟨_, rfl⟩
        have hBY : Below wr.heap.size wr Y := by rw [hY]; have h := (Below.refl _ wr).alloc (Nat.le_refl _) (.cells #[.int .i64 a, .string b] 45); exact ⟨h.os, h.tape, h.output, h.size, h.block⟩
        have HBY := Lib.hid (show Below W1.heap.size W1 Y from bel2 HB.out hBY)
        have HOA := Lib.hid (ownP_below HO.out hBY)
        have HTY := Lib.hid (H2.out.keep (grown_of_bel hBY none) (by simp))
        have HNW := Lib.hid (show ∀ j u, (flat [(Value.int .i64 a, Value.string b)])[j]? = some u → Y.cell? ((⟨wr.heap.size, 0, none⟩ : Addr).add j) = some u from news_one wr Y _ _ 45 (by rw [hY]; have h := Below.refl (wr.heap.size + 1) (wr.alloc (.cells #[.int .i64 a, .string b] 45)); exact ⟨h.os, h.tape, h.output, h.size, h.block⟩))
        have HYS := Lib.hid (show Y.heap.size = wr.heap.size + 1 by rw [hY]; simp [World.drew])
        have HYE := Lib.hid hY
        clear hBY hY
        have z1 := cell_alI hcell (.cells #[.int .i64 a, .string b] 45)
        have z2 := cell_alI hbx1 (.cells #[.int .i64 a, .string b] 45)
        have z3 := cell_alI h1 (.cells #[.int .i64 a, .string b] 45)
        have z4 := cell_alI h2 (.cells #[.int .i64 a, .string b] 45)
        go_wp2_with fail
        go_region_law
          (first | (rw [← HYE.out]; refine step_append_r W1.heap.size Y (by rfl) _ _ 28 45 (by rfl) i0 _ 24 Try.underlying28 hi hz0 hz1 hz2 (by rfl) (by omega) o _ (by rfl) HOA.out HBY.out.size _ 1 1 [(.int .i64 a, .string b)] (by rfl) (by rfl) HNW.out (ones_twoI _ _ rfl rfl) (by rw [ivals_length]; have := HLE.out; simp; omega) ?_; intro v1 w1 ho1 hg1 hloc1; have HO1 := Lib.hid ho1; have HG1 := Lib.hid hg1; have HLOC := Lib.hid hloc1; clear ho1 hg1 hloc1; obtain ⟨g1, c1, hv1, _⟩ := own_someP HO1.out (by simp); have HV1 := Lib.hid (show v1 = .slice (some ⟨g1, 0, none⟩) ((ivals (lessL (l.take k) ns)).length + 1) c1 by rw [hv1, List.length_append]; rfl); clear hv1; have HT3 := Lib.hid (HTY.out.keep HG1.out (fun e => HNE.out e.symm)); rw [HV1.out]; have HBW := Lib.hid (bel_gb HBY.out HG1.out HBY.out.size (fun j hj => (ownP_lt HOA.out hj).1)); have hc3 := HT3.out.c1; have hf3 := HT3.out.f 1; have k2 := box_cell w w1 #[.int .i64 no, .slice (some ⟨g, off, none⟩) n c] 30 1 _ rfl (HBOX.out w1 HBW.out); have k3 := (HBW.out.cell (p := ⟨g, off + k * 2, none⟩) HGl.out).trans HQ1.out; have k4 := (HBW.out.cell (p := ⟨g, off + k * 2 + 1, none⟩) HGl.out).trans HQ2.out))
        all_goals
          have HOF := Lib.hid (show OwnP 45 W1.heap.size w1 (.slice (some ⟨g1, 0, none⟩) ((ivals (lessL (l.take k) ns)).length + 1) c1) (ivals (lessL (l.take (k + 1)) ns)) by rw [HT2.out, ivals_snoc, ← HV1.out]; exact HO1.out)
          have HNV := Lib.hid (show (Value.slice (some ⟨g1, 0, none⟩) ((ivals (lessL (l.take k) ns)).length + 1) c1).ownBlock ≠ some b2 by
            rw [← HV1.out]
            intro e
            rcases HLOC.out with h | h
            · exact HNE.out (h.symm.trans e)
            · rw [h] at e
              injection e with e
              have := HYS.out; have := HXS.out; have := HB2.out
              omega)
          have HSZ := Lib.hid (Nat.le_trans (show X.heap.size ≤ Y.heap.size by have := HYS.out; omega) HG1.out.size)
          go_wp2
          go_roundw
          case rel => exact ⟨k + 1, _, by omega, by go_num, HT3.out.set1 _, ownP_set_ne HOF.out HNV.out 1 _, HNV.out, HBW.out.setCell (by have := HS1.out; have := HB2.out; show W1.heap.size ≤ b2; omega) _, by have := HSZ.out; simpa using this⟩
          case measure => simp [intOf]; omega
    · have hkn : k = n := by omega
      subst hkn
      have HF := Lib.hid (show lessL (l.take k) ns = lessL l ns by rw [List.take_of_length_le (by rw [HN.out]; exact Nat.le_refl _)])
      obtain ⟨A', c', ho'⟩ := own_formP HO.out
      subst ho'
      rw [HF.out] at HO H2
      obtain ⟨m, hm⟩ : ∃ m, (ivals (lessL l ns)).length = m := ⟨_, rfl⟩
      have HM := Lib.hid hm
      have HT1w := Lib.hid (show Two wr (w.heap.size + 1) 30 (.int .i64 0) (.slice none 0 0) from (HB.out.block _ (by have := HS1.out; omega)).trans HT1.out)
      have f1 := H2.out.c0
      have f2 := H2.out.c1
      have f3 := HT1w.out.c0
      have f4 := HT1w.out.c1
      have f5 := HT1w.out.f 0
      have f6 := HT1w.out.f 1
      rw [hm] at f2
      clear hm
      go_wp2
      refine bodyPost_ret_by (v := packV no (.slice A' m c')) ?_ rfl ⟨_, rfl, ?_, ?_⟩
      · simp [results, Try.results16, Try.isAgg30, Try.sizeOf30, go_sem, f3, f4]
      · have h := HO.out
        rw [HM.out] at h
        exact ownP_two h (by have := HS1.out; omega)
      · exact ((bel2 HB1.out HB.out).setCell (by show w.heap.size ≤ w.heap.size + 1; omega) _).setCell (by show w.heap.size ≤ w.heap.size + 1; omega) _
end
end Go.Proofs.Ytkjginibdablnaa
