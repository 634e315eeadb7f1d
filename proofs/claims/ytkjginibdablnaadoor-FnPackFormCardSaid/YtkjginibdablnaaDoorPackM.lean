/- Packs made of pieces, in the reference. -/
import Derived.Test.YtkjginibdablnaaDoorPackS
import Derived.Test.YtkjginibdablnaaDoorPackLessS
namespace Go.Proofs.YtkjginibdablnaaDoor
open Go.RowKit
theorem makeI_snoc {k j : Nat} {ps : List ByteArray} {s : ByteArray} (h : ps[j]? = some s) : makeI k (ps.take (j + 1)) = putI (makeI k (ps.take j)) (itemOf k s) := by
  rw [List.take_add_one, h]
  simp [makeI, List.foldl_append]
theorem makeI_foldl (k : Nat) : ∀ (ps : List ByteArray) (l : List Itm), (ps.foldl (fun l p => putI l (itemOf k p)) l).length = l.length + ps.length
  | [], _ => rfl
  | p :: ps, l => by
    rw [List.foldl_cons, makeI_foldl k ps, putI_length]
    simp only [List.length_cons]
    omega
theorem makeI_length (k : Nat) (ps : List ByteArray) : (makeI k ps).length = ps.length := by
  unfold makeI
  rw [makeI_foldl]
  simp
theorem ownP_ne {T B b : Nat} {w : World} {v : Value} {l : List (Value × Value)} (h : OwnP T B w v l) (hb : b < B) : v.ownBlock ≠ some b := fun e => by
  have := (ownP_lt h e).1
  omega
theorem own_formE {T B : Nat} {w : World} {v : Value} {l : List (Value × Value)} (h : OwnP T B w v l) : ∃ A m c, v = .slice A m c := by
  obtain ⟨A, c, hv⟩ := own_formP h
  exact ⟨A, _, c, hv⟩
theorem bel_same {w W : World} (h : W.heap = w.heap ∧ W.os = w.os ∧ W.output = w.output) (ht : W.tape = w.tape := by rfl) : Below w.heap.size w W := ⟨h.2.1, ht, h.2.2, by rw [h.1]; exact Nat.le_refl _, fun _ _ => by rw [h.1]⟩
section
set_option maxHeartbeats 3200000
theorem l3Make_any (no : Int) (k : Nat) (v : Value) (ps : List ByteArray) (w : World) (hk : k ≤ 99) (hl : Lst w w.heap.size v (barVals ps)) (hn : ps.length ≤ 1000000) (hp : ∀ s ∈ ps, pieceB s.data.toList = true) :
    Calls Tryd.prog 50 #[.int .i64 no, .int .i64 (k : Int), v] w fun e w' => ∃ v', e = .returned (packV no v') ∧ OwnP 40 w.heap.size w' v' (ivals (makeI k ps)) ∧ Below w.heap.size w w' := by
  obtain ⟨A, c, hv⟩ := lst_form hl
  subst hv
  rw [barVals_length] at *
  obtain ⟨W1, hW1⟩ : ∃ W, W = w.alloc (.cells #[.int .i64 0, .slice none 0 0] 29) := ⟨_, rfl⟩
  have hs1 : W1.heap.size = w.heap.size + 1 := by rw [hW1]; simp
  have hb1 : Below w.heap.size w W1 := by rw [hW1]; exact (Below.refl _ _).alloc (Nat.le_refl _) _
  have t1 : Two W1 w.heap.size 29 (.int .i64 0) (.slice none 0 0) := by rw [hW1]; exact two_new _ _ _ _
  obtain ⟨X2, hX2⟩ : ∃ X, X = W1.alloc (.cells #[] 40) := ⟨_, rfl⟩
  have hs2 : X2.heap.size = w.heap.size + 2 := by rw [hX2]; simp; omega
  have hb2 : Below W1.heap.size W1 X2 := by rw [hX2]; exact (Below.refl _ _).alloc (Nat.le_refl _) _
  obtain ⟨X, hX⟩ : ∃ X, X = X2.alloc (.cells #[.int .i64 no, .slice (some ⟨w.heap.size + 1, 0, none⟩) 0 0] 29) := ⟨_, rfl⟩
  have hxs : X.heap.size = w.heap.size + 3 := by rw [hX]; simp; omega
  have HE0 := Lib.hid (show OwnP 40 W1.heap.size X (.slice (some ⟨w.heap.size + 1, 0, none⟩) 0 0) (ivals (makeI k (ps.take 0))) by
    have h := ownP_empty 40 W1
    rw [← hX2] at h
    rw [hX, ← hs1]
    exact ownP_below h ((Below.refl _ _).alloc (Nat.le_refl _) _))
  have HXS := Lib.hid hxs
  obtain ⟨b2, hbb2⟩ : ∃ b, b = w.heap.size + 2 := ⟨_, rfl⟩
  have HB2 := Lib.hid hbb2
  have T2 := Lib.hid (show Two X b2 29 (.int .i64 no) (.slice (some ⟨w.heap.size + 1, 0, none⟩) 0 0) by rw [hX, hbb2, ← hs2]; exact two_new _ _ _ _)
  have HBX := Lib.hid (show Below W1.heap.size W1 X by rw [hX]; exact hb2.alloc hb2.size _)
  have HT1 := Lib.hid t1
  have HB1 := Lib.hid hb1
  have HS1 := Lib.hid hs1
  have HL := Lib.hid (lst_next hl hb1)
  have HXE := Lib.hid (show X = ((w.alloc (.cells #[.int .i64 0, .slice none 0 0] 29)).alloc (.cells #[] 40)).alloc (.cells #[.int .i64 no, .slice (some ⟨w.heap.size + 1, 0, none⟩) 0 0] 29) by rw [hX, hX2, hW1])
  have HPP := Lib.hid hp
  obtain ⟨n, hnn⟩ : ∃ n, ps.length = n := ⟨_, rfl⟩
  have HN := Lib.hid hnn
  rw [hnn] at hn HL ⊢
  clear hnn hl hW1 hX hX2 hs1 hs2 hb1 hb2 t1 hxs hp
  go_enter Tryd.func50, Tryd.ntmps50
  go_wp2_with fail
  rw [← HXE.out]
  rw [show w.heap.size + 1 + 1 = b2 by omega]
  clear hbb2
  go_loopw [8] (fun i wr => ∃ (j : Nat) (o : Value), j ≤ n ∧ i = .int .i64 (j : Int) ∧ Two wr b2 29 (.int .i64 no) o ∧ OwnP 40 W1.heap.size wr o (ivals (makeI k (ps.take j))) ∧ o.ownBlock ≠ some b2 ∧ Below W1.heap.size W1 wr ∧ X.heap.size ≤ wr.heap.size) (fun i _ => n - (intOf i).toNat)
  case atStart => exact ⟨0, _, Nat.zero_le _, rfl, T2.out, HE0.out, (by simp only [Value.ownBlock]; intro e; injection e with e; have := HB2.out; omega), HBX.out, Nat.le_refl _⟩
  case round =>
    obtain ⟨j, o, hj, rfl, h2, ho, hne0, hb, hs⟩ := hrel
    have H2 := Lib.hid h2
    have HO := Lib.hid ho
    have HB := Lib.hid hb
    have HNE := Lib.hid hne0
    clear h2 ho hb hne0
    by_cases hlt : j < n
    · obtain ⟨s, hsk⟩ : ∃ s, ps[j]? = some s := ⟨_, List.getElem?_eq_getElem (by have := HN.out; omega)⟩
      have hps := HPP.out s (List.mem_of_getElem? hsk)
      have HN1 := Lib.hid (fun W => l2Name_any k s W hk hps)
      have HP1 := Lib.hid (fun W => l2Pad_any s W hps)
      obtain ⟨q, hq⟩ : ∃ q : ByteArray, q = ⟨(padL s.data.toList).toArray⟩ := ⟨_, rfl⟩
      have HMK := Lib.hid (makeI_snoc (k := k) hsk)
      rw [show itemOf k s = (((nameN k s.data.toList : Nat) : Int), q) by rw [hq]; rfl] at HMK
      rw [← hq] at HP1
      clear hq hps
      obtain ⟨z, hz⟩ : ∃ z : Int, ((nameN k s.data.toList : Nat) : Int) = z := ⟨_, rfl⟩
      rw [hz] at HMK HN1
      clear hz
      obtain ⟨g, off, hA, hg, h1⟩ := lst_at HL.out (barVals_get ps j s hsk)
      subst hA
      have hc1 := (HB.out.cell (p := ⟨g, off + j, none⟩) hg).trans h1
      clear h1 hg hsk
      have hi1 : (j : Int) < (n : Int) := by omega
      have hi0 : (0 : Int) ≤ (j : Int) := by omega
      have hp1 := H2.out.c1
      have hln := Lib.hid (show (makeI k (ps.take j)).length ≤ 1100000 by rw [makeI_length]; have := List.length_take_le j ps; omega)
      have HPT := Lib.hid (fun (W : World) (hw : Below wr.heap.size wr W) => l3Put_any W o (makeI k (ps.take j)) z q (lp_next (lp_of_own HO.out) hw) hln.out)
      go_wp2_with fail
      go_region_with (first | (go_at_call 59; refine (HN1.out _).mono ?_; rintro e w' ⟨rfl, rfl⟩) | (go_at_call 68; refine (HP1.out _).mono ?_; rintro e w' ⟨rfl, rfl⟩) | (go_at_call 67; go_must (refine (HPT.out wr.drew ⟨rfl, rfl, rfl, Nat.le_refl _, fun _ _ => rfl⟩).mono ?_); rintro e w' ⟨v', rfl, ho1, hb1⟩; obtain ⟨A2, m2, c2, hv2⟩ := own_formE ho1; subst hv2; have HO1 := Lib.hid ho1; have HBB := Lib.hid (belD hb1); have HT3 := Lib.hid (H2.out.keep (grown_of_bel HBB.out none) (by simp)); clear ho1 hb1; have hc3 := HT3.out.c1; have hf3 := HT3.out.f 1))
      all_goals
        go_wp2
        go_roundw
        case rel =>
          have hb2w : b2 < wr.heap.size := by have := HXS.out; have := HB2.out; omega
          have h1s := HS1.out
          have h2s := HB2.out
          exact ⟨j + 1, _, by omega, by go_num, HT3.out.set1 _, ownP_set_ne (by rw [HMK.out]; exact ownP_less HO1.out HB.out.size) (ownP_ne HO1.out hb2w) 1 _, ownP_ne HO1.out hb2w, (HB.out.trans (HBB.out.mono HB.out.size)).setCell (by show W1.heap.size ≤ b2; omega) _, by have := HBB.out.size; simp; omega⟩
        case measure => simp [intOf]; omega
    · have hjn : j = n := by omega
      subst hjn
      have HF := Lib.hid (show makeI k (ps.take j) = makeI k ps by rw [List.take_of_length_le (by rw [HN.out]; exact Nat.le_refl _)])
      obtain ⟨A', c', ho'⟩ := own_formP HO.out
      subst ho'
      rw [HF.out] at HO H2
      obtain ⟨m, hm⟩ : ∃ m, (ivals (makeI k ps)).length = m := ⟨_, rfl⟩
      have HM := Lib.hid hm
      have HT1w := Lib.hid (show Two wr w.heap.size 29 (.int .i64 0) (.slice none 0 0) from (HB.out.block _ (by have := HS1.out; omega)).trans HT1.out)
      have f1 := H2.out.c0
      have f2 := H2.out.c1
      have f3 := HT1w.out.c0
      have f4 := HT1w.out.c1
      have f5 := HT1w.out.f 0
      have f6 := HT1w.out.f 1
      rw [hm] at f2
      clear hm
      go_wp2
      refine bodyPost_ret_by (v := packV no (.slice A' m c')) ?_ rfl ⟨_, rfl, ?_, ?_⟩
      · simp [results, Tryd.results50, Tryd.isAgg29, Tryd.sizeOf29, go_sem, f3, f4]
      · have h := HO.out
        rw [HM.out] at h
        exact ownP_two h (by have := HS1.out; omega)
      · exact ((bel2 HB1.out HB.out).setCell (by show w.heap.size ≤ w.heap.size; omega) _).setCell (by show w.heap.size ≤ w.heap.size; omega) _
end
end Go.Proofs.YtkjginibdablnaaDoor
