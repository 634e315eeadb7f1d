/- The drawings of trees: lists of few files, of short paths and texts. -/
import Derived.Test.YtndiofhinlogmaaTreeGet2
import Derived.Test.YtndiofhinlogmaaDrawPath
namespace Go.Proofs.Ytndiofhinlogmaa
open Go.RowKit
theorem grew_alloc {T : Nat} {w W : World} {v : Value} {l : List (Value × Value)} (h : Grew T w W v l) (o : Obj) : Grew T w (W.alloc o) v l := ⟨ownP_below h.1 ((Below.refl _ _).alloc (Nat.le_refl _) o), h.2.alloc h.2.size o⟩
theorem ones_two (x y : Value) (hx : x.oneCell' = true) (hy : y.oneCell' = true) : Ones [(x, y)] := fun u hu => by
  simp [flat] at hu
  rcases hu with rfl | rfl
  · exact hx
  · exact hy
theorem news_two (w : World) (n : Nat) (x y : Value) (T : TypeId) : ∀ j u, (flat [(x, y)])[j]? = some u → ((w.drewN n).alloc (.cells #[x, y] T)).cell? ((⟨w.heap.size, 0, none⟩ : Addr).add j) = some u :=
  news_one (w.drewN n) _ x y T (Below.refl _ _)
/-- every file of L is one of l, or s -/
def FromF (L l : List Fil) (s : Fil) : Prop := ∀ t ∈ L, t ∈ l ∨ t = s
theorem fromF_nil (l : List Fil) (s : Fil) : FromF [] l s := fun t h => by simp at h
theorem fromF_snoc {L l : List Fil} {s t : Fil} (h : FromF L l s) (ht : t ∈ l ∨ t = s) : FromF (L ++ [t]) l s := fun u hu => by
  rcases List.mem_append.1 hu with h1 | h1
  · exact h u h1
  · rw [List.mem_singleton.1 h1]; exact ht
/-- short paths and texts -/
def TameF (l : List Fil) : Prop := ∀ s ∈ l, s.1.size ≤ 5 ∧ s.2.size ≤ 45
theorem tameF_nil : TameF [] := fun t h => by simp at h
theorem tameF_snoc {l : List Fil} {s : Fil} (h : TameF l) (hs : s.1.size ≤ 5 ∧ s.2.size ≤ 45) : TameF (l ++ [s]) := fun t ht => by
  rcases List.mem_append.1 ht with h1 | h1
  · exact h t h1
  · rw [List.mem_singleton.1 h1]; exact hs
theorem tameF_from {L l : List Fil} {s : Fil} (h : FromF L l s) (hl : TameF l) (hs : s.1.size ≤ 5 ∧ s.2.size ≤ 45) : TameF L := fun t ht => by
  rcases h t ht with h1 | rfl
  · exact hl t h1
  · exact hs
theorem tameF_big {l : List Fil} (h : TameF l) : ∀ s ∈ l, s.1.size ≤ 1048600 ∧ s.2.size ≤ 1048600 := fun s hs => by have := h s hs; omega
theorem box_cellsF (w W : World) (a b : Value) (T : TypeId) (h : Below (w.heap.size + 1) (w.alloc (.cells #[a, b] T)) W) :
    W.cell? ⟨w.heap.size, 0, none⟩ = some a ∧ W.cell? ⟨w.heap.size, 1, none⟩ = some b := by
  constructor
  · rw [h.cell (p := ⟨w.heap.size, 0, none⟩) (Nat.lt_succ_self _), cell_of_row _ _ 0 _ _ (0, 0) (heap_alloc_new w _)]; rfl
  · rw [h.cell (p := ⟨w.heap.size, 1, none⟩) (Nat.lt_succ_self _), cell_of_row _ _ 1 _ _ (0, 0) (heap_alloc_new w _)]; rfl
theorem put_factsF {w W X : World} {a b c d : Value} {T : TypeId} {g off k : Nat} (hW : W = w.alloc (.cells #[a, b] T)) (hX : Below W.heap.size W X) (hg : g < w.heap.size)
    (h1 : w.cell? ⟨g, off + k * 2, none⟩ = some c) (h2 : w.cell? ⟨g, off + k * 2 + 1, none⟩ = some d) :
    X.cell? ⟨w.heap.size, 0, none⟩ = some a ∧ X.cell? ⟨w.heap.size, 1, none⟩ = some b ∧ X.cell? ⟨g, off + k * 2, none⟩ = some c ∧ X.cell? ⟨g, off + k * 2 + 1, none⟩ = some d := by
  have hs : W.heap.size = w.heap.size + 1 := by rw [hW]; simp
  obtain ⟨b1, b2⟩ := box_cellsF w X a b T (by rw [← hW, ← hs]; exact hX)
  have hwX : Below w.heap.size w X := (show Below w.heap.size w W by rw [hW]; exact (Below.refl _ _).alloc (Nat.le_refl _) _).trans (hX.mono (by omega))
  exact ⟨b1, b2, (hwX.cell (p := ⟨g, off + k * 2, none⟩) hg).trans h1, (hwX.cell (p := ⟨g, off + k * 2 + 1, none⟩) hg).trans h2⟩
def PutF (l : List Fil) (s : Fil) (w : World) (e : Ending) (w' : World) : Prop :=
  ∃ (v : Value) (L : List Fil), e = .returned v ∧ OwnP 38 w.heap.size w' v (fvals L) ∧ FromF L l s ∧ L.length ≤ l.length + 1 ∧ 1 ≤ L.length ∧ Below w.heap.size w w'
theorem grew_drewN {T : Nat} {w W : World} {v : Value} {l : List (Value × Value)} (h : Grew T w W v l) (n : Nat) : Grew T w (W.drewN n) v l := ⟨h.1, h.2.os, h.2.tape, h.2.output, h.2.size, h.2.block⟩
theorem grew_less {T : Nat} {w W w' : World} {v : Value} {l : List (Value × Value)} (h : Grew T W w' v l) (hb : Below w.heap.size w W) : OwnP T w.heap.size w' v l ∧ Below w.heap.size w w' := ⟨ownP_less h.1 hb.size, bel2 hb h.2⟩
section
set_option maxHeartbeats 3200000
theorem l11Put_any (w : World) (v : Value) (l : List Fil) (a b' : ByteArray) (hl : Lp w w.heap.size v (fvals l)) (hn : l.length ≤ 100) :
    Calls Try.prog 52 #[v, .agg #[.string a, .string b']] w (PutF l (a, b') w) := by
  obtain ⟨i0, hi, hz0, hz1, hz2⟩ := infoFile_parts
  obtain ⟨A, c, rfl, hc, hx⟩ := hl
  rw [fvals_length] at *
  have HX := Lib.hid hx
  clear hx
  obtain ⟨n, hnn⟩ : ∃ n, l.length = n := ⟨_, rfl⟩
  have HN := Lib.hid hnn
  rw [hnn] at hn hc ⊢
  clear hnn
  obtain ⟨W, hW⟩ : ∃ W, W = w.alloc (.cells #[.string a, .string b'] 38) := ⟨_, rfl⟩
  have hWs : W.heap.size = w.heap.size + 1 := by rw [hW]; simp
  have HW := Lib.hid hW
  have HBW := Lib.hid (show Below w.heap.size w W by rw [hW]; exact (Below.refl _ _).alloc (Nat.le_refl _) _)
  have HE0 : Hid (Grew 38 W (W.alloc (.cells #[] 38)) (.slice (some ⟨W.heap.size, 0, none⟩) 0 0) (fvals [])) := Lib.hid ⟨ownP_empty _ W, (Below.refl _ _).alloc (Nat.le_refl _) _⟩
  go_enter Try.func52, Try.ntmps52
  go_wp2_with fail
  rw [← hW]
  go_loopw [5, 6, 7] (fun o p i wr => ∃ (k : Nat) (L : List Fil) (b : Bool), k ≤ n ∧ p = .bool b ∧ i = .int .i64 (k : Int) ∧ Grew 38 W wr o (fvals L) ∧ FromF L l (a, b') ∧ L.length ≤ k + 1 ∧ (b = false → L.length ≤ k) ∧ (b = true → 1 ≤ L.length)) (fun _ _ i _ => n - (intOf i).toNat)
  case atStart =>
    have h1 := HE0.out
    rw [show (⟨W.heap.size, 0, none⟩ : Addr) = ⟨w.heap.size + 1, 0, none⟩ by rw [hWs]] at h1
    exact ⟨0, [], false, Nat.zero_le _, rfl, rfl, h1, fromF_nil _ _, by simp, (fun _ => by simp), (fun h => by cases h)⟩
  case round =>
    obtain ⟨k, L, p, hk, rfl, rfl, hgr, hfr, hl1, hl2, hl4⟩ := hrel
    have HGR := Lib.hid hgr
    have HFr := Lib.hid hfr
    clear hgr hfr
    by_cases hlt : k < n
    · obtain ⟨⟨c, d⟩, hs⟩ : ∃ s, l[k]? = some s := ⟨_, List.getElem?_eq_getElem (by have := HN.out; omega)⟩
      obtain ⟨g, off, rfl, hg, hcg⟩ := HX.out (by have := HN.out; omega)
      obtain ⟨h1, h2⟩ := hcg k _ (fvals_get hs)
      have H1 := Lib.hid h1
      have H2 := Lib.hid h2
      have HM := Lib.hid (List.mem_of_getElem? hs)
      obtain ⟨q1, q2, q3, q4⟩ := put_factsF HW.out HGR.out.2 hg H1.out H2.out
      clear h1 h2 hcg hs
      have hi1 : (k : Int) < (n : Int) := by omega
      have hi0 : (0 : Int) ≤ (k : Int) := by omega
      cases p with
      | true =>
        have hl5 := hl4 rfl
        clear hl2 hl4
        by_cases hca : c = a
        · have hne : (c.toList == a.toList) = true := by simp [hca]
          clear hca
          go_wp2_with fail
          go_quiet (fail)
          go_wp2_with fail
          go_quiet (fail)
          go_wp2
          go_roundw
          case rel => exact ⟨k + 1, L, true, by omega, rfl, by go_num, grew_drewN HGR.out _, HFr.out, by omega, (fun h => by cases h), fun _ => hl5⟩
          case measure => simp [intOf]; omega
        · have hne : (c.toList == a.toList) = false := by simpa using fun h => hca (toList_injF h)
          clear hca
          go_wp2_with fail
          go_quiet (fail)
          go_wp2_with fail
          go_quiet (fail)
          go_wp2_with (at_builtin; go_must (refine wpList_append_p W _ rfl _ _ 29 38 rfl i0 _ 32 Try.underlying29 hi hz0 hz1 hz2 rfl (by omega) _ (fvals L) rfl (by first | exact grew_alloc HGR.out _ | exact grew_alloc (grew_drewN HGR.out _) _) _ 1 1 [(.string c, .string d)] rfl rfl (by first | exact news_one _ _ _ _ _ (Below.refl _ _) | exact news_two _ _ _ _ _) (ones_two _ _ rfl rfl) (by rw [fvals_length]; simp; omega) ?_); intro v1 w1 hg1 _; have HGR1 := Lib.hid (show Grew 38 W w1 v1 (fvals (L ++ [(c, d)])) by rw [fvals_append]; exact hg1); clear hg1)
          go_roundw
          case rel => exact ⟨k + 1, L ++ [(c, d)], true, by omega, rfl, by go_num, HGR1.out, fromF_snoc HFr.out (.inl HM.out), by simp; omega, (fun h => by cases h), fun _ => by simp⟩
          case measure => simp [intOf]; omega
      | false =>
        have hl3 := hl2 rfl
        clear hl2 hl4
        cases hge : Op.bytesLess c.toList a.toList with
        | false =>
          by_cases hca : c = a
          · have hne : (c.toList == a.toList) = true := by simp [hca]
            clear hca
            go_wp2_with fail
            go_quiet (fail)
            go_wp2_with (at_builtin; go_must (refine wpList_append_p W _ rfl _ _ 29 38 rfl i0 _ 32 Try.underlying29 hi hz0 hz1 hz2 rfl (by omega) _ (fvals L) rfl (by first | exact grew_alloc HGR.out _ | exact grew_alloc (grew_drewN HGR.out _) _) _ 1 1 [(.string a, .string b')] rfl rfl (by first | exact news_one _ _ _ _ _ (Below.refl _ _) | exact news_two _ _ _ _ _) (ones_two _ _ rfl rfl) (by rw [fvals_length]; simp; omega) ?_); intro v1 w1 hg1 _; have HGR1 := Lib.hid (show Grew 38 W w1 v1 (fvals (L ++ [(a, b')])) by rw [fvals_append]; exact hg1); obtain ⟨r1, r2, r3, r4⟩ := put_factsF HW.out HGR1.out.2 hg H1.out H2.out; clear hg1)
            go_quiet (fail)
            go_wp2
            go_roundw
            case rel => exact ⟨k + 1, L ++ [(a, b')], true, by omega, rfl, by go_num, grew_drewN HGR1.out _, fromF_snoc HFr.out (.inr rfl), by simp; omega, (fun h => by cases h), fun _ => by simp⟩
            case measure => simp [intOf]; omega
          · have hne : (c.toList == a.toList) = false := by simpa using fun h => hca (toList_injF h)
            clear hca
            go_wp2_with fail
            go_quiet (fail)
            go_wp2_with (at_builtin; go_must (refine wpList_append_p W _ rfl _ _ 29 38 rfl i0 _ 32 Try.underlying29 hi hz0 hz1 hz2 rfl (by omega) _ (fvals L) rfl (by first | exact grew_alloc HGR.out _ | exact grew_alloc (grew_drewN HGR.out _) _) _ 1 1 [(.string a, .string b')] rfl rfl (by first | exact news_one _ _ _ _ _ (Below.refl _ _) | exact news_two _ _ _ _ _) (ones_two _ _ rfl rfl) (by rw [fvals_length]; simp; omega) ?_); intro v1 w1 hg1 _; have HGR1 := Lib.hid (show Grew 38 W w1 v1 (fvals (L ++ [(a, b')])) by rw [fvals_append]; exact hg1); obtain ⟨r1, r2, r3, r4⟩ := put_factsF HW.out HGR1.out.2 hg H1.out H2.out; clear hg1)
            go_quiet (fail)
            go_wp2_with (at_builtin; go_must (refine wpList_append_p W _ rfl _ _ 29 38 rfl i0 _ 32 Try.underlying29 hi hz0 hz1 hz2 rfl (by omega) _ (fvals (L ++ [(a, b')])) rfl (by first | exact grew_alloc HGR1.out _ | exact grew_alloc (grew_drewN HGR1.out _) _) _ 1 1 [(.string c, .string d)] rfl rfl (by first | exact news_one _ _ _ _ _ (Below.refl _ _) | exact news_two _ _ _ _ _) (ones_two _ _ rfl rfl) (by rw [fvals_length]; simp; omega) ?_); intro v1 w1 hg1 _; have HGR2 := Lib.hid (show Grew 38 W w1 v1 (fvals (L ++ [(a, b')] ++ [(c, d)])) by rw [fvals_append]; exact hg1); clear hg1)
            go_roundw
            case rel => exact ⟨k + 1, L ++ [(a, b')] ++ [(c, d)], true, by omega, rfl, by go_num, HGR2.out, fromF_snoc (fromF_snoc HFr.out (.inr rfl)) (.inl HM.out), by simp; omega, (fun h => by cases h), fun _ => by simp⟩
            case measure => simp [intOf]; omega
        | true =>
          have hne : (c.toList == a.toList) = false := by
            simp only [beq_eq_false_iff_ne]
            intro h
            rw [h, bl_irr] at hge
            cases hge
          go_wp2_with fail
          go_quiet (fail)
          go_wp2_with fail
          go_quiet (fail)
          go_wp2_with (at_builtin; go_must (refine wpList_append_p W _ rfl _ _ 29 38 rfl i0 _ 32 Try.underlying29 hi hz0 hz1 hz2 rfl (by omega) _ (fvals L) rfl (by first | exact grew_alloc HGR.out _ | exact grew_alloc (grew_drewN HGR.out _) _) _ 1 1 [(.string c, .string d)] rfl rfl (by first | exact news_one _ _ _ _ _ (Below.refl _ _) | exact news_two _ _ _ _ _) (ones_two _ _ rfl rfl) (by rw [fvals_length]; simp; omega) ?_); intro v1 w1 hg1 _; have HGR1 := Lib.hid (show Grew 38 W w1 v1 (fvals (L ++ [(c, d)])) by rw [fvals_append]; exact hg1); clear hg1)
          go_roundw
          case rel => exact ⟨k + 1, L ++ [(c, d)], false, by omega, rfl, by go_num, HGR1.out, fromF_snoc HFr.out (.inl HM.out), by simp; omega, (fun _ => by simp; omega), fun h => by cases h⟩
          case measure => simp [intOf]; omega
    · have hkn : k = n := by omega
      subst hkn
      cases p with
      | true =>
        have hl5 := hl4 rfl
        clear hl2 hl4
        go_wp2
        go_ret
        exact ⟨_, L, rfl, (grew_less HGR.out HBW.out).1, HFr.out, by have := HN.out; omega, hl5, (grew_less HGR.out HBW.out).2⟩
      | false =>
        have hl3 := hl2 rfl
        clear hl2 hl4
        obtain ⟨q1, q2⟩ := box_cellsF w wr (.string a) (.string b') 38 (by rw [← HW.out, ← hWs]; exact HGR.out.2)
        go_wp2_with (at_builtin; go_must (refine wpList_append_p W _ rfl _ _ 29 38 rfl i0 _ 32 Try.underlying29 hi hz0 hz1 hz2 rfl (by omega) _ (fvals L) rfl (by first | exact grew_alloc HGR.out _ | exact grew_alloc (grew_drewN HGR.out _) _) _ 1 1 [(.string a, .string b')] rfl rfl (by first | exact news_one _ _ _ _ _ (Below.refl _ _) | exact news_two _ _ _ _ _) (ones_two _ _ rfl rfl) (by rw [fvals_length]; simp; omega) ?_); intro v1 w1 hg1 _; have HGR1 := Lib.hid (show Grew 38 W w1 v1 (fvals (L ++ [(a, b')])) by rw [fvals_append]; exact hg1); clear hg1)
        go_ret
        exact ⟨_, L ++ [(a, b')], rfl, (grew_less HGR1.out HBW.out).1, fromF_snoc HFr.out (.inr rfl), by have := HN.out; simp; omega, by simp, (grew_less HGR1.out HBW.out).2⟩
end
end Go.Proofs.Ytndiofhinlogmaa
