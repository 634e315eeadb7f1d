/- The law of drawn trees: no file is a folder. -/
import Derived.Test.YtndiofhinlogmaaDrawTree4
import Derived.Test.YtndiofhinlogmaaLtreeB
namespace Go.Proofs.Ytndiofhinlogmaa
open Go.RowKit
theorem tree_pair {l : List Fil} (h : treeB l = true) : l.Pairwise fun a b => Op.bytesLess (pth a) (pth b) = true ∧ clash (pth a) (pth b) = false := by
  simp only [treeB, Bool.and_eq_true] at h
  rw [List.pairwise_iff_getElem]
  intro i j hi hj hij
  refine ⟨ok_less h.1 (j - i - 1) i l[i] l[j] (by omega) (List.getElem?_eq_getElem hi) (by rw [show i + (j - i - 1) + 1 = j by omega]; exact List.getElem?_eq_getElem hj), ?_⟩
  have h1 := (okF_parts (List.getElem?_eq_getElem hj) (okTo_of h.1 hj)).2.2.2
  have hm : l[i] ∈ l.take j := List.mem_of_getElem? (by rw [List.getElem?_take_of_lt hij]; exact List.getElem?_eq_getElem hi)
  have h2 := List.all_eq_true.1 h1 _ hm
  simpa using h2
theorem tree_all {l : List Fil} (h : treeB l = true) : ∀ s ∈ l, pathB (pth s) = true ∧ textB s.2.data.toList = true := fun s hs => by
  simp only [treeB, Bool.and_eq_true] at h
  obtain ⟨i, hi⟩ := List.getElem?_of_mem hs
  have := okF_parts hi (okTo_of h.1 (List.getElem?_eq_some_iff.1 hi).1)
  exact ⟨this.1, this.2.1⟩
theorem tree_short {l : List Fil} (h : treeB l = true) : l.length ≤ 6 := by
  simp only [treeB, Bool.and_eq_true, decide_eq_true_eq] at h
  exact h.2
theorem tree_of {l : List Fil} (h6 : l.length ≤ 6) (ha : ∀ s ∈ l, pathB (pth s) = true ∧ textB s.2.data.toList = true) (hp : l.Pairwise fun a b => Op.bytesLess (pth a) (pth b) = true ∧ clash (pth a) (pth b) = false) : treeB l = true := by
  simp only [treeB, Bool.and_eq_true, decide_eq_true_eq]
  refine ⟨?_, h6⟩
  unfold okTo
  rw [List.all_eq_true]
  intro i hi
  have hil := List.mem_range.1 hi
  have hs := List.getElem?_eq_getElem hil
  rw [List.pairwise_iff_getElem] at hp
  obtain ⟨h1, h2⟩ := ha l[i] (List.getElem_mem hil)
  rw [okF_eq hs h1 h2 fun j p e hj => ?_]
  · rw [List.all_eq_true]
    intro g hg
    obtain ⟨k, hk⟩ := List.getElem?_of_mem hg
    have hki : k < i := by have := (List.getElem?_eq_some_iff.1 hk).1; rw [List.length_take] at this; omega
    rw [List.getElem?_take_of_lt hki] at hk
    obtain ⟨hkl, rfl⟩ := List.getElem?_eq_some_iff.1 hk
    have := (hp k i hkl hil hki).2
    simpa using this
  · obtain ⟨hjl, rfl⟩ := List.getElem?_eq_some_iff.1 hj
    exact (hp j i hjl hil (by omega)).1
theorem tree_out {l : List Fil} (h : treeB l = true) (k : Nat) : treeB (l.take k ++ l.drop (k + 1)) = true := by
  have hs : (l.take k ++ l.drop (k + 1)).Sublist l := by
    rw [← List.eraseIdx_eq_take_drop_succ]
    exact List.eraseIdx_sublist ..
  exact tree_of (Nat.le_trans hs.length_le (tree_short h)) (fun s hm => tree_all h s (hs.subset hm)) ((tree_pair h).sublist hs)
theorem tree_two {l : List Fil} {k : Nat} (hk : k < l.length) : treeB (l.take (k + 1) ++ l.drop k) = false := by
  cases hb : treeB (l.take (k + 1) ++ l.drop k) with
  | false => rfl
  | true =>
    have hp := tree_pair hb
    rw [List.pairwise_append] at hp
    have h1 : l[k] ∈ l.take (k + 1) := List.mem_of_getElem? (i := k) (by rw [List.getElem?_take_of_lt (by omega)]; exact List.getElem?_eq_getElem hk)
    have h2 : l[k] ∈ l.drop k := List.mem_of_getElem? (i := 0) (by rw [List.getElem?_drop]; exact List.getElem?_eq_getElem hk)
    have h3 := (hp.2.2 _ h1 _ h2).1
    rw [bl_irr] at h3
    cases h3
theorem tree_in {l : List Fil} {k : Nat} {s : Fil} {q t : ByteArray} {x : UInt8} (hs : l[k]? = some s) (hp : pth s = [x]) (hq : q.data.toList = [x, 47, 101]) : treeB (l.take (k + 1) ++ [(q, t)]) = false := by
  cases hb : treeB (l.take (k + 1) ++ [(q, t)]) with
  | false => rfl
  | true =>
    have hpw := tree_pair hb
    rw [List.pairwise_append] at hpw
    have h1 : s ∈ l.take (k + 1) := List.mem_of_getElem? (i := k) (by rw [List.getElem?_take_of_lt (by omega)]; exact hs)
    have h3 := (hpw.2.2 s h1 (q, t) (by simp)).2
    rw [hp, show pth (q, t) = [x, 47, 101] from hq] at h3
    simp [clash] at h3
theorem grewP_1 (T : Nat) (w : World) : Grew T w (w.alloc (.cells #[] T)).drew (.slice (some ⟨w.heap.size, 0, none⟩) 0 0) [] := grew_start T w
theorem grewP_2 (T : Nat) (w : World) (o : Obj) : Grew T w ((w.alloc (.cells #[] T)).alloc o).drew (.slice (some ⟨w.heap.size, 0, none⟩) 0 0) [] := by
  have h : Below w.heap.size w ((w.alloc (.cells #[] T)).alloc o) := ((Below.refl _ _).alloc (Nat.le_refl _) _).alloc (by simp) _
  exact ⟨ownP_below (ownP_empty T w) (show Below _ (w.alloc (.cells #[] T)) ((w.alloc (.cells #[] T)).alloc o).drew from (by have h := (Below.refl _ (w.alloc (.cells #[] T))).alloc (Nat.le_refl _) o; exact ⟨h.os, h.tape, h.output, h.size, h.block⟩)), ⟨h.os, h.tape, h.output, h.size, h.block⟩⟩
theorem grewP_3 (T : Nat) (w : World) (o : Obj) : Grew T w ((w.alloc o).alloc (.cells #[] T)).drew (.slice (some ⟨w.heap.size + 1, 0, none⟩) 0 0) [] := by
  have h0 := ownP_empty T (w.alloc o)
  have h : Below w.heap.size w ((w.alloc o).alloc (.cells #[] T)) := ((Below.refl _ _).alloc (Nat.le_refl _) _).alloc (by simp) _
  have e : (w.alloc o).heap.size = w.heap.size + 1 := by simp
  rw [e] at h0
  exact ⟨ownP_less h0 (by omega), ⟨h.os, h.tape, h.output, h.size, h.block⟩⟩
theorem newsInP {w W : World} {ad : Addr} {l : List (Value × Value)} (h : News w ad l) (hb : Below w.heap.size w W) : ∀ j u, (flat l)[j]? = some u → W.cell? (ad.add j) = some u := fun j u hu => by
  obtain ⟨h1, h2⟩ := h j u hu
  rw [hb.cell (p := ad.add j) h1]
  exact h2
theorem cell_alP {w : World} {a : Addr} {v : Value} (h : w.cell? a = some v) (o : Obj) : (w.alloc o).cell? a = some v := by
  refine (World.cell?_alloc_lt w o a ?_).trans h
  rcases Nat.lt_or_ge a.block w.heap.size with h' | h'
  · exact h'
  · simp [World.cell?, Array.getElem?_eq_none h'] at h
theorem pcell_of {W : World} {x y : Value} {g : Nat} (h1 : W.cell? ⟨g, 0, none⟩ = some x) (h2 : W.cell? ⟨g, 1, none⟩ = some y) : ∀ j u, (flat [(x, y)])[j]? = some u → W.cell? ((⟨g, 0, none⟩ : Addr).add j) = some u := by
  intro j u hj
  rw [add_at, Nat.zero_add]
  match j, hj with
  | 0, hj => rw [h1]; simpa [flat] using hj
  | 1, hj => rw [h2]; simpa [flat] using hj
  | j + 2, hj => simp [flat] at hj
theorem pcell_2 {w w5 : World} {o : Obj} {x y : Value} {T : TypeId} (h : ((w.alloc o).alloc (.cells #[x, y] T)).drew.grownBy w5 (some w.heap.size)) : ∀ j u, (flat [(x, y)])[j]? = some u → w5.cell? ((⟨w.heap.size + 1, 0, none⟩ : Addr).add j) = some u := by
  have e : (w.alloc o).heap.size = w.heap.size + 1 := by simp
  refine pcell_of ?_ ?_
  · rw [h.cell_far ⟨w.heap.size + 1, 0, none⟩ (by simp [World.drew]) (by simp)]
    show ((w.alloc o).alloc (.cells #[x, y] T)).cell? ⟨w.heap.size + 1, 0, none⟩ = _
    rw [← e, cell_of_row _ _ _ _ _ (0, 0) (heap_alloc_new (w.alloc o) _)]
    rfl
  · rw [h.cell_far ⟨w.heap.size + 1, 1, none⟩ (by simp [World.drew]) (by simp)]
    show ((w.alloc o).alloc (.cells #[x, y] T)).cell? ⟨w.heap.size + 1, 1, none⟩ = _
    rw [← e, cell_of_row _ _ _ _ _ (0, 0) (heap_alloc_new (w.alloc o) _)]
    rfl
theorem pcell_3 {w w5 : World} {o : Obj} {x y : Value} {T : TypeId} (h : ((w.alloc (.cells #[x, y] T)).alloc o).drew.grownBy w5 (some (w.heap.size + 1))) : ∀ j u, (flat [(x, y)])[j]? = some u → w5.cell? ((⟨w.heap.size, 0, none⟩ : Addr).add j) = some u := by
  refine pcell_of ?_ ?_
  · rw [h.cell_far ⟨w.heap.size, 0, none⟩ (by simp [World.drew]; omega) (by simp)]
    show ((w.alloc (.cells #[x, y] T)).alloc o).cell? ⟨w.heap.size, 0, none⟩ = _
    refine cell_alP ?_ o
    rw [cell_of_row _ _ _ _ _ (0, 0) (heap_alloc_new w _)]
    rfl
  · rw [h.cell_far ⟨w.heap.size, 1, none⟩ (by simp [World.drew]; omega) (by simp)]
    show ((w.alloc (.cells #[x, y] T)).alloc o).cell? ⟨w.heap.size, 1, none⟩ = _
    refine cell_alP ?_ o
    rw [cell_of_row _ _ _ _ _ (0, 0) (heap_alloc_new w _)]
    rfl
end Go.Proofs.Ytndiofhinlogmaa
