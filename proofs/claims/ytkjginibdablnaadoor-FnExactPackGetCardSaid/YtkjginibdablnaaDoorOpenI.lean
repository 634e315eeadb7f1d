/- A pack, and a list of numbers, that came in, as the frames hand them to the walks. -/
import Derived.Test.YtkjginibdablnaaDoorPackV
import Derived.Deep.SlicePairs
import Derived.OpenShut
import Derived.Lib.SmallJoins
namespace Go.Proofs.YtkjginibdablnaaDoor
open Go.RowKit Go.ChangeShapes Go.WideShapes Go.Deep Go.Joins
theorem cell_ltI {w : World} {p : Addr} {v : Value} (h : w.cell? p = some v) : p.block < w.heap.size := by
  rcases Nat.lt_or_ge p.block w.heap.size with h' | h'
  · exact h'
  · simp [World.cell?, Array.getElem?_eq_none h'] at h
theorem items_opened {H : Type} {enc : TypeId × Value → H} {W : World} {fuel : Nat} {A : Option Addr} {n c : Nat} {x : DataW H × List MemPlace}
    (h : DataW.trod enc Tryd.prog W 0 (fun _ => true) true fuel 22 (Value.slice A n c).cells.toList = some x) : ∃ l : List Itm, ItemsIn W (.slice A n c) l := by
  rcases open_slice_pairs Tryd.underlying22 Tryd.underlying89 (by kernel_rfl) rfl rfl (by kernel_rfl) (by kernel_rfl) h with ⟨hcs, _⟩ | ⟨a, ln, cp, m, k, V0, V1, D0, D1, P0, P1, hcs, _, hl, hm, hmm, _, hx⟩
  · simp [Value.cells] at hcs
    obtain ⟨rfl, rfl, rfl⟩ := hcs
    exact ⟨[], lp_none _ _, by simp, by simp⟩
  · simp [Value.cells] at hcs
    obtain ⟨rfl, rfl, rfl⟩ := hcs
    have each : ∀ i, i < n → ∃ s : Itm, W.cell? (a.add (i * 2)) = some (.int .i64 s.1) ∧ W.cell? (a.add (i * 2 + 1)) = some (.string s.2) ∧ s.2.size ≤ maxLen := fun i hi => by
      obtain ⟨h1, h2, h3, h4⟩ := hx i (by rw [hmm]; simp; omega)
      obtain ⟨p, e1, _⟩ := DataW.trod_int Tryd.underlying3 h3
      obtain ⟨q, e2, _, s2⟩ := DataW.trod_string Tryd.underlying9 h4
      exact ⟨(p, q), by rw [h1]; simpa using e1, by rw [h2]; simpa using e2, s2⟩
    obtain ⟨f, hf⟩ := choose_lt each
    have hlen : ((List.range n).map f).length = n := by simp
    refine ⟨(List.range n).map f, ⟨some a, c, by rw [ivals_length, hlen], by rw [ivals_length, hlen]; exact hl, fun h0 => ?_⟩, by rw [hlen]; omega, fun s hs => ?_⟩
    · rw [ivals_length, hlen] at h0
      obtain ⟨b, off, spot⟩ := a
      have h1 := (hf 0 (by omega)).1
      have hspot : spot = none := by simpa [Addr.add] using World.cell?_spot h1
      subst hspot
      refine ⟨b, off, rfl, by have := cell_ltI h1; simpa [Addr.add] using this, fun j s hj => ?_⟩
      have hjn : j < n := by have := (List.getElem?_eq_some_iff.1 hj).1; rw [ivals_length, hlen] at this; omega
      have hs : s = (.int .i64 (f j).1, .string (f j).2) := by
        have := ivals_get (l := (List.range n).map f) (k := j) (s := f j) (by rw [List.getElem?_map, List.getElem?_range hjn]; rfl)
        rw [hj] at this
        injection this
      obtain ⟨h2, h3, _⟩ := hf j hjn
      rw [add_plain] at h2 h3
      rw [hs]
      exact ⟨h2, by rw [Nat.add_assoc]; exact h3⟩
    · obtain ⟨i, hi, rfl⟩ := List.mem_map.1 hs
      exact (hf i (List.mem_range.1 hi)).2.2
set_option maxRecDepth 100000 in
theorem pack_opened {H : Type} {enc : TypeId × Value → H} {W : World} {base : Nat} {v : Value} {d : DataW H} {p : List MemPlace}
    (hv : Value.okWide Tryd.prog W .any base 24 v) (h : DataW.Trod enc Tryd.prog W 0 (fun _ => true) true 24 v d p) : ∃ (no : Int) (v' : Value) (l : List Itm), v = packV no v' ∧ ItemsIn W v' l := by
  obtain ⟨c0, c1, y0, y1, m, rfl, _, _, h0, h1⟩ := open_agg2 Tryd.underlying24 (by kernel_rfl) (by kernel_rfl) hv h
  obtain ⟨no, e0, _, _⟩ := DataW.trod_int Tryd.underlying3 h0
  obtain ⟨a, n, c, hs⟩ := slice_form Tryd.underlying22 h1
  simp only [List.cons.injEq, and_true] at hs
  subst hs
  obtain ⟨l, hl⟩ := items_opened (A := a) (n := n) (c := c) h1
  simp only [List.cons.injEq, and_true] at e0
  subst e0
  exact ⟨no, _, l, rfl, hl⟩
theorem ints_opened {H : Type} {enc : TypeId × Value → H} {W : World} {fuel : Nat} {A : Option Addr} {n c : Nat} {x : DataW H × List MemPlace}
    (h : DataW.trod enc Tryd.prog W 0 (fun _ => true) true fuel 43 (Value.slice A n c).cells.toList = some x) : ∃ z : List Int, Lst W W.heap.size (.slice A n c) (intVals z) ∧ z.length ≤ maxLen := by
  rcases open_ints Tryd.underlying43 Tryd.underlying3 (by kernel_rfl) h with ⟨hcs, _⟩ | ⟨a, ln, cp, zs, hcs, _, hl, hm, hz, _, hcell, _⟩
  · simp [Value.cells] at hcs
    obtain ⟨rfl, rfl, rfl⟩ := hcs
    exact ⟨[], ⟨none, 0, rfl, Nat.le_refl _, fun h => absurd h (by simp [intVals])⟩, by simp⟩
  · simp [Value.cells] at hcs
    obtain ⟨rfl, rfl, rfl⟩ := hcs
    have hz2 : zs.length = c := by simpa using hz
    have hlen : (intVals (zs.take n)).length = n := by rw [intVals_length, List.length_take]; omega
    refine ⟨zs.take n, ⟨some a, c, by rw [hlen], by rw [hlen]; exact hl, fun h0 => ?_⟩, by rw [List.length_take]; omega⟩
    rw [hlen] at h0
    obtain ⟨b, off, spot⟩ := a
    have h1 := hcell 0 (by omega)
    have hspot : spot = none := by simpa [Addr.add] using World.cell?_spot h1
    subst hspot
    refine ⟨b, off, rfl, by have := cell_ltI h1; simpa [Addr.add] using this, fun j y hj => ?_⟩
    have hjn : j < n := by have := (List.getElem?_eq_some_iff.1 hj).1; rw [hlen] at this; exact this
    have h2 := hcell j (by omega)
    rw [add_plain] at h2
    rw [h2]
    have h3 := intVals_get (zs.take n) j (zs.getD j 0) (by rw [List.getElem?_take_of_lt hjn, List.getD_eq_getElem?_getD, List.getElem?_eq_getElem (by omega)]; rfl)
    rw [hj] at h3
    exact h3.symm
end Go.Proofs.YtkjginibdablnaaDoor
