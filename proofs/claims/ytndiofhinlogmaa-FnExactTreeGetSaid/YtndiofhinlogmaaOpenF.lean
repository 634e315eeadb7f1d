/- A list of files that came in, as the frames hand it to the walks. -/
import Derived.Test.YtndiofhinlogmaaFileS
import Derived.Deep.SlicePairs
import Derived.OpenShut
namespace Go.Proofs.Ytndiofhinlogmaa
open Go.RowKit Go.ChangeShapes Go.WideShapes Go.Deep
theorem cell_ltF {w : World} {p : Addr} {v : Value} (h : w.cell? p = some v) : p.block < w.heap.size := by
  rcases Nat.lt_or_ge p.block w.heap.size with h' | h'
  · exact h'
  · simp [World.cell?, Array.getElem?_eq_none h'] at h
theorem files_opened {H : Type} {enc : TypeId × Value → H} {W : World} {fuel : Nat} {A : Option Addr} {n c : Nat} {x : DataW H × List MemPlace}
    (h : DataW.trod enc Try.prog W 0 (fun _ => true) true fuel 26 (Value.slice A n c).cells.toList = some x) : ∃ l : List Fil, FilesIn W (.slice A n c) l := by
  rcases open_slice_pairs Try.underlying26 Try.underlying52 (by kernel_rfl) rfl rfl (by kernel_rfl) (by kernel_rfl) h with ⟨hcs, _⟩ | ⟨a, ln, cp, m, k, V0, V1, D0, D1, P0, P1, hcs, _, hl, hm, hmm, _, hx⟩
  · simp [Value.cells] at hcs
    obtain ⟨rfl, rfl, rfl⟩ := hcs
    exact ⟨[], lp_none _ _, by simp, by simp⟩
  · simp [Value.cells] at hcs
    obtain ⟨rfl, rfl, rfl⟩ := hcs
    have each : ∀ i, i < n → ∃ s : Fil, W.cell? (a.add (i * 2)) = some (.string s.1) ∧ W.cell? (a.add (i * 2 + 1)) = some (.string s.2) ∧ s.1.size ≤ maxLen ∧ s.2.size ≤ maxLen := fun i hi => by
      obtain ⟨h1, h2, h3, h4⟩ := hx i (by rw [hmm]; simp; omega)
      obtain ⟨p, e1, _, s1⟩ := DataW.trod_string Try.underlying9 h3
      obtain ⟨q, e2, _, s2⟩ := DataW.trod_string Try.underlying9 h4
      exact ⟨(p, q), by rw [h1]; simpa using e1, by rw [h2]; simpa using e2, s1, s2⟩
    obtain ⟨f, hf⟩ := choose_lt each
    have hlen : ((List.range n).map f).length = n := by simp
    refine ⟨(List.range n).map f, ⟨some a, c, by rw [fvals_length, hlen], by rw [fvals_length, hlen]; exact hl, fun h0 => ?_⟩, by rw [hlen]; omega, fun s hs => ?_⟩
    · rw [fvals_length, hlen] at h0
      obtain ⟨b, off, spot⟩ := a
      have h1 := (hf 0 (by omega)).1
      have hspot : spot = none := by simpa [Addr.add] using World.cell?_spot h1
      subst hspot
      refine ⟨b, off, rfl, by have := cell_ltF h1; simpa [Addr.add] using this, fun j s hj => ?_⟩
      have hjn : j < n := by have := (List.getElem?_eq_some_iff.1 hj).1; rw [fvals_length, hlen] at this; omega
      have hs : s = (.string (f j).1, .string (f j).2) := by
        have := fvals_get (l := (List.range n).map f) (k := j) (s := f j) (by rw [List.getElem?_map, List.getElem?_range hjn]; rfl)
        rw [hj] at this
        injection this
      obtain ⟨h2, h3, _⟩ := hf j hjn
      rw [add_plain] at h2 h3
      rw [hs]
      exact ⟨h2, by rw [Nat.add_assoc]; exact h3⟩
    · obtain ⟨i, hi, rfl⟩ := List.mem_map.1 hs
      exact (hf i (List.mem_range.1 hi)).2.2
end Go.Proofs.Ytndiofhinlogmaa
