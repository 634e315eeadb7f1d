/- A list of entries that came in, as the frames hand it to the walks. -/
import Derived.Test.YtfoocgfedcfkhaaSpotS
import Derived.Deep.SlicePairs
import Derived.OpenShut
namespace Go.Proofs.Ytfoocgfedcfkhaa
open Go.RowKit Go.ChangeShapes Go.WideShapes Go.Deep
theorem cell_ltS {w : World} {p : Addr} {v : Value} (h : w.cell? p = some v) : p.block < w.heap.size := by
  rcases Nat.lt_or_ge p.block w.heap.size with h' | h'
  · exact h'
  · simp [World.cell?, Array.getElem?_eq_none h'] at h
theorem lsp_none (w : World) (B : Nat) : Lsp w B (.slice none 0 0) [] := ⟨none, 0, rfl, Nat.le_refl _, fun h => absurd h (by simp)⟩
theorem spots_opened {H : Type} {enc : TypeId × Value → H} {W : World} {fuel : Nat} {A : Option Addr} {n c : Nat} {x : DataW H × List MemPlace}
    (h : DataW.trod enc Try.prog W 0 (fun _ => true) true fuel 22 (Value.slice A n c).cells.toList = some x) : ∃ l : List (Int × Int), SpotsIn W (.slice A n c) l := by
  rcases open_slice_pairs Try.underlying22 Try.underlying42 (by kernel_rfl) rfl rfl (by kernel_rfl) (by kernel_rfl) h with ⟨hcs, _⟩ | ⟨a, ln, cp, m, k, V0, V1, D0, D1, P0, P1, hcs, _, hl, hm, hmm, _, hx⟩
  · simp [Value.cells] at hcs
    obtain ⟨rfl, rfl, rfl⟩ := hcs
    exact ⟨[], lsp_none _ _, by simp⟩
  · simp [Value.cells] at hcs
    obtain ⟨rfl, rfl, rfl⟩ := hcs
    have each : ∀ i, i < n → ∃ s : Int × Int, W.cell? (a.add (i * 2)) = some (.int .i64 s.1) ∧ W.cell? (a.add (i * 2 + 1)) = some (.int .i64 s.2) := fun i hi => by
      obtain ⟨h1, h2, h3, h4⟩ := hx i (by rw [hmm]; simp; omega)
      obtain ⟨p, e1, _⟩ := DataW.trod_int Try.underlying3 h3
      obtain ⟨q, e2, _⟩ := DataW.trod_int Try.underlying3 h4
      exact ⟨(p, q), by rw [h1]; simpa using e1, by rw [h2]; simpa using e2⟩
    obtain ⟨f, hf⟩ := choose_lt each
    have hlen : ((List.range n).map f).length = n := by simp
    refine ⟨(List.range n).map f, ⟨some a, c, by rw [hlen], by rw [hlen]; exact hl, fun h0 => ?_⟩, by rw [hlen]; omega⟩
    rw [hlen] at h0
    obtain ⟨b, off, spot⟩ := a
    have h1 := (hf 0 (by omega)).1
    have hspot : spot = none := by simpa [Addr.add] using World.cell?_spot h1
    subst hspot
    refine ⟨b, off, rfl, by have := cell_ltS h1; simpa [Addr.add] using this, fun j s hj => ?_⟩
    have hjn : j < n := by have := (List.getElem?_eq_some_iff.1 hj).1; omega
    have hs : f j = s := by
      rw [List.getElem?_map, List.getElem?_range hjn] at hj
      simpa using hj
    obtain ⟨h2, h3⟩ := hf j hjn
    rw [add_plain] at h2 h3
    rw [hs] at h2 h3
    exact ⟨h2, by rw [Nat.add_assoc]; exact h3⟩
end Go.Proofs.Ytfoocgfedcfkhaa
