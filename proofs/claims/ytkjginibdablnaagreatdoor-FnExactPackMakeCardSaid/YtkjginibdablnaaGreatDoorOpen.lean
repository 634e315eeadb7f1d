/- A list of strings that came in, as the frames hand it to the walks. -/
import Derived.Test.YtkjginibdablnaaGreatDoorLists
import Derived.SliceStrings
import Derived.OpenShut
namespace Go.Proofs.YtkjginibdablnaaGreatDoor
open Go.RowKit Go.ChangeShapes Go.WideShapes

theorem cell_lt {w : World} {p : Addr} {v : Value} (h : w.cell? p = some v) : p.block < w.heap.size := by
  rcases Nat.lt_or_ge p.block w.heap.size with h' | h'
  · exact h'
  · simp [World.cell?, Array.getElem?_eq_none h'] at h
theorem strs_lst {w : World} {x : Addr} {n c : Nat} {ss : List ByteArray} (hn : n ≤ c) (hz : ss.length = c) (hcell : ∀ i, i < ss.length → w.cell? (x.add i) = some (.string (ss.getD i ByteArray.empty))) :
    Lst w w.heap.size (.slice (some x) n c) (barVals (ss.take n)) := by
  have hl : (barVals (ss.take n)).length = n := by rw [barVals_length, List.length_take]; omega
  refine ⟨some x, c, by rw [hl], by omega, fun h0 => ?_⟩
  rw [hl] at h0
  obtain ⟨b, off, spot⟩ := x
  have h1 := hcell 0 (by omega)
  have hspot : spot = none := by simpa [Addr.add] using World.cell?_spot h1
  subst hspot
  refine ⟨b, off, rfl, by have := cell_lt h1; simpa [Addr.add] using this, fun j v hj => ?_⟩
  have hjn : j < n := by have := (List.getElem?_eq_some_iff.1 hj).1; omega
  have h2 := hcell j (by omega)
  rw [add_plain] at h2
  rw [h2]
  have hj2 : (ss.take n)[j]? = some (ss.getD j ByteArray.empty) := by
    rw [List.getElem?_take_of_lt hjn, List.getD_eq_getElem?_getD, List.getElem?_eq_getElem (by omega)]
    rfl
  have := barVals_get _ _ _ hj2
  rw [hj] at this
  exact this.symm
theorem lst_none (w : World) (B : Nat) : Lst w B (.slice none 0 0) (barVals []) := ⟨none, 0, rfl, Nat.le_refl _, fun h => absurd h (by simp [barVals])⟩
theorem strs_opened {H : Type} {enc : TypeId × Value → H} {W : World} {fuel : Nat} {A : Option Addr} {n c : Nat} {x : DataW H × List MemPlace} {t e : TypeId} (ht : Tryz.prog.underlying t = some (.slice e)) (he : Tryz.prog.underlying e = some .string) (hc : Tryz.prog.cellsOf e = 1)
    (h : DataW.trod enc Tryz.prog W 0 (fun _ => true) true fuel t (Value.slice A n c).cells.toList = some x) : ∃ l : List ByteArray, Lst W W.heap.size (.slice A n c) (barVals l) ∧ l.length ≤ maxLen ∧ ∀ s ∈ l, s.size ≤ maxLen := by
  rcases open_strings ht he hc h with ⟨hcs, _⟩ | ⟨a, ln, cp, ss, hcs, _, hl, hm, hz, _, hcell, hsz⟩
  · simp [Value.cells] at hcs
    obtain ⟨rfl, rfl, rfl⟩ := hcs
    exact ⟨[], lst_none _ _, by simp, by simp⟩
  · simp [Value.cells] at hcs
    obtain ⟨rfl, rfl, rfl⟩ := hcs
    exact ⟨ss.take n, strs_lst hl (by simpa using hz) hcell, by rw [List.length_take]; simp at hz; omega, fun s hs => hsz s (List.mem_of_mem_take hs)⟩
end Go.Proofs.YtkjginibdablnaaGreatDoor
