/- The exact law of PadOf; the law that of a padded piece no more is told than its class. -/
import Derived.Test.YtbaafipkdglohaaDoorPad
import Derived.Test.YtbaafipkdglohaaDoorDraw
namespace Go.Proofs.YtbaafipkdglohaaDoor
open Go.RowKit
theorem max9p {s : ByteArray} (h : s.size ≤ 1000) : s.size ≤ maxLen := by unfold maxLen; omega
theorem Code.keptP {w w' : World} {a : Option Addr} {len cap : Nat} {zs : List Int} (h : Code w a len cap zs) (hb : Below w.heap.size w w') : Code w' a len cap zs := by
  rcases h with h | ⟨x, h1, h2, h3, h4, h5, h6⟩
  · exact .inl h
  · refine .inr ⟨x, h1, h2, h3, h4, fun i hi => ?_, h6⟩
    have hc := h5 i hi
    have hlt : (x.add i).block < w.heap.size := by
      rcases Nat.lt_or_ge (x.add i).block w.heap.size with h' | h'
      · exact h'
      · simp [World.cell?, Array.getElem?_eq_none h'] at hc
    exact (hb.cell hlt).trans hc
theorem bel_transP {w w1 w2 : World} (h : Below w.heap.size w w1) (k : Below w1.heap.size w1 w2) : Below w.heap.size w w2 := h.trans (k.mono h.size)
theorem class_len {l : List UInt8} (h : pieceB l = true) : classZ (l.length : Int) = ((padL l).length : Nat) := by
  rw [padL_len h, clsN_class (pieceB_is h).1 (pieceB_is h).2.1]
theorem pad_size (l : List UInt8) : (⟨(padL l).toArray⟩ : ByteArray).size = (padL l).length := rfl
theorem pad_empty {l : List UInt8} (h : pieceB l = false) : (⟨(padL l).toArray⟩ : ByteArray) = ByteArray.empty := by rw [padL_no h]; rfl
theorem pad_some {l : List UInt8} (h : pieceB l = true) : (⟨(padL l).toArray⟩ : ByteArray).toList.isEmpty = false := by
  rw [ByteArray.toList_eq]
  cases hp : padL l with
  | nil => exact absurd hp (padL_ne h)
  | cons x r => rfl
section
set_option maxHeartbeats 800000
end
end Go.Proofs.YtbaafipkdglohaaDoor
