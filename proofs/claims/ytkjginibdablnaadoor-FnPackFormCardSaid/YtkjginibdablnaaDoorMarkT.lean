/- The marks that are texts. -/
import Derived.Test.YtkjginibdablnaaDoorMarks
namespace Go.Proofs.YtkjginibdablnaaDoor
open Go.RowKit
/-- the decimal digits of k ahead of a text -/
def digs (k : Nat) (out : ByteArray) : ByteArray := if _h : k = 0 then out else digs (k / 10) (⟨#[UInt8.ofNat (48 + k % 10)]⟩ ++ out)
termination_by k
decreasing_by omega
theorem digs_zero (out : ByteArray) : digs 0 out = out := by rw [digs]; simp
theorem digs_next (k : Nat) (out : ByteArray) (h : k ≠ 0) : digs k out = digs (k / 10) (⟨#[UInt8.ofNat (48 + k % 10)]⟩ ++ out) := by rw [digs, dif_neg h]
/-- the text of the mark k -/
def markT (k : Nat) : ByteArray := ⟨#[109]⟩ ++ digs k ⟨#[]⟩
theorem run_byte_text {P : Program} (w : World) (src dst e : TypeId) (c : UInt8) (n : Int) (hn : n = (c.toNat : Int)) (hs : P.underlying src = some (.slice e)) (he : P.underlying e = some (.int .u8)) (hd : P.underlying dst = some .string) :
    (convert src dst (.slice (some ⟨w.heap.size, 0, none⟩) 1 1)).run P (w.alloc (.cells #[.int .u8 n] e)) = .ok (.string ⟨#[c]⟩) (w.alloc (.cells #[.int .u8 n] e)) := by
  subst hn
  refine run_convert_bytes_back _ src dst e _ 1 [c] hs he hd fun j hj => ?_
  obtain rfl : j = 0 := by simp at hj; exact hj
  exact World.cell?_alloc_mark w _ e (0, 0) 0
section
set_option maxHeartbeats 800000
end
end Go.Proofs.YtkjginibdablnaaDoor
