/- The marks that are texts. -/
import Derived.Test.YtkjginibdablnaaGreatDoorMarks
namespace Go.Proofs.YtkjginibdablnaaGreatDoor
open Go.RowKit
/-- the decimal digits of k ahead of a text -/
def digs (k : Nat) (out : ByteArray) : ByteArray := if _h : k = 0 then out else digs (k / 10) (⟨#[UInt8.ofNat (48 + k % 10)]⟩ ++ out)
termination_by k
decreasing_by omega
theorem digs_zero (out : ByteArray) : digs 0 out = out := by rw [digs]; simp
theorem digs_next (k : Nat) (out : ByteArray) (h : k ≠ 0) : digs k out = digs (k / 10) (⟨#[UInt8.ofNat (48 + k % 10)]⟩ ++ out) := by rw [digs, dif_neg h]
/-- the text of the mark k -/
def markT (k : Nat) : ByteArray := ⟨#[109]⟩ ++ digs k ⟨#[]⟩
theorem run_byte_text {P : Program} (w : World) (src dst e : TypeId) (c : UInt8) (n : Int) (hn : n = (c.toNat : Int)) (hs : P.underlying src = some (.slice e)) (he : P.underlying e = some (.int .u8)) (hd : P.underlying dst = some .string) :
    (convert src dst (.slice (some ⟨w.heap.size, 0, none⟩) 1 1)).run P (w.alloc (.cells #[.int .u8 n] e)) = .ok (.string ⟨#[c]⟩) (w.alloc (.cells #[.int .u8 n] e)) := by
  subst hn
  refine run_convert_bytes_back _ src dst e _ 1 [c] hs he hd fun j hj => ?_
  obtain rfl : j = 0 := by simp at hj; exact hj
  exact World.cell?_alloc_mark w _ e (0, 0) 0
section
set_option maxHeartbeats 800000
set_option maxRecDepth 100000
theorem markText_any (k : Nat) (h1 : 1 ≤ k) (hk : k ≤ 1000000000) (w : World) :
    Calls Tryz.prog 44 #[.int .i64 (k : Int)] w fun e w' => e = .returned (.string (markT k)) ∧ Below w.heap.size w w' := by
  have hk0 : ¬ k = 0 := by omega
  have hk1 : (1 : Int) ≤ (k : Int) := by omega
  go_enter Tryz.func44, Tryz.ntmps44
  go_wp2
  go_loopw [0, 3] (fun kk o wr => ∃ (j : Nat) (out : ByteArray), kk = .int .i64 (j : Int) ∧ o = .string out ∧ out.size + j ≤ k ∧ digs j out = digs k ⟨#[]⟩ ∧ Below w.heap.size w wr) (fun kk _ _ => (intOf kk).toNat)
  case atStart => exact ⟨k, ⟨#[]⟩, rfl, rfl, by simp [ByteArray.size], rfl, Below.refl _ _⟩
  case round =>
    obtain ⟨j, out, rfl, rfl, hs, hd, hb⟩ := hrel
    have HD := Lib.hid hd
    have HB := Lib.hid hb
    clear hd hb
    by_cases hj : j = 0
    · subst hj
      have HE : Hid (out = digs k ⟨#[]⟩) := Lib.hid (by rw [← HD.out, digs_zero])
      have hlen : out.size ≤ 1000000000 := by omega
      go_wp2
      go_ret
      exact ⟨by rw [markT, ← HE.out]; rfl, HB.out⟩
    · have hj1 : (0 : Int) < (j : Int) := by omega
      have hlen : out.size ≤ 1000000000 := by omega
      have HD2 : Hid (digs (j / 10) (⟨#[UInt8.ofNat (48 + j % 10)]⟩ ++ out) = digs k ⟨#[]⟩) := Lib.hid (by rw [← HD.out, digs_next j out hj])
      have hc : (48 + (j : Int) % 10) = ((UInt8.ofNat (48 + j % 10)).toNat : Int) := by rw [UInt8.toNat_ofNat']; omega
      have kc := run_byte_text (P := Tryz.prog) wr 22 9 5 (UInt8.ofNat (48 + j % 10)) _ hc (by rfl) (by rfl) (by rfl)
      have hsz : (ByteArray.mk #[UInt8.ofNat (48 + j % 10)]).size = 1 := rfl
      clear hc
      generalize ByteArray.mk #[UInt8.ofNat (48 + j % 10)] = cc at *
      go_wp2
      go_roundw
      case rel => exact ⟨j / 10, cc ++ out, by go_num, rfl, by rw [ByteArray.size_append]; omega, HD2.out, HB.out.alloc HB.out.size _⟩
      case measure => simp [intOf]; omega
end
end Go.Proofs.YtkjginibdablnaaGreatDoor
