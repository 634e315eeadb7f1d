/- What the drawings of texts and pieces give: strings of bounded length; of the memory that was there only the reader's own place is turned. -/
import Derived.Test.YtkjginibdablnaaDoorRead
import Derived.Maps.AppendAt
namespace Go.Proofs.YtkjginibdablnaaDoor
open Go.RowKit

theorem grown_trans {a b c : World} {row : Option Nat} (h : a.grownBy b row) (k : b.grownBy c row) : a.grownBy c row :=
  ⟨k.os.trans h.os, k.tape.trans h.tape, k.output.trans h.output, Nat.le_trans h.size k.size, fun i hi hne => (k.block i (Nat.lt_of_lt_of_le hi h.size) hne).trans (h.block i hi hne)⟩
theorem grown_refl (w : World) (row : Option Nat) : w.grownBy w row := ⟨rfl, rfl, rfl, Nat.le_refl _, fun _ _ _ => rfl⟩
theorem grown_alloc {a w : World} {row : Option Nat} (h : a.grownBy w row) (o : Obj) : a.grownBy (w.alloc o) row :=
  ⟨h.os, h.tape, h.output, Nat.le_trans h.size (by simp), fun i hi hne => (Below.heap_alloc w o i (Nat.lt_of_lt_of_le hi h.size)).trans (h.block i hi hne)⟩
theorem grown_of_below {a w : World} (h : Below a.heap.size a w) (row : Option Nat) : a.grownBy w row := ⟨h.os, h.tape, h.output, h.size, fun i hi _ => h.block i hi⟩
theorem below_of_grown {B r : Nat} {a w : World} (h : a.grownBy w (some r)) (hB : B ≤ r) (hs : B ≤ a.heap.size) : Below B a w :=
  ⟨h.os, h.tape, h.output, h.size, fun i hi => h.block i (by omega) (fun e => by cases e; omega)⟩
theorem Rd.alloc {w : World} {r K : Nat} (h : Rd w r K) (o : Obj) : Rd (w.alloc o) r K :=
  h.grown (row := none) (World.grownBy_alloc w o none) (fun k e => by cases e)

/-- the reader has drawn, and a string that meets Q has come -/
def Gave (Q : ByteArray → Prop) (w : World) (r K : Nat) (e : Ending) (w' : World) : Prop :=
  ∃ s : ByteArray, e = .returned (.string s) ∧ Q s ∧ Rd w' r K ∧ w.grownBy w' (some r)
theorem Gave.mono {Q Q' : ByteArray → Prop} {w w' : World} {r K : Nat} {e : Ending} (h : Gave Q w r K e w') (hQ : ∀ s, Q s → Q' s) : Gave Q' w r K e w' := by
  obtain ⟨s, h1, h2, h3⟩ := h
  exact ⟨s, h1, hQ s h2, h3⟩

section
set_option maxHeartbeats 800000
theorem of_any (Q : ByteArray → Prop) (b m c : Nat) (w : World) (r K : Nat) (h : Rd w r K) (hK : K ≤ 90000) (hm : 1 ≤ m) (hm2 : m ≤ 1000) (hbr : b ≠ r)
    (hc : ∀ j, j < m → ∃ s : ByteArray, Q s ∧ w.cell? ⟨b, j, none⟩ = some (.string s)) :
    Calls Tryd.prog 64 #[.pointer (some ⟨r, 0, none⟩), .slice (some ⟨b, 0, none⟩) m c] w (Gave Q w r (K + 1)) := by
  have HC := Lib.hid hc
  clear hc
  go_enter Tryd.func64, Tryd.ntmps64
  go_wp2_with fail
  refine (pick_any (m : Int) _ r K h (by omega) (by omega)).mono ?_
  rintro e w1 ⟨x, rfl, hx, _, hr1, hg1⟩
  have hxm : x < m := by have := hx (by omega); omega
  obtain ⟨s, hQ, hcs⟩ := HC.out x hxm
  have hcs1 : w1.cell? ⟨b, x, none⟩ = some (.string s) := hg1.cell hcs (fun e => hbr (by injection e))
  have HR := Lib.hid hr1
  have HG := Lib.hid hg1
  have HQ := Lib.hid hQ
  clear hx hr1 hg1 hcs hQ h
  go_wp2
  go_ret
  exact ⟨s, rfl, HQ.out, HR.out, HG.out⟩

theorem lit_cells (w : World) (cs : Array Value) (T : TypeId) (Q : ByteArray → Prop) (h : ∀ v ∈ cs.toList, ∃ s, v = .string s ∧ Q s) (j : Nat) (hj : j < cs.size) :
    ∃ s, Q s ∧ (w.alloc (.cells cs T)).cell? ⟨w.heap.size, j, none⟩ = some (.string s) := by
  have h1 := cell_of_row (w.alloc (.cells cs T)) w.heap.size j cs T (0, 0) (heap_alloc_new w _)
  have hm : cs[j] ∈ cs.toList := by simp
  obtain ⟨s, hs, hQ⟩ := h _ hm
  refine ⟨s, hQ, ?_⟩
  rw [h1, Array.getElem?_eq_getElem hj, hs]
/-- a drawing among strings that have just been laid -/
theorem of_lit (Q : ByteArray → Prop) (m : Nat) (cs : Array Value) (w : World) (r K : Nat) (h : Rd w r K) (hK : K ≤ 90000) (hm : 1 ≤ m) (hm2 : m ≤ 1000) (hc : cs.size = m)
    (hq : ∀ v ∈ cs.toList, ∃ s, v = .string s ∧ Q s) :
    Calls Tryd.prog 64 #[.pointer (some ⟨r, 0, none⟩), .slice (some ⟨w.heap.size, 0, none⟩) m m] (w.alloc (.cells cs 9)) (Gave Q w r (K + 1)) := by
  refine (of_any Q w.heap.size m m _ r K (h.alloc _) hK hm hm2 (by have := h.lt; omega) (fun j hj => lit_cells w cs _ Q hq j (by omega))).mono ?_
  rintro e w' ⟨s, h1, h2, h3, h4⟩
  exact ⟨s, h1, h2, h3, grown_trans (grown_alloc (grown_refl w _) _) h4⟩
/-- a byte, laid in a new block, made into a string -/
theorem conv_one (w : World) (x : Nat) (hx : x < 26) :
    ∃ s : ByteArray, s.size = 1 ∧ (convert 36 9 (.slice (some ⟨w.heap.size, 0, none⟩) 1 1)).run Tryd.prog (w.alloc (.cells #[.int .u8 (97 + (x : Int))] 5)) =
      .ok (.string s) (w.alloc (.cells #[.int .u8 (97 + (x : Int))] 5)) := by
  refine ⟨_, ?_, run_convert_bytes_back (P := Tryd.prog) (w.alloc (.cells #[.int .u8 (97 + (x : Int))] 5)) 36 9 5 ⟨w.heap.size, 0, none⟩ 1 [UInt8.ofNat (97 + x)] Tryd.underlying36 Tryd.underlying5 Tryd.underlying9 ?_⟩
  · rfl
  · intro j hj
    have hj0 : j = 0 := by simpa using hj
    subst hj0
    have h1 := cell_of_row (w.alloc (.cells #[.int .u8 (97 + (x : Int))] 5)) w.heap.size 0 _ _ _ (heap_alloc_new w _)
    show World.cell? _ ⟨w.heap.size, 0, none⟩ = _
    rw [h1]
    simp; omega
theorem size_A : (⟨#[65]⟩ : ByteArray).size = 1 := rfl
def Short (n : Nat) (s : ByteArray) : Prop := s.size ≤ n



theorem l91Piece_any (w : World) (r K : Nat) (h : Rd w r K) (hK : K ≤ 80000) : Calls Tryd.prog 45 #[.pointer (some ⟨r, 0, none⟩)] w (Gave (Short 9) w r (K + 3)) := by
  have HR := Lib.hid h
  clear h
  go_enter Tryd.func45, Tryd.ntmps45
  go_wp2_with fail
  refine (of_lit (Short 9) 10 _ w r K HR.out (by omega) (by omega) (by omega) rfl (by intro v hv; simp at hv; rcases hv with rfl | rfl | rfl | rfl | rfl | rfl | rfl | rfl | rfl | rfl <;> exact ⟨_, rfl, by unfold Short; decide⟩)).mono ?_
  rintro e w1 ⟨y, rfl, hy, hr1, hg1⟩
  have HY := Lib.hid hy
  have HR1 := Lib.hid hr1
  have HG1 := Lib.hid hg1
  clear hy hr1 hg1
  go_wp2_with fail
  refine (pick_any 30 _ r (K + 1) HR1.out (by omega) (by omega)).mono ?_
  rintro e w3 ⟨x3, rfl, hx3, _, hr3, hg3⟩
  have HR3 := Lib.hid hr3
  have HG3 := Lib.hid (grown_trans HG1.out hg3)
  clear hx3 hr3 hg3
  by_cases q3 : x3 = 0
  · subst q3
    go_wp2_with fail
    refine (of_lit (Short 9) 4 _ w3 r (K + 1 + 1) HR3.out (by omega) (by omega) (by omega) rfl (by intro v hv; simp at hv; rcases hv with rfl | rfl | rfl | rfl <;> exact ⟨_, rfl, by unfold Short; decide⟩)).mono ?_
    rintro e w4 ⟨z, rfl, hz, hr4, hg4⟩
    have HZ := Lib.hid hz
    have HR4 := Lib.hid hr4
    have HG4 := Lib.hid (grown_trans HG3.out hg4)
    clear hz hr4 hg4
    go_wp2
    go_ret
    exact ⟨_, rfl, HZ.out, HR4.out, HG4.out⟩
  · have b3 : ((x3 : Int) == 0) = false := by simp; omega
    clear q3
    go_wp2
    go_ret
    exact ⟨_, rfl, HY.out, HR3.out.more (by omega), HG3.out⟩

/-- what a drawing function gives: a string that is not long; nothing that was there has turned -/
def Drew (n : Nat) (w : World) (e : Ending) (w' : World) : Prop := ∃ s : ByteArray, e = .returned (.string s) ∧ s.size ≤ n ∧ Below w.heap.size w w'
end
end Go.Proofs.YtkjginibdablnaaDoor
