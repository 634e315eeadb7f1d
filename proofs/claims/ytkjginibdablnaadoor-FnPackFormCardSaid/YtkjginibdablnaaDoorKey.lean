/- The drawing of a key. -/
import Derived.Test.YtkjginibdablnaaDoorDraw
import Derived.OwnWalk
namespace Go.Proofs.YtkjginibdablnaaDoor
open Go.RowKit
theorem lit_int (w : World) (cs : Array Value) (T : TypeId) (j : Nat) (v : Value) (h : cs[j]? = some v) : (w.alloc (.cells cs T)).cell? ⟨w.heap.size, j, none⟩ = some v := by
  rw [cell_of_row (w.alloc (.cells cs T)) w.heap.size j cs T (0, 0) (heap_alloc_new w _)]
  exact h
section
set_option maxHeartbeats 800000
def GaveKey (w : World) (r K : Nat) (e : Ending) (w' : World) : Prop := ∃ k : Int, e = .returned (.int .i64 k) ∧ 0 ≤ k ∧ k ≤ 100 ∧ Rd w' r K ∧ w.grownBy w' (some r)
theorem l91Key_any (w : World) (r K : Nat) (h : Rd w r K) (hK : K ≤ 80000) : Calls Tryd.prog 47 #[.pointer (some ⟨r, 0, none⟩)] w (GaveKey w r (K + 3)) := by
  have HR := Lib.hid h
  clear h
  go_enter Tryd.func47, Tryd.ntmps47
  go_wp2_with fail
  refine (pick_any 60 w r K HR.out (by omega) (by omega)).mono ?_
  rintro e w1 ⟨x, rfl, hx, _, hr1, hg1⟩
  have HR1 := Lib.hid hr1
  have HG1 := Lib.hid hg1
  clear hx hr1 hg1
  by_cases q : x = 0
  · subst q
    go_wp2_with fail
    refine (pick_any 2 _ r (K + 1) (HR1.out.alloc _) (by omega) (by omega)).mono ?_
    rintro e w2 ⟨y, rfl, hy, _, hr2, hg2⟩
    have hy2 : y < 2 := by have := hy (by omega); omega
    have hne : w1.heap.size ≠ r := by have := HR1.out.lt; omega
    have HR2 := Lib.hid hr2
    have HG2 := Lib.hid (grown_trans HG1.out (grown_trans (grown_alloc (grown_refl w1 _) _) hg2))
    rcases (by omega : y = 0 ∨ y = 1) with rfl | rfl
    · have hc := hg2.cell (lit_int w1 #[.int .i64 0, .int .i64 100] 3 0 (.int .i64 0) rfl) (fun e => hne (by injection e))
      clear hy hr2 hg2
      go_wp2
      go_ret
      exact ⟨_, rfl, by omega, by omega, HR2.out.more (by omega), HG2.out⟩
    · have hc := hg2.cell (lit_int w1 #[.int .i64 0, .int .i64 100] 3 1 (.int .i64 100) rfl) (fun e => hne (by injection e))
      clear hy hr2 hg2
      go_wp2
      go_ret
      exact ⟨_, rfl, by omega, by omega, HR2.out.more (by omega), HG2.out⟩
  · have b3 : ((x : Int) == 0) = false := by simp; omega
    clear q
    go_wp2_with fail
    refine (pick_any 99 _ r (K + 1) HR1.out (by omega) (by omega)).mono ?_
    rintro e w2 ⟨y, rfl, hy, _, hr2, hg2⟩
    have hy2 : y < 99 := by have := hy (by omega); omega
    have HR2 := Lib.hid hr2
    have HG2 := Lib.hid (grown_trans HG1.out hg2)
    clear hy hr2 hg2
    go_wp2_with fail
    refine (pick_any 3 _ r (K + 1 + 1) (HR2.out.alloc _) (by omega) (by omega)).mono ?_
    rintro e w3 ⟨z, rfl, hz, _, hr3, hg3⟩
    have hz2 : z < 3 := by have := hz (by omega); omega
    have hne : w2.heap.size ≠ r := by have := HR2.out.lt; omega
    have HR3 := Lib.hid hr3
    have HG3 := Lib.hid (grown_trans HG2.out (grown_trans (grown_alloc (grown_refl w2 _) _) hg3))
    rcases (by omega : z = 0 ∨ z = 1 ∨ z = 2) with rfl | rfl | rfl
    · have hc := hg3.cell (lit_int w2 #[.int .i64 7, .int .i64 7, .int .i64 (1 + (y : Int))] 3 0 (.int .i64 7) rfl) (fun e => hne (by injection e))
      clear hz hr3 hg3
      go_wp2
      go_ret
      exact ⟨_, rfl, by omega, by omega, HR3.out.more (by omega), HG3.out⟩
    · have hc := hg3.cell (lit_int w2 #[.int .i64 7, .int .i64 7, .int .i64 (1 + (y : Int))] 3 1 (.int .i64 7) rfl) (fun e => hne (by injection e))
      clear hz hr3 hg3
      go_wp2
      go_ret
      exact ⟨_, rfl, by omega, by omega, HR3.out.more (by omega), HG3.out⟩
    · have hc := hg3.cell (lit_int w2 #[.int .i64 7, .int .i64 7, .int .i64 (1 + (y : Int))] 3 2 (.int .i64 (1 + (y : Int))) rfl) (fun e => hne (by injection e))
      clear hz hr3 hg3
      go_wp2
      go_ret
      exact ⟨_, rfl, by omega, by omega, HR3.out.more (by omega), HG3.out⟩
end
end Go.Proofs.YtkjginibdablnaaDoor
