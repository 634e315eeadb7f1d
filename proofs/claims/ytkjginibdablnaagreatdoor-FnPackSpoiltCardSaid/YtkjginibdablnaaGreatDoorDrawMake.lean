/- The drawing of a number, a key, and pieces. -/
import Derived.Test.YtkjginibdablnaaGreatDoorSome
import Derived.Test.YtkjginibdablnaaGreatDoorKey
namespace Go.Proofs.YtkjginibdablnaaGreatDoor
open Go.RowKit
def DrewMake (w : World) (e : Ending) (w' : World) : Prop := ∃ (no key : Int) (v : Value) (L : List ByteArray), e = .returned (.tuple #[.int .i64 no, .int .i64 key, v]) ∧ Lst w' w'.heap.size v (barVals L) ∧ 0 ≤ no ∧ no ≤ 100 ∧ 0 ≤ key ∧ key ≤ 100 ∧ L.length ≤ 5 ∧ (∀ s ∈ L, s.size ≤ 9) ∧ Below w.heap.size w w'
section
set_option maxHeartbeats 1600000
set_option maxRecDepth 100000
theorem drawPackMake_any (a : Option Addr) (len cap : Nat) (zs : List Int) (w : World) (h : Code w a len cap zs) : Calls Tryz.prog 7 #[.slice a len cap] w (DrewMake w) := by
  have HC := Lib.hid h
  clear h
  go_enter Tryz.func7, Tryz.ntmps7
  go_wp2_with fail
  refine (open_any a len cap zs w HC.out).mono ?_
  rintro e w1 ⟨rfl, hr, hb⟩
  have HR1 := Lib.hid hr
  have HB1 := Lib.hid hb
  obtain ⟨r, hrr⟩ : ∃ r, w.heap.size = r := ⟨_, rfl⟩
  have HRR := Lib.hid (show w.heap.size = r ∧ w.heap.size ≤ w1.heap.size from ⟨hrr, hb.size⟩)
  rw [hrr] at HR1 HB1 ⊢
  clear hr hb hrr
  go_wp2_with fail
  refine (pick_any 101 w1 r 0 HR1.out (by omega) (by omega)).mono ?_
  rintro e w2 ⟨x, rfl, hx, _, hr2, hg2⟩
  have hx1 : x ≤ 100 := by have := hx (by omega); omega
  have HR2 := Lib.hid hr2
  have HG2 := Lib.hid hg2
  clear hx hr2 hg2
  go_wp2_with fail
  refine (l91Key_any w2 r 1 HR2.out (by omega)).mono ?_
  rintro e w3 ⟨key, rfl, hk0, hk1, hr3, hg3⟩
  have HR3 := Lib.hid hr3
  have HG3 := Lib.hid (grown_trans HG2.out hg3)
  clear hr3 hg3
  go_wp2_with fail
  refine (l91Some_any 5 w3 r 4 HR3.out (by omega) (by omega) (by omega)).mono ?_
  rintro e w4 ⟨v, ps, rfl, ho, hn, hsz, hr4, hg4⟩
  have HO := Lib.hid (lst_of_own ho)
  have HSZ := Lib.hid hsz
  have HB4 := Lib.hid (HB1.out.grown (grown_trans HG3.out hg4) (by have := HRR.out; omega) (fun k hk => by cases hk; exact Nat.le_refl _))
  clear ho hsz hr4 hg4
  go_wp2
  go_ret3
  exact ⟨(x : Int), key, v, ps, rfl, HO.out, by omega, by omega, hk0, hk1, hn, HSZ.out, by have := HB4.out; rwa [← HRR.out.1] at this⟩
end
end Go.Proofs.YtkjginibdablnaaGreatDoor
