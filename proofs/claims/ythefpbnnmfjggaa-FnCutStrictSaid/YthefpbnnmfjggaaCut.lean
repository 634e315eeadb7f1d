/- Where a piece of a text ends: the program's and the reference's functions return the same place. -/
import Derived.Test.YthefpbnnmfjggaaCutPlain
import Derived.Deep.QuietTactic
import Derived.BigQuiet
import Derived.IntWalk
namespace Go.Proofs.Ythefpbnnmfjggaa
open Go.RowKit

theorem lets_at {s : ByteArray} (h : lets s.data.toList = true) (i : Nat) (hi : i < s.size) : 97 ≤ (s[i].toNat : Int) ∧ (s[i].toNat : Int) ≤ 122 := by
  have hm : s[i] ∈ s.data.toList := by
    have : s[i] = s.data.toList[i]'(by simpa using hi) := rfl
    rw [this]; exact List.getElem_mem _
  have := (List.all_eq_true.1 h) _ hm
  rw [isLet_int] at this
  simpa using this
theorem getD_at (s : ByteArray) (i : Nat) (hi : i < s.size) : s.data.toList.getD i 0 = s[i] := by
  rw [List.getD_eq_getElem?_getD, List.getElem?_eq_getElem (by simpa using hi)]; rfl
theorem bnd_at (s : ByteArray) (j : Nat) (hj : j + 2 < s.size) :
    bnd s.data.toList (j + 3) = (((s[j + 2].toNat : Int) - 97 + 2 * ((s[j + 1].toNat : Int) - 97) + 3 * ((s[j].toNat : Int) - 97)) % 5 == 0) := by
  unfold bnd ltr
  rw [show j + 3 - 1 = j + 2 by omega, show j + 3 - 2 = j + 1 by omega, show j + 3 - 3 = j by omega, getD_at s _ hj, getD_at s _ (by omega), getD_at s _ (by omega)]

def QuietBool (b : Bool) (w : World) (e : Ending) (w' : World) : Prop := e = .returned (.bool b) ∧ ∃ n, w' = w.drewN n

section
set_option maxHeartbeats 800000
theorem boundary_at (s : ByteArray) (j : Nat) (w : World) (hs : s.size ≤ 40) (hj : j + 3 ≤ s.size) (hl : lets s.data.toList = true) :
    Calls Try.prog 43 #[.string s, .int .i64 ((j : Int) + 3)] w (QuietBool (bnd s.data.toList (j + 3)) w) := by
  have x0 := lets_at hl j (by omega)
  have x1 := lets_at hl (j + 1) (by omega)
  have x2 := lets_at hl (j + 2) (by omega)
  obtain ⟨a0, b0⟩ := x0
  obtain ⟨a1, b1⟩ := x1
  obtain ⟨a2, b2⟩ := x2
  have HB := Lib.hid (bnd_at s j (by omega))
  clear hl
  have q0 : IntKind.i64.wrap (j : Int) = j := IntWalk.i64_in _ (by omega)
  have q1 : IntKind.i64.wrap ((j : Int) + 3 - 2) = (j : Int) + 1 := by rw [IntWalk.i64_in _ (by omega)]; omega
  have q2 : IntKind.i64.wrap ((j : Int) + 3 - 1) = (j : Int) + 2 := by rw [IntWalk.i64_in _ (by omega)]; omega
  have u0 : IntKind.u8.wrap ((s[j].toNat : Int) - 97) = (s[j].toNat : Int) - 97 := IntWalk.u8_in _ (by omega)
  have u1 : IntKind.u8.wrap ((s[j + 1].toNat : Int) - 97) = (s[j + 1].toNat : Int) - 97 := IntWalk.u8_in _ (by omega)
  have u2 : IntKind.u8.wrap ((s[j + 2].toNat : Int) - 97) = (s[j + 2].toNat : Int) - 97 := IntWalk.u8_in _ (by omega)
  have v0 : IntKind.i64.wrap ((s[j].toNat : Int) - 97) = (s[j].toNat : Int) - 97 := IntWalk.i64_in _ (by omega)
  have v1 : IntKind.i64.wrap ((s[j + 1].toNat : Int) - 97) = (s[j + 1].toNat : Int) - 97 := IntWalk.i64_in _ (by omega)
  have v2 : IntKind.i64.wrap ((s[j + 2].toNat : Int) - 97) = (s[j + 2].toNat : Int) - 97 := IntWalk.i64_in _ (by omega)
  have i0 : (j : Int) < (s.size : Int) := by omega
  have i1 : (j : Int) + 1 < (s.size : Int) := by omega
  have i2 : (j : Int) + 2 < (s.size : Int) := by omega
  have n1 : (0 : Int) ≤ (j : Int) + 1 := by omega
  have n2 : (0 : Int) ≤ (j : Int) + 2 := by omega
  have t1 : ((j : Int) + 1).toNat = j + 1 := by omega
  have t2 : ((j : Int) + 2).toNat = j + 2 := by omega
  have m0 : j < s.size := by omega
  have m1 : j + 1 < s.size := by omega
  have m2 : j + 2 < s.size := by omega
  go_enter Try.func43, Try.ntmps43
  go_wp2
  go_quiet (fail)
  go_wp2
  go_ret
  exact ⟨ret_bool (by rw [HB.out]), ⟨_, rfl⟩⟩
theorem l1Turn_at (s : ByteArray) (j : Nat) (w : World) (hs : s.size ≤ 40) (hj : j + 3 ≤ s.size) (hl : lets s.data.toList = true) :
    Calls Try.prog 47 #[.string s, .int .i64 ((j : Int) + 3)] w (QuietBool (bnd s.data.toList (j + 3)) w) := by
  have x0 := lets_at hl j (by omega)
  have x1 := lets_at hl (j + 1) (by omega)
  have x2 := lets_at hl (j + 2) (by omega)
  obtain ⟨a0, b0⟩ := x0
  obtain ⟨a1, b1⟩ := x1
  obtain ⟨a2, b2⟩ := x2
  have HB := Lib.hid (bnd_at s j (by omega))
  clear hl
  have q0 : IntKind.i64.wrap (j : Int) = j := IntWalk.i64_in _ (by omega)
  have q1 : IntKind.i64.wrap ((j : Int) + 3 - 2) = (j : Int) + 1 := by rw [IntWalk.i64_in _ (by omega)]; omega
  have q2 : IntKind.i64.wrap ((j : Int) + 3 - 1) = (j : Int) + 2 := by rw [IntWalk.i64_in _ (by omega)]; omega
  have u0 : IntKind.u8.wrap ((s[j].toNat : Int) - 97) = (s[j].toNat : Int) - 97 := IntWalk.u8_in _ (by omega)
  have u1 : IntKind.u8.wrap ((s[j + 1].toNat : Int) - 97) = (s[j + 1].toNat : Int) - 97 := IntWalk.u8_in _ (by omega)
  have u2 : IntKind.u8.wrap ((s[j + 2].toNat : Int) - 97) = (s[j + 2].toNat : Int) - 97 := IntWalk.u8_in _ (by omega)
  have v0 : IntKind.i64.wrap ((s[j].toNat : Int) - 97) = (s[j].toNat : Int) - 97 := IntWalk.i64_in _ (by omega)
  have v1 : IntKind.i64.wrap ((s[j + 1].toNat : Int) - 97) = (s[j + 1].toNat : Int) - 97 := IntWalk.i64_in _ (by omega)
  have v2 : IntKind.i64.wrap ((s[j + 2].toNat : Int) - 97) = (s[j + 2].toNat : Int) - 97 := IntWalk.i64_in _ (by omega)
  have i0 : (j : Int) < (s.size : Int) := by omega
  have i1 : (j : Int) + 1 < (s.size : Int) := by omega
  have i2 : (j : Int) + 2 < (s.size : Int) := by omega
  have n1 : (0 : Int) ≤ (j : Int) + 1 := by omega
  have n2 : (0 : Int) ≤ (j : Int) + 2 := by omega
  have t1 : ((j : Int) + 1).toNat = j + 1 := by omega
  have t2 : ((j : Int) + 2).toNat = j + 2 := by omega
  have m0 : j < s.size := by omega
  have m1 : j + 1 < s.size := by omega
  have m2 : j + 2 < s.size := by omega
  have y1 : IntKind.i64.wrap (2 * ((s[j + 1].toNat : Int) - 97)) = 2 * ((s[j + 1].toNat : Int) - 97) := IntWalk.i64_in _ (by omega)
  have y2 : IntKind.i64.wrap ((s[j + 2].toNat : Int) - 97 + 2 * ((s[j + 1].toNat : Int) - 97)) = (s[j + 2].toNat : Int) - 97 + 2 * ((s[j + 1].toNat : Int) - 97) := IntWalk.i64_in _ (by omega)
  have y3 : IntKind.i64.wrap (3 * ((s[j].toNat : Int) - 97)) = 3 * ((s[j].toNat : Int) - 97) := IntWalk.i64_in _ (by omega)
  have y4 : IntKind.i64.wrap ((s[j + 2].toNat : Int) - 97 + 2 * ((s[j + 1].toNat : Int) - 97) + 3 * ((s[j].toNat : Int) - 97)) = (s[j + 2].toNat : Int) - 97 + 2 * ((s[j + 1].toNat : Int) - 97) + 3 * ((s[j].toNat : Int) - 97) := IntWalk.i64_in _ (by omega)
  have y5 : ((s[j + 2].toNat : Int) - 97 + 2 * ((s[j + 1].toNat : Int) - 97) + 3 * ((s[j].toNat : Int) - 97)).tmod 5 = ((s[j + 2].toNat : Int) - 97 + 2 * ((s[j + 1].toNat : Int) - 97) + 3 * ((s[j].toNat : Int) - 97)) % 5 := IntWalk.rem_in _ _ (by omega)
  go_enter Try.func47, Try.ntmps47
  go_wp2
  go_quiet (fail)
  go_wp2
  go_ret
  exact ⟨ret_bool (by rw [HB.out]), ⟨_, rfl⟩⟩

theorem boundary_any (s : ByteArray) (i : Int) (w : World) (hs : s.size ≤ 40) (h3 : 3 ≤ i) (hi : i ≤ s.size) (hl : lets s.data.toList = true) :
    Calls Try.prog 43 #[.string s, .int .i64 i] w (QuietBool (bnd s.data.toList i.toNat) w) := by
  obtain ⟨j, rfl⟩ : ∃ j : Nat, i = (j : Int) + 3 := ⟨(i - 3).toNat, by omega⟩
  rw [show ((j : Int) + 3).toNat = j + 3 by omega]
  exact boundary_at s j w hs (by omega) hl
theorem l1Turn_any (s : ByteArray) (i : Int) (w : World) (hs : s.size ≤ 40) (h3 : 3 ≤ i) (hi : i ≤ s.size) (hl : lets s.data.toList = true) :
    Calls Try.prog 47 #[.string s, .int .i64 i] w (QuietBool (bnd s.data.toList i.toNat) w) := by
  obtain ⟨j, rfl⟩ : ∃ j : Nat, i = (j : Int) + 3 := ⟨(i - 3).toNat, by omega⟩
  rw [show ((j : Int) + 3).toNat = j + 3 by omega]
  exact l1Turn_at s j w hs (by omega) hl

/-- the end of a piece, out of a place's number -/
def Ended (s : ByteArray) (fr : Nat) (w : World) (e : Ending) (w' : World) : Prop := e = .returned (.int .i64 ((cutE s.data.toList fr : Nat) : Int)) ∧ ∃ n, w' = w.drewN n
theorem cutAt_at (s : ByteArray) (fr : Nat) (w : World) (hs : s.size ≤ 40) (hfr : fr < s.size) (hl : lets s.data.toList = true) :
    Calls Try.prog 39 #[.string s, .int .i64 (fr : Int)] w (Ended s fr w) := by
  have HS := Lib.hid (size_int s)
  have HL := Lib.hid hl
  clear hl
  go_enter Try.func39, Try.ntmps39
  go_wp2
  go_loopw [5] (fun i wr => ∃ j n : Nat, fr + 3 ≤ j ∧ j ≤ fr + 8 ∧ i = .int .i64 (j : Int) ∧ cutE s.data.toList fr = cutGo s.data.toList fr (fr + 8 - j) j ∧ wr = w.drewN n) (fun i _ => fr + 8 - (intOf i).toNat)
  case atStart => exact ⟨fr + 3, 0, by omega, by omega, by go_num, by rw [show fr + 8 - (fr + 3) = 5 by omega]; rfl, rfl⟩
  case round =>
    obtain ⟨j, n, h3, h8, rfl, hc, rfl⟩ := hrel
    by_cases hj8 : j < fr + 8
    · rw [show fr + 8 - j = (fr + 8 - (j + 1)) + 1 by omega] at hc
      by_cases hlt : j < s.size
      · cases hb : bnd s.data.toList j with
        | true =>
          have HC : Hid (cutE s.data.toList fr = j) := hc.trans (cutGo_yes (by rw [HS.out]; exact hlt) hb)
          clear hc
          go_wp2_with (go_at_call 43; refine (boundary_any s j _ hs (by omega) (by omega) HL.out).mono ?_; rintro e w' ⟨rfl, n2, rfl⟩)
          go_ret
          exact ⟨ret_int (by rw [HC.out]), ⟨_, rfl⟩⟩
        | false =>
          have HC : Hid (cutE s.data.toList fr = cutGo s.data.toList fr (fr + 8 - (j + 1)) (j + 1)) := hc.trans (cutGo_no (by rw [HS.out]; exact hlt) hb)
          clear hc
          go_wp2_with (go_at_call 43; refine (boundary_any s j _ hs (by omega) (by omega) HL.out).mono ?_; rintro e w' ⟨rfl, n2, rfl⟩)
          go_roundw
          case rel => exact ⟨j + 1, _, by omega, by omega, by go_num, HC.out, rfl⟩
          case measure => simp [intOf]; omega
      · have HC : Hid (cutE s.data.toList fr = s.size) := (hc.trans (cutGo_stop (by rw [HS.out]; exact hlt))).trans HS.out
        clear hc
        go_wp2
        all_goals (go_ret; exact ⟨ret_int (by have := HC.out; omega), ⟨_, rfl⟩⟩)
    · have HC := Lib.hid (show cutE s.data.toList fr = min (fr + 8) s.size by rw [hc, show fr + 8 - j = 0 by omega, cutGo_zero, HS.out])
      clear hc
      go_wp2
      all_goals (go_ret; exact ⟨ret_int (by have := HC.out; omega), ⟨_, rfl⟩⟩)
theorem l1At_at (s : ByteArray) (fr : Nat) (w : World) (hs : s.size ≤ 40) (hfr : fr < s.size) (hl : lets s.data.toList = true) :
    Calls Try.prog 44 #[.string s, .int .i64 (fr : Int)] w (Ended s fr w) := by
  have HS := Lib.hid (size_int s)
  have HL := Lib.hid hl
  clear hl
  go_enter Try.func44, Try.ntmps44
  go_wp2
  go_loopw [5] (fun i wr => ∃ t n : Nat, 3 ≤ t ∧ t ≤ 8 ∧ i = .int .i64 (t : Int) ∧ cutE s.data.toList fr = cutGo s.data.toList fr (8 - t) (fr + t) ∧ wr = w.drewN n) (fun i _ => 8 - (intOf i).toNat)
  case atStart => exact ⟨3, 0, by omega, by omega, by go_num, rfl, rfl⟩
  case round =>
    obtain ⟨t, n, h3, h8, rfl, hc, rfl⟩ := hrel
    by_cases ht8 : t < 8
    · rw [show 8 - t = (8 - (t + 1)) + 1 by omega] at hc
      by_cases hlt : fr + t < s.size
      · cases hb : bnd s.data.toList (fr + t) with
        | true =>
          have HC := Lib.hid (hc.trans (cutGo_yes (by rw [HS.out]; exact hlt) hb))
          clear hc
          have tn : ((fr : Int) + (t : Int)).toNat = fr + t := by omega
          go_wp2_with (go_at_call 47; refine (l1Turn_any s ((fr : Int) + (t : Int)) _ hs (by omega) (by omega) HL.out).mono ?_; rintro e w' ⟨rfl, n2, rfl⟩)
          go_ret
          exact ⟨ret_int (by have := HC.out; omega), ⟨_, rfl⟩⟩
        | false =>
          have HC := Lib.hid (hc.trans (cutGo_no (by rw [HS.out]; exact hlt) hb))
          clear hc
          have tn : ((fr : Int) + (t : Int)).toNat = fr + t := by omega
          go_wp2_with (go_at_call 47; refine (l1Turn_any s ((fr : Int) + (t : Int)) _ hs (by omega) (by omega) HL.out).mono ?_; rintro e w' ⟨rfl, n2, rfl⟩)
          go_roundw
          case rel => exact ⟨t + 1, _, by omega, by omega, by go_num, HC.out, rfl⟩
          case measure => simp [intOf]; omega
      · have HC := Lib.hid ((hc.trans (cutGo_stop (by rw [HS.out]; exact hlt))).trans HS.out)
        clear hc
        go_wp2
        all_goals (go_ret; exact ⟨ret_int (by have := HC.out; omega), ⟨_, rfl⟩⟩)
    · have HC := Lib.hid (show cutE s.data.toList fr = min (fr + 8) s.size by rw [hc, show 8 - t = 0 by omega, cutGo_zero, HS.out])
      clear hc
      go_wp2
      all_goals (go_ret; exact ⟨ret_int (by have := HC.out; omega), ⟨_, rfl⟩⟩)

/-- what CutAt gives -/
def cutZ (l : List UInt8) (fr : Int) : Int := if textB l = true ∧ 0 ≤ fr ∧ fr < l.length then (cutE l fr.toNat : Nat) else -1
def EndedZ (s : ByteArray) (fr : Int) (w : World) (e : Ending) (w' : World) : Prop := e = .returned (.int .i64 (cutZ s.data.toList fr)) ∧ ∃ n, w' = w.drewN n
theorem textB_parts {s : ByteArray} (h : textB s.data.toList = true) : s.size ≤ 40 ∧ lets s.data.toList = true := by
  simp only [textB, Bool.and_eq_true, decide_eq_true_eq, size_int] at h; exact h
end
end Go.Proofs.Ythefpbnnmfjggaa
