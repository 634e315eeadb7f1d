/- NameOf and NameIs at any key and any string, here (over the two errors that the package lays) and in the reference. -/
import Derived.Test.YtkjginibdablnaaDoorNameS
import Derived.Test.YtkjginibdablnaaDoorIs
import Derived.Below
import Derived.Deep.QuietTactic
import Derived.BigQuiet
import Derived.IntWalk
namespace Go.Proofs.YtkjginibdablnaaDoor
open Go.RowKit

/-- the package's two errors lie as they were laid: two pointers to blocks of their own -/
def Errs (w : World) (a0 a1 : Addr) : Prop :=
  w.cell? ⟨0, 0, none⟩ = some (.iface 164 (.pointer (some a0))) ∧ w.cell? ⟨1, 0, none⟩ = some (.iface 164 (.pointer (some a1))) ∧ a0 ≠ a1 ∧
  (∃ c t, w.heap[a0.block]? = some (.cells c t (0, 0))) ∧ (∃ c t, w.heap[a1.block]? = some (.cells c t (0, 0))) ∧ 1 < w.heap.size
theorem Errs.below {w w' : World} {a0 a1 : Addr} (h : Errs w a0 a1) (hb : Below w.heap.size w w') : Errs w' a0 a1 := by
  obtain ⟨h0, h1, hne, ⟨c0, t0, hb0⟩, ⟨c1, t1, hb1⟩, hsz⟩ := h
  have lt : ∀ {g : Nat} {o : Obj}, w.heap[g]? = some o → g < w.heap.size := fun {g o} h => by
    rcases Nat.lt_or_ge g w.heap.size with hlt | hge
    · exact hlt
    · rw [Array.getElem?_eq_none hge] at h; cases h
  refine ⟨(hb.cell (p := ⟨0, 0, none⟩) (by show 0 < _; omega)).trans h0, (hb.cell (p := ⟨1, 0, none⟩) (by show 1 < _; omega)).trans h1, hne,
    ⟨c0, t0, (hb.block _ (lt hb0)).trans hb0⟩, ⟨c1, t1, (hb.block _ (lt hb1)).trans hb1⟩, Nat.lt_of_lt_of_le hsz hb.size⟩
theorem Errs.drewN {w : World} {a0 a1 : Addr} (h : Errs w a0 a1) (n : Nat) : Errs (w.drewN n) a0 a1 := h

section
set_option maxHeartbeats 800000
theorem keyOk_any (key : Int) (w : World) : Calls Tryd.prog 36 #[.int .i64 key] w fun e w' => e = .returned (.bool (keyB key)) ∧ w = w' := by
  by_cases h1 : 1 ≤ key
  all_goals by_cases h2 : key ≤ 99
  all_goals
    go_enter Tryd.func36, Tryd.ntmps36
    go_wp2
    go_ret
    exact ⟨ret_bool (by simp [keyB, h1, h2]), rfl⟩
def Named (v : Int) (x : Value) (w : World) (e : Ending) (w' : World) : Prop := e = .returned (.tuple #[.int .i64 v, x]) ∧ ∃ n, w' = w.drewN n
theorem named_key (key : Int) (s : ByteArray) (w : World) (a0 a1 : Addr) (h : Errs w a0 a1) (hk : keyB key = false) :
    Calls Tryd.prog 46 #[.int .i64 key, .string s] w (Named 0 (.iface 164 (.pointer (some a0))) w) := by
  have hc := h.1
  clear h
  go_enter Tryd.func46, Tryd.ntmps46
  go_wp2_with (go_at_call 36; refine (keyOk_any _ _).mono ?_; rintro e w' ⟨rfl, rfl⟩)
  go_quiet (fail)
  go_wp2
  go_ret2
  exact ⟨rfl, _, rfl⟩
theorem named_piece (key : Int) (s : ByteArray) (w : World) (a0 a1 : Addr) (h : Errs w a0 a1) (hs : s.size ≤ maxLen) (hk : keyB key = true) (hp : pieceB s.data.toList = false) :
    Calls Tryd.prog 46 #[.int .i64 key, .string s] w (Named 0 (.iface 164 (.pointer (some a1))) w) := by
  have hc := h.2.1
  have HS := Lib.hid hs
  clear h hs
  go_enter Tryd.func46, Tryd.ntmps46
  go_wp2_with (first | (go_at_call 36; refine (keyOk_any _ _).mono ?_; rintro e w' ⟨rfl, rfl⟩) | (go_at_call 55; refine (pieceOk_any _ _ HS.out).mono ?_; rintro e w' ⟨rfl, rfl⟩))
  go_quiet (fail)
  go_wp2
  go_ret2
  exact ⟨rfl, _, rfl⟩
theorem named_ok (k : Nat) (s : ByteArray) (w : World) (hs : s.size ≤ maxLen) (hk : keyB (k : Int) = true) (hp : pieceB s.data.toList = true) :
    Calls Tryd.prog 46 #[.int .i64 (k : Int), .string s] w (Named ((nameN k s.data.toList : Nat) : Int) .nilIface w) := by
  have HS := Lib.hid hs
  have hk99 : k ≤ 99 := by have := keyB_iff.1 hk; omega
  obtain ⟨_, h8, hlet⟩ := pieceB_parts hp
  rw [size_int] at h8
  have HLet := Lib.hid hlet
  have HN := Lib.hid (size_int s)
  clear hlet hs
  go_enter Tryd.func46, Tryd.ntmps46
  go_wp2_with (first | (go_at_call 36; refine (keyOk_any _ _).mono ?_; rintro e w' ⟨rfl, rfl⟩) | (go_at_call 55; refine (pieceOk_any _ _ HS.out).mono ?_; rintro e w' ⟨rfl, rfl⟩))
  go_loop [6, 20] (fun c i => ∃ j y : Nat, j ≤ s.size ∧ i = .int .i64 (j : Int) ∧ c = .int .i64 (y : Int) ∧ codeL (s.data.toList.take j) = y ∧ y ≤ 282429536480) (fun _ i => s.size - (intOf i).toNat)
  case atStart => exact ⟨0, 0, Nat.zero_le _, rfl, rfl, by simp [codeL], by omega⟩
  case round =>
    obtain ⟨j, y, hj, rfl, rfl, hy, hy2⟩ := hrel
    by_cases hlt : j < s.size
    · obtain ⟨c1, c2, c3, c4⟩ := code_step hlt HLet.out h8
      have HC := Lib.hid c1
      have hy3 : 27 * y + (s[j].toNat - 97) + 1 ≤ 282429536480 := by rw [← hy, ← c1]; exact c2
      have HY := Lib.hid hy
      clear c1 c2 hy
      go_wp2
      go_round
      case rel => exact ⟨j + 1, 27 * y + (s[j].toNat - 97) + 1, by omega, by go_num, by go_num, by rw [HC.out, HY.out], hy3⟩
      case measure => simp [intOf]; omega
    · have HY := Lib.hid (show codeL s.data.toList = y by rw [← hy, List.take_of_length_le (by rw [HN.out]; omega)])
      clear hy
      obtain ⟨b1, b2⟩ := name_bound y k hy2 hk99
      go_wp2
      go_ret2
      have e : ((nameN k s.data.toList : Nat) : Int) = ((y : Int) * (2 * (k : Int) + 1) + 7919 * (k : Int)) % 999999999989 := by
        unfold nameN
        rw [HY.out]
        exact (nameN_int y k).symm
      rw [e]
      exact ⟨rfl, 0, rfl⟩
theorem nameOf_any (key : Int) (s : ByteArray) (w : World) (a0 a1 : Addr) (h : Errs w a0 a1) (hs : s.size ≤ maxLen) :
    Calls Tryd.prog 52 #[.int .i64 key, .string s] w fun e w' => e = .returned (.int .i64 (nameZ key s.data.toList)) ∧ ∃ n, w' = w.drewN n := by
  have H := Lib.hid h
  have HS := Lib.hid hs
  obtain ⟨hc0, hc1, hne, ⟨c0, t0, hb0⟩, ⟨c1, t1, hb1⟩, _⟩ := h
  have HNE := Lib.hid hne
  have HB0 := Lib.hid hb0
  have HB1 := Lib.hid hb1
  clear hs hne hb0 hb1
  cases hk : keyB key with
  | false =>
    rw [nameZ_key hk]
    go_enter Tryd.func52, Tryd.ntmps52
    go_wp2_with fail
    refine (named_key key s w a0 a1 H.out hk).mono ?_
    rintro e w' ⟨rfl, n, rfl⟩
    go_wp2_with (go_at_call 70; refine (is_same _ _).mono ?_; rintro e w' ⟨rfl, rfl⟩)
    go_ret
    exact ⟨rfl, n, rfl⟩
  | true =>
    cases hp : pieceB s.data.toList with
    | false =>
      rw [nameZ_piece hp]
      go_enter Tryd.func52, Tryd.ntmps52
      go_wp2_with fail
      refine (named_piece key s w a0 a1 H.out HS.out hk hp).mono ?_
      rintro e w' ⟨rfl, n, rfl⟩
      go_wp2_with fail
      refine (is_other a1 a0 c1 c0 t1 t0 (w.drewN n) HNE.out.symm HB1.out HB0.out).mono ?_
      rintro e w' ⟨rfl, rfl⟩
      go_wp2_with fail
      refine (is_same _ _).mono ?_
      rintro e w' ⟨rfl, rfl⟩
      go_wp2
      go_ret
      exact ⟨rfl, n, rfl⟩
    | true =>
      rw [nameZ_ok hk hp]
      obtain ⟨k, rfl⟩ : ∃ k : Nat, key = (k : Int) := ⟨key.toNat, by have := keyB_iff.1 hk; omega⟩
      rw [Int.toNat_natCast]
      obtain ⟨z, hz⟩ : ∃ z, ((nameN k s.data.toList : Nat) : Int) = z := ⟨_, rfl⟩
      have HZ := Lib.hid hz
      rw [hz]
      clear hz
      go_enter Tryd.func52, Tryd.ntmps52
      go_wp2_with fail
      refine (named_ok k s w HS.out hk hp).mono ?_
      rintro e w' ⟨rfl, n, rfl⟩
      rw [HZ.out]
      go_wp2_with fail
      refine (is_nil _ _).mono ?_
      rintro e w' ⟨rfl, rfl⟩
      go_wp2_with fail
      refine (is_nil _ _).mono ?_
      rintro e w' ⟨rfl, rfl⟩
      go_wp2
      go_ret
      exact ⟨rfl, n, rfl⟩
theorem nameIs_any (key : Int) (s : ByteArray) (name : Int) (w : World) (a0 a1 : Addr) (h : Errs w a0 a1) (hs : s.size ≤ maxLen) :
    Calls Tryd.prog 23 #[.int .i64 key, .string s, .int .i64 name] w fun e w' => e = .returned (.bool (nameIsB key s.data.toList name)) ∧ ∃ n, w' = w.drewN n := by
  have H := Lib.hid h
  have HS := Lib.hid hs
  clear h hs
  cases hk : keyB key with
  | false =>
    go_enter Tryd.func23, Tryd.ntmps23
    go_wp2_with fail
    refine (named_key key s w a0 a1 H.out hk).mono ?_
    rintro e w' ⟨rfl, n, rfl⟩
    go_wp2
    go_ret
    exact ⟨ret_bool (by simp [nameIsB, hk]), n, rfl⟩
  | true =>
    cases hp : pieceB s.data.toList with
    | false =>
      go_enter Tryd.func23, Tryd.ntmps23
      go_wp2_with fail
      refine (named_piece key s w a0 a1 H.out HS.out hk hp).mono ?_
      rintro e w' ⟨rfl, n, rfl⟩
      go_wp2
      go_ret
      exact ⟨ret_bool (by simp [nameIsB, hp]), n, rfl⟩
    | true =>
      have hz := nameZ_ok hk hp
      obtain ⟨k, rfl⟩ : ∃ k : Nat, key = (k : Int) := ⟨key.toNat, by have := keyB_iff.1 hk; omega⟩
      rw [Int.toNat_natCast] at hz
      have HB := Lib.hid (show nameIsB (k : Int) s.data.toList name = decide (((nameN k s.data.toList : Nat) : Int) = name) by simp [nameIsB, hk, hp, hz])
      clear hz
      generalize hq : ((nameN k s.data.toList : Nat) : Int) = z at *
      by_cases hzn : z = name
      · go_enter Tryd.func23, Tryd.ntmps23
        go_wp2_with fail
        refine (named_ok k s w HS.out hk hp).mono ?_
        rintro e w' ⟨rfl, n, rfl⟩
        rw [hq]
        subst hzn
        go_wp2
        go_ret
        exact ⟨ret_bool (by rw [HB.out]; simp), n, rfl⟩
      · have hne : (z == name) = false := beq_eq_false_iff_ne.2 hzn
        have HF := Lib.hid hzn
        clear hzn
        go_enter Tryd.func23, Tryd.ntmps23
        go_wp2_with fail
        refine (named_ok k s w HS.out hk hp).mono ?_
        rintro e w' ⟨rfl, n, rfl⟩
        rw [hq]
        go_wp2
        go_ret
        exact ⟨ret_bool (by rw [HB.out]; simp [HF.out]), n, rfl⟩
end
end Go.Proofs.YtkjginibdablnaaDoor
