/- NameOf and NameIs at any key and any string, here (over the two errors that the package lays) and in the reference. -/
import Derived.Test.YtbaafipkdglohaaDoorClass
import Derived.Test.YtbaafipkdglohaaDoorNamePlain
import Derived.Test.YtbaafipkdglohaaDoorIs
import Derived.Below
import Derived.Deep.QuietTactic
import Derived.BigQuiet
import Derived.IntWalk
namespace Go.Proofs.YtbaafipkdglohaaDoor
open Go.RowKit

/-- the package's two errors lie as they were laid: two pointers to blocks of their own -/
def Errs (w : World) (a0 a1 : Addr) : Prop :=
  w.cell? ⟨0, 0, none⟩ = some (.iface 124 (.pointer (some a0))) ∧ w.cell? ⟨1, 0, none⟩ = some (.iface 124 (.pointer (some a1))) ∧ a0 ≠ a1 ∧
  (∃ c t, w.heap[a0.block]? = some (.cells c t (0, 0))) ∧ (∃ c t, w.heap[a1.block]? = some (.cells c t (0, 0))) ∧ 1 < w.heap.size
theorem Errs.below {w w' : World} {a0 a1 : Addr} (h : Errs w a0 a1) (hb : Below w.heap.size w w') : Errs w' a0 a1 := by
  obtain ⟨h0, h1, hne, ⟨c0, t0, hb0⟩, ⟨c1, t1, hb1⟩, hsz⟩ := h
  have lt : ∀ {g : Nat} {o : Obj}, w.heap[g]? = some o → g < w.heap.size := fun {g o} h => by
    rcases Nat.lt_or_ge g w.heap.size with hlt | hge
    · exact hlt
    · rw [Array.getElem?_eq_none hge] at h; cases h
  refine ⟨(hb.cell (p := ⟨0, 0, none⟩) (by show 0 < _; omega)).trans h0, (hb.cell (p := ⟨1, 0, none⟩) (by show 1 < _; omega)).trans h1, hne,
    ⟨c0, t0, (hb.block _ (lt hb0)).trans hb0⟩, ⟨c1, t1, (hb.block _ (lt hb1)).trans hb1⟩, Nat.lt_of_lt_of_le hsz hb.size⟩
theorem Errs.drewN {w : World} {a0 a1 : Addr} (h : Errs w a0 a1) (n : Nat) : Errs (w.drewN n) a0 a1 := h

theorem nameN_int (y k : Nat) : ((y : Int) * (2 * (k : Int) + 1) + 7919 * (k : Int)) % 999999999989 = (((y * (2 * k + 1) + 7919 * k) % nameMost : Nat) : Int) := by
  have h : ((y : Int) * (2 * (k : Int) + 1) + 7919 * (k : Int)) = ((y * (2 * k + 1) + 7919 * k : Nat) : Int) := by simp
  rw [h]
  generalize y * (2 * k + 1) + 7919 * k = n
  unfold nameMost
  omega
theorem name_bound (y k : Nat) (hy : y ≤ 282429536480) (hk : k ≤ 99) : 0 ≤ (y : Int) * (2 * (k : Int) + 1) ∧ (y : Int) * (2 * (k : Int) + 1) ≤ 56203477759520 := by
  have h : (y : Int) * (2 * (k : Int) + 1) = ((y * (2 * k + 1) : Nat) : Int) := by simp
  rw [h]
  have : y * (2 * k + 1) ≤ 282429536480 * 199 := Nat.mul_le_mul hy (by omega)
  omega
theorem code_step {s : ByteArray} {k : Nat} (hk : k < s.size) (hl : lets s.data.toList = true) (h8 : s.size ≤ 8) :
    codeL (s.data.toList.take (k + 1)) = 27 * codeL (s.data.toList.take k) + (s[k].toNat - 97) + 1 ∧ codeL (s.data.toList.take (k + 1)) ≤ 282429536480 ∧ 97 ≤ (s[k].toNat : Int) ∧ (s[k].toNat : Int) ≤ 122 := by
  have hm : s[k] ∈ s.data.toList := by
    have : s[k] = s.data.toList[k]'(by simpa using hk) := rfl
    rw [this]; exact List.getElem_mem _
  have hlk := (List.all_eq_true.1 hl) _ hm
  have hd := isLet_dg hlk
  have h1 : codeL (s.data.toList.take (k + 1)) = 27 * codeL (s.data.toList.take k) + dg s[k] := by rw [take_snoc s k hk, codeL_snoc]
  have hlt : lets (s.data.toList.take (k + 1)) = true := by
    cases h : lets (s.data.toList.take (k + 1)) with
    | true => rfl
    | false => rw [lets_take_false _ _ h] at hl; cases hl
  have h2 := codeL_bound hlt
  have h3 : 27 ^ (s.data.toList.take (k + 1)).length ≤ 27 ^ 8 := Nat.pow_le_pow_right (by omega) (by rw [List.length_take, size_int]; omega)
  refine ⟨by omega, by omega, by omega, by omega⟩

section
set_option maxHeartbeats 800000
theorem keyOk_any (key : Int) (w : World) : Calls Tryd.prog 53 #[.int .i64 key] w fun e w' => e = .returned (.bool (keyB key)) ∧ w = w' := by
  by_cases h1 : 1 ≤ key
  all_goals by_cases h2 : key ≤ 99
  all_goals
    go_enter Tryd.func53, Tryd.ntmps53
    go_wp2
    go_ret
    exact ⟨ret_bool (by simp [keyB, h1, h2]), rfl⟩
theorem l2Key_any (key : Int) (w : World) : Calls Tryd.prog 31 #[.int .i64 key] w fun e w' => e = .returned (.bool (keyB key)) ∧ w = w' := by
  go_enter Tryd.func31, Tryd.ntmps31
  go_wp2_with (go_at_call 50; refine (l6In_any _ _ _ _).mono ?_; rintro e w' ⟨rfl, rfl⟩)
  go_ret
  exact ⟨ret_bool (by simp [keyB]), rfl⟩
def Named (v : Int) (x : Value) (w : World) (e : Ending) (w' : World) : Prop := e = .returned (.tuple #[.int .i64 v, x]) ∧ ∃ n, w' = w.drewN n
theorem named_key (key : Int) (s : ByteArray) (w : World) (a0 a1 : Addr) (h : Errs w a0 a1) (hk : keyB key = false) :
    Calls Tryd.prog 34 #[.int .i64 key, .string s] w (Named 0 (.iface 124 (.pointer (some a0))) w) := by
  have hc := h.1
  clear h
  go_enter Tryd.func34, Tryd.ntmps34
  go_wp2_with (go_at_call 53; refine (keyOk_any _ _).mono ?_; rintro e w' ⟨rfl, rfl⟩)
  go_quiet (fail)
  go_wp2
  go_ret2
  exact ⟨rfl, _, rfl⟩
theorem named_piece (key : Int) (s : ByteArray) (w : World) (a0 a1 : Addr) (h : Errs w a0 a1) (hs : s.size ≤ maxLen) (hk : keyB key = true) (hp : pieceB s.data.toList = false) :
    Calls Tryd.prog 34 #[.int .i64 key, .string s] w (Named 0 (.iface 124 (.pointer (some a1))) w) := by
  have hc := h.2.1
  have HS := Lib.hid hs
  clear h hs
  go_enter Tryd.func34, Tryd.ntmps34
  go_wp2_with (first | (go_at_call 53; refine (keyOk_any _ _).mono ?_; rintro e w' ⟨rfl, rfl⟩) | (go_at_call 24; refine (pieceOk_any _ _ HS.out).mono ?_; rintro e w' ⟨rfl, rfl⟩))
  go_quiet (fail)
  go_wp2
  go_ret2
  exact ⟨rfl, _, rfl⟩
theorem named_ok (k : Nat) (s : ByteArray) (w : World) (hs : s.size ≤ maxLen) (hk : keyB (k : Int) = true) (hp : pieceB s.data.toList = true) :
    Calls Tryd.prog 34 #[.int .i64 (k : Int), .string s] w (Named ((nameN k s.data.toList : Nat) : Int) .nilIface w) := by
  have HS := Lib.hid hs
  have hk99 : k ≤ 99 := by have := keyB_iff.1 hk; omega
  obtain ⟨_, h8, hlet⟩ := pieceB_parts hp
  rw [size_int] at h8
  have HLet := Lib.hid hlet
  have HN := Lib.hid (size_int s)
  clear hlet hs
  go_enter Tryd.func34, Tryd.ntmps34
  go_wp2_with (first | (go_at_call 53; refine (keyOk_any _ _).mono ?_; rintro e w' ⟨rfl, rfl⟩) | (go_at_call 24; refine (pieceOk_any _ _ HS.out).mono ?_; rintro e w' ⟨rfl, rfl⟩))
  go_loop [6, 20] (fun c i => ∃ j y : Nat, j ≤ s.size ∧ i = .int .i64 (j : Int) ∧ c = .int .i64 (y : Int) ∧ codeL (s.data.toList.take j) = y ∧ y ≤ 282429536480) (fun _ i => s.size - (intOf i).toNat)
  case atStart => exact ⟨0, 0, Nat.zero_le _, rfl, rfl, by simp [codeL], by omega⟩
  case round =>
    obtain ⟨j, y, hj, rfl, rfl, hy, hy2⟩ := hrel
    by_cases hlt : j < s.size
    · obtain ⟨c1, c2, c3, c4⟩ := code_step hlt HLet.out h8
      have HC := Lib.hid c1
      have hy3 : 27 * y + (s[j].toNat - 97) + 1 ≤ 282429536480 := by rw [← hy, ← c1]; exact c2
      have HY := Lib.hid hy
      clear c1 c2 hy
      go_wp2
      go_round
      case rel => exact ⟨j + 1, 27 * y + (s[j].toNat - 97) + 1, by omega, by go_num, by go_num, by rw [HC.out, HY.out], hy3⟩
      case measure => simp [intOf]; omega
    · have HY := Lib.hid (show codeL s.data.toList = y by rw [← hy, List.take_of_length_le (by rw [HN.out]; omega)])
      clear hy
      obtain ⟨b1, b2⟩ := name_bound y k hy2 hk99
      go_wp2
      go_ret2
      have e : ((nameN k s.data.toList : Nat) : Int) = ((y : Int) * (2 * (k : Int) + 1) + 7919 * (k : Int)) % 999999999989 := by
        unfold nameN
        rw [HY.out]
        exact (nameN_int y k).symm
      rw [e]
      exact ⟨rfl, 0, rfl⟩
theorem nameOf_any (key : Int) (s : ByteArray) (w : World) (a0 a1 : Addr) (h : Errs w a0 a1) (hs : s.size ≤ maxLen) :
    Calls Tryd.prog 16 #[.int .i64 key, .string s] w fun e w' => e = .returned (.int .i64 (nameZ key s.data.toList)) ∧ ∃ n, w' = w.drewN n := by
  have H := Lib.hid h
  have HS := Lib.hid hs
  obtain ⟨hc0, hc1, hne, ⟨c0, t0, hb0⟩, ⟨c1, t1, hb1⟩, _⟩ := h
  have HNE := Lib.hid hne
  have HB0 := Lib.hid hb0
  have HB1 := Lib.hid hb1
  clear hs hne hb0 hb1
  cases hk : keyB key with
  | false =>
    rw [nameZ_key hk]
    go_enter Tryd.func16, Tryd.ntmps16
    go_wp2_with fail
    refine (named_key key s w a0 a1 H.out hk).mono ?_
    rintro e w' ⟨rfl, n, rfl⟩
    go_wp2_with (go_at_call 35; refine (is_same _ _).mono ?_; rintro e w' ⟨rfl, rfl⟩)
    go_ret
    exact ⟨rfl, n, rfl⟩
  | true =>
    cases hp : pieceB s.data.toList with
    | false =>
      rw [nameZ_piece hp]
      go_enter Tryd.func16, Tryd.ntmps16
      go_wp2_with fail
      refine (named_piece key s w a0 a1 H.out HS.out hk hp).mono ?_
      rintro e w' ⟨rfl, n, rfl⟩
      go_wp2_with fail
      refine (is_other a1 a0 c1 c0 t1 t0 (w.drewN n) HNE.out.symm HB1.out HB0.out).mono ?_
      rintro e w' ⟨rfl, rfl⟩
      go_wp2_with fail
      refine (is_same _ _).mono ?_
      rintro e w' ⟨rfl, rfl⟩
      go_wp2
      go_ret
      exact ⟨rfl, n, rfl⟩
    | true =>
      rw [nameZ_ok hk hp]
      obtain ⟨k, rfl⟩ : ∃ k : Nat, key = (k : Int) := ⟨key.toNat, by have := keyB_iff.1 hk; omega⟩
      rw [Int.toNat_natCast]
      obtain ⟨z, hz⟩ : ∃ z, ((nameN k s.data.toList : Nat) : Int) = z := ⟨_, rfl⟩
      have HZ := Lib.hid hz
      rw [hz]
      clear hz
      go_enter Tryd.func16, Tryd.ntmps16
      go_wp2_with fail
      refine (named_ok k s w HS.out hk hp).mono ?_
      rintro e w' ⟨rfl, n, rfl⟩
      rw [HZ.out]
      go_wp2_with fail
      refine (is_nil _ _).mono ?_
      rintro e w' ⟨rfl, rfl⟩
      go_wp2_with fail
      refine (is_nil _ _).mono ?_
      rintro e w' ⟨rfl, rfl⟩
      go_wp2
      go_ret
      exact ⟨rfl, n, rfl⟩
def nameIsB (key : Int) (l : List UInt8) (name : Int) : Bool := keyB key && pieceB l && decide (nameZ key l = name)
theorem nameIs_any (key : Int) (s : ByteArray) (name : Int) (w : World) (a0 a1 : Addr) (h : Errs w a0 a1) (hs : s.size ≤ maxLen) :
    Calls Tryd.prog 14 #[.int .i64 key, .string s, .int .i64 name] w fun e w' => e = .returned (.bool (nameIsB key s.data.toList name)) ∧ ∃ n, w' = w.drewN n := by
  have H := Lib.hid h
  have HS := Lib.hid hs
  clear h hs
  cases hk : keyB key with
  | false =>
    go_enter Tryd.func14, Tryd.ntmps14
    go_wp2_with fail
    refine (named_key key s w a0 a1 H.out hk).mono ?_
    rintro e w' ⟨rfl, n, rfl⟩
    go_wp2
    go_ret
    exact ⟨ret_bool (by simp [nameIsB, hk]), n, rfl⟩
  | true =>
    cases hp : pieceB s.data.toList with
    | false =>
      go_enter Tryd.func14, Tryd.ntmps14
      go_wp2_with fail
      refine (named_piece key s w a0 a1 H.out HS.out hk hp).mono ?_
      rintro e w' ⟨rfl, n, rfl⟩
      go_wp2
      go_ret
      exact ⟨ret_bool (by simp [nameIsB, hp]), n, rfl⟩
    | true =>
      have hz := nameZ_ok hk hp
      obtain ⟨k, rfl⟩ : ∃ k : Nat, key = (k : Int) := ⟨key.toNat, by have := keyB_iff.1 hk; omega⟩
      rw [Int.toNat_natCast] at hz
      have HB := Lib.hid (show nameIsB (k : Int) s.data.toList name = decide (((nameN k s.data.toList : Nat) : Int) = name) by simp [nameIsB, hk, hp, hz])
      clear hz
      generalize hq : ((nameN k s.data.toList : Nat) : Int) = z at *
      by_cases hzn : z = name
      · go_enter Tryd.func14, Tryd.ntmps14
        go_wp2_with fail
        refine (named_ok k s w HS.out hk hp).mono ?_
        rintro e w' ⟨rfl, n, rfl⟩
        rw [hq]
        subst hzn
        go_wp2
        go_ret
        exact ⟨ret_bool (by rw [HB.out]; simp), n, rfl⟩
      · have hne : (z == name) = false := beq_eq_false_iff_ne.2 hzn
        have HF := Lib.hid hzn
        clear hzn
        go_enter Tryd.func14, Tryd.ntmps14
        go_wp2_with fail
        refine (named_ok k s w HS.out hk hp).mono ?_
        rintro e w' ⟨rfl, n, rfl⟩
        rw [hq]
        go_wp2
        go_ret
        exact ⟨ret_bool (by rw [HB.out]; simp [HF.out]), n, rfl⟩
theorem l2Code_any (s : ByteArray) (w : World) (h8 : s.size ≤ 8) (hlet : lets s.data.toList = true) :
    Calls Tryd.prog 52 #[.string s] w fun e w' => e = .returned (.int .i64 ((codeL s.data.toList : Nat) : Int)) ∧ w = w' := by
  have HLet := Lib.hid hlet
  have HN := Lib.hid (size_int s)
  clear hlet
  go_enter Tryd.func52, Tryd.ntmps52
  go_wp2
  go_loop [3, 4] (fun c i => ∃ j y : Nat, j ≤ s.size ∧ i = .int .i64 (j : Int) ∧ c = .int .i64 (y : Int) ∧ codeL (s.data.toList.take j) = y ∧ y ≤ 282429536480) (fun _ i => s.size - (intOf i).toNat)
  case atStart => exact ⟨0, 0, Nat.zero_le _, rfl, rfl, by simp [codeL], by omega⟩
  case round =>
    obtain ⟨j, y, hj, rfl, rfl, hy, hy2⟩ := hrel
    by_cases hlt : j < s.size
    · obtain ⟨c1, c2, c3, c4⟩ := code_step hlt HLet.out h8
      have HC := Lib.hid c1
      have hy3 : 27 * y + (s[j].toNat - 97) + 1 ≤ 282429536480 := by rw [← hy, ← c1]; exact c2
      have HY := Lib.hid hy
      clear c1 c2 hy
      go_wp2
      go_round
      case rel => exact ⟨j + 1, 27 * y + (s[j].toNat - 97) + 1, by omega, by go_num, by go_num, by rw [HC.out, HY.out], hy3⟩
      case measure => simp [intOf]; omega
    · have HY := Lib.hid (show codeL s.data.toList = y by rw [← hy, List.take_of_length_le (by rw [HN.out]; omega)])
      clear hy
      go_wp2
      go_ret
      exact ⟨ret_int (by rw [HY.out]), rfl⟩
theorem nameN_int2 (y k : Nat) : ((y : Int) * (2 * (k : Int) + 1) + (k : Int) * 7919) % 999999999989 = (((y * (2 * k + 1) + 7919 * k) % nameMost : Nat) : Int) := by
  rw [Int.mul_comm (k : Int) 7919]
  exact nameN_int y k
theorem l2Name_any (k : Nat) (s : ByteArray) (w : World) (hk : k ≤ 99) (hp : pieceB s.data.toList = true) :
    Calls Tryd.prog 33 #[.int .i64 (k : Int), .string s] w fun e w' => e = .returned (.int .i64 ((nameN k s.data.toList : Nat) : Int)) ∧ w = w' := by
  obtain ⟨_, h8, hlet⟩ := pieceB_parts hp
  rw [size_int] at h8
  have HLet := Lib.hid hlet
  have hcl := codeL_piece hp
  clear hlet
  obtain ⟨y, hy⟩ : ∃ y, codeL s.data.toList = y := ⟨_, rfl⟩
  have HY := Lib.hid hy
  have hy2 : y ≤ 282429536480 := by omega
  clear hcl hy
  obtain ⟨b1, b2⟩ := name_bound y k hy2 hk
  go_enter Tryd.func33, Tryd.ntmps33
  go_wp2_with (go_at_call 52; refine (l2Code_any s _ h8 HLet.out).mono ?_; rintro e w' ⟨rfl, rfl⟩; rw [HY.out])
  go_ret
  have e : ((nameN k s.data.toList : Nat) : Int) = ((y : Int) * (2 * (k : Int) + 1) + (k : Int) * 7919) % 999999999989 := by
    unfold nameN
    rw [HY.out]
    exact (nameN_int2 y k).symm
  rw [e]
  exact ⟨rfl, rfl⟩
theorem nameOfS_any (key : Int) (s : ByteArray) (w : World) (hs : s.size ≤ maxLen) :
    Calls Tryd.prog 15 #[.int .i64 key, .string s] w fun e w' => e = .returned (.int .i64 (nameZ key s.data.toList)) ∧ w = w' := by
  have HS := Lib.hid hs
  clear hs
  cases hk : keyB key with
  | false =>
    rw [nameZ_key hk]
    go_enter Tryd.func15, Tryd.ntmps15
    go_wp2_with (go_at_call 31; refine (l2Key_any _ _).mono ?_; rintro e w' ⟨rfl, rfl⟩)
    go_ret
    exact ⟨rfl, rfl⟩
  | true =>
    cases hp : pieceB s.data.toList with
    | false =>
      rw [nameZ_piece hp]
      go_enter Tryd.func15, Tryd.ntmps15
      go_wp2_with (first | (go_at_call 31; refine (l2Key_any _ _).mono ?_; rintro e w' ⟨rfl, rfl⟩) | (go_at_call 32; refine (pieceOkS_any _ _ HS.out).mono ?_; rintro e w' ⟨rfl, rfl⟩))
      go_ret
      exact ⟨rfl, rfl⟩
    | true =>
      rw [nameZ_ok hk hp]
      obtain ⟨k, rfl⟩ : ∃ k : Nat, key = (k : Int) := ⟨key.toNat, by have := keyB_iff.1 hk; omega⟩
      rw [Int.toNat_natCast]
      have hk9 : k ≤ 99 := by have := keyB_iff.1 hk; omega
      go_enter Tryd.func15, Tryd.ntmps15
      go_wp2_with (first | (go_at_call 31; refine (l2Key_any _ _).mono ?_; rintro e w' ⟨rfl, rfl⟩) | (go_at_call 32; refine (pieceOkS_any _ _ HS.out).mono ?_; rintro e w' ⟨rfl, rfl⟩) | (go_at_call 33; refine (l2Name_any k s _ hk9 hp).mono ?_; rintro e w' ⟨rfl, rfl⟩))
      go_ret
      exact ⟨rfl, rfl⟩
theorem nameIsS_any (key : Int) (s : ByteArray) (name : Int) (w : World) (hs : s.size ≤ maxLen) :
    Calls Tryd.prog 13 #[.int .i64 key, .string s, .int .i64 name] w fun e w' => e = .returned (.bool (nameIsB key s.data.toList name)) ∧ w = w' := by
  have HS := Lib.hid hs
  clear hs
  cases hk : keyB key with
  | false =>
    go_enter Tryd.func13, Tryd.ntmps13
    go_wp2_with (go_at_call 31; refine (l2Key_any _ _).mono ?_; rintro e w' ⟨rfl, rfl⟩)
    go_ret
    exact ⟨ret_bool (by simp [nameIsB, hk]), rfl⟩
  | true =>
    cases hp : pieceB s.data.toList with
    | false =>
      go_enter Tryd.func13, Tryd.ntmps13
      go_wp2_with (first | (go_at_call 31; refine (l2Key_any _ _).mono ?_; rintro e w' ⟨rfl, rfl⟩) | (go_at_call 32; refine (pieceOkS_any _ _ HS.out).mono ?_; rintro e w' ⟨rfl, rfl⟩))
      go_ret
      exact ⟨ret_bool (by simp [nameIsB, hp]), rfl⟩
    | true =>
      have hz := nameZ_ok hk hp
      obtain ⟨k, rfl⟩ : ∃ k : Nat, key = (k : Int) := ⟨key.toNat, by have := keyB_iff.1 hk; omega⟩
      have hk9 : k ≤ 99 := by have := keyB_iff.1 hk; omega
      rw [Int.toNat_natCast] at hz
      have HB := Lib.hid (show nameIsB (k : Int) s.data.toList name = decide (((nameN k s.data.toList : Nat) : Int) = name) by simp [nameIsB, hk, hp, hz])
      clear hz
      generalize hq : ((nameN k s.data.toList : Nat) : Int) = z at *
      have HQ := Lib.hid hq
      by_cases hzn : z = name
      · subst hzn
        clear hq
        go_enter Tryd.func13, Tryd.ntmps13
        go_wp2_with (first | (go_at_call 31; refine (l2Key_any _ _).mono ?_; rintro e w' ⟨rfl, rfl⟩) | (go_at_call 32; refine (pieceOkS_any _ _ HS.out).mono ?_; rintro e w' ⟨rfl, rfl⟩) | (go_at_call 33; refine (l2Name_any k s _ hk9 hp).mono ?_; rintro e w' ⟨rfl, rfl⟩; rw [HQ.out]))
        go_ret
        exact ⟨ret_bool (by rw [HB.out]; simp), rfl⟩
      · have hne : (z == name) = false := beq_eq_false_iff_ne.2 hzn
        have HF := Lib.hid hzn
        clear hzn hq
        go_enter Tryd.func13, Tryd.ntmps13
        go_wp2_with (first | (go_at_call 31; refine (l2Key_any _ _).mono ?_; rintro e w' ⟨rfl, rfl⟩) | (go_at_call 32; refine (pieceOkS_any _ _ HS.out).mono ?_; rintro e w' ⟨rfl, rfl⟩) | (go_at_call 33; refine (l2Name_any k s _ hk9 hp).mono ?_; rintro e w' ⟨rfl, rfl⟩; rw [HQ.out]))
        go_ret
        exact ⟨ret_bool (by rw [HB.out]; simp [HF.out]), rfl⟩
end
end Go.Proofs.YtbaafipkdglohaaDoor
