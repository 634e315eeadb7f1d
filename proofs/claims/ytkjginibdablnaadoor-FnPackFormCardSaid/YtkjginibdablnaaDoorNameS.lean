/- The reference's names: keys, codes, names. -/
import Derived.Test.YtkjginibdablnaaDoorClass
import Derived.Test.YtkjginibdablnaaDoorNamePlain
import Derived.Below
import Derived.Deep.QuietTactic
import Derived.BigQuiet
import Derived.IntWalk
namespace Go.Proofs.YtkjginibdablnaaDoor
open Go.RowKit
theorem nameN_int (y k : Nat) : ((y : Int) * (2 * (k : Int) + 1) + 7919 * (k : Int)) % 999999999989 = (((y * (2 * k + 1) + 7919 * k) % nameMost : Nat) : Int) := by
  have h : ((y : Int) * (2 * (k : Int) + 1) + 7919 * (k : Int)) = ((y * (2 * k + 1) + 7919 * k : Nat) : Int) := by simp
  rw [h]
  generalize y * (2 * k + 1) + 7919 * k = n
  unfold nameMost
  omega
theorem name_bound (y k : Nat) (hy : y ≤ 282429536480) (hk : k ≤ 99) : 0 ≤ (y : Int) * (2 * (k : Int) + 1) ∧ (y : Int) * (2 * (k : Int) + 1) ≤ 56203477759520 := by
  have h : (y : Int) * (2 * (k : Int) + 1) = ((y * (2 * k + 1) : Nat) : Int) := by simp
  rw [h]
  have : y * (2 * k + 1) ≤ 282429536480 * 199 := Nat.mul_le_mul hy (by omega)
  omega
theorem code_step {s : ByteArray} {k : Nat} (hk : k < s.size) (hl : lets s.data.toList = true) (h8 : s.size ≤ 8) :
    codeL (s.data.toList.take (k + 1)) = 27 * codeL (s.data.toList.take k) + (s[k].toNat - 97) + 1 ∧ codeL (s.data.toList.take (k + 1)) ≤ 282429536480 ∧ 97 ≤ (s[k].toNat : Int) ∧ (s[k].toNat : Int) ≤ 122 := by
  have hm : s[k] ∈ s.data.toList := by
    have : s[k] = s.data.toList[k]'(by simpa using hk) := rfl
    rw [this]; exact List.getElem_mem _
  have hlk := (List.all_eq_true.1 hl) _ hm
  have hd := isLet_dg hlk
  have h1 : codeL (s.data.toList.take (k + 1)) = 27 * codeL (s.data.toList.take k) + dg s[k] := by rw [take_snoc s k hk, codeL_snoc]
  have hlt : lets (s.data.toList.take (k + 1)) = true := by
    cases h : lets (s.data.toList.take (k + 1)) with
    | true => rfl
    | false => rw [lets_take_false _ _ h] at hl; cases hl
  have h2 := codeL_bound hlt
  have h3 : 27 ^ (s.data.toList.take (k + 1)).length ≤ 27 ^ 8 := Nat.pow_le_pow_right (by omega) (by rw [List.length_take, size_int]; omega)
  refine ⟨by omega, by omega, by omega, by omega⟩

def nameIsB (key : Int) (l : List UInt8) (name : Int) : Bool := keyB key && pieceB l && decide (nameZ key l = name)
section
set_option maxHeartbeats 800000
theorem l2Key_any (key : Int) (w : World) : Calls Tryd.prog 32 #[.int .i64 key] w fun e w' => e = .returned (.bool (keyB key)) ∧ w = w' := by
  go_enter Tryd.func32, Tryd.ntmps32
  go_wp2_with (go_at_call 31; refine (l6In_any _ _ _ _).mono ?_; rintro e w' ⟨rfl, rfl⟩)
  go_ret
  exact ⟨ret_bool (by simp [keyB]), rfl⟩
theorem l2Code_any (s : ByteArray) (w : World) (h8 : s.size ≤ 8) (hlet : lets s.data.toList = true) :
    Calls Tryd.prog 79 #[.string s] w fun e w' => e = .returned (.int .i64 ((codeL s.data.toList : Nat) : Int)) ∧ w = w' := by
  have HLet := Lib.hid hlet
  have HN := Lib.hid (size_int s)
  clear hlet
  go_enter Tryd.func79, Tryd.ntmps79
  go_wp2
  go_loop [3, 4] (fun c i => ∃ j y : Nat, j ≤ s.size ∧ i = .int .i64 (j : Int) ∧ c = .int .i64 (y : Int) ∧ codeL (s.data.toList.take j) = y ∧ y ≤ 282429536480) (fun _ i => s.size - (intOf i).toNat)
  case atStart => exact ⟨0, 0, Nat.zero_le _, rfl, rfl, by simp [codeL], by omega⟩
  case round =>
    obtain ⟨j, y, hj, rfl, rfl, hy, hy2⟩ := hrel
    by_cases hlt : j < s.size
    · obtain ⟨c1, c2, c3, c4⟩ := code_step hlt HLet.out h8
      have HC := Lib.hid c1
      have hy3 : 27 * y + (s[j].toNat - 97) + 1 ≤ 282429536480 := by rw [← hy, ← c1]; exact c2
      have HY := Lib.hid hy
      clear c1 c2 hy
      go_wp2
      go_round
      case rel => exact ⟨j + 1, 27 * y + (s[j].toNat - 97) + 1, by omega, by go_num, by go_num, by rw [HC.out, HY.out], hy3⟩
      case measure => simp [intOf]; omega
    · have HY := Lib.hid (show codeL s.data.toList = y by rw [← hy, List.take_of_length_le (by rw [HN.out]; omega)])
      clear hy
      go_wp2
      go_ret
      exact ⟨ret_int (by rw [HY.out]), rfl⟩
theorem nameN_int2 (y k : Nat) : ((y : Int) * (2 * (k : Int) + 1) + (k : Int) * 7919) % 999999999989 = (((y * (2 * k + 1) + 7919 * k) % nameMost : Nat) : Int) := by
  rw [Int.mul_comm (k : Int) 7919]
  exact nameN_int y k
theorem l2Name_any (k : Nat) (s : ByteArray) (w : World) (hk : k ≤ 99) (hp : pieceB s.data.toList = true) :
    Calls Tryd.prog 59 #[.int .i64 (k : Int), .string s] w fun e w' => e = .returned (.int .i64 ((nameN k s.data.toList : Nat) : Int)) ∧ w = w' := by
  obtain ⟨_, h8, hlet⟩ := pieceB_parts hp
  rw [size_int] at h8
  have HLet := Lib.hid hlet
  have hcl := codeL_piece hp
  clear hlet
  obtain ⟨y, hy⟩ : ∃ y, codeL s.data.toList = y := ⟨_, rfl⟩
  have HY := Lib.hid hy
  have hy2 : y ≤ 282429536480 := by omega
  clear hcl hy
  obtain ⟨b1, b2⟩ := name_bound y k hy2 hk
  go_enter Tryd.func59, Tryd.ntmps59
  go_wp2_with (go_at_call 79; refine (l2Code_any s _ h8 HLet.out).mono ?_; rintro e w' ⟨rfl, rfl⟩; rw [HY.out])
  go_ret
  have e : ((nameN k s.data.toList : Nat) : Int) = ((y : Int) * (2 * (k : Int) + 1) + (k : Int) * 7919) % 999999999989 := by
    unfold nameN
    rw [HY.out]
    exact (nameN_int2 y k).symm
  rw [e]
  exact ⟨rfl, rfl⟩
theorem nameOfS_any (key : Int) (s : ByteArray) (w : World) (hs : s.size ≤ maxLen) :
    Calls Tryd.prog 44 #[.int .i64 key, .string s] w fun e w' => e = .returned (.int .i64 (nameZ key s.data.toList)) ∧ w = w' := by
  have HS := Lib.hid hs
  clear hs
  cases hk : keyB key with
  | false =>
    rw [nameZ_key hk]
    go_enter Tryd.func44, Tryd.ntmps44
    go_wp2_with (go_at_call 32; refine (l2Key_any _ _).mono ?_; rintro e w' ⟨rfl, rfl⟩)
    go_ret
    exact ⟨rfl, rfl⟩
  | true =>
    cases hp : pieceB s.data.toList with
    | false =>
      rw [nameZ_piece hp]
      go_enter Tryd.func44, Tryd.ntmps44
      go_wp2_with (first | (go_at_call 32; refine (l2Key_any _ _).mono ?_; rintro e w' ⟨rfl, rfl⟩) | (go_at_call 49; refine (pieceOkS_any _ _ HS.out).mono ?_; rintro e w' ⟨rfl, rfl⟩))
      go_ret
      exact ⟨rfl, rfl⟩
    | true =>
      rw [nameZ_ok hk hp]
      obtain ⟨k, rfl⟩ : ∃ k : Nat, key = (k : Int) := ⟨key.toNat, by have := keyB_iff.1 hk; omega⟩
      rw [Int.toNat_natCast]
      have hk9 : k ≤ 99 := by have := keyB_iff.1 hk; omega
      go_enter Tryd.func44, Tryd.ntmps44
      go_wp2_with (first | (go_at_call 32; refine (l2Key_any _ _).mono ?_; rintro e w' ⟨rfl, rfl⟩) | (go_at_call 49; refine (pieceOkS_any _ _ HS.out).mono ?_; rintro e w' ⟨rfl, rfl⟩) | (go_at_call 59; refine (l2Name_any k s _ hk9 hp).mono ?_; rintro e w' ⟨rfl, rfl⟩))
      go_ret
      exact ⟨rfl, rfl⟩
end
end Go.Proofs.YtkjginibdablnaaDoor
