/- Paths: a letter from a to e, or two with a stroke between: both functions that ask return the same answer. -/
import Derived.Test.YtndiofhinlogmaaText
import Derived.Test.YtndiofhinlogmaaShelf
namespace Go.Proofs.Ytndiofhinlogmaa
open Go.RowKit
def isNm (c : UInt8) : Bool := 97 ≤ c && c ≤ 101
theorem isNm_int (c : UInt8) : isNm c = decide (97 ≤ (c.toNat : Int) ∧ (c.toNat : Int) ≤ 101) := by
  rw [Bool.eq_iff_iff]; simp [isNm, UInt8.le_iff_toNat_le]; omega
def nameB : List UInt8 → Bool
  | [x] => isNm x
  | _ => false
def pathB : List UInt8 → Bool
  | [x] => isNm x
  | [x, y, z] => isNm x && (y == 47) && isNm z
  | _ => false
def pathI (l : List UInt8) : Bool := nameB (Lib.cut l [47]).1 && (!(Lib.cut l [47]).2.2 || nameB (Lib.cut l [47]).2.1)
theorem nm47 : isNm 47 = false := by decide
theorem pathB_slash (r : List UInt8) : pathB (47 :: r) = false := by
  match r with
  | [] => rfl
  | [_] => rfl
  | [y, z] => show (isNm 47 && (y == 47) && isNm z) = false; rw [nm47]; rfl
  | _ :: _ :: _ :: _ => rfl
theorem index_nil47 : Lib.index [] [47] = -1 := rfl
theorem index_cons47 (b : UInt8) (r : List UInt8) : Lib.index (b :: r) [47] = if b = 47 then 0 else if Lib.index r [47] = -1 then -1 else Lib.index r [47] + 1 := by
  show (if ([47] : List UInt8).isPrefixOf (b :: r) then (0 : Int) else if Lib.index r [47] == -1 then -1 else Lib.index r [47] + 1) = _
  by_cases hb : b = 47
  · subst hb
    rw [if_pos (by simp [List.isPrefixOf]), if_pos rfl]
  · rw [if_neg (by simp [List.isPrefixOf]; exact fun h => hb h.symm), if_neg hb]
    by_cases h2 : Lib.index r [47] = -1
    · rw [if_pos (by simpa using h2), if_pos h2]
    · rw [if_neg (by simpa using h2), if_neg h2]
theorem nameB_two (x y : UInt8) (r : List UInt8) : nameB (x :: y :: r) = false := rfl
theorem pathI_eq (l : List UInt8) : pathI l = pathB l := by
  match l with
  | [] => rfl
  | [x] =>
    by_cases hx : x = 47
    · subst hx; decide
    · have h : Lib.index [x] [47] = -1 := by rw [index_cons47, if_neg hx, if_pos index_nil47]
      simp [pathI, Lib.cut, h, nameB, pathB]
  | x :: y :: r =>
    by_cases hx : x = 47
    · subst hx
      have h : Lib.index (47 :: y :: r) [47] = 0 := by rw [index_cons47, if_pos rfl]
      rw [pathB_slash]
      simp [pathI, Lib.cut, h, nameB]
    · by_cases hy : y = 47
      · subst hy
        have h : Lib.index (x :: 47 :: r) [47] = 1 := by rw [index_cons47, if_neg hx, index_cons47, if_pos rfl]; rfl
        match r with
        | [] => simp [pathI, Lib.cut, h, nameB, pathB]
        | [z] => simp [pathI, Lib.cut, h, nameB, pathB]
        | _ :: _ :: _ => simp [pathI, Lib.cut, h, nameB, pathB]
      · have hp : pathB (x :: y :: r) = false := by
          match r with
          | [] => rfl
          | [z] => simp [pathB, hy]
          | _ :: _ :: _ => rfl
        rw [hp]
        have hg := Lib.index_ge r [47]
        by_cases h2 : Lib.index r [47] = -1
        · have h : Lib.index (x :: y :: r) [47] = -1 := by rw [index_cons47, if_neg hx, if_pos (by rw [index_cons47, if_neg hy, if_pos h2])]
          simp [pathI, Lib.cut, h, nameB]
        · have h1 : Lib.index (y :: r) [47] = Lib.index r [47] + 1 := by rw [index_cons47, if_neg hy, if_neg h2]
          have h : Lib.index (x :: y :: r) [47] = Lib.index r [47] + 2 := by rw [index_cons47, if_neg hx, h1, if_neg (by omega)]; omega
          obtain ⟨k, hk⟩ : ∃ k : Nat, Lib.index r [47] = k := ⟨_, (Int.toNat_of_nonneg (by omega)).symm⟩
          have h3 : (Lib.index (x :: y :: r) [47]).toNat = k + 2 := by rw [h, hk]; omega
          simp [pathI, Lib.cut, h, hk, show ((k : Int) + 2).toNat = k + 2 by omega, show (0 : Int) ≤ (k : Int) + 2 by omega, nameB]
theorem size_list (s : ByteArray) : s.data.toList.length = s.size := by simp
theorem get_data (s : ByteArray) (i : Nat) (h : i < s.size) : s.data.toList[i]? = some s[i] := by
  rw [List.getElem?_eq_getElem (by simpa using h)]; rfl
theorem list_one (s : ByteArray) (h : s.size = 1) : s.data.toList = [s[0]] := by
  have h2 := get_data s 0 (by omega)
  have h3 := size_list s
  match hd : s.data.toList, h3 with
  | [x], _ =>
    rw [hd] at h2
    simp at h2
    rw [h2]
  | [], h3 => simp at h3; omega
  | _ :: _ :: _, h3 => simp at h3; omega
theorem list_three (s : ByteArray) (h : s.size = 3) : s.data.toList = [s[0], s[1], s[2]] := by
  have g0 := get_data s 0 (by omega)
  have g1 := get_data s 1 (by omega)
  have g2 := get_data s 2 (by omega)
  have h3 := size_list s
  match hd : s.data.toList, h3 with
  | [x, y, z], _ =>
    rw [hd] at g0 g1 g2
    simp at g0 g1 g2
    rw [g0, g1, g2]
  | [], h3 => simp at h3; omega
  | [_], h3 => simp at h3; omega
  | [_, _], h3 => simp at h3; omega
  | _ :: _ :: _ :: _ :: _, h3 => simp at h3; omega
section
set_option maxHeartbeats 800000
theorem folderLetter_any (s : ByteArray) (w : World) :
    Calls Try.prog 23 #[.string s] w fun e w' => e = .returned (.bool (nameB s.data.toList)) ∧ w = w' := by
  by_cases h1 : s.size = 1
  · have hb : ((s.size : Int) == 1) = true := by simp [h1]
    have h0 : 0 < s.size := by omega
    have HN := Lib.hid (show nameB s.data.toList = isNm s[0] by rw [list_one s h1]; rfl)
    have HN2 := Lib.hid (isNm_int s[0])
    go_enter Try.func23, Try.ntmps23
    go_wp2
    all_goals
      go_ret
      exact ⟨ret_bool (by rw [HN.out, HN2.out]; simp; try omega), rfl⟩
  · have hb : ((s.size : Int) == 1) = false := by simp; omega
    have HN := Lib.hid (show nameB s.data.toList = false by
      match hd : s.data.toList with
      | [] => rfl
      | [x] => exact absurd (show s.size = 1 by rw [← size_list s, hd]; rfl) h1
      | _ :: _ :: _ => rfl)
    go_enter Try.func23, Try.ntmps23
    go_wp2
    go_ret
    exact ⟨ret_bool HN.out.symm, rfl⟩
theorem l11Name_any (c : UInt8) (w : World) :
    Calls Try.prog 21 #[.int .u8 (c.toNat : Int)] w fun e w' => e = .returned (.bool (isNm c)) ∧ w = w' := by
  have HN := Lib.hid (isNm_int c)
  obtain ⟨n, hn⟩ : ∃ n, c.toNat = n := ⟨_, rfl⟩
  have hn2 : n < 256 := by rw [← hn]; exact c.toNat_lt
  rw [hn] at HN ⊢
  clear hn
  go_enter Try.func21, Try.ntmps21
  go_wp2
  all_goals
    go_ret
    exact ⟨ret_bool (by rw [HN.out]; simp; try omega), rfl⟩
end
end Go.Proofs.Ytndiofhinlogmaa
