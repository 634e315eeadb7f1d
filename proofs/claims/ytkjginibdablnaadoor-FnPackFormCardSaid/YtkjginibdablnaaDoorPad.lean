/- PadOf and PadBack of any string, here and in the reference. -/
import Derived.Test.YtkjginibdablnaaDoorClass
import Derived.Test.YtkjginibdablnaaDoorShelf
import Derived.Lib.Repeat
import Derived.Lib.TrimByte
import Derived.Below
import Derived.OwnWalk
namespace Go.Proofs.YtkjginibdablnaaDoor
open Go.RowKit

/-- how many letters a padded piece has -/
def clsN (n : Nat) : Nat := if n ≤ 2 then 2 else if n ≤ 4 then 4 else 8
theorem clsN_class {n : Nat} (h : 1 ≤ n) (h8 : n ≤ 8) : classZ (n : Int) = (clsN n : Nat) := by
  unfold clsN
  by_cases h2 : n ≤ 2
  · rw [if_pos h2, classZ_2 (by omega) (by omega)]; rfl
  · by_cases h4 : n ≤ 4
    · rw [if_neg h2, if_pos h4, classZ_4 (by omega) (by omega)]; rfl
    · rw [if_neg h2, if_neg h4, classZ_8 (by omega) (by omega)]; rfl
theorem clsN_ge {n : Nat} (h8 : n ≤ 8) : n ≤ clsN n ∧ clsN n ≤ 8 := by
  unfold clsN
  split
  · omega
  · split <;> omega
def padL (l : List UInt8) : List UInt8 := if pieceB l = true then l ++ List.replicate (clsN l.length - l.length) 46 else []
theorem padL_no {l : List UInt8} (h : pieceB l = false) : padL l = [] := by simp [padL, h]
theorem padL_yes {l : List UInt8} (h : pieceB l = true) : padL l = l ++ List.replicate (clsN l.length - l.length) 46 := by simp [padL, h]
theorem pieceB_is {l : List UInt8} (h : pieceB l = true) : 1 ≤ l.length ∧ l.length ≤ 8 ∧ lets l = true := by
  simp only [pieceB, Bool.and_eq_true, decide_eq_true_eq] at h
  exact ⟨h.1.1, h.1.2, h.2⟩
theorem padL_len {l : List UInt8} (h : pieceB l = true) : (padL l).length = clsN l.length := by
  obtain ⟨h1, h8, _⟩ := pieceB_is h
  have := (clsN_ge h8).1
  rw [padL_yes h, List.length_append, List.length_replicate]
  omega
theorem padL_len8 (l : List UInt8) : (padL l).length ≤ 8 := by
  cases h : pieceB l with
  | false => rw [padL_no h]; simp
  | true => rw [padL_len h]; exact (clsN_ge (pieceB_is h).2.1).2
theorem padL_take {l : List UInt8} (h : pieceB l = true) : (padL l).take l.length = l := by
  rw [padL_yes h]; simp
theorem padL_ne {l : List UInt8} (h : pieceB l = true) : padL l ≠ [] := by
  intro e
  have := padL_len h
  rw [e] at this
  obtain ⟨h1, h8, _⟩ := pieceB_is h
  have := (clsN_ge h8).1
  simp at *
  omega
/-- what stands ahead of the points at the end -/
def trimL (l : List UInt8) : List UInt8 := Lib.trimRightB l 46
theorem trimL_take {l : List UInt8} {k : Nat} (hk : k ≤ l.length) (h1 : ∀ (j : Nat) b, k ≤ j → l[j]? = some b → b = 46) (h2 : ∀ b, 0 < k → l[k - 1]? = some b → b ≠ 46) : trimL l = l.take k :=
  Lib.trimRightB_take l 46 k hk h1 h2
theorem lets_not {l : List UInt8} (h : lets l = true) {j : Nat} {b : UInt8} (hb : l[j]? = some b) : b ≠ 46 := by
  have h1 := List.all_eq_true.1 h b (List.mem_of_getElem? hb)
  rw [isLet_int] at h1
  have h2 := of_decide_eq_true h1
  rintro rfl
  exact absurd h2.1 (by decide)
theorem trimL_pad {l : List UInt8} (h : pieceB l = true) : trimL (padL l) = l := by
  obtain ⟨h1, h8, hl⟩ := pieceB_is h
  rw [trimL_take (k := l.length) (by rw [padL_len h]; exact (clsN_ge h8).1), padL_take h]
  · intro j b hj hb
    rw [padL_yes h, List.getElem?_append_right hj, List.getElem?_replicate] at hb
    split at hb
    · injection hb with hb; exact hb.symm
    · cases hb
  · intro b h0 hb
    rw [padL_yes h, List.getElem?_append_left (by omega)] at hb
    exact lets_not hl hb
def backOk (l : List UInt8) : Bool := pieceB (trimL l) && decide (padL (trimL l) = l)
def backT (l : List UInt8) : List UInt8 := if backOk l = true then trimL l else []
theorem backOk_yes {l : List UInt8} (h : pieceB (trimL l) = true) (h2 : padL (trimL l) = l) : backOk l = true := by simp [backOk, h, h2]
theorem backOk_no {l : List UInt8} (h : pieceB (trimL l) = false) : backOk l = false := by simp [backOk, h]
theorem backOk_ne {l : List UInt8} (h : padL (trimL l) ≠ l) : backOk l = false := by simp [backOk, h]
theorem backT_yes {l : List UInt8} (h : backOk l = true) : backT l = trimL l := by simp [backT, h]
theorem backT_no {l : List UInt8} (h : backOk l = false) : backT l = [] := by simp [backT, h]
theorem backOk_pad {l : List UInt8} (h : pieceB l = true) : backOk (padL l) = true ∧ backT (padL l) = l := by
  have h1 : backOk (padL l) = true := backOk_yes (by rw [trimL_pad h]; exact h) (by rw [trimL_pad h])
  exact ⟨h1, by rw [backT_yes h1, trimL_pad h]⟩
theorem bar_eq {p : ByteArray} {l : List UInt8} (h : p.data.toList = l) : p = ⟨l.toArray⟩ := by
  apply ByteArray.ext
  rw [← h]
theorem bar_toList (l : List UInt8) : (⟨l.toArray⟩ : ByteArray).data.toList = l := rfl
theorem bar_size (l : List UInt8) : (⟨l.toArray⟩ : ByteArray).size = l.length := rfl

section
set_option maxHeartbeats 800000
def Padded (s : ByteArray) (w : World) (e : Ending) (w' : World) : Prop := e = .returned (.string ⟨(padL s.data.toList).toArray⟩) ∧ Below w.heap.size w w'
theorem padOf_any (s : ByteArray) (w : World) (hs : s.size ≤ maxLen) : Calls Tryd.prog 29 #[.string s] w (Padded s w) := by
  have HS := Lib.hid hs
  have HN := Lib.hid (size_int s)
  clear hs
  unfold Padded
  cases hp : pieceB s.data.toList with
  | false =>
    rw [padL_no hp]
    go_enter Tryd.func29, Tryd.ntmps29
    go_wp2_with (go_at_call 55; refine (pieceOk_any _ _ HS.out).mono ?_; rintro e w' ⟨rfl, rfl⟩)
    go_ret
    exact ⟨rfl, Below.refl _ _⟩
  | true =>
    obtain ⟨h1, h8, _⟩ := pieceB_is hp
    rw [size_int] at h1 h8
    have hc := clsN_class h1 h8
    obtain ⟨hg, hg8⟩ := clsN_ge h8
    have HR := Lib.hid (show padL s.data.toList = s.data.toList ++ List.replicate (clsN s.size - s.size) 46 by rw [padL_yes hp, HN.out])
    have HC := Lib.hid hc
    clear hc
    obtain ⟨k, hk⟩ : ∃ k, clsN s.size - s.size = k := ⟨_, rfl⟩
    have hk2 : ((clsN s.size : Nat) : Int) - (s.size : Int) = (k : Int) := by omega
    have hk8 : k ≤ 8 := by omega
    rw [hk] at HR
    go_enter Tryd.func29, Tryd.ntmps29
    go_wp2_with fail
    refine (pieceOk_any _ _ HS.out).mono ?_
    rintro e w' ⟨rfl, rfl⟩
    rw [hp]
    go_wp2_with fail
    refine (classOf_any _ _).mono ?_
    rintro e w' ⟨rfl, rfl⟩
    rw [HC.out]
    go_wp2_with fail
    refine (Tryd.strings_Repeat ⟨#[46]⟩ k _ (by omega) (by rw [show (⟨#[46]⟩ : ByteArray).size = 1 from rfl]; omega)).mono ?_
    rintro e w' ⟨rfl, hb⟩
    have HB := Lib.hid hb
    clear hb
    obtain ⟨R, hR⟩ : ∃ R : ByteArray, (⟨(Lib.repeatL (⟨#[46]⟩ : ByteArray).data.toList k).toArray⟩ : ByteArray) = R := ⟨_, rfl⟩
    have hrl : R.data.toList = List.replicate k 46 := by
      have h := Lib.repeatL_replicate 46 1 k
      rw [Nat.mul_one] at h
      rw [← hR, ← h]
      rfl
    have hrs : R.size ≤ 8 := by rw [← size_int, hrl, List.length_replicate]; omega
    rw [hR]
    clear hR
    obtain ⟨T, hT⟩ : ∃ T : ByteArray, s ++ R = T := ⟨_, rfl⟩
    have HT := Lib.hid hT
    have HT2 := Lib.hid (show T = ⟨(padL s.data.toList).toArray⟩ by
      apply bar_eq
      rw [← hT, HR.out, ← hrl]
      simp)
    clear hrl
    clear hT
    go_wp2
    rw [HT.out]
    go_ret
    rw [← HT2.out]
    exact ⟨rfl, HB.out⟩
theorem l2Pad_any (s : ByteArray) (w : World) (hp : pieceB s.data.toList = true) : Calls Tryd.prog 68 #[.string s] w fun e w' => e = .returned (.string ⟨(padL s.data.toList).toArray⟩) ∧ w = w' := by
  obtain ⟨h1, h8, _⟩ := pieceB_is hp
  rw [size_int] at h1 h8
  have HC := Lib.hid (clsN_class h1 h8)
  obtain ⟨hg, hg8⟩ := clsN_ge h8
  have HR := Lib.hid (show padL s.data.toList = s.data.toList ++ List.replicate (clsN s.size - s.size) 46 by rw [padL_yes hp, size_int])
  obtain ⟨N, hN⟩ : ∃ N, clsN s.size = N := ⟨_, rfl⟩
  rw [hN] at HR HC hg hg8
  clear hN hp
  go_enter Tryd.func68, Tryd.ntmps68
  go_wp2_with fail
  refine (classOfS_any _ _).mono ?_
  rintro e w' ⟨rfl, rfl⟩
  rw [HC.out]
  go_wp2
  go_loop [0] (fun p => ∃ (y : ByteArray) (k : Nat), p = .string y ∧ y.data.toList = s.data.toList ++ List.replicate k 46 ∧ y.size = s.size + k ∧ s.size + k ≤ N) (fun p => N - (match p with | .string y => y.size | _ => 0))
  case atStart => exact ⟨s, 0, rfl, by simp, rfl, hg⟩
  case round =>
    obtain ⟨y, k, rfl, hy, hys, hk⟩ := hrel
    have HY := Lib.hid hy
    clear hy
    by_cases hlt : y.size < N
    · have hi : (y.size : Int) < (N : Int) := by omega
      obtain ⟨T, hT⟩ : ∃ T : ByteArray, y ++ (⟨#[46]⟩ : ByteArray) = T := ⟨_, rfl⟩
      have HT := Lib.hid hT
      have hts : T.size = y.size + 1 := by rw [← hT]; simp; rfl
      have HTL := Lib.hid (show T.data.toList = s.data.toList ++ List.replicate (k + 1) 46 by
        rw [← hT]
        have : (y ++ (⟨#[46]⟩ : ByteArray)).data.toList = y.data.toList ++ [46] := by simp
        rw [this, HY.out, List.append_assoc, List.replicate_succ'])
      clear hT
      go_wp2
      rw [HT.out]
      go_round
      case rel => exact ⟨T, k + 1, rfl, HTL.out, by omega, by omega⟩
      case measure => simp; omega
    · have HF := Lib.hid (show y = ⟨(padL s.data.toList).toArray⟩ by
        apply bar_eq
        rw [HY.out, HR.out, show k = N - s.size by omega])
      have hi : (N : Int) ≤ (y.size : Int) := by omega
      go_wp2
      go_ret
      rw [← HF.out]
      exact ⟨rfl, rfl⟩
theorem padOfS_any (s : ByteArray) (w : World) (hs : s.size ≤ maxLen) : Calls Tryd.prog 63 #[.string s] w fun e w' => e = .returned (.string ⟨(padL s.data.toList).toArray⟩) ∧ w = w' := by
  have HS := Lib.hid hs
  clear hs
  cases hp : pieceB s.data.toList with
  | false =>
    rw [padL_no hp]
    go_enter Tryd.func63, Tryd.ntmps63
    go_wp2_with (go_at_call 49; refine (pieceOkS_any _ _ HS.out).mono ?_; rintro e w' ⟨rfl, rfl⟩)
    go_ret
    exact ⟨rfl, rfl⟩
  | true =>
    go_enter Tryd.func63, Tryd.ntmps63
    go_wp2_with (first | (go_at_call 49; refine (pieceOkS_any _ _ HS.out).mono ?_; rintro e w' ⟨rfl, rfl⟩) | (go_at_call 68; refine (l2Pad_any _ _ hp).mono ?_; rintro e w' ⟨rfl, rfl⟩))
    go_ret
    exact ⟨rfl, rfl⟩
def Back (s : ByteArray) (w : World) (e : Ending) (w' : World) : Prop := e = .returned (.tuple #[.string ⟨(backT s.data.toList).toArray⟩, .bool (backOk s.data.toList)]) ∧ Below w.heap.size w w'
theorem back_no {s : ByteArray} {w w' : World} (h : backOk s.data.toList = false) (hb : Below w.heap.size w w') : Back s w (.returned (.tuple #[.string ByteArray.empty, .bool false])) w' := by
  refine ⟨?_, hb⟩
  rw [backT_no h, h]
  rfl
theorem back_yes {s t : ByteArray} {w w' : World} (h : backOk s.data.toList = true) (ht : t.data.toList = trimL s.data.toList) (hb : Below w.heap.size w w') : Back s w (.returned (.tuple #[.string t, .bool true])) w' := by
  refine ⟨?_, hb⟩
  rw [backT_yes h, h, bar_eq ht]
theorem trimL_size (l : List UInt8) : (trimL l).length ≤ l.length := by
  unfold trimL Lib.trimRightB
  rw [List.length_reverse]
  have := (List.dropWhile_sublist (· == (46 : UInt8)) (l := l.reverse)).length_le
  rw [List.length_reverse] at this
  exact this
theorem bars_ne {p q : ByteArray} (h : p.data.toList ≠ q.data.toList) : (p.toList == q.toList) = false := by
  refine beq_eq_false_iff_ne.2 fun e => h ?_
  rwa [ByteArray.toList_eq, ByteArray.toList_eq] at e
theorem padBack_any (s : ByteArray) (w : World) (hs : s.size ≤ maxLen) : Calls Tryd.prog 61 #[.string s] w (Back s w) := by
  have HS := Lib.hid hs
  obtain ⟨t, ht⟩ : ∃ t : ByteArray, t = ⟨(trimL s.data.toList).toArray⟩ := ⟨_, rfl⟩
  have HT := Lib.hid ht
  have HTL := Lib.hid (show t.data.toList = trimL s.data.toList by rw [ht])
  have HTS := Lib.hid (show t.size ≤ maxLen by
    have h1 := trimL_size s.data.toList
    rw [size_int] at h1
    have h2 : t.size = (trimL s.data.toList).length := by rw [ht]; rfl
    omega)
  have hs2 : s.size ≤ 9223372036854775807 := by unfold maxLen at hs; omega
  clear ht hs
  cases hp : pieceB t.data.toList with
  | false =>
    have HF := Lib.hid (backOk_no (l := s.data.toList) (by rw [← HTL.out]; exact hp))
    go_enter Tryd.func61, Tryd.ntmps61
    go_wp2_with fail
    refine (Tryd.strings_TrimRight_one s 46 (by decide) _ hs2).mono ?_
    rintro e w' ⟨rfl, rfl⟩
    rw [show (⟨(Lib.trimRightB s.data.toList 46).toArray⟩ : ByteArray) = t from HT.out.symm]
    go_wp2_with (go_at_call 55; refine (pieceOk_any _ _ HTS.out).mono ?_; rintro e w' ⟨rfl, rfl⟩)
    go_ret2
    exact back_no HF.out (Below.refl _ _)
  | true =>
    by_cases hq : padL t.data.toList = s.data.toList
    · have HF := Lib.hid (backOk_yes (l := s.data.toList) (by rw [← HTL.out]; exact hp) (by rw [← HTL.out]; exact hq))
      have HQ := Lib.hid (show (⟨(padL t.data.toList).toArray⟩ : ByteArray) = s by rw [hq])
      clear hq
      go_enter Tryd.func61, Tryd.ntmps61
      go_wp2_with fail
      refine (Tryd.strings_TrimRight_one s 46 (by decide) _ hs2).mono ?_
      rintro e w' ⟨rfl, rfl⟩
      rw [show (⟨(Lib.trimRightB s.data.toList 46).toArray⟩ : ByteArray) = t from HT.out.symm]
      go_wp2_with (go_at_call 55; refine (pieceOk_any _ _ HTS.out).mono ?_; rintro e w' ⟨rfl, rfl⟩)
      refine (padOf_any t _ HTS.out).mono ?_
      rintro e w' ⟨rfl, hb⟩
      rw [HQ.out]
      have HB := Lib.hid hb
      clear hb
      go_wp2
      go_ret2
      exact back_yes HF.out HTL.out HB.out
    · have HF := Lib.hid (backOk_ne (l := s.data.toList) (by rw [← HTL.out]; exact hq))
      obtain ⟨q, hqq⟩ : ∃ q : ByteArray, (⟨(padL t.data.toList).toArray⟩ : ByteArray) = q := ⟨_, rfl⟩
      have HQ := Lib.hid hqq
      have hne : (q.toList == s.toList) = false := bars_ne (by rw [← hqq]; exact hq)
      clear hq hqq
      go_enter Tryd.func61, Tryd.ntmps61
      go_wp2_with fail
      refine (Tryd.strings_TrimRight_one s 46 (by decide) _ hs2).mono ?_
      rintro e w' ⟨rfl, rfl⟩
      rw [show (⟨(Lib.trimRightB s.data.toList 46).toArray⟩ : ByteArray) = t from HT.out.symm]
      go_wp2_with (go_at_call 55; refine (pieceOk_any _ _ HTS.out).mono ?_; rintro e w' ⟨rfl, rfl⟩)
      refine (padOf_any t _ HTS.out).mono ?_
      rintro e w' ⟨rfl, hb⟩
      rw [HQ.out]
      have HB := Lib.hid hb
      clear hb
      go_wp2
      go_ret2
      exact back_no HF.out HB.out
theorem extract_take (s : ByteArray) (k : Nat) : (s.extract 0 k).data.toList = s.data.toList.take k := by
  simp
theorem padBackSE_any (s : ByteArray) (w : World) (hs : s.size ≤ 1048576) : Calls Tryd.prog 38 #[.string s] w fun e w' => Back s w e w' ∧ w' = w := by
  have HN := Lib.hid (size_int s)
  go_enter Tryd.func38, Tryd.ntmps38
  go_wp2
  go_loop [4] (fun n => ∃ k : Nat, k ≤ s.size ∧ n = .int .i64 (k : Int) ∧ ∀ (j : Nat) (b : UInt8), k ≤ j → s.data.toList[j]? = some b → b = 46) (fun n => (intOf n).toNat)
  case atStart => exact ⟨s.size, Nat.le_refl _, rfl, fun j b hj hb => by have h1 := (List.getElem?_eq_some_iff.1 hb).1; rw [size_int] at h1; omega⟩
  case round =>
    obtain ⟨k, hk, rfl, hpt⟩ := hrel
    have HP := Lib.hid hpt
    clear hpt
    have key : ∀ (_ : ∀ b, 0 < k → s.data.toList[k - 1]? = some b → b ≠ 46), trimL s.data.toList = s.data.toList.take k := fun h => trimL_take (by rw [size_int]; exact hk) HP.out h
    by_cases hgo : ∃ m : Nat, k = m + 1 ∧ s.data.toList[m]? = some 46
    · obtain ⟨m, rfl, hm⟩ := hgo
      have hms : m < s.size := by omega
      have hb : s[m] = 46 := by
        have h1 : s.data.toList[m]? = some s[m] := by
          rw [List.getElem?_eq_getElem (by rw [size_int]; exact hms)]; rfl
        rw [h1] at hm
        injection hm
      have hbi : (s[m].toNat : Int) = 46 := by rw [hb]; rfl
      have hmi : ((m + 1 : Nat) : Int) - 1 = (m : Int) := by omega
      have hpos : (0 : Int) < ((m + 1 : Nat) : Int) := by omega
      have HM := Lib.hid hm
      clear hm hb key
      go_wp2
      go_round
      case rel =>
        refine ⟨m, by omega, by go_num, fun j b hj hb => ?_⟩
        by_cases hjm : j = m
        · subst hjm
          rw [HM.out] at hb
          injection hb with hb
          exact hb.symm
        · exact HP.out j b (by omega) hb
      case measure => simp [intOf]
    · have HK := Lib.hid (key (fun b h0 hb e => hgo ⟨k - 1, by omega, by rw [hb, e]⟩))
      clear key
      obtain ⟨T, hT⟩ : ∃ T, s.extract 0 k = T := ⟨_, rfl⟩
      have HT := Lib.hid hT
      have HTL := Lib.hid (show T.data.toList = trimL s.data.toList by rw [← hT, extract_take, HK.out])
      have hTs : T.size ≤ 1048576 := by rw [← hT]; simp; omega
      have hstop : k = 0 ∨ ∃ m : Nat, k = m + 1 ∧ m < s.size ∧ ∃ h : m < s.size, ¬ (s[m].toNat : Int) = 46 := by
        rcases Nat.eq_zero_or_pos k with h0 | h0
        · exact .inl h0
        · refine .inr ⟨k - 1, by omega, by omega, by omega, fun e => hgo ⟨k - 1, by omega, ?_⟩⟩
          have h1 : s.data.toList[k - 1]? = some (s[k - 1]'(by omega)) := by
            rw [List.getElem?_eq_getElem (by rw [size_int]; omega)]; rfl
          rw [h1]
          have h2 : (s[k - 1]'(by omega)).toNat = 46 := by omega
          rw [show (s[k - 1]'(by omega)) = 46 from UInt8.toNat_inj.1 (by rw [h2]; rfl)]
      have HTM := Lib.hid (show T.size ≤ maxLen by unfold maxLen; omega)
      clear hgo hT
      by_cases h8 : 8 < s.size
      · have HF := Lib.hid (backOk_ne (l := s.data.toList) (fun e => by have h1 := padL_len8 (trimL s.data.toList); rw [e, size_int] at h1; omega))
        have h8i : (8 : Int) < (s.size : Int) := by omega
        rcases hstop with rfl | ⟨m, rfl, hm, _, hb⟩
        · go_wp2
          go_ret2
          exact ⟨back_no HF.out (Below.refl _ _), rfl⟩
        · have hmi : ((m + 1 : Nat) : Int) - 1 = (m : Int) := by omega
          have hpos : (0 : Int) < ((m + 1 : Nat) : Int) := by omega
          have hbb : ((s[m].toNat : Int) == 46) = false := beq_eq_false_iff_ne.2 hb
          go_wp2
          go_ret2
          exact ⟨back_no HF.out (Below.refl _ _), rfl⟩
      · have h8i : (s.size : Int) ≤ 8 := by omega
        by_cases hq : padL T.data.toList = s.data.toList
        · have HQ := Lib.hid (show (⟨(padL T.data.toList).toArray⟩ : ByteArray) = s by rw [hq])
          rcases hstop with rfl | ⟨m, rfl, hm, _, hb⟩
          · have HF := Lib.hid (backOk_no (l := s.data.toList) (by rw [HK.out]; rfl))
            have HT0 := Lib.hid (show ByteArray.empty = T from (ByteArray.ext (Array.toList_inj.1 (by rw [HTL.out, HK.out]; rfl))).symm)
            clear hq
            go_wp2_with fail
            rw [HT0.out]
            refine (padOfS_any T _ HTM.out).mono ?_
            rintro e w' ⟨rfl, rfl⟩
            rw [HQ.out]
            go_wp2
            go_ret2
            exact ⟨back_no HF.out (Below.refl _ _), rfl⟩
          · have HF := Lib.hid (backOk_yes (l := s.data.toList) (by
              cases hp : pieceB (trimL s.data.toList) with
              | true => rfl
              | false =>
                rw [HTL.out, padL_no hp] at hq
                have : s.size = 0 := by rw [← size_int, ← hq]; rfl
                omega) (by rw [← HTL.out]; exact hq))
            have hmi : ((m + 1 : Nat) : Int) - 1 = (m : Int) := by omega
            have hpos : (0 : Int) < ((m + 1 : Nat) : Int) := by omega
            have hbb : ((s[m].toNat : Int) == 46) = false := beq_eq_false_iff_ne.2 hb
            have hz : (((m : Int) + 1) == 0) = false := beq_eq_false_iff_ne.2 (by omega)
            clear hq
            go_wp2_with fail
            rw [HT.out]
            refine (padOfS_any T _ HTM.out).mono ?_
            rintro e w' ⟨rfl, rfl⟩
            rw [HQ.out]
            go_wp2
            rw [HT.out]
            go_ret2
            exact ⟨back_yes HF.out HTL.out (Below.refl _ _), rfl⟩
        · have HF := Lib.hid (backOk_ne (l := s.data.toList) (by rw [← HTL.out]; exact hq))
          obtain ⟨q, hqq⟩ : ∃ q : ByteArray, (⟨(padL T.data.toList).toArray⟩ : ByteArray) = q := ⟨_, rfl⟩
          have HQ := Lib.hid hqq
          have hne : (q.toList == s.toList) = false := bars_ne (by rw [← hqq]; exact hq)
          clear hq hqq
          rcases hstop with rfl | ⟨m, rfl, hm, _, hb⟩
          · have HT0 := Lib.hid (show ByteArray.empty = T from (ByteArray.ext (Array.toList_inj.1 (by rw [HTL.out, HK.out]; rfl))).symm)
            go_wp2_with fail
            rw [HT0.out]
            refine (padOfS_any T _ HTM.out).mono ?_
            rintro e w' ⟨rfl, rfl⟩
            rw [HQ.out]
            go_wp2
            go_ret2
            exact ⟨back_no HF.out (Below.refl _ _), rfl⟩
          · have hmi : ((m + 1 : Nat) : Int) - 1 = (m : Int) := by omega
            have hpos : (0 : Int) < ((m + 1 : Nat) : Int) := by omega
            have hbb : ((s[m].toNat : Int) == 46) = false := beq_eq_false_iff_ne.2 hb
            go_wp2_with fail
            rw [HT.out]
            refine (padOfS_any T _ HTM.out).mono ?_
            rintro e w' ⟨rfl, rfl⟩
            rw [HQ.out]
            go_wp2
            go_ret2
            exact ⟨back_no HF.out (Below.refl _ _), rfl⟩
theorem padBackS_any (s : ByteArray) (w : World) (hs : s.size ≤ 1048576) : Calls Tryd.prog 38 #[.string s] w (Back s w) :=
  (padBackSE_any s w hs).mono fun _ _ h => h.1
end
end Go.Proofs.YtkjginibdablnaaDoor
