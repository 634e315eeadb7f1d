/- The walks of three laws: on the form of pieces, on the form of texts, and on where a piece ends; each returns true. -/
import Derived.Test.YtpfhpmeefeodcaaDraw
import Derived.Test.YtpfhpmeefeodcaaCut
import Derived.Lib.IndexBytes
namespace Go.Proofs.Ytpfhpmeefeodcaa
open Go.RowKit

theorem data_app (s t : ByteArray) : (s ++ t).data.toList = s.data.toList ++ t.data.toList := by simp
theorem data_tail (s : ByteArray) : (s.extract 1 s.size).data.toList = s.data.toList.drop 1 := by
  simp [ByteArray.data_extract, List.take_of_length_le]
theorem lets_append (l m : List UInt8) : lets (l ++ m) = (lets l && lets m) := by simp [lets, List.all_append]
theorem lets_drop {l : List UInt8} (h : lets l = true) (k : Nat) : lets (l.drop k) = true := by
  simp only [lets, List.all_eq_true] at h ⊢
  exact fun x hx => h x (List.mem_of_mem_drop hx)
theorem pieceB_parts {s : ByteArray} (h : pieceB s.data.toList = true) : 1 ≤ s.size ∧ s.size ≤ 8 ∧ lets s.data.toList = true := by
  simp only [pieceB, Bool.and_eq_true, decide_eq_true_eq, size_int] at h; exact ⟨h.1.1, h.1.2, h.2⟩
theorem pieceB_of {s : ByteArray} (h1 : 1 ≤ s.size) (h2 : s.size ≤ 8) (h3 : lets s.data.toList = true) : pieceB s.data.toList = true := by
  simp only [pieceB, Bool.and_eq_true, decide_eq_true_eq, size_int]; exact ⟨⟨h1, h2⟩, h3⟩
theorem pieceB_tail {s : ByteArray} (h : pieceB s.data.toList = true) (h2 : 1 < s.size) : pieceB (s.extract 1 s.size).data.toList = true := by
  obtain ⟨a, b, c⟩ := pieceB_parts h
  rw [data_tail]
  have hl : (s.data.toList.drop 1).length = s.size - 1 := by rw [List.length_drop, size_int]
  unfold pieceB
  rw [hl, lets_drop c 1]; simp; omega
theorem pieceB_tail_no {s : ByteArray} (h2 : s.size ≤ 1) : pieceB (s.extract 1 s.size).data.toList = false := by
  rw [data_tail]
  have hl : (s.data.toList.drop 1).length = s.size - 1 := by rw [List.length_drop, size_int]
  unfold pieceB
  rw [hl]; simp; intro h; omega
theorem pieceB_dot (s : ByteArray) : pieceB (s ++ ⟨#[46]⟩).data.toList = false := by
  rw [data_app]; simp [pieceB, lets, isLet]
theorem pieceB_long (s : ByteArray) (h : 1 ≤ s.size) : pieceB (s ++ ⟨#[97, 98, 99, 100, 101, 102, 103, 104]⟩).data.toList = false := by
  rw [data_app]
  have hl : (s.data.toList ++ (⟨#[97, 98, 99, 100, 101, 102, 103, 104]⟩ : ByteArray).data.toList).length = s.size + 8 := by rw [List.length_append, size_int]; rfl
  have h8 : decide ((s.data.toList ++ (⟨#[97, 98, 99, 100, 101, 102, 103, 104]⟩ : ByteArray).data.toList).length ≤ 8) = false := decide_eq_false (by omega)
  unfold pieceB
  rw [h8]; simp
theorem textB_piece {s : ByteArray} (h : pieceB s.data.toList = true) : textB s.data.toList = true := by
  obtain ⟨a, b, c⟩ := pieceB_parts h
  simp only [textB, Bool.and_eq_true, decide_eq_true_eq, size_int]; exact ⟨by omega, c⟩
theorem textB_tail {s : ByteArray} (h : textB s.data.toList = true) : textB (s.extract 1 s.size).data.toList = true := by
  obtain ⟨a, c⟩ := textB_parts h
  rw [data_tail]
  unfold textB
  rw [lets_drop c 1, List.length_drop, size_int]; simp; omega
theorem textB_A (s : ByteArray) : textB (s ++ ⟨#[65]⟩).data.toList = false := by
  rw [data_app]; simp [textB, lets, isLet]
theorem textB_long {s : ByteArray} (h : 40 < s.size) : textB s.data.toList = false := by
  unfold textB
  rw [size_int]; simp; intro h1; omega
theorem maxLen_of {n : Nat} (h : n ≤ 1000000000) : n ≤ maxLen := by unfold maxLen; omega

section
set_option maxHeartbeats 800000
theorem lawFnPieceForm (a : Option Addr) (len cap : Nat) (zs : List Int) (w : World) (h : Code w a len cap zs) : Calls Try.prog 3 #[.slice a len cap] w fun e w' => e = .returned (.bool true) ∧ Below w.heap.size w w' := by
  by_cases hl : len ≤ 1048576
  · go_enter Try.func3, Try.ntmps3
    go_wp2_with fail
    refine (drawPieceOk_any a len cap zs w h).mono ?_
    rintro e w1 ⟨s, rfl, hs, hb⟩
    have HB := Lib.hid hb
    clear hb h
    have hm : s.size ≤ maxLen := maxLen_of (by omega)
    have HM := Lib.hid hm
    clear hm
    cases hp : pieceB s.data.toList with
    | false =>
      go_wp2_with (first | (go_at_call 22; refine (pieceOkS_any _ _ HM.out).mono ?_; rintro e w' ⟨rfl, rfl⟩) | (go_at_call 21; refine (pieceOk_any _ _ HM.out).mono ?_; rintro e w' ⟨rfl, rfl⟩))
      go_ret
      exact ⟨rfl, HB.out⟩
    | true =>
      obtain ⟨p1, p8, pl⟩ := pieceB_parts hp
      have HT := Lib.hid (textB_piece hp)
      have HL := Lib.hid (pieceB_long s p1)
      have HD := Lib.hid (pieceB_dot s)
      have HX : Hid (1 < s.size → pieceB (s.extract 1 s.size).data.toList = true) := fun h2 => pieceB_tail hp h2
      clear pl
      by_cases h2 : 1 < s.size
      all_goals
        have HE := Lib.hid (show pieceB (s.extract 1 s.size).data.toList = decide (1 < s.size) by first | (rw [HX.out h2]; simpa using h2) | (rw [pieceB_tail_no (by omega)]; simpa using h2))
        go_wp2_with fail
        refine (pieceOk_any _ _ HM.out).mono ?_
        rintro e w' ⟨rfl, rfl⟩
        rw [hp]
        go_wp2_with fail
        refine (pieceOkS_any _ _ HM.out).mono ?_
        rintro e w' ⟨rfl, rfl⟩
        rw [hp]
        go_wp2_with fail
        refine (pieceOk_any _ _ (maxLen_of (by simp; omega))).mono ?_
        rintro e w' ⟨rfl, rfl⟩
        rw [HE.out]
        go_wp2_with fail
        refine (pieceOk_any _ _ (maxLen_of (by have : (⟨#[46]⟩ : ByteArray).size = 1 := rfl; simp; omega))).mono ?_
        rintro e w' ⟨rfl, rfl⟩
        rw [HD.out]
        go_wp2_with fail
        refine (pieceOk_any _ _ (maxLen_of (by have : (⟨#[97, 98, 99, 100, 101, 102, 103, 104]⟩ : ByteArray).size = 8 := rfl; simp; omega))).mono ?_
        rintro e w' ⟨rfl, rfl⟩
        rw [HL.out]
        go_wp2_with fail
        refine (textOk_any _ _ HM.out).mono ?_
        rintro e w' ⟨rfl, rfl⟩
        rw [HT.out]
        go_wp2
        go_ret
        exact ⟨by first | rfl | exact ret_bool (by simp; omega), HB.out⟩
  · go_enter Try.func3, Try.ntmps3
    go_wp2
    go_ret
    exact ⟨rfl, Below.refl _ _⟩
theorem lawFnTextForm (a : Option Addr) (len cap : Nat) (zs : List Int) (w : World) (h : Code w a len cap zs) : Calls Try.prog 4 #[.slice a len cap] w fun e w' => e = .returned (.bool true) ∧ Below w.heap.size w w' := by
  by_cases hl : len ≤ 1048576
  · go_enter Try.func4, Try.ntmps4
    go_wp2_with fail
    refine (drawTextOk_any a len cap zs w h).mono ?_
    rintro e w1 ⟨s, rfl, hs, hb⟩
    have HB := Lib.hid hb
    clear hb h
    have hm : s.size ≤ maxLen := maxLen_of (by omega)
    have HM := Lib.hid hm
    clear hm
    cases hp : textB s.data.toList with
    | false =>
      go_wp2_with (first | (go_at_call 25; refine (textOkS_any _ _ HM.out).mono ?_; rintro e w' ⟨rfl, rfl⟩) | (go_at_call 23; refine (textOk_any _ _ HM.out).mono ?_; rintro e w' ⟨rfl, rfl⟩))
      go_ret
      exact ⟨rfl, HB.out⟩
    | true =>
      obtain ⟨p40, pl⟩ := textB_parts hp
      have HT := Lib.hid (textB_tail hp)
      have HD := Lib.hid (textB_A s)
      clear pl
      have HP := Lib.hid hp
      clear hp
      go_wp2_with fail
      refine (textOk_any _ _ HM.out).mono ?_
      rintro e w' ⟨rfl, rfl⟩
      rw [HP.out]
      go_wp2_with fail
      refine (textOkS_any _ _ HM.out).mono ?_
      rintro e w' ⟨rfl, rfl⟩
      rw [HP.out]
      go_wp2_with fail
      go_loop [5] (fun t => ∃ y : ByteArray, t = .string y ∧ y.size ≤ 41) (fun t => match t with | .string y => 41 - y.size | _ => 0)
      case atStart => exact ⟨s, rfl, by omega⟩
      case round =>
        obtain ⟨y, rfl, hy⟩ := hrel
        by_cases hy40 : y.size ≤ 40
        · go_wp2
          go_round
          case rel => exact ⟨_, rfl, by have : (⟨#[97]⟩ : ByteArray).size = 1 := rfl; simp; omega⟩
          case measure => have : (⟨#[97]⟩ : ByteArray).size = 1 := rfl; simp; omega
        · have HL := Lib.hid (textB_long (s := y) (by omega))
          by_cases he : s.size = 0
          · have hse : s = ByteArray.empty := by
              apply ByteArray.ext; apply Array.eq_empty_of_size_eq_zero; simpa using he
            subst hse
            have HA := Lib.hid (show textB (⟨#[65]⟩ : ByteArray).data.toList = false by decide)
            go_wp2_with fail
            refine (textOk_any _ _ (maxLen_of (by have : (⟨#[65]⟩ : ByteArray).size = 1 := rfl; omega))).mono ?_
            rintro e w' ⟨rfl, rfl⟩
            rw [HA.out]
            go_wp2_with fail
            refine (textOk_any _ _ (maxLen_of (by omega))).mono ?_
            rintro e w' ⟨rfl, rfl⟩
            rw [HL.out]
            go_wp2
            go_ret
            exact ⟨rfl, HB.out⟩
          · have h1 : 1 ≤ s.size := by omega
            have HA := Lib.hid (show (⟨#[65]⟩ : ByteArray).size = 1 from rfl)
            clear he
            go_wp2_with fail
            · refine (textOk_any _ _ (maxLen_of (by have := HA.out; simp; omega))).mono ?_
              rintro e w' ⟨rfl, rfl⟩
              rw [HD.out]
              go_wp2_with fail
              refine (textOk_any _ _ (maxLen_of (by omega))).mono ?_
              rintro e w' ⟨rfl, rfl⟩
              rw [HL.out]
              go_wp2
              go_ret
              exact ⟨rfl, HB.out⟩
            · refine (textOk_any _ _ (maxLen_of (by simp; omega))).mono ?_
              rintro e w' ⟨rfl, rfl⟩
              rw [HT.out]
              go_wp2_with fail
              refine (textOk_any _ _ (maxLen_of (by have := HA.out; simp; omega))).mono ?_
              rintro e w' ⟨rfl, rfl⟩
              rw [HD.out]
              go_wp2_with fail
              refine (textOk_any _ _ (maxLen_of (by omega))).mono ?_
              rintro e w' ⟨rfl, rfl⟩
              rw [HL.out]
              go_wp2
              go_ret
              exact ⟨rfl, HB.out⟩
  · go_enter Try.func4, Try.ntmps4
    go_wp2
    go_ret
    exact ⟨rfl, Below.refl _ _⟩
end
end Go.Proofs.Ytpfhpmeefeodcaa
