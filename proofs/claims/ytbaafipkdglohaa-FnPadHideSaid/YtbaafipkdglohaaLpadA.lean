/- The exact law of PadOf; the law that of a padded piece no more is told than its class. -/
import Derived.Test.YtbaafipkdglohaaPad
import Derived.Test.YtbaafipkdglohaaDraw
namespace Go.Proofs.Ytbaafipkdglohaa
open Go.RowKit
theorem max9p {s : ByteArray} (h : s.size ≤ 1000) : s.size ≤ maxLen := by unfold maxLen; omega
theorem Code.keptP {w w' : World} {a : Option Addr} {len cap : Nat} {zs : List Int} (h : Code w a len cap zs) (hb : Below w.heap.size w w') : Code w' a len cap zs := by
  rcases h with h | ⟨x, h1, h2, h3, h4, h5, h6⟩
  · exact .inl h
  · refine .inr ⟨x, h1, h2, h3, h4, fun i hi => ?_, h6⟩
    have hc := h5 i hi
    have hlt : (x.add i).block < w.heap.size := by
      rcases Nat.lt_or_ge (x.add i).block w.heap.size with h' | h'
      · exact h'
      · simp [World.cell?, Array.getElem?_eq_none h'] at hc
    exact (hb.cell hlt).trans hc
theorem bel_transP {w w1 w2 : World} (h : Below w.heap.size w w1) (k : Below w1.heap.size w1 w2) : Below w.heap.size w w2 := h.trans (k.mono h.size)
theorem class_len {l : List UInt8} (h : pieceB l = true) : classZ (l.length : Int) = ((padL l).length : Nat) := by
  rw [padL_len h, clsN_class (pieceB_is h).1 (pieceB_is h).2.1]
theorem pad_size (l : List UInt8) : (⟨(padL l).toArray⟩ : ByteArray).size = (padL l).length := rfl
theorem pad_empty {l : List UInt8} (h : pieceB l = false) : (⟨(padL l).toArray⟩ : ByteArray) = ByteArray.empty := by rw [padL_no h]; rfl
theorem pad_some {l : List UInt8} (h : pieceB l = true) : (⟨(padL l).toArray⟩ : ByteArray).toList.isEmpty = false := by
  rw [ByteArray.toList_eq]
  cases hp : padL l with
  | nil => exact absurd hp (padL_ne h)
  | cons x r => rfl
section
set_option maxHeartbeats 800000
theorem lawFnExactPadOf (s : ByteArray) (w : World) (hs : s.size ≤ maxLen) : Calls Try.prog 3 #[.string s] w fun e w' => e = .returned (.bool true) ∧ Below w.heap.size w w' := by
  have HM := Lib.hid hs
  unfold maxLen at hs
  by_cases h : s.size ≤ 1048576
  · have hi : (s.size : Int) ≤ 1048576 := by omega
    obtain ⟨T, hT⟩ : ∃ T : ByteArray, (⟨(padL s.data.toList).toArray⟩ : ByteArray) = T := ⟨_, rfl⟩
    have HT := Lib.hid hT
    clear hT
    go_enter Try.func3, Try.ntmps3
    go_wp2_with fail
    refine (padOfS_any s w HM.out).mono ?_
    rintro e w' ⟨rfl, rfl⟩
    rw [HT.out]
    go_wp2_with fail
    refine (padOf_any s w HM.out).mono ?_
    rintro e w' ⟨rfl, hb⟩
    rw [HT.out]
    have HB := Lib.hid hb
    clear hb
    go_wp2
    go_ret
    exact ⟨rfl, HB.out⟩
  · have hi : (1048576 : Int) < (s.size : Int) := by omega
    go_enter Try.func3, Try.ntmps3
    go_wp2
    go_ret
    exact ⟨rfl, Below.refl _ _⟩
theorem lawFnPadHide (a : Option Addr) (len cap : Nat) (zs : List Int) (a1 : Option Addr) (len1 cap1 : Nat) (zs1 : List Int) (w : World) (h : Code w a len cap zs) (h1 : Code w a1 len1 cap1 zs1) :
    Calls Try.prog 4 #[.slice a len cap, .slice a1 len1 cap1] w fun e w' => e = .returned (.bool true) ∧ Below w.heap.size w w' := by
  have H1 := Lib.hid h1
  clear h1
  by_cases hl : len ≤ 1048576
  · by_cases hl1 : len1 ≤ 1048576
    · go_enter Try.func4, Try.ntmps4
      go_wp2_with fail
      refine (drawPadOf_any a len cap zs w h).mono ?_
      rintro e w1 ⟨p, rfl, hp, hb⟩
      have HB := Lib.hid hb
      have HP := Lib.hid (max9p (show p.size ≤ 1000 by omega))
      clear hb h
      obtain ⟨S, hS⟩ : ∃ S : ByteArray, (⟨(padL p.data.toList).toArray⟩ : ByteArray) = S := ⟨_, rfl⟩
      have HS := Lib.hid hS
      go_wp2_with fail
      refine (padOf_any p w1 HP.out).mono ?_
      rintro e w2 ⟨rfl, hb⟩
      rw [hS]
      have HB2 := Lib.hid (bel_transP HB.out hb)
      clear hb
      go_wp2_with fail
      refine (padOfS_any p w2 HP.out).mono ?_
      rintro e w' ⟨rfl, rfl⟩
      rw [hS]
      cases hpb : pieceB p.data.toList with
      | false =>
        have hse : S = ByteArray.empty := by rw [← hS]; exact pad_empty hpb
        clear hS
        subst hse
        go_wp2_with fail
        refine (padOfS_any p w2 HP.out).mono ?_
        rintro e w' ⟨rfl, rfl⟩
        rw [HS.out]
        go_wp2
        go_ret
        exact ⟨by first | rfl | exact ret_bool (by simp), HB2.out⟩
      | true =>
        have hse : S.toList.isEmpty = false := by rw [← hS]; exact pad_some hpb
        have hlen : classZ (p.size : Int) = (S.size : Int) := by rw [← hS, pad_size, ← size_int, class_len hpb]
        clear hS
        have HC := Lib.hid hlen
        clear hlen
        go_wp2_with fail
        refine (drawPadOf_any a1 len1 cap1 zs1 w2 (H1.out.keptP HB2.out)).mono ?_
        rintro e w3 ⟨q, rfl, hq, hb⟩
        have HB3 := Lib.hid (bel_transP HB2.out hb)
        have HQ := Lib.hid (max9p (show q.size ≤ 1000 by omega))
        clear hb
        obtain ⟨T, hT⟩ : ∃ T : ByteArray, (⟨(padL q.data.toList).toArray⟩ : ByteArray) = T := ⟨_, rfl⟩
        go_wp2_with fail
        refine (padOf_any q w3 HQ.out).mono ?_
        rintro e w4 ⟨rfl, hb⟩
        rw [hT]
        have HB4 := Lib.hid (bel_transP HB3.out hb)
        clear hb
        cases hqb : pieceB q.data.toList with
        | false =>
          have hte : T = ByteArray.empty := by rw [← hT]; exact pad_empty hqb
          clear hT
          subst hte
          go_wp2
          go_ret
          exact ⟨by first | rfl | exact ret_bool (by simp), HB4.out⟩
        | true =>
          have hte : T.toList.isEmpty = false := by rw [← hT]; exact pad_some hqb
          have HC2 := Lib.hid (show classZ (q.size : Int) = (T.size : Int) by rw [← hT, pad_size, ← size_int, class_len hqb])
          clear hT
          have hbb : (((T.size : Int) == (S.size : Int)) == ((S.size : Int) == (T.size : Int))) = true := by
            by_cases h : (T.size : Int) = (S.size : Int)
            · simp [h]
            · have h2 : ¬ (S.size : Int) = (T.size : Int) := fun e => h e.symm
              simp [beq_eq_false_iff_ne.2 h, beq_eq_false_iff_ne.2 h2]
          go_wp2_with fail
          refine (classOf_any _ _).mono ?_
          rintro e w' ⟨rfl, rfl⟩
          rw [HC.out]
          go_wp2_with fail
          refine (classOf_any _ _).mono ?_
          rintro e w' ⟨rfl, rfl⟩
          rw [HC2.out]
          go_wp2
          go_ret
          exact ⟨by first | rfl | exact ret_bool (by simpa using hbb), HB4.out⟩
    · go_enter Try.func4, Try.ntmps4
      go_wp2
      go_ret
      exact ⟨rfl, Below.refl _ _⟩
  · go_enter Try.func4, Try.ntmps4
    go_wp2
    go_ret
    exact ⟨rfl, Below.refl _ _⟩
end
end Go.Proofs.Ytbaafipkdglohaa
