/- The laws on names: of two keys, of two pieces, of one piece alone. -/
import Derived.Test.YtbaafipkdglohaaDoorDrawKey
namespace Go.Proofs.YtbaafipkdglohaaDoor
open Go.RowKit
theorem max9 {s : ByteArray} (h : s.size ≤ 1000) : s.size ≤ maxLen := by unfold maxLen; omega
theorem bar_list {p q : ByteArray} (h : p.data.toList = q.data.toList) : p = q := ByteArray.ext (Array.toList_inj.1 h)
theorem toList_ne {p q : ByteArray} (h : p ≠ q) : (p.toList == q.toList) = false := by
  refine beq_eq_false_iff_ne.2 fun e => h ?_
  rw [ByteArray.toList_eq, ByteArray.toList_eq] at e
  exact bar_list e
theorem Code.kept {w w' : World} {a : Option Addr} {len cap : Nat} {zs : List Int} (h : Code w a len cap zs) (hb : Below w.heap.size w w') : Code w' a len cap zs := by
  rcases h with h | ⟨x, h1, h2, h3, h4, h5, h6⟩
  · exact .inl h
  · refine .inr ⟨x, h1, h2, h3, h4, fun i hi => ?_, h6⟩
    have hc := h5 i hi
    have hlt : (x.add i).block < w.heap.size := by
      rcases Nat.lt_or_ge (x.add i).block w.heap.size with h' | h'
      · exact h'
      · simp [World.cell?, Array.getElem?_eq_none h'] at hc
    exact (hb.cell hlt).trans hc
theorem bel_trans' {w w1 w2 : World} (h : Below w.heap.size w w1) (k : Below w1.heap.size w1 w2) : Below w.heap.size w w2 := h.trans (k.mono h.size)
theorem bel_drew' {w w' : World} {n : Nat} (h : Below (w.drewN n).heap.size (w.drewN n) w') : Below w.heap.size w w' := ⟨h.os, h.tape, h.output, h.size, h.block⟩
section
set_option maxHeartbeats 800000
theorem lawFnNameKey (a : Option Addr) (len cap : Nat) (zs : List Int) (a1 : Option Addr) (len1 cap1 : Nat) (zs1 : List Int) (w : World) (h : Code w a len cap zs) (_ : Code w a1 len1 cap1 zs1) (e0 e1 : Addr) (hw : Errs w e0 e1) :
    Calls Tryd.prog 5 #[.slice a len cap, .slice a1 len1 cap1] w fun e w' => e = .returned (.bool true) ∧ Below w.heap.size w w' := by
  have HE := Lib.hid hw
  clear hw
  by_cases hl : len ≤ 1048576
  · by_cases hl1 : len1 ≤ 1048576
    · have hq1 : 1 ≤ 1 + (len1 : Int) % 99 := by omega
      have hq2 : 1 + (len1 : Int) % 99 ≤ 99 := by omega
      go_enter Tryd.func5, Tryd.ntmps5
      go_wp2_with fail
      refine (drawNameOf_any a len cap zs w h).mono ?_
      rintro e w1 ⟨key, p, rfl, hp, hk0, hk1, hb⟩
      have HB := Lib.hid hb
      have HP := Lib.hid (max9 (show p.size ≤ 1000 by omega))
      clear hb h
      obtain ⟨z, hz⟩ : ∃ z, nameZ key p.data.toList = z := ⟨_, rfl⟩
      have HZ := Lib.hid hz
      clear hz
      go_wp2_with fail
      refine (nameOf_any key p w1 e0 e1 (HE.out.below HB.out) HP.out).mono ?_
      rintro e w2 ⟨rfl, n2, rfl⟩
      rw [HZ.out]
      go_wp2_with fail
      refine (nameOfS_any key p _ HP.out).mono ?_
      rintro e w3 ⟨rfl, rfl⟩
      rw [HZ.out]
      by_cases hneg : z < 0
      · go_wp2_with fail
        refine (nameOfS_any key p _ HP.out).mono ?_
        rintro e w3 ⟨rfl, rfl⟩
        rw [HZ.out]
        go_wp2
        go_ret
        exact ⟨by first | rfl | exact ret_bool (by first | (simp; done) | (simp; omega)), below_drewN HB.out _⟩
      · go_wp2_with fail
        generalize 1 + (len1 : Int) % 99 = o at *
        obtain ⟨y, hy⟩ : ∃ y, nameZ o p.data.toList = y := ⟨_, rfl⟩
        have HY := Lib.hid hy
        clear hy
        by_cases hok : o = key
        · subst hok
          refine (nameOf_any o p _ e0 e1 ((HE.out.below HB.out).drewN n2) HP.out).mono ?_
          rintro e w4 ⟨rfl, n4, rfl⟩
          rw [HZ.out]
          go_wp2
          go_ret
          exact ⟨by first | rfl | exact ret_bool (by first | (simp; done) | (simp; omega)), below_drewN HB.out _⟩
        · have hne1 : (o == key) = false := beq_eq_false_iff_ne.2 hok
          have hne2 : (y == z) = false := beq_eq_false_iff_ne.2 (fun h => hok (nameZ_keys (by rw [HY.out, h]; omega) (by rw [HY.out, HZ.out, h])))
          clear hok
          refine (nameOf_any o p _ e0 e1 ((HE.out.below HB.out).drewN n2) HP.out).mono ?_
          rintro e w4 ⟨rfl, n4, rfl⟩
          rw [HY.out]
          go_wp2
          go_ret
          exact ⟨by first | rfl | exact ret_bool (by first | (simp; done) | (simp; omega)), below_drewN HB.out _⟩
    · go_enter Tryd.func5, Tryd.ntmps5
      go_wp2
      go_ret
      exact ⟨rfl, Below.refl _ _⟩
  · go_enter Tryd.func5, Tryd.ntmps5
    go_wp2
    go_ret
    exact ⟨rfl, Below.refl _ _⟩
theorem lawFnName (a : Option Addr) (len cap : Nat) (zs : List Int) (a1 : Option Addr) (len1 cap1 : Nat) (zs1 : List Int) (w : World) (h : Code w a len cap zs) (h1 : Code w a1 len1 cap1 zs1) (e0 e1 : Addr) (hw : Errs w e0 e1) :
    Calls Tryd.prog 6 #[.slice a len cap, .slice a1 len1 cap1] w fun e w' => e = .returned (.bool true) ∧ Below w.heap.size w w' := by
  have HE := Lib.hid hw
  have H1 := Lib.hid h1
  clear hw h1
  by_cases hl : len ≤ 1048576
  · by_cases hl1 : len1 ≤ 1048576
    · go_enter Tryd.func6, Tryd.ntmps6
      go_wp2_with fail
      refine (drawNameOf_any a len cap zs w h).mono ?_
      rintro e w1 ⟨key, p, rfl, hp, hk0, hk1, hb⟩
      have HB := Lib.hid hb
      have HP := Lib.hid (max9 (show p.size ≤ 1000 by omega))
      clear hb h
      obtain ⟨z, hz⟩ : ∃ z, nameZ key p.data.toList = z := ⟨_, rfl⟩
      have HZ := Lib.hid hz
      have hzlt : z < 999999999989 := by rw [← hz]; exact nameZ_lt _ _
      clear hz
      go_wp2_with fail
      refine (nameOf_any key p w1 e0 e1 (HE.out.below HB.out) HP.out).mono ?_
      rintro e w2 ⟨rfl, n2, rfl⟩
      rw [HZ.out]
      go_wp2_with fail
      refine (nameOfS_any key p _ HP.out).mono ?_
      rintro e w3 ⟨rfl, rfl⟩
      rw [HZ.out]
      by_cases hneg : z < 0
      · go_wp2_with fail
        refine (nameOfS_any key p _ HP.out).mono ?_
        rintro e w3 ⟨rfl, rfl⟩
        rw [HZ.out]
        go_wp2
        go_ret
        exact ⟨by first | rfl | exact ret_bool (by first | (simp; done) | (simp; omega)), below_drewN HB.out _⟩
      · go_wp2_with fail
        refine (drawPadOf_any a1 len1 cap1 zs1 (w1.drewN n2) ?_).mono ?_
        · exact (H1.out.kept (below_drewN HB.out n2))
        rintro e w4 ⟨q, rfl, hq, hb4⟩
        have HB4 := Lib.hid (bel_trans' HB.out (bel_drew' hb4))
        have HQ := Lib.hid (max9 (show q.size ≤ 1000 by omega))
        clear hb4
        obtain ⟨m, hm⟩ : ∃ m, nameZ key q.data.toList = m := ⟨_, rfl⟩
        have HM := Lib.hid hm
        clear hm
        go_wp2_with fail
        refine (nameOf_any key q w4 e0 e1 (HE.out.below HB4.out) HQ.out).mono ?_
        rintro e w5 ⟨rfl, n5, rfl⟩
        rw [HM.out]
        by_cases hm0 : m < 0
        · go_wp2
          go_ret
          exact ⟨by first | rfl | exact ret_bool (by first | (simp; done) | (simp; omega)), below_drewN HB4.out _⟩
        · by_cases hmz : m = z
          · subst hmz
            have hpq : p = q := bar_list (nameZ_inj (by rw [HZ.out]; omega) (by rw [HZ.out, HM.out]))
            subst hpq
            go_wp2
            go_ret
            exact ⟨by first | rfl | exact ret_bool (by first | (simp; done) | (simp; omega)), below_drewN HB4.out _⟩
          · have hne1 : (m == z) = false := beq_eq_false_iff_ne.2 hmz
            have hne2 : (p.toList == q.toList) = false := toList_ne (fun e => hmz (by rw [← HM.out, ← HZ.out, e]))
            clear hmz
            go_wp2
            go_ret
            exact ⟨by first | rfl | exact ret_bool (by first | (simp; done) | (simp; omega)), below_drewN HB4.out _⟩
    · go_enter Tryd.func6, Tryd.ntmps6
      go_wp2
      go_ret
      exact ⟨rfl, Below.refl _ _⟩
  · go_enter Tryd.func6, Tryd.ntmps6
    go_wp2
    go_ret
    exact ⟨rfl, Below.refl _ _⟩
theorem nameIsB_yes {key : Int} {l : List UInt8} {name : Int} (h : nameZ key l = name) (h0 : 0 ≤ name) : nameIsB key l name = true := by
  subst h
  obtain ⟨hk, hp⟩ := nameZ_nonneg.1 h0
  simp [nameIsB, hk, hp]
theorem nameIsB_no {key : Int} {l : List UInt8} {name : Int} (h : ¬ (nameZ key l = name ∧ 0 ≤ name)) : nameIsB key l name = false := by
  cases hb : nameIsB key l name with
  | false => rfl
  | true =>
    simp only [nameIsB, Bool.and_eq_true, decide_eq_true_eq] at hb
    exact absurd ⟨hb.2, hb.2 ▸ nameZ_nonneg.2 ⟨hb.1.1, hb.1.2⟩⟩ h
theorem lawFnNameIs (a : Option Addr) (len cap : Nat) (zs : List Int) (w : World) (h : Code w a len cap zs) (e0 e1 : Addr) (hw : Errs w e0 e1) :
    Calls Tryd.prog 7 #[.slice a len cap] w fun e w' => e = .returned (.bool true) ∧ Below w.heap.size w w' := by
  have HE := Lib.hid hw
  clear hw
  by_cases hl : len ≤ 1048576
  · go_enter Tryd.func7, Tryd.ntmps7
    go_wp2_with fail
    refine (drawNameIs_any a len cap zs w h).mono ?_
    rintro e w1 ⟨key, p, name, rfl, hp, hk0, hk1, hb⟩
    have HB := Lib.hid hb
    have HP := Lib.hid (max9 (show p.size ≤ 1000 by omega))
    clear hb h
    obtain ⟨z, hz⟩ : ∃ z, nameZ key p.data.toList = z := ⟨_, rfl⟩
    have HZ := Lib.hid hz
    clear hz
    by_cases hyes : z = name ∧ 0 ≤ name
    · obtain ⟨rfl, h0⟩ := hyes
      have HO := Lib.hid (nameIsB_yes HZ.out h0)
      obtain ⟨T, hT⟩ : ∃ T, p ++ (⟨#[97]⟩ : ByteArray) = T := ⟨_, rfl⟩
      have HT := Lib.hid hT
      have HTS := Lib.hid (max9 (show T.size ≤ 1000 by rw [← hT]; have : (⟨#[97]⟩ : ByteArray).size = 1 := rfl; simp; omega))
      have HF := Lib.hid (nameIsB_no (key := key) (l := T.data.toList) (name := z) (by
        rintro ⟨h1, _⟩
        have h2 := nameZ_inj (by rw [HZ.out]; exact h0) (HZ.out.trans h1.symm)
        have h3 : p.size = T.size := by rw [← size_int, ← size_int, h2]
        have h4 : T.size = p.size + 1 := by rw [← hT]; simp; rfl
        omega))
      clear hT
      go_wp2_with fail
      refine (nameIs_any key p z w1 e0 e1 (HE.out.below HB.out) HP.out).mono ?_
      rintro e w2 ⟨rfl, n2, rfl⟩
      rw [HO.out]
      go_wp2_with fail
      refine (nameIsS_any key p z _ HP.out).mono ?_
      rintro e w3 ⟨rfl, rfl⟩
      rw [HO.out]
      go_wp2_with fail
      refine (nameOf_any key p _ e0 e1 ((HE.out.below HB.out).drewN n2) HP.out).mono ?_
      rintro e w4 ⟨rfl, n4, rfl⟩
      rw [HZ.out]
      go_wp2_with fail
      rw [HT.out]
      refine (nameIs_any key T z _ e0 e1 ((HE.out.below HB.out).drewN _) HTS.out).mono ?_
      rintro e w5 ⟨rfl, n5, rfl⟩
      rw [HF.out]
      go_wp2
      go_ret
      exact ⟨by first | rfl | exact ret_bool (by first | (simp; done) | (simp; omega)), below_drewN HB.out _⟩
    · have HO := Lib.hid (nameIsB_no (key := key) (l := p.data.toList) (name := name) (by rw [HZ.out]; exact hyes))
      have h2 : (z = name ∧ name < 0) ∨ (z == name) = false := by
        by_cases hzn : z = name
        · left
          refine ⟨hzn, ?_⟩
          rcases Int.lt_or_le name 0 with h' | h'
          · exact h'
          · exact absurd ⟨hzn, h'⟩ hyes
        · exact .inr (beq_eq_false_iff_ne.2 hzn)
      clear hyes
      rcases h2 with ⟨rfl, h0⟩ | hne
      all_goals
        go_wp2_with fail
        refine (nameIs_any key p _ w1 e0 e1 (HE.out.below HB.out) HP.out).mono ?_
        rintro e w2 ⟨rfl, n2, rfl⟩
        rw [HO.out]
        go_wp2_with fail
        refine (nameIsS_any key p _ _ HP.out).mono ?_
        rintro e w3 ⟨rfl, rfl⟩
        rw [HO.out]
        go_wp2_with fail
        refine (nameOf_any key p _ e0 e1 ((HE.out.below HB.out).drewN n2) HP.out).mono ?_
        rintro e w4 ⟨rfl, n4, rfl⟩
        rw [HZ.out]
        go_wp2
        go_ret
        exact ⟨by first | rfl | exact ret_bool (by first | (simp; done) | (simp; omega)), below_drewN HB.out _⟩
  · go_enter Tryd.func7, Tryd.ntmps7
    go_wp2
    go_ret
    exact ⟨rfl, Below.refl _ _⟩
end
end Go.Proofs.YtbaafipkdglohaaDoor
