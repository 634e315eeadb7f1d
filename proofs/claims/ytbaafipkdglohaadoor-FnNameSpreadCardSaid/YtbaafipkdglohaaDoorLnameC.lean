/- The law that each piece of a text has its name: true at every code. -/
import Derived.Test.YtbaafipkdglohaaDoorLnameB
import Derived.Test.YtbaafipkdglohaaDoorCutAll
namespace Go.Proofs.YtbaafipkdglohaaDoor
open Go.RowKit
theorem piecesZ_piece {l : List UInt8} {i : Nat} {p : List UInt8} (h : (piecesZ l)[i]? = some p) : pieceB p = true := by
  cases ht : textB l with
  | false => rw [piecesZ_no ht] at h; simp at h
  | true =>
    rw [piecesZ_yes ht] at h
    simp only [textB, Bool.and_eq_true] at ht
    exact pieces_lets ht.2 h
theorem piecesZ_few (l : List UInt8) : (piecesZ l).length ≤ 40 := by
  cases ht : textB l with
  | false => rw [piecesZ_no ht]; simp
  | true =>
    rw [piecesZ_yes ht, pieces_length]
    simp only [textB, Bool.and_eq_true, decide_eq_true_eq] at ht
    have h1 := (endsAt_length (l := l) 0).1
    show (endsAt l 0).length ≤ 40
    omega
theorem quiet_more {P : Program} {f : FuncId} {args : Array Value} {w : World} {a n : Nat} {v : Value}
    (h : Calls P f args (w.drewN (a + n)) fun e w' => e = .returned v ∧ ∃ m, w' = (w.drewN (a + n)).drewN m) :
    Calls P f args (w.drewN (a + n)) fun e w'' => e = .returned v ∧ ∃ m, w'' = w.drewN (a + m) :=
  h.mono fun _ _ ⟨he, m, hm⟩ => ⟨he, n + m, by rw [hm, World.drewN_drewN, Nat.add_assoc]⟩
section
set_option maxHeartbeats 800000
theorem nameOf_is (key : Int) (s : ByteArray) (z : Int) (w : World) (a0 a1 : Addr) (hz : nameZ key s.data.toList = z) (h : Errs w a0 a1) (hs : s.size ≤ maxLen) (n : Nat) :
    Calls Tryd.prog 16 #[.int .i64 key, .string s] (w.drewN n) fun e w' => e = .returned (.int .i64 z) ∧ ∃ m, w' = (w.drewN n).drewN m := by
  refine (nameOf_any key s (w.drewN n) a0 a1 (h.drewN n) hs).mono ?_
  rintro e w' ⟨rfl, m, rfl⟩
  exact ⟨by rw [hz], m, rfl⟩
theorem lawFnNameSpread (a : Option Addr) (len cap : Nat) (zs : List Int) (w : World) (h : Code w a len cap zs) (e0 e1 : Addr) (hw : Errs w e0 e1) :
    Calls Tryd.prog 8 #[.slice a len cap] w fun e w' => e = .returned (.bool true) ∧ Below w.heap.size w w' := by
  have HE := Lib.hid hw
  clear hw
  by_cases hl : len ≤ 1048576
  · go_enter Tryd.func8, Tryd.ntmps8
    go_wp2_with fail
    refine (drawCutAll_any a len cap zs w h).mono ?_
    rintro e w1 ⟨s, rfl, hs, hb⟩
    have HB := Lib.hid hb
    have HM := Lib.hid (max9 (show s.size ≤ 1000 by omega))
    clear hb h
    have hel := piecesZ_few s.data.toList
    go_wp2_with fail
    refine (cutAll_any s _ (HM.out)).mono ?_
    intro e w2 hg
    obtain ⟨v2, rfl, hlst, hb⟩ := gave_lst hg
    rw [strVals_bars] at hlst
    have HL2 := Lib.hid hlst
    have HB2 := Lib.hid (bel_trans HB.out hb)
    clear hg hlst hb
    go_wp2_with fail
    refine (cutAllS_any s _ (HM.out)).mono ?_
    intro e w3 hg
    obtain ⟨v3, rfl, hlst, hb⟩ := gave_lst hg
    rw [strVals_bars] at hlst
    have HL3 := Lib.hid hlst
    have HB3 := Lib.hid (bel_trans HB2.out hb)
    have HL23 := Lib.hid (lst_next HL2.out hb)
    clear hg hlst hb
    go_wp2_with fail
    refine (ldTexts_any _ w3.heap.size _ _ _ _ HL23.out HL3.out (by rw [bars_length]; omega) (by rw [bars_length]; omega)).mono ?_
    rintro e w' ⟨rfl, nd3, rfl⟩
    rw [show decide (bars (piecesZ s.data.toList) = bars (piecesZ s.data.toList)) = true by simp]
    have HP : Hid (∀ (k : Nat) (x : ByteArray), (bars (piecesZ s.data.toList))[k]? = some x → pieceB x.data.toList = true) := fun k x hx => piecesZ_piece (bars_get hx)
    have hbl : (bars (piecesZ s.data.toList)).length ≤ 40 := by rw [bars_length]; exact hel
    clear hel
    generalize bars (piecesZ s.data.toList) = L at *
    clear HL2 HL3
    have HE3 := Lib.hid (HE.out.below HB3.out)
    obtain ⟨A, c, hv, _⟩ := HL23.out
    obtain ⟨n, hn⟩ : ∃ n, L.length = n := ⟨_, rfl⟩
    have HN := Lib.hid hn
    rw [barVals_length, hn] at hv
    subst hv
    have hn2 : n ≤ 40 := by omega
    clear hn hbl
    go_wp2_with fail
    go_loopw [5] (fun i wr => ∃ k m : Nat, k ≤ n ∧ i = .int .i64 (k : Int) ∧ wr = w3.drewN m) (fun i _ => n - (intOf i).toNat)
    case atStart => exact ⟨0, _, Nat.zero_le _, rfl, rfl⟩
    case round =>
      obtain ⟨i, mi, hin, rfl, rfl⟩ := hrel
      by_cases hlt : i < n
      · obtain ⟨x, hx⟩ : ∃ x, L[i]? = some x := ⟨_, List.getElem?_eq_getElem (by have := HN.out; omega)⟩
        obtain ⟨g, off, rfl, _, hcx⟩ := lst_at HL23.out (barVals_get _ _ _ hx)
        have HX := Lib.hid (HP.out i x hx)
        have HXs := Lib.hid (max9 (show x.size ≤ 1000 by have := (pieceB_parts (HP.out i x hx)).2.1; rw [size_int] at this; omega))
        obtain ⟨zx, hzx⟩ : ∃ z, nameZ 7 x.data.toList = z := ⟨_, rfl⟩
        have HZX := Lib.hid hzx
        clear hx hzx
        have hi1 : (i : Int) < (n : Int) := by omega
        go_wp2_with fail
        go_loopw [6] (fun k wr => ∃ j m : Nat, j ≤ i ∧ k = .int .i64 (j : Int) ∧ wr = w3.drewN m) (fun k _ => i - (intOf k).toNat)
        case atStart => exact ⟨0, _, Nat.zero_le _, rfl, rfl⟩
        case round =>
          obtain ⟨j, m, hj, rfl, rfl⟩ := hrel
          by_cases hlt2 : j < i
          · obtain ⟨y, hy⟩ : ∃ y, L[j]? = some y := ⟨_, List.getElem?_eq_getElem (by have := HN.out; omega)⟩
            obtain ⟨g2, off2, hA, _, hcy⟩ := lst_at HL23.out (barVals_get _ _ _ hy)
            injection hA with hA
            injection hA with e1 e2 _
            subst e1
            subst e2
            have HYs := Lib.hid (max9 (show y.size ≤ 1000 by have := (pieceB_parts (HP.out j y hy)).2.1; rw [size_int] at this; omega))
            obtain ⟨zy, hzy⟩ : ∃ z, nameZ 7 y.data.toList = z := ⟨_, rfl⟩
            have HZY := Lib.hid hzy
            clear hy hzy
            have hj1 : (j : Int) < (i : Int) := by omega
            have hj2 : (j : Int) < (n : Int) := by omega
            by_cases hxy : x = y
            · subst hxy
              have hzz : zy = zx := by rw [← HZX.out, ← HZY.out]
              subst hzz
              go_wp2
              go_quiet ((go_at_call 16; exact quiet_more (nameOf_is 7 x zy _ e0 e1 HZX.out HE3.out HXs.out _)))
              go_wp2
              go_roundw
              case rel => exact ⟨j + 1, _, by omega, by go_num, rfl⟩
              case measure => simp [intOf]; omega
            · have hne1 : (x.toList == y.toList) = false := toList_ne hxy
              have hne2 : (zx == zy) = false := beq_eq_false_iff_ne.2 (fun e => hxy (bar_list (nameZ_inj (key := 7) (nameZ_nonneg.2 ⟨by decide, HX.out⟩) (by rw [HZX.out, HZY.out, e]))))
              clear hxy
              go_wp2
              go_quiet (first | (go_at_call 16; with_reducible exact quiet_more (nameOf_is 7 x zx _ e0 e1 HZX.out HE3.out HXs.out _)) | (go_at_call 16; with_reducible exact quiet_more (nameOf_is 7 y zy _ e0 e1 HZY.out HE3.out HYs.out _)))
              go_wp2
              go_roundw
              case rel => exact ⟨j + 1, _, by omega, by go_num, rfl⟩
              case measure => simp [intOf]; omega
          · go_wp2_with fail
            refine (pieceOk_any x _ HXs.out).mono ?_
            rintro e w' ⟨rfl, rfl⟩
            rw [HX.out]
            go_wp2
            go_roundw
            case rel => exact ⟨i + 1, _, by omega, by go_num, rfl⟩
            case measure => simp [intOf]; omega
      · go_wp2
        go_ret
        exact ⟨rfl, below_drewN HB3.out _⟩
  · go_enter Tryd.func8, Tryd.ntmps8
    go_wp2
    go_ret
    exact ⟨rfl, Below.refl _ _⟩
end
end Go.Proofs.YtbaafipkdglohaaDoor
