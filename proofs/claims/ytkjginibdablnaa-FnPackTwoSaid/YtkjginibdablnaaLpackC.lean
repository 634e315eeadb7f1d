/- The law of a drawn pack of which just what is wanted stays. -/
import Derived.Test.YtkjginibdablnaaDrawPack2
import Derived.Test.YtkjginibdablnaaPackLessS
import Derived.Test.YtkjginibdablnaaLpackA
import Derived.Test.YtkjginibdablnaaLdPack
import Derived.Deep.RegionHeld3
namespace Go.Proofs.Ytkjginibdablnaa
open Go.RowKit
theorem lessL_pre {l : List Itm} {k : Nat} {s : Itm} {ns : List Int} (h : l[k]? = some s) (hs : ns.contains s.1 = true) : (lessL l ns)[(lessL (l.take k) ns).length]? = some s := by
  have e : l = l.take k ++ s :: l.drop (k + 1) := by
    have hk := (List.getElem?_eq_some_iff.1 h).1
    conv => lhs; rw [← List.take_append_drop k l]
    rw [List.drop_eq_getElem_cons hk, (List.getElem?_eq_some_iff.1 h).2]
  have e2 : lessL l ns = lessL (l.take k) ns ++ s :: lessL (l.drop (k + 1)) ns := by
    conv => lhs; rw [e]
    unfold lessL
    rw [List.filter_append, List.filter_cons, if_pos hs]
  rw [e2, List.getElem?_append_right (Nat.le_refl _), Nat.sub_self]
  rfl
theorem lessL_all (l : List Itm) : lessL l (names l) = l := by
  unfold lessL
  rw [List.filter_eq_self]
  intro s hs
  rw [List.contains_iff_mem]
  exact List.mem_map.2 ⟨s, hs, rfl⟩
theorem lessL_none (l : List Itm) : lessL l [] = [] := by
  unfold lessL
  rw [List.filter_eq_nil_iff]
  intro s _ h
  cases h
theorem lst_nilI (w : World) (B : Nat) : Lst w B (.slice none 0 0) (intVals []) := by
  refine ⟨none, 0, rfl, Nat.le_refl _, fun h => absurd h ?_⟩
  simp [intVals]
theorem run_fieldI (no : Int) (A : Option Addr) (n c : Nat) (w : World) : (Instr.field 30 (packV no (.slice A n c)) 1).run Try.prog w = .ok (.slice A n c) w := by
  have u1 := Try.underlying30
  have u2 := Try.isAgg28
  have u3 := Try.sizeOf28
  unfold Instr.field
  go_simp
  rfl
section
set_option maxHeartbeats 3200000
theorem lawFnPackLess (a : Option Addr) (len cap : Nat) (zs : List Int) (w : World) (h : Code w a len cap zs) :
    Calls Try.prog 5 #[.slice a len cap] w fun e w' => e = .returned (.bool true) ∧ Below w.heap.size w w' := by
  by_cases hlen : len ≤ 1048576
  · go_enter Try.func5, Try.ntmps5
    go_wp2_with fail
    refine (drawPackLess_any a len cap zs w h).mono ?_
    rintro e w1 ⟨no, v, vn, l, ns, rfl, hl, hns, h1, h6, hns6, hsz, hb⟩
    obtain ⟨A, c, hv⟩ := lp_form hl
    obtain ⟨An, cn, hvn⟩ := lst_form hns
    subst hv
    subst hvn
    rw [ivals_length, intVals_length] at *
    obtain ⟨n, hn⟩ : ∃ n, l.length = n := ⟨_, rfl⟩
    obtain ⟨nn, hnn⟩ : ∃ n, ns.length = n := ⟨_, rfl⟩
    have HN := Lib.hid hn
    have HNN := Lib.hid hnn
    rw [hn] at hl h1 h6 ⊢
    rw [hnn] at hns hns6 ⊢
    obtain ⟨W2, hW2⟩ : ∃ X, X = w1.alloc (.cells #[.int .i64 no, .slice A n c] 30) := ⟨_, rfl⟩
    have hb2 : Below w1.heap.size w1 W2 := by rw [hW2]; exact (Below.refl _ _).alloc (Nat.le_refl _) _
    have HT2 := Lib.hid (show Two W2 w1.heap.size 30 (.int .i64 no) (.slice A n c) by rw [hW2]; exact two_new _ _ _ _)
    have HL2 := Lib.hid (lp_next hl hb2)
    have HNS2 := Lib.hid (lst_next hns hb2)
    have HB2 := Lib.hid (bel2 hb hb2)
    have HW2 := Lib.hid hW2
    obtain ⟨b, hbb⟩ : ∃ b, w1.heap.size = b := ⟨_, rfl⟩
    clear hl hns hsz hb hb2 hW2 hn hnn h
    go_wp2_with fail
    rw [← HW2.out]
    refine (packLess_any W2 no _ _ l ns HL2.out HNS2.out (by rw [HN.out]; omega) (by rw [HNN.out]; omega)).mono ?_
    rintro e w3 ⟨v3, rfl, ho3, hb3⟩
    obtain ⟨A3, c3, hv3⟩ := own_formP ho3
    subst hv3
    rw [ivals_length] at *
    obtain ⟨L, hL⟩ : ∃ L, lessL l ns = L := ⟨_, rfl⟩
    have HLL := Lib.hid hL
    rw [hL] at ho3 ⊢
    obtain ⟨m, hm⟩ : ∃ m, L.length = m := ⟨_, rfl⟩
    have HM := Lib.hid hm
    have hmn : m ≤ 6 := by rw [← hm, ← hL]; have := lessL_le l ns; have := HN.out; omega
    rw [hm] at ho3 ⊢
    obtain ⟨W4, hW4⟩ : ∃ X, X = w3.alloc (.cells #[.int .i64 no, .slice A3 m c3] 30) := ⟨_, rfl⟩
    have hb4 : Below w3.heap.size w3 W4 := by rw [hW4]; exact (Below.refl _ _).alloc (Nat.le_refl _) _
    have HB24 := Lib.hid (bel2 hb3 hb4)
    have HX4 := Lib.hid (show Two W4 w3.heap.size 30 (.int .i64 no) (.slice A3 m c3) by rw [hW4]; exact two_new _ _ _ _)
    have HT4 := Lib.hid (HT2.out.keep (grown_of_bel HB24.out none) (by simp))
    have HL4 := Lib.hid (lp_next HL2.out HB24.out)
    have HNS4 := Lib.hid (lst_next HNS2.out HB24.out)
    have HO4 := Lib.hid (lp_next (lp_of_own ho3) hb4)
    have HB4 := Lib.hid (bel2 HB2.out HB24.out)
    have HW4 := Lib.hid hW4
    clear ho3 hb3 hb4 hW4 hL hm HT2 HL2 HNS2 HB2 HB24 HW2
    rw [hbb] at HT4
    clear hbb
    have HSt := Lib.hid (fun (X : World) (hX : Below W4.heap.size W4 X) => show X.cell? ⟨b, 0, none⟩ = some (.int .i64 no) ∧ X.cell? ⟨b, 1, none⟩ = some (.slice A n c) ∧ X.cell? ⟨w3.heap.size, 0, none⟩ = some (.int .i64 no) ∧ X.cell? ⟨w3.heap.size, 1, none⟩ = some (.slice A3 m c3) from
      ⟨(HT4.out.keep (grown_of_bel hX none) (by simp)).c0, (HT4.out.keep (grown_of_bel hX none) (by simp)).c1, (HX4.out.keep (grown_of_bel hX none) (by simp)).c0, (HX4.out.keep (grown_of_bel hX none) (by simp)).c1⟩)
    have HPS := Lib.hid (fun (X : World) (hX : Below W4.heap.size W4 X) => packLessS_any X no _ _ l ns (lp_next HL4.out hX) (lst_next HNS4.out hX) (by rw [HN.out]; omega) (by rw [HNN.out]; omega))
    have HDR := Lib.hid (show Below W4.heap.size W4 W4.drew from ⟨rfl, rfl, rfl, Nat.le_refl _, fun _ _ => rfl⟩)
    obtain ⟨p0, p1, x0, x1⟩ := HSt.out W4 (Below.refl _ _)
    go_wp2_with fail
    rw [← HW4.out]
    obtain ⟨bx, hbx⟩ : ∃ b, w3.heap.size = b := ⟨_, rfl⟩
    rw [hbx] at HSt x0 x1 ⊢
    clear hbx HW4
    go_region_held3 (fun w' => w'.cell? ⟨b, 0, none⟩ = some (.int .i64 no) ∧ w'.cell? ⟨b, 1, none⟩ = some (.slice A n c) ∧ w'.cell? ⟨bx, 0, none⟩ = some (.int .i64 no) ∧ w'.cell? ⟨bx, 1, none⟩ = some (.slice A3 m c3)) ((refine ⟨?_, ?_, ?_, ?_⟩ <;> assumption))
      (first
        | (go_at_call 16; go_must (refine (HPS.out W4.drew HDR.out).mono ?_); rw [HLL.out]; rintro e w5 ⟨v5, rfl, ho5, hb5⟩; have HO5 := Lib.hid (lp_of_own ho5); have HB45 := Lib.hid (bel2 HDR.out hb5); obtain ⟨s0, s1, s2, s3⟩ := HSt.out w5 HB45.out; clear ho5 hb5)
        | (go_at_call 21; go_must (refine (ldPack_any w5 no no _ v5 L L (lp_next HO4.out HB45.out) HO5.out (by rw [HM.out]; omega)).mono ?_); rw [show decide (no = no ∧ L = L) = true by simp]; rintro e w6 ⟨rfl, hb6⟩; have HB46 := Lib.hid (bel2 HB45.out hb6); obtain ⟨t0, t1, t2, t3⟩ := HSt.out w6 HB46.out; clear hb6))
    have HL6 := Lib.hid (lp_next HL4.out HB46.out)
    have HO6 := Lib.hid (lp_next HO4.out HB46.out)
    have HNS6 := Lib.hid (lst_next HNS4.out HB46.out)
    clear p0 p1 x0 x1 s0 s1 s2 s3 HO5 HB45
    go_wp2_with fail
    go_loopw [6, 7] (fun kk i wr => ∃ j q k : Nat, j ≤ n ∧ i = .int .i64 (j : Int) ∧ kk = .int .i64 (k : Int) ∧ (lessL (l.take j) ns).length = k ∧ wr = w6.drewN q) (fun _ i _ => n - (intOf i).toNat)
    case atStart => exact ⟨0, 0, 0, Nat.zero_le _, rfl, rfl, rfl, rfl⟩
    case round =>
      obtain ⟨j, q, k, hj, rfl, rfl, hk, rfl⟩ := hrel
      have HK := Lib.hid hk
      clear hk
      by_cases hlt : j < n
      · obtain ⟨⟨x, y⟩, hx⟩ : ∃ s, l[j]? = some s := ⟨_, List.getElem?_eq_getElem (by have := HN.out; omega)⟩
        have HX := Lib.hid hx
        obtain ⟨g, off, hA, hg, c1, c2⟩ := lp_at HL6.out (ivals_get hx)
        subst hA
        have hi1 : (j : Int) < (n : Int) := by omega
        have hi0 : (0 : Int) ≤ (j : Int) := by omega
        have HTK := Lib.hid (lessL_take (ns := ns) hx)
        have HLI := Lib.hid (fun q => ldIn_any (w6.drewN q) w6.heap.size _ ns x (lst_drewN HNS6.out q) (by rw [HNN.out]; omega))
        clear hx hg
        cases hin : ns.contains x with
        | false =>
          have HT2 := Lib.hid (show lessL (l.take (j + 1)) ns = lessL (l.take j) ns by rw [HTK.out, hin]; rfl)
          rw [hin] at HLI
          clear hin
          go_wp2_with fail
          refine (HLI.out q).mono ?_
          rintro e w' ⟨rfl, hw⟩
          rw [hw]
          clear hw
          go_wp2
          go_roundw
          case rel => exact ⟨j + 1, q, k, by omega, by go_num, rfl, by rw [HT2.out, HK.out], rfl⟩
          case measure => simp [intOf]; omega
        | true =>
          have HT2 := Lib.hid (show (lessL (l.take (j + 1)) ns).length = k + 1 by rw [HTK.out, hin, ← HK.out]; simp)
          have HLk := Lib.hid (show L[k]? = some (x, y) by rw [← HLL.out, ← HK.out]; exact lessL_pre HX.out hin)
          rw [hin] at HLI
          clear hin
          have hkm : k < m := by rw [← HM.out]; exact (List.getElem?_eq_some_iff.1 HLk.out).1
          obtain ⟨g2, off2, hA2, hg2, c3', c4⟩ := lp_at HO6.out (ivals_get HLk.out)
          subst hA2
          obtain ⟨t0, t1, t2, t3⟩ := HSt.out w6 HB46.out
          have hk1 : (k : Int) < (m : Int) := by omega
          have hk0 : (0 : Int) ≤ (k : Int) := by omega
          have hd : decide ((m : Int) ≤ (k : Int)) = false := decide_eq_false (by omega)
          have hd2 : decide (m ≤ k) = false := decide_eq_false (by omega)
          have s3 : Try.prog.eqGuardType Try.prog.depth 45 = false := by kernel_rfl
          have s4 := neqItem x x y y
          simp only [beq_self_eq_true, Bool.and_self, Bool.not_true] at s4
          clear hg2
          go_wp2_with fail
          refine (HLI.out q).mono ?_
          rintro e w' ⟨rfl, hw⟩
          rw [hw]
          clear hw
          go_wp2_with fail
          go_quiet (fail)
          go_wp2
          go_roundw
          case rel => exact ⟨j + 1, _, k + 1, by omega, by go_num, by go_num, HT2.out, rfl⟩
          case measure => simp [intOf]; omega
      · have hjn : j = n := by omega
        have hkm : k = m := by rw [← HK.out, ← HM.out, ← HLL.out, List.take_of_length_le (by have := HN.out; omega)]
        subst hjn
        subst hkm
        obtain ⟨w7, hw7⟩ : ∃ w7, w7 = w6.drewN q := ⟨_, rfl⟩
        have HB47 := Lib.hid (show Below W4.heap.size W4 w7 by rw [hw7]; exact below_drewN HB46.out q)
        rw [← hw7]
        clear hw7 HL6 HO6 HNS6 HK HB46
        obtain ⟨p0, p1, x0, x1⟩ := HSt.out w7 HB47.out
        have HPN := Lib.hid (fun (X : World) (hX : Below W4.heap.size W4 X) => packNames_any X no _ l (lp_next HL4.out hX) (by rw [HN.out]; omega))
        have HDR7 := Lib.hid (show Below W4.heap.size W4 w7.drew from (by have h := HB47.out; exact ⟨h.os, h.tape, h.output, h.size, h.block⟩))
        go_wp2_with fail
        go_region_held3 (fun w' => w'.cell? ⟨b, 0, none⟩ = some (.int .i64 no) ∧ w'.cell? ⟨b, 1, none⟩ = some (.slice A j c) ∧ w'.cell? ⟨bx, 0, none⟩ = some (.int .i64 no) ∧ w'.cell? ⟨bx, 1, none⟩ = some (.slice A3 k c3)) ((refine ⟨?_, ?_, ?_, ?_⟩ <;> assumption))
          (first
            | (go_at_call 10; go_must (refine (HPN.out w7.drew HDR7.out).mono ?_); rintro e w8 ⟨v8, rfl, ho8, hb8⟩; have HO8 := Lib.hid (lst_of_own ho8); have HB8 := Lib.hid (bel2 HDR7.out hb8); obtain ⟨s0, s1, s2, s3⟩ := HSt.out w8 HB8.out; clear ho8 hb8)
            | (go_at_call 18; with_reducible refine (packLess_any w8 no _ v8 l (names l) (lp_next HL4.out HB8.out) HO8.out (by rw [HN.out]; omega) (by rw [names_length, HN.out]; omega)).mono ?_; rw [lessL_all]; rintro e w9 ⟨v9, rfl, ho9, hb9⟩; have HO9 := Lib.hid (lp_of_own ho9); have HB9 := Lib.hid (bel2 HB8.out hb9); obtain ⟨r0, r1, r2, r3⟩ := HSt.out w9 HB9.out; clear ho9 hb9)
            | (go_at_call 21; with_reducible refine (ldPack_any w9 no no v9 _ l l HO9.out (lp_next HL4.out HB9.out) (by rw [HN.out]; omega)).mono ?_; rw [show decide (no = no ∧ l = l) = true by simp]; rintro e w10 ⟨rfl, hb10⟩; have HB10 := Lib.hid (bel2 HB9.out hb10); obtain ⟨z0, z1, z2, z3⟩ := HSt.out w10 HB10.out; clear hb10)
            | (go_at_call 18; with_reducible refine (packLess_any w10 no _ (.slice none 0 0) l [] (lp_next HL4.out HB10.out) (lst_nilI _ _) (by rw [HN.out]; omega) (by simp)).mono ?_; rw [lessL_none]; rintro e w11 ⟨v11, rfl, ho11, hb11⟩; obtain ⟨A11, c11, hv11⟩ := own_formP ho11; have hv12 : v11 = .slice A11 0 c11 := (by rw [hv11, ivals_length, List.length_nil]); clear hv11; subst hv12; have hfl := run_fieldI no A11 0 c11; have HB11 := Lib.hid (bel2 HB10.out hb11); obtain ⟨y0, y1, y2, y3⟩ := HSt.out w11 HB11.out; clear ho11 hb11))
        go_wp2
        go_ret
        exact ⟨rfl, bel2 HB4.out HB11.out⟩
  · go_enter Try.func5, Try.ntmps5
    go_wp2_with fail
    go_ret
    exact ⟨rfl, Below.refl _ _⟩
end
end Go.Proofs.Ytkjginibdablnaa
