/- The law of a pack made of pieces: all are in it, and right. -/
import Derived.Test.YtkjginibdablnaaGreatDoorDrawMake
import Derived.Test.YtkjginibdablnaaGreatDoorMkLaw
import Derived.Test.YtkjginibdablnaaGreatDoorImplMk
import Derived.Test.YtkjginibdablnaaGreatDoorLdPack
import Derived.Deep.RegionHeld3
namespace Go.Proofs.YtkjginibdablnaaGreatDoor
open Go.RowKit
section
set_option maxHeartbeats 3200000
set_option maxRecDepth 100000
theorem lawFnPackMake (a : Option Addr) (len cap : Nat) (zs : List Int) (w : World) (h : Code w a len cap zs) (a0 a1 : Addr) (he : Errs w a0 a1) :
    Calls Tryz.prog 3 #[.slice a len cap] w fun e w' => e = .returned (.bool true) ∧ Below w.heap.size w w' := by
  have HE := Lib.hid he
  clear he
  by_cases hlen : len ≤ 1048576
  · go_enter Tryz.func3, Tryz.ntmps3
    go_wp2_with fail
    refine (drawPackMake_any a len cap zs w h).mono ?_
    rintro e w1 ⟨no, key, v, ps, rfl, hl, hno0, hno1, hk0, hk1, hps, hsz, hb⟩
    obtain ⟨A, c, hv⟩ := lst_form hl
    subst hv
    rw [barVals_length] at *
    obtain ⟨n, hn⟩ : ∃ n, ps.length = n := ⟨_, rfl⟩
    have HN := Lib.hid hn
    rw [hn] at hl hps ⊢
    have HSZ := Lib.hid (show ∀ s ∈ ps, s.size ≤ maxLen from fun s hs => by have := hsz s hs; unfold maxLen; omega)
    have HL1 := Lib.hid hl
    have HB1 := Lib.hid hb
    obtain ⟨mb, hmb⟩ : ∃ x, madeB no key ps = x := ⟨_, rfl⟩
    obtain ⟨mn, hmn⟩ : ∃ x, madeN no key ps = x := ⟨_, rfl⟩
    obtain ⟨ml, hml⟩ : ∃ x, madeI no key ps = x := ⟨_, rfl⟩
    have HMS := Lib.hid (packMakeS_any no key _ ps w1 HL1.out (by rw [HN.out]; omega) HSZ.out)
    have HMM := Lib.hid (fun (X : World) (hX : Below w1.heap.size w1 X) => packMake_any no key _ ps X a0 a1 (HE.out.below (bel2 HB1.out hX)) (lst_next HL1.out hX) (by rw [HN.out]; omega) HSZ.out)
    unfold Made at HMS HMM
    rw [hmb, hmn, hml] at HMS
    simp only [hmb, hmn, hml] at HMM
    obtain ⟨m, hm⟩ : ∃ m, ml.length = m := ⟨_, rfl⟩
    have hm9 : m ≤ 5 := by rw [← hm, ← hml]; exact Nat.le_trans (madeI_le no key ps) (by rw [HN.out]; exact hps)
    have HM := Lib.hid hm
    have HMF := Lib.hid (And.intro hmb (And.intro hmn hml))
    clear h hl hn hsz hb hmb hmn hml hm
    go_wp2_with fail
    refine HMS.out.mono ?_
    rintro e w2 ⟨⟨v2, rfl, ho2⟩, hb2⟩
    obtain ⟨A2, c2, hv2⟩ := own_formP ho2
    subst hv2
    rw [ivals_length, HM.out] at ho2 ⊢
    obtain ⟨W3, hW3⟩ : ∃ X, X = w2.alloc (.cells #[.int .i64 mn, .slice A2 m c2] 28) := ⟨_, rfl⟩
    have hb3 : Below w2.heap.size w2 W3 := by rw [hW3]; exact (Below.refl _ _).alloc (Nat.le_refl _) _
    have HT3 := Lib.hid (show Two W3 w2.heap.size 28 (.int .i64 mn) (.slice A2 m c2) by rw [hW3]; exact two_new _ _ _ _)
    have HL3 := Lib.hid (lp_next (lp_of_own ho2) hb3)
    have HB3 := Lib.hid (bel2 hb2 hb3)
    have HW3 := Lib.hid hW3
    obtain ⟨b6, hb6⟩ : ∃ b, w2.heap.size = b := ⟨_, rfl⟩
    clear ho2 hb2 hb3 hW3 HMS
    go_wp2_with fail
    rw [← HW3.out]
    rw [hb6] at HT3
    clear HW3 hb6
    refine (HMM.out W3 HB3.out).mono ?_
    rintro e w4 ⟨⟨v4, rfl, ho4⟩, hb4⟩
    obtain ⟨A4, c4, hv4⟩ := own_formP ho4
    subst hv4
    rw [ivals_length, HM.out] at ho4 ⊢
    obtain ⟨W5, hW5⟩ : ∃ X, X = w4.alloc (.cells #[.int .i64 mn, .slice A4 m c4] 28) := ⟨_, rfl⟩
    have hb5 : Below w4.heap.size w4 W5 := by rw [hW5]; exact (Below.refl _ _).alloc (Nat.le_refl _) _
    have HT5 := Lib.hid (show Two W5 w4.heap.size 28 (.int .i64 mn) (.slice A4 m c4) by rw [hW5]; exact two_new _ _ _ _)
    have HP5 := Lib.hid (lp_next (lp_of_own ho4) hb5)
    have HB35 := Lib.hid (bel2 hb4 hb5)
    have HL5 := Lib.hid (lp_next HL3.out HB35.out)
    have ht3 := HT3.out.keep (grown_of_bel hb4 none) (by simp)
    have HT35 := Lib.hid (HT3.out.keep (grown_of_bel HB35.out none) (by simp))
    have HB5 := Lib.hid (bel2 HB1.out (bel2 HB3.out HB35.out))
    have q0 := cell_alI ht3.c0 (.cells #[.int .i64 mn, .slice A4 m c4] 28)
    have q1 := cell_alI ht3.c1 (.cells #[.int .i64 mn, .slice A4 m c4] 28)
    have HW5 := Lib.hid hW5
    clear ho4 hb4 hb5 hW5 ht3 HT3 HL3
    go_wp2_with fail
    rw [← HW5.out]
    refine (ldPack_any W5 mn mn _ _ ml ml HP5.out HL5.out (by rw [HM.out]; omega)).mono ?_
    rw [show decide (mn = mn ∧ ml = ml) = true by simp]
    rintro e w6 ⟨rfl, hb6⟩
    obtain ⟨b8, hb8⟩ : ∃ b, w4.heap.size = b := ⟨_, rfl⟩
    rw [hb8] at HT5 ⊢
    have HB56 := Lib.hid (bel2 HB35.out hb6)
    have HB6 := Lib.hid (bel2 HB5.out hb6)
    have HT6 := Lib.hid (HT5.out.keep (grown_of_bel hb6 none) (by simp))
    have HT36 := Lib.hid (HT35.out.keep (grown_of_bel hb6 none) (by simp))
    have HP6 := Lib.hid (lp_next HP5.out hb6)
    have HL6 := Lib.hid (lp_next HL5.out hb6)
    have HPS := Lib.hid (lst_next HL1.out (bel2 HB3.out HB56.out))
    have HE6 := Lib.hid (HE.out.below HB6.out)
    clear q0 q1 hb6 hb8 HW5 HMM HT5 HT35 HP5 HL5 HB35 HB56 HB5 HB3 HL1 HB1
    cases mb with
    | false =>
      have p0 := HT6.out.c0
      have p1 := HT6.out.c1
      have q0 := HT36.out.c0
      have q1 := HT36.out.c1
      go_wp2_with fail
      refine (ldPack_any w6 mn mn _ _ ml ml HP6.out HL6.out (by rw [HM.out]; omega)).mono ?_
      rw [show decide (mn = mn ∧ ml = ml) = true by simp]
      rintro e w7 ⟨rfl, hb7⟩
      have HB7 := Lib.hid (bel2 HB6.out hb7)
      clear hb7
      go_wp2
      go_ret
      exact ⟨rfl, HB7.out⟩
    | true =>
      have HMO := Lib.hid (show MadeOf no key ps ml by have h := (made_of HMF.out.1).1; rwa [HMF.out.2.2] at h)
      obtain rfl : mn = no := HMF.out.2.1.symm.trans (made_of HMF.out.1).2
      have HNM := Lib.hid (show n = m by have h := HMO.out.len; rw [HM.out, HN.out] at h; exact h.symm)
      have hn4 : 1 ≤ n ∧ n ≤ 4 := by have h := HMO.out.len4; rw [HN.out] at h; exact h
      have HSt := Lib.hid (fun (X : World) (hX : Below w6.heap.size w6 X) => show X.cell? ⟨b8, 0, none⟩ = some (.int .i64 mn) ∧ X.cell? ⟨b8, 1, none⟩ = some (.slice A4 m c4) from
        ⟨(HT6.out.keep (grown_of_bel hX none) (by simp)).c0, (HT6.out.keep (grown_of_bel hX none) (by simp)).c1⟩)
      have HOK := Lib.hid (fun (o : Int) (X : World) (hX : Below w6.heap.size w6 X) => packOk_any o mn _ ml X a0 a1 (HE6.out.below hX) (lp_next HP6.out hX) (by rw [HM.out]; omega) HMO.out.sizes)
      have HGT := Lib.hid (fun (o name : Int) (X : World) (hX : Below w6.heap.size w6 X) => packGet_any o mn name _ ml X a0 a1 (HE6.out.below hX) (lp_next HP6.out hX) (by rw [HM.out]; omega) HMO.out.sizes)
      have HB66 := Lib.hid (Below.refl w6.heap.size w6)
      clear HT36 HL6
      go_wp2_with fail
      go_loopw [10] (fun i wr => ∃ j : Nat, j ≤ n ∧ i = .int .i64 (j : Int) ∧ Below w6.heap.size w6 wr) (fun i _ => n - (intOf i).toNat)
      case atStart => exact ⟨0, Nat.zero_le _, rfl, HB66.out⟩
      case round =>
        obtain ⟨j, hj, rfl, hbr⟩ := hrel
        have HBr := Lib.hid hbr
        clear hbr
        obtain ⟨p0, p1⟩ := HSt.out wr HBr.out
        by_cases hlt : j < n
        · obtain ⟨s, hsk⟩ : ∃ s, ps[j]? = some s := ⟨_, List.getElem?_eq_getElem (by have := HN.out; omega)⟩
          obtain ⟨g, off, hA, hg, c1⟩ := lst_at HPS.out (barVals_get ps j s hsk)
          subst hA
          have HC := Lib.hid (fun (X : World) (hX : Below w6.heap.size w6 X) => (hX.cell (p := ⟨g, off + j, none⟩) hg).trans c1)
          have hc1 := HC.out wr HBr.out
          have HD := Lib.hid (bel2 HBr.out (show Below wr.heap.size wr wr.drew from ⟨rfl, rfl, rfl, Nat.le_refl _, fun _ _ => rfl⟩))
          have hmem := List.mem_of_getElem? hsk
          have HNO := Lib.hid (nameOf_any key s wr.drew a0 a1 (HE6.out.below HD.out) (HSZ.out s hmem))
          have HG := Lib.hid (fun (X : World) (hX : Below w6.heap.size w6 X) => HGT.out key (nameZ key s.data.toList) X hX)
          unfold Got at HG
          rw [(HMO.out.get hmem).1, (HMO.out.get hmem).2] at HG
          obtain ⟨x, hx⟩ : ∃ x, nameZ key s.data.toList = x := ⟨_, rfl⟩
          rw [hx] at HG HNO
          have hss : (s.toList != s.toList) = false := by simp
          have hi1 : (j : Int) < (n : Int) := by omega
          have hi0 : (0 : Int) ≤ (j : Int) := by omega
          clear hsk hg c1 hmem hx
          go_wp2_with fail
          go_region_held3 (fun w' => w'.cell? ⟨b8, 0, none⟩ = some (.int .i64 mn) ∧ w'.cell? ⟨b8, 1, none⟩ = some (.slice A4 m c4) ∧ w'.cell? ⟨g, off + j, none⟩ = some (.string s)) ((refine ⟨?_, ?_, ?_⟩ <;> assumption))
            (first
              | (go_at_call 12; go_must (refine HNO.out.mono ?_); rintro e w7 ⟨rfl, hd7⟩; have HB7 := Lib.hid (bel2 HD.out (drew_belM hd7)); obtain ⟨s0, s1⟩ := HSt.out w7 HB7.out; have s2 := HC.out w7 HB7.out; clear hd7)
              | (go_at_call 11; go_must (refine (HG.out w7 HB7.out).mono ?_); rintro e w8 ⟨rfl, hb8⟩; have HB8 := Lib.hid (bel2 HB7.out hb8); obtain ⟨t0, t1⟩ := HSt.out w8 HB8.out; have t2 := HC.out w8 HB8.out; clear hb8))
          go_wp2
          go_roundw
          case rel => exact ⟨j + 1, by omega, by go_num, HB8.out⟩
          case measure => simp [intOf]; omega
        · have HF := Lib.hid (HOK.out key wr HBr.out)
          rw [HMO.out.ok] at HF
          have hmm : ((m : Int) == (n : Int)) = true := by rw [HNM.out]; simp
          have hnn : (mn == mn) = true := by simp
          go_wp2_with fail
          refine HF.out.mono ?_
          rintro e w7 ⟨rfl, hb7⟩
          have HB7 := Lib.hid (bel2 HB6.out (bel2 HBr.out hb7))
          obtain ⟨s0, s1⟩ := HSt.out w7 (bel2 HBr.out hb7)
          clear hb7
          go_wp2
          go_ret
          exact ⟨rfl, HB7.out⟩
  · go_enter Tryz.func3, Tryz.ntmps3
    go_wp2_with fail
    go_ret
    exact ⟨rfl, Below.refl _ _⟩
end
end Go.Proofs.YtkjginibdablnaaGreatDoor
