/- The law of a pack of one piece. -/
import Derived.Test.YtkjginibdablnaaDoorDrawMake
import Derived.Test.YtkjginibdablnaaDoorMkLaw
import Derived.Test.YtkjginibdablnaaDoorImplMk
import Derived.Test.YtkjginibdablnaaDoorLdPack
import Derived.Deep.RegionHeld3
namespace Go.Proofs.YtkjginibdablnaaDoor
open Go.RowKit
theorem lst_noneM (w : World) : Lst w w.heap.size (.slice none 0 0) (barVals []) := ⟨none, 0, rfl, Nat.le_refl _, fun h => absurd h (by simp [barVals])⟩
section
set_option maxHeartbeats 3200000
set_option maxRecDepth 100000
theorem lawFnPackOne (a : Option Addr) (len cap : Nat) (zs : List Int) (a1' : Option Addr) (len1 cap1 : Nat) (zs1 : List Int) (w : World) (h : Code w a len cap zs) (_ : Code w a1' len1 cap1 zs1) (a0 a1 : Addr) (he : Errs w a0 a1) :
    Calls Tryd.prog 8 #[.slice a len cap, .slice a1' len1 cap1] w fun e w' => e = .returned (.bool true) ∧ Below w.heap.size w w' := by
  have HE := Lib.hid he
  clear he
  by_cases hlen : len ≤ 1048576
  · by_cases hlen1 : len1 ≤ 1048576
    · go_enter Tryd.func8, Tryd.ntmps8
      go_wp2_with fail
      refine (drawPackMake_any a len cap zs w h).mono ?_
      rintro e w1 ⟨no, key, v, ps, rfl, hl, hno0, hno1, hk0, hk1, hps, hsz, hb⟩
      obtain ⟨A, c, hv⟩ := lst_form hl
      subst hv
      rw [barVals_length] at *
      obtain ⟨n, hn⟩ : ∃ n, ps.length = n := ⟨_, rfl⟩
      have HN := Lib.hid hn
      rw [hn] at hl hps ⊢
      have HSZ := Lib.hid (show ∀ s ∈ ps, s.size ≤ maxLen from fun s hs => by have := hsz s hs; unfold maxLen; omega)
      have HL1 := Lib.hid hl
      have HB1 := Lib.hid hb
      obtain ⟨mb, hmb⟩ : ∃ x, madeB no key ps = x := ⟨_, rfl⟩
      obtain ⟨mn, hmn⟩ : ∃ x, madeN no key ps = x := ⟨_, rfl⟩
      obtain ⟨ml, hml⟩ : ∃ x, madeI no key ps = x := ⟨_, rfl⟩
      have HMS := Lib.hid (packMakeS_any no key _ ps w1 HL1.out (by rw [HN.out]; omega) HSZ.out)
      have HMM := Lib.hid (fun (X : World) (hX : Below w1.heap.size w1 X) => packMake_any no key _ ps X a0 a1 (HE.out.below (bel2 HB1.out hX)) (lst_next HL1.out hX) (by rw [HN.out]; omega) HSZ.out)
      unfold Made at HMS HMM
      rw [hmb, hmn, hml] at HMS
      simp only [hmb, hmn, hml] at HMM
      obtain ⟨m, hm⟩ : ∃ m, ml.length = m := ⟨_, rfl⟩
      have hm9 : m ≤ 5 := by rw [← hm, ← hml]; exact Nat.le_trans (madeI_le no key ps) (by rw [HN.out]; exact hps)
      have HM := Lib.hid hm
      have HMF := Lib.hid (And.intro hmb (And.intro hmn hml))
      clear h hl hn hsz hb hmb hmn hml hm
      go_wp2_with fail
      refine HMS.out.mono ?_
      rintro e w2 ⟨⟨v2, rfl, ho2⟩, hb2⟩
      obtain ⟨A2, c2, hv2⟩ := own_formP ho2
      subst hv2
      rw [ivals_length, HM.out] at ho2 ⊢
      obtain ⟨W3, hW3⟩ : ∃ X, X = w2.alloc (.cells #[.int .i64 mn, .slice A2 m c2] 29) := ⟨_, rfl⟩
      have hb3 : Below w2.heap.size w2 W3 := by rw [hW3]; exact (Below.refl _ _).alloc (Nat.le_refl _) _
      have HT3 := Lib.hid (show Two W3 w2.heap.size 29 (.int .i64 mn) (.slice A2 m c2) by rw [hW3]; exact two_new _ _ _ _)
      have HL3 := Lib.hid (lp_next (lp_of_own ho2) hb3)
      have HB3 := Lib.hid (bel2 hb2 hb3)
      have HW3 := Lib.hid hW3
      obtain ⟨b6, hb6⟩ : ∃ b, w2.heap.size = b := ⟨_, rfl⟩
      clear ho2 hb2 hb3 hW3 HMS
      go_wp2_with fail
      rw [← HW3.out]
      rw [hb6] at HT3
      clear HW3 hb6
      refine (HMM.out W3 HB3.out).mono ?_
      rintro e w4 ⟨⟨v4, rfl, ho4⟩, hb4⟩
      obtain ⟨A4, c4, hv4⟩ := own_formP ho4
      subst hv4
      rw [ivals_length, HM.out] at ho4 ⊢
      obtain ⟨W5, hW5⟩ : ∃ X, X = w4.alloc (.cells #[.int .i64 mn, .slice A4 m c4] 29) := ⟨_, rfl⟩
      have hb5 : Below w4.heap.size w4 W5 := by rw [hW5]; exact (Below.refl _ _).alloc (Nat.le_refl _) _
      have HT5 := Lib.hid (show Two W5 w4.heap.size 29 (.int .i64 mn) (.slice A4 m c4) by rw [hW5]; exact two_new _ _ _ _)
      have HP5 := Lib.hid (lp_next (lp_of_own ho4) hb5)
      have HB35 := Lib.hid (bel2 hb4 hb5)
      have HL5 := Lib.hid (lp_next HL3.out HB35.out)
      have ht3 := HT3.out.keep (grown_of_bel hb4 none) (by simp)
      have HT35 := Lib.hid (HT3.out.keep (grown_of_bel HB35.out none) (by simp))
      have HB5 := Lib.hid (bel2 HB1.out (bel2 HB3.out HB35.out))
      have q0 := cell_alI ht3.c0 (.cells #[.int .i64 mn, .slice A4 m c4] 29)
      have q1 := cell_alI ht3.c1 (.cells #[.int .i64 mn, .slice A4 m c4] 29)
      have HW5 := Lib.hid hW5
      clear ho4 hb4 hb5 hW5 ht3 HT3 HL3
      go_wp2_with fail
      rw [← HW5.out]
      refine (ldPack_any W5 mn mn _ _ ml ml HP5.out HL5.out (by rw [HM.out]; omega)).mono ?_
      rw [show decide (mn = mn ∧ ml = ml) = true by simp]
      rintro e w6 ⟨rfl, hb6⟩
      obtain ⟨b8, hb8⟩ : ∃ b, w4.heap.size = b := ⟨_, rfl⟩
      rw [hb8] at HT5 ⊢
      have HB56 := Lib.hid (bel2 HB35.out hb6)
      have HB6 := Lib.hid (bel2 HB5.out hb6)
      have HT6 := Lib.hid (HT5.out.keep (grown_of_bel hb6 none) (by simp))
      have HT36 := Lib.hid (HT35.out.keep (grown_of_bel hb6 none) (by simp))
      have HP6 := Lib.hid (lp_next HP5.out hb6)
      have HL6 := Lib.hid (lp_next HL5.out hb6)
      have HPS := Lib.hid (lst_next HL1.out (bel2 HB3.out HB56.out))
      have HE6 := Lib.hid (HE.out.below HB6.out)
      clear q0 q1 hb6 hb8 HW5 HMM HT5 HT35 HP5 HL5 HB35 HB56 HB5 HB3 HL1 HB1
      cases mb with
      | false =>
        have p0 := HT6.out.c0
        have p1 := HT6.out.c1
        have q0 := HT36.out.c0
        have q1 := HT36.out.c1
        go_wp2_with fail
        refine (ldPack_any w6 mn mn _ _ ml ml HP6.out HL6.out (by rw [HM.out]; omega)).mono ?_
        rw [show decide (mn = mn ∧ ml = ml) = true by simp]
        rintro e w7 ⟨rfl, hb7⟩
        have HB7 := Lib.hid (bel2 HB6.out hb7)
        clear hb7
        go_wp2
        go_ret
        exact ⟨rfl, HB7.out⟩
      | true =>
        have HMO := Lib.hid (show MadeOf no key ps ml by have h := (made_of HMF.out.1).1; rwa [HMF.out.2.2] at h)
        obtain rfl : mn = no := HMF.out.2.1.symm.trans (made_of HMF.out.1).2
        have HNM := Lib.hid (show n = m by have h := HMO.out.len; rw [HM.out, HN.out] at h; exact h.symm)
        have hn4 : 1 ≤ n ∧ n ≤ 4 := by have h := HMO.out.len4; rw [HN.out] at h; exact h
        have HSt := Lib.hid (fun (X : World) (hX : Below w6.heap.size w6 X) => show X.cell? ⟨b8, 0, none⟩ = some (.int .i64 mn) ∧ X.cell? ⟨b8, 1, none⟩ = some (.slice A4 m c4) from
          ⟨(HT6.out.keep (grown_of_bel hX none) (by simp)).c0, (HT6.out.keep (grown_of_bel hX none) (by simp)).c1⟩)
        have HOK := Lib.hid (fun (o : Int) (X : World) (hX : Below w6.heap.size w6 X) => packOk_any o mn _ ml X a0 a1 (HE6.out.below hX) (lp_next HP6.out hX) (by rw [HM.out]; omega) HMO.out.sizes)
        have HGT := Lib.hid (fun (o name : Int) (X : World) (hX : Below w6.heap.size w6 X) => packGet_any o mn name _ ml X a0 a1 (HE6.out.below hX) (lp_next HP6.out hX) (by rw [HM.out]; omega) HMO.out.sizes)
        have HB66 := Lib.hid (Below.refl w6.heap.size w6)
        clear HT36 HL6
        obtain ⟨k, hk⟩ : ∃ k, len1 % n = k := ⟨_, rfl⟩
        have hkn : k < n := by rw [← hk]; exact Nat.mod_lt _ (by omega)
        have hkz : (len1 : Int) % (n : Int) = (k : Int) := by rw [← hk]; rfl
        have hkt : (len1 : Int).tmod (n : Int) = (k : Int) := by rw [← hk]; rfl
        obtain ⟨s, hsk⟩ : ∃ s, ps[k]? = some s := ⟨_, List.getElem?_eq_getElem (by have := HN.out; omega)⟩
        obtain ⟨g, off, hA, hg, c1⟩ := lst_at HPS.out (barVals_get ps k s hsk)
        subst hA
        have hmem := List.mem_of_getElem? hsk
        have HMEM := Lib.hid hmem
        have HS8 := Lib.hid (HSZ.out s hmem)
        have hk0 : (0 : Int) ≤ (k : Int) := by omega
        have hk1 : (k : Int) < (n : Int) := by omega
        have hnz : ((n : Int) == 0) = false := beq_eq_false_iff_ne.2 (by omega)
        have HO1 := Lib.hid (HMO.out.one hmem)
        have HF0 := Lib.hid (made_none mn key)
        have HF2 := Lib.hid (made_twice mn key s)
        have HF5 := Lib.hid (made_five mn key ⟨#[97]⟩ ⟨#[98]⟩ ⟨#[99]⟩ ⟨#[100]⟩ ⟨#[101]⟩)
        clear hk hsk hg hmem

        obtain ⟨X8, hX8⟩ : ∃ X, X = w6.alloc (.cells #[.string s] 9) := ⟨_, rfl⟩
        have hbX8 : Below w6.heap.size w6 X8 := by rw [hX8]; exact (Below.refl _ _).alloc (Nat.le_refl _) _
        have HLX8 := Lib.hid (show Lst X8 X8.heap.size (.slice (some ⟨w6.heap.size, 0, none⟩) 1 1) (barVals [s]) by rw [hX8]; exact lst_of_own (World.ownsRow_lit w6 #[.string s] 1 (Nat.le_refl _) (by unfold maxLen; omega) rfl))
        have HBX8 := Lib.hid (bel2 HB66.out hbX8)
        have HMK8 := Lib.hid (packMake_any mn key _ [s] X8 a0 a1 (HE6.out.below HBX8.out) HLX8.out (by simp) (fun t ht => by rw [List.mem_singleton.1 ht]; exact HS8.out))
        unfold Made at HMK8
        rw [HO1.out.1, HO1.out.2.1, HO1.out.2.2] at HMK8
        have HXE8 := Lib.hid hX8
        clear hX8
        go_wp2_with fail
        rw [← HXE8.out]
        refine HMK8.out.mono ?_
        rintro e w8 ⟨⟨v8, rfl, ho8⟩, hb8⟩

        obtain ⟨g8, c8, hv8, _⟩ := own_someP ho8 (by simp [ivals])
        rw [ivals_length] at hv8
        simp only [List.length_singleton] at hv8
        subst hv8
        obtain ⟨y, hy⟩ : ∃ y : ByteArray, ⟨(padL s.data.toList).toArray⟩ = y := ⟨_, rfl⟩
        have HPO := Lib.hid (fun W' => padOf_any s W' HS8.out)
        unfold Padded at HPO
        rw [hy] at HPO
        have hitem : itemOf key.toNat s = ((itemOf key.toNat s).1, y) := by rw [← hy]; rfl
        obtain ⟨b13, hb13⟩ : ∃ b, w8.heap.size = b := ⟨_, rfl⟩
        obtain ⟨Y8, hY8⟩ : ∃ X, X = w8.alloc (.cells #[.int .i64 mn, .slice (some ⟨g8, 0, none⟩) 1 c8] 29) := ⟨_, rfl⟩
        have hbY8 : Below w8.heap.size w8 Y8 := by rw [hY8]; exact (Below.refl _ _).alloc (Nat.le_refl _) _
        have HBY8 := Lib.hid (bel2 (bel2 HBX8.out hb8) hbY8)
        have HT8 := Lib.hid (show Two Y8 b13 29 (.int .i64 mn) (.slice (some ⟨g8, 0, none⟩) 1 c8) by rw [hY8, ← hb13]; exact two_new _ _ _ _)
        have HROW := Lib.hid (fun (X : World) (hX : Below Y8.heap.size Y8 X) => show X.cell? ⟨b13, 1, none⟩ = some (.slice (some ⟨g8, 0, none⟩) 1 c8) ∧ X.cell? ⟨g8, 1, none⟩ = some (.string y) from by
          have h1 := (HT8.out.keep (grown_of_bel hX none) (by simp)).c1
          have h2 := ownP_below (ownP_below ho8 hbY8) hX
          have h3 := (row_at h2 (by simp) (show [itemOf key.toNat s][0]? = some ((itemOf key.toNat s).1, y) by rw [← hitem]; rfl)).2.1
          exact ⟨h1, by simpa using h3⟩)
        have HYE8 := Lib.hid hY8
        clear hb8 hbY8 hY8 hy hitem ho8 hbX8

        have HMK9 := Lib.hid (fun (X : World) (hX : Below w6.heap.size w6 X) => packMake_any mn key (.slice none 0 0) [] X a0 a1 (HE6.out.below hX) (lst_noneM X) (by simp) (by simp))
        unfold Made at HMK9
        simp only [HF0.out, (madeI_no HF0.out).1, (madeI_no HF0.out).2] at HMK9
        go_wp2_with fail
        rw [← HYE8.out]
        clear hb13
        refine (HMK9.out Y8 HBY8.out).mono ?_
        rintro e w9 ⟨⟨v9, rfl, ho9⟩, hb9⟩
        have HBX9 := Lib.hid HBY8.out

        obtain ⟨A9, m9, c9, hv9⟩ := own_formE ho9
        subst hv9
        obtain ⟨Y9, hY9⟩ : ∃ X, X = w9.alloc (.cells #[.int .i64 0, .slice A9 m9 c9] 29) := ⟨_, rfl⟩
        have hbY9 : Below w9.heap.size w9 Y9 := by rw [hY9]; exact (Below.refl _ _).alloc (Nat.le_refl _) _
        have HBY9 := Lib.hid (bel2 (bel2 HBX9.out hb9) hbY9)
        have HC9 := Lib.hid (bel2 hb9 hbY9)
        have HYE9 := Lib.hid hY9
        clear hY9 hbY9 ho9 hb9

        obtain ⟨X10, hX10⟩ : ∃ X, X = Y9.alloc (.cells #[.string s, .string s] 9) := ⟨_, rfl⟩
        have hbX10 : Below Y9.heap.size Y9 X10 := by rw [hX10]; exact (Below.refl _ _).alloc (Nat.le_refl _) _
        have HLX10 := Lib.hid (show Lst X10 X10.heap.size (.slice (some ⟨Y9.heap.size, 0, none⟩) 2 2) (barVals [s, s]) by rw [hX10]; exact lst_of_own (World.ownsRow_lit Y9 #[.string s, .string s] 2 (Nat.le_refl _) (by unfold maxLen; omega) rfl))
        have HBX10 := Lib.hid (bel2 HBY9.out hbX10)
        have HMK10 := Lib.hid (packMake_any mn key _ [s, s] X10 a0 a1 (HE6.out.below HBX10.out) HLX10.out (by simp) (fun t ht => by rcases List.mem_cons.1 ht with h | h; rw [h]; exact HS8.out; rw [List.mem_singleton.1 h]; exact HS8.out))
        unfold Made at HMK10
        rw [HF2.out, (madeI_no HF2.out).1, (madeI_no HF2.out).2] at HMK10
        rw [show Y9.heap.size = w9.heap.size + 1 by rw [HYE9.out]; simp] at HMK10
        have HXE10 := Lib.hid hX10
        clear hX10
        go_wp2_with fail
        rw [← HYE9.out, ← HXE10.out]
        refine HMK10.out.mono ?_
        rintro e w10 ⟨⟨v10, rfl, ho10⟩, hb10⟩

        obtain ⟨A10, m10, c10, hv10⟩ := own_formE ho10
        subst hv10
        obtain ⟨Y10, hY10⟩ : ∃ X, X = w10.alloc (.cells #[.int .i64 0, .slice A10 m10 c10] 29) := ⟨_, rfl⟩
        have hbY10 : Below w10.heap.size w10 Y10 := by rw [hY10]; exact (Below.refl _ _).alloc (Nat.le_refl _) _
        have HBY10 := Lib.hid (bel2 (bel2 HBX10.out hb10) hbY10)
        have HC10 := Lib.hid (bel2 (bel2 hbX10 hb10) hbY10)
        have HYE10 := Lib.hid hY10
        clear hY10 hbY10 ho10 hb10 hbX10

        obtain ⟨X11, hX11⟩ : ∃ X, X = Y10.alloc (.cells #[.string ⟨#[97]⟩, .string ⟨#[98]⟩, .string ⟨#[99]⟩, .string ⟨#[100]⟩, .string ⟨#[101]⟩] 9) := ⟨_, rfl⟩
        have hbX11 : Below Y10.heap.size Y10 X11 := by rw [hX11]; exact (Below.refl _ _).alloc (Nat.le_refl _) _
        have HLX11 := Lib.hid (show Lst X11 X11.heap.size (.slice (some ⟨Y10.heap.size, 0, none⟩) 5 5) (barVals [⟨#[97]⟩, ⟨#[98]⟩, ⟨#[99]⟩, ⟨#[100]⟩, ⟨#[101]⟩]) by rw [hX11]; exact lst_of_own (World.ownsRow_lit Y10 #[.string ⟨#[97]⟩, .string ⟨#[98]⟩, .string ⟨#[99]⟩, .string ⟨#[100]⟩, .string ⟨#[101]⟩] 5 (Nat.le_refl _) (by unfold maxLen; omega) rfl))
        have HBX11 := Lib.hid (bel2 HBY10.out hbX11)
        have HMK11 := Lib.hid (packMake_any mn key _ [⟨#[97]⟩, ⟨#[98]⟩, ⟨#[99]⟩, ⟨#[100]⟩, ⟨#[101]⟩] X11 a0 a1 (HE6.out.below HBX11.out) HLX11.out (by simp) (by intro t ht; simp at ht; rcases ht with rfl | rfl | rfl | rfl | rfl <;> (unfold maxLen; decide)))
        unfold Made at HMK11
        rw [HF5.out, (madeI_no HF5.out).1, (madeI_no HF5.out).2] at HMK11
        rw [show Y10.heap.size = w10.heap.size + 1 by rw [HYE10.out]; simp] at HMK11
        have HXE11 := Lib.hid hX11
        clear hX11
        go_wp2_with fail
        rw [← HYE10.out, ← HXE11.out]
        refine HMK11.out.mono ?_
        rintro e w11 ⟨⟨v11, rfl, ho11⟩, hb11⟩

        obtain ⟨A11, m11, c11, hv11⟩ := own_formE ho11
        subst hv11
        obtain ⟨Y11, hY11⟩ : ∃ X, X = w11.alloc (.cells #[.int .i64 0, .slice A11 m11 c11] 29) := ⟨_, rfl⟩
        have hbY11 : Below w11.heap.size w11 Y11 := by rw [hY11]; exact (Below.refl _ _).alloc (Nat.le_refl _) _
        have HBY11 := Lib.hid (bel2 (bel2 HBX11.out hb11) hbY11)
        have HC11 := Lib.hid (bel2 (bel2 hbX11 hb11) hbY11)
        have HYE11 := Lib.hid hY11
        clear hY11 hbY11 ho11 hb11 hbX11

        have HB8Y := Lib.hid (bel2 HC9.out (bel2 HC10.out HC11.out))
        obtain ⟨p0, p1⟩ := HROW.out Y11 HB8Y.out
        have HPQ := Lib.hid (HPO.out Y11.drew)
        have HBD := Lib.hid (bel2 HB8Y.out (show Below Y11.heap.size Y11 Y11.drew from ⟨rfl, rfl, rfl, Nat.le_refl _, fun _ _ => rfl⟩))
        have hyy : (y.toList == y.toList) = true := by simp
        go_wp2_with fail
        rw [← HYE11.out]
        go_region_held3 (fun w' => w'.cell? ⟨b13, 1, none⟩ = some (.slice (some ⟨g8, 0, none⟩) 1 c8) ∧ w'.cell? ⟨g8, 1, none⟩ = some (.string y)) ((refine ⟨?_, ?_⟩ <;> assumption))
          (first
            | (go_at_call 29; go_must (refine HPQ.out.mono ?_); rintro e w12 ⟨rfl, hb12⟩; have HB12 := Lib.hid (bel2 HBD.out hb12); obtain ⟨s0, s1⟩ := HROW.out w12 HB12.out; clear hb12))
        go_wp2
        go_ret
        exact ⟨rfl, bel2 HB6.out (bel2 HBY8.out HB12.out)⟩
    · go_enter Tryd.func8, Tryd.ntmps8
      go_wp2_with fail
      go_ret
      exact ⟨rfl, Below.refl _ _⟩
  · go_enter Tryd.func8, Tryd.ntmps8
    go_wp2_with fail
    go_ret
    exact ⟨rfl, Below.refl _ _⟩
end
end Go.Proofs.YtkjginibdablnaaDoor
