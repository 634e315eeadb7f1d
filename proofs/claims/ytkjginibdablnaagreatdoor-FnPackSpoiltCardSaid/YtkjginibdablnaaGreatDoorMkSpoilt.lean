/- The law of a pack one of whose pieces is changed. -/
import Derived.Test.YtkjginibdablnaaGreatDoorDrawMake
import Derived.Test.YtkjginibdablnaaGreatDoorMkLaw
import Derived.Test.YtkjginibdablnaaGreatDoorImplMk
import Derived.Test.YtkjginibdablnaaGreatDoorLdPack
import Derived.Deep.RegionHeld3
import Derived.Test.YtkjginibdablnaaGreatDoorPackCopy
import Derived.Deep.DeepCutAuto
import Derived.Deep.CutBlock
namespace Go.Proofs.YtkjginibdablnaaGreatDoor
open Go.RowKit
section
set_option maxHeartbeats 3200000
set_option maxRecDepth 100000
theorem lawFnPackSpoilt (a : Option Addr) (len cap : Nat) (zs : List Int) (a1' : Option Addr) (len1 cap1 : Nat) (zs1 : List Int) (w : World) (h : Code w a len cap zs) (_ : Code w a1' len1 cap1 zs1) (a0 a1 : Addr) (he : Errs w a0 a1) :
    Calls Tryz.prog 4 #[.slice a len cap, .slice a1' len1 cap1] w fun e w' => e = .returned (.bool true) ∧ Below w.heap.size w w' := by
  have HE := Lib.hid he
  clear he
  by_cases hlen : len ≤ 1048576
  · by_cases hlen1 : len1 ≤ 1048576
    · go_enter Tryz.func4, Tryz.ntmps4
      go_wp2_with fail
      refine (drawPackMake_any a len cap zs w h).mono ?_
      rintro e w1 ⟨no, key, v, ps, rfl, hl, hno0, hno1, hk0, hk1, hps, hsz, hb⟩
      obtain ⟨A, c, hv⟩ := lst_form hl
      subst hv
      rw [barVals_length] at *
      obtain ⟨n, hn⟩ : ∃ n, ps.length = n := ⟨_, rfl⟩
      have HN := Lib.hid hn
      rw [hn] at hl hps ⊢
      have HSZ := Lib.hid (show ∀ s ∈ ps, s.size ≤ maxLen from fun s hs => by have := hsz s hs; unfold maxLen; omega)
      have HL1 := Lib.hid hl
      have HB1 := Lib.hid hb
      obtain ⟨mb, hmb⟩ : ∃ x, madeB no key ps = x := ⟨_, rfl⟩
      obtain ⟨mn, hmn⟩ : ∃ x, madeN no key ps = x := ⟨_, rfl⟩
      obtain ⟨ml, hml⟩ : ∃ x, madeI no key ps = x := ⟨_, rfl⟩
      have HMS := Lib.hid (packMakeS_any no key _ ps w1 HL1.out (by rw [HN.out]; omega) HSZ.out)
      have HMM := Lib.hid (fun (X : World) (hX : Below w1.heap.size w1 X) => packMake_any no key _ ps X a0 a1 (HE.out.below (bel2 HB1.out hX)) (lst_next HL1.out hX) (by rw [HN.out]; omega) HSZ.out)
      unfold Made at HMS HMM
      rw [hmb, hmn, hml] at HMS
      simp only [hmb, hmn, hml] at HMM
      obtain ⟨m, hm⟩ : ∃ m, ml.length = m := ⟨_, rfl⟩
      have hm9 : m ≤ 5 := by rw [← hm, ← hml]; exact Nat.le_trans (madeI_le no key ps) (by rw [HN.out]; exact hps)
      have HM := Lib.hid hm
      have HMF := Lib.hid (And.intro hmb (And.intro hmn hml))
      clear h hl hn hsz hb hmb hmn hml hm
      go_wp2_with fail
      refine HMS.out.mono ?_
      rintro e w2 ⟨⟨v2, rfl, ho2⟩, hb2⟩
      obtain ⟨A2, c2, hv2⟩ := own_formP ho2
      subst hv2
      rw [ivals_length, HM.out] at ho2 ⊢
      obtain ⟨W3, hW3⟩ : ∃ X, X = w2.alloc (.cells #[.int .i64 mn, .slice A2 m c2] 28) := ⟨_, rfl⟩
      have hb3 : Below w2.heap.size w2 W3 := by rw [hW3]; exact (Below.refl _ _).alloc (Nat.le_refl _) _
      have HT3 := Lib.hid (show Two W3 w2.heap.size 28 (.int .i64 mn) (.slice A2 m c2) by rw [hW3]; exact two_new _ _ _ _)
      have HL3 := Lib.hid (lp_next (lp_of_own ho2) hb3)
      have HB3 := Lib.hid (bel2 hb2 hb3)
      have HW3 := Lib.hid hW3
      obtain ⟨b6, hb6⟩ : ∃ b, w2.heap.size = b := ⟨_, rfl⟩
      clear ho2 hb2 hb3 hW3 HMS
      go_wp2_with fail
      rw [← HW3.out]
      rw [hb6] at HT3
      clear HW3 hb6
      refine (HMM.out W3 HB3.out).mono ?_
      rintro e w4 ⟨⟨v4, rfl, ho4⟩, hb4⟩
      obtain ⟨A4, c4, hv4⟩ := own_formP ho4
      subst hv4
      rw [ivals_length, HM.out] at ho4 ⊢
      obtain ⟨W5, hW5⟩ : ∃ X, X = w4.alloc (.cells #[.int .i64 mn, .slice A4 m c4] 28) := ⟨_, rfl⟩
      have hb5 : Below w4.heap.size w4 W5 := by rw [hW5]; exact (Below.refl _ _).alloc (Nat.le_refl _) _
      have HT5 := Lib.hid (show Two W5 w4.heap.size 28 (.int .i64 mn) (.slice A4 m c4) by rw [hW5]; exact two_new _ _ _ _)
      have HP5 := Lib.hid (lp_next (lp_of_own ho4) hb5)
      have HB35 := Lib.hid (bel2 hb4 hb5)
      have HL5 := Lib.hid (lp_next HL3.out HB35.out)
      have ht3 := HT3.out.keep (grown_of_bel hb4 none) (by simp)
      have HT35 := Lib.hid (HT3.out.keep (grown_of_bel HB35.out none) (by simp))
      have HB5 := Lib.hid (bel2 HB1.out (bel2 HB3.out HB35.out))
      have q0 := cell_alI ht3.c0 (.cells #[.int .i64 mn, .slice A4 m c4] 28)
      have q1 := cell_alI ht3.c1 (.cells #[.int .i64 mn, .slice A4 m c4] 28)
      have HW5 := Lib.hid hW5
      clear ho4 hb4 hb5 hW5 ht3 HT3 HL3
      go_wp2_with fail
      rw [← HW5.out]
      refine (ldPack_any W5 mn mn _ _ ml ml HP5.out HL5.out (by rw [HM.out]; omega)).mono ?_
      rw [show decide (mn = mn ∧ ml = ml) = true by simp]
      rintro e w6 ⟨rfl, hb6⟩
      obtain ⟨b8, hb8⟩ : ∃ b, w4.heap.size = b := ⟨_, rfl⟩
      rw [hb8] at HT5 ⊢
      have HB56 := Lib.hid (bel2 HB35.out hb6)
      have HB6 := Lib.hid (bel2 HB5.out hb6)
      have HT6 := Lib.hid (HT5.out.keep (grown_of_bel hb6 none) (by simp))
      have HT36 := Lib.hid (HT35.out.keep (grown_of_bel hb6 none) (by simp))
      have HP6 := Lib.hid (lp_next HP5.out hb6)
      have HL6 := Lib.hid (lp_next HL5.out hb6)
      have HPS := Lib.hid (lst_next HL1.out (bel2 HB3.out HB56.out))
      have HE6 := Lib.hid (HE.out.below HB6.out)
      clear q0 q1 hb6 hb8 HW5 HMM HT5 HT35 HP5 HL5 HB35 HB56 HB5 HB3 HL1 HB1
      cases mb with
      | false =>
        have p0 := HT6.out.c0
        have p1 := HT6.out.c1
        have q0 := HT36.out.c0
        have q1 := HT36.out.c1
        go_wp2_with fail
        refine (ldPack_any w6 mn mn _ _ ml ml HP6.out HL6.out (by rw [HM.out]; omega)).mono ?_
        rw [show decide (mn = mn ∧ ml = ml) = true by simp]
        rintro e w7 ⟨rfl, hb7⟩
        have HB7 := Lib.hid (bel2 HB6.out hb7)
        clear hb7
        go_wp2
        go_ret
        exact ⟨rfl, HB7.out⟩
      | true =>
        have HMO := Lib.hid (show MadeOf no key ps ml by have h := (made_of HMF.out.1).1; rwa [HMF.out.2.2] at h)
        obtain rfl : mn = no := HMF.out.2.1.symm.trans (made_of HMF.out.1).2
        have HNM := Lib.hid (show n = m by have h := HMO.out.len; rw [HM.out, HN.out] at h; exact h.symm)
        have hn4 : 1 ≤ n ∧ n ≤ 4 := by have h := HMO.out.len4; rw [HN.out] at h; exact h
        have HSt := Lib.hid (fun (X : World) (hX : Below w6.heap.size w6 X) => show X.cell? ⟨b8, 0, none⟩ = some (.int .i64 mn) ∧ X.cell? ⟨b8, 1, none⟩ = some (.slice A4 m c4) from
          ⟨(HT6.out.keep (grown_of_bel hX none) (by simp)).c0, (HT6.out.keep (grown_of_bel hX none) (by simp)).c1⟩)
        have HOK := Lib.hid (fun (o : Int) (X : World) (hX : Below w6.heap.size w6 X) => packOk_any o mn _ ml X a0 a1 (HE6.out.below hX) (lp_next HP6.out hX) (by rw [HM.out]; omega) HMO.out.sizes)
        have HGT := Lib.hid (fun (o name : Int) (X : World) (hX : Below w6.heap.size w6 X) => packGet_any o mn name _ ml X a0 a1 (HE6.out.below hX) (lp_next HP6.out hX) (by rw [HM.out]; omega) HMO.out.sizes)
        have HB66 := Lib.hid (Below.refl w6.heap.size w6)
        clear HT36 HL6
        obtain ⟨i0, hi, hz0, hz1, hz2⟩ := infoItem_parts
        have hm1 : 1 ≤ m := by have := HNM.out; omega
        obtain ⟨k, hk⟩ : ∃ k, len1 % m = k := ⟨_, rfl⟩
        have hkm : k < m := by rw [← hk]; exact Nat.mod_lt _ (by omega)
        have hkz : (len1 : Int) % (m : Int) = (k : Int) := by rw [← hk]; rfl
        have hkt : (len1 : Int).tmod (m : Int) = (k : Int) := by rw [← hk]; rfl
        have hmz : ((m : Int) == 0) = false := beq_eq_false_iff_ne.2 (by omega)
        obtain ⟨⟨x, z⟩, hx⟩ : ∃ s, ml[k]? = some s := ⟨_, List.getElem?_eq_getElem (by have := HM.out; omega)⟩
        obtain ⟨g, off, hA, hg, c1, d1⟩ := lp_at HP6.out (ivals_get hx)
        subst hA
        have HX := Lib.hid hx
        have HC := Lib.hid (fun (X : World) (hX : Below w6.heap.size w6 X) => show X.cell? ⟨g, off + k * 2, none⟩ = some (.int .i64 x) ∧ X.cell? ⟨g, off + k * 2 + 1, none⟩ = some (.string z) from
          ⟨(hX.cell (p := ⟨g, off + k * 2, none⟩) hg).trans c1, (hX.cell (p := ⟨g, off + k * 2 + 1, none⟩) hg).trans d1⟩)
        have hk0 : (0 : Int) ≤ (k : Int) := by omega
        have hk1 : (k : Int) < (m : Int) := by omega
        obtain ⟨i5, hi5⟩ : ∃ i, len1 % 5 = i := ⟨_, rfl⟩
        have hi5z : (len1 : Int) % 5 = (i5 : Int) := by omega
        have hi50 : (0 : Int) ≤ (i5 : Int) := by omega
        have hi51 : (i5 : Int) < 5 := by omega
        obtain ⟨q, hq, hqp⟩ : ∃ q : ByteArray, (#[.string ⟨#[97]⟩, .string ⟨#[122, 122]⟩, .string ⟨#[97, 98, 99]⟩, .string ⟨#[107, 101, 101, 112]⟩, .string ⟨#[104, 101, 108, 108, 111]⟩] : Array Value)[i5]? = some (.string q) ∧ pieceB q.data.toList = true := by
          rcases (by omega : i5 = 0 ∨ i5 = 1 ∨ i5 = 2 ∨ i5 = 3 ∨ i5 = 4) with rfl | rfl | rfl | rfl | rfl
          · exact ⟨_, rfl, by decide⟩
          · exact ⟨_, rfl, by decide⟩
          · exact ⟨_, rfl, by decide⟩
          · exact ⟨_, rfl, by decide⟩
          · exact ⟨_, rfl, by decide⟩
        have HQP := Lib.hid hqp
        have hq9 : q.size ≤ maxLen := by
          have h1 := (pieceB_is hqp).2.1
          rw [Array.length_toList] at h1
          show q.data.size ≤ maxLen
          unfold maxLen
          omega
        obtain ⟨X7, hX7⟩ : ∃ X, X = w6.alloc (.cells #[.string ⟨#[97]⟩, .string ⟨#[122, 122]⟩, .string ⟨#[97, 98, 99]⟩, .string ⟨#[107, 101, 101, 112]⟩, .string ⟨#[104, 101, 108, 108, 111]⟩] 9) := ⟨_, rfl⟩
        have HBX7 := Lib.hid (show Below w6.heap.size w6 X7 by rw [hX7]; exact (Below.refl _ _).alloc (Nat.le_refl _) _)
        have z7 := lit_at w6 #[.string ⟨#[97]⟩, .string ⟨#[122, 122]⟩, .string ⟨#[97, 98, 99]⟩, .string ⟨#[107, 101, 101, 112]⟩, .string ⟨#[104, 101, 108, 108, 111]⟩] 9 i5 _ hq
        have HXE7 := Lib.hid hX7
        obtain ⟨y, hy⟩ : ∃ y : ByteArray, ⟨(padL q.data.toList).toArray⟩ = y := ⟨_, rfl⟩
        have HY := Lib.hid hy
        have HPO := Lib.hid (fun W' => padOf_any q W' hq9)
        unfold Padded at HPO
        rw [hy] at HPO
        obtain ⟨p0, p1⟩ := HSt.out w6 HB66.out
        clear hk hx hg c1 d1 hi5 hq hqp hX7 hy hq9
        go_wp2_with fail
        rw [← HXE7.out]
        refine (HPO.out X7).mono ?_
        rintro e w7 ⟨rfl, hb7⟩
        have HB7 := Lib.hid (bel2 HBX7.out hb7)
        obtain ⟨r0, r1⟩ := HSt.out w7 HB7.out
        obtain ⟨r2, r3⟩ := HC.out w7 HB7.out
        clear hb7 p0 p1 z7
        by_cases hyz : y = z
        · have hyz2 : (y.toList == z.toList) = true := by rw [hyz]; simp
          have HF := Lib.hid (HOK.out key w7 HB7.out)
          rw [HMO.out.ok] at HF
          clear hyz
          go_wp2_with fail
          refine HF.out.mono ?_
          rintro e w8 ⟨rfl, hb8⟩
          have HB8 := Lib.hid (bel2 HB6.out (bel2 HB7.out hb8))
          clear hb8
          go_wp2
          go_ret
          exact ⟨rfl, HB8.out⟩
        · have hyz2 : (y.toList == z.toList) = false := by
            refine beq_eq_false_iff_ne.2 fun h => hyz (toList_injF h)
          have HSP := Lib.hid (HMO.out.spoilt HX.out HQP.out (by rw [HY.out]; exact hyz))
          rw [HY.out] at HSP
          have HBI := Lib.hid (show Below w6.heap.size w6 w7 from HB7.out)
          have HPW := Lib.hid (fun (X : World) (hX : Below w7.heap.size w7 X) => (fun (j : Nat) (u : Value) (hu : (flat (ivals ml))[j]? = some u) => news_all (lp_next HP6.out (bel2 HB7.out hX)) j u hu))
          have HB8 := Lib.hid (show b8 < w7.heap.size by have := HT6.out.lt; have := HB7.out.size; omega)
          have hb8a := HB8.out
          have hb8c : b8 ≠ w7.heap.size := by omega
          have hb8d : b8 ≠ w7.heap.size + 1 := by omega
          clear hyz
          go_upto_region 12 with fail
          go_cut [14] from 90 to 96 (fun p wx => Copied w7 mn m ml p wx)
          case first =>
            go_wp2_with fail
            go_region_held3 (fun w' => w'.cell? ⟨b8, 0, none⟩ = some (.int .i64 mn) ∧ w'.cell? ⟨b8, 1, none⟩ = some (.slice (some ⟨g, off, none⟩) m c4)) ((refine ⟨?_, ?_⟩ <;> first | assumption | (apply cell_alI; assumption) | (refine cell_far (cell_far ?_ (by omega)) (by omega); assumption) | (refine cell_far (cell_far ?_ (by omega)) (by omega); apply cell_alI; assumption) | go_keep))
              (first
                | (refine step_append_r w7.heap.size _ (by rfl) _ _ 26 39 (by rfl) i0 _ 24 Tryz.underlying26 hi hz0 hz1 hz2 (by rfl) (by omega) (.slice (some ⟨w7.heap.size, 0, none⟩) 0 0) [] (by rfl) (own_e1 _ w7) (bel_al1 w7 _).size ⟨g, off, none⟩ m c4 (ivals ml) (by rfl) (by rw [ivals_length]; exact HM.out) (HPW.out _ (bel_al1 w7 _)) (ivals_ones ml) (by rw [ivals_length, HM.out]; simp; omega) ?_; intro v9 w9 ho9 hg9 hl9; rw [List.nil_append] at ho9; have HO9 := Lib.hid ho9; have HB79 := Lib.hid (bel_gb (bel_al1 w7 _) hg9 (bel_al1 w7 _).size (fun j hj => by cases hj; exact Nat.le_refl _)); clear ho9 hg9 hl9; obtain ⟨g9, c9, hv9, _⟩ := own_someP HO9.out (by rw [ivals_length, HM.out]; exact hm1); rw [ivals_length, HM.out] at hv9; subst hv9; obtain ⟨s0, s1⟩ := HSt.out w9 (bel2 HB7.out HB79.out); have hb89 : b8 ≠ w9.heap.size := by (have := HB79.out.size; have := HB8.out; omega))
                | (refine step_append_r w7.heap.size _ (by rfl) _ _ 26 39 (by rfl) i0 _ 24 Tryz.underlying26 hi hz0 hz1 hz2 (by rfl) (by omega) (.slice (some ⟨w7.heap.size, 0, none⟩) 0 0) [] (by rfl) (own_e2 _ w7 _) (bel_al2 w7 _ _).size ⟨g, off, none⟩ m c4 (ivals ml) (by rfl) (by rw [ivals_length]; exact HM.out) (HPW.out _ (bel_al2 w7 _ _)) (ivals_ones ml) (by rw [ivals_length, HM.out]; simp; omega) ?_; intro v9 w9 ho9 hg9 hl9; rw [List.nil_append] at ho9; have HO9 := Lib.hid ho9; have HB79 := Lib.hid (bel_gb (bel_al2 w7 _ _) hg9 (bel_al2 w7 _ _).size (fun j hj => by cases hj; exact Nat.le_refl _)); have HTB := Lib.hid ((two_e2 w7 _ _ _ _).keep hg9 (fun e => Nat.succ_ne_self _ (Option.some.inj e))); obtain ⟨g9, c9, hv9, _⟩ := own_someP HO9.out (by rw [ivals_length, HM.out]; exact hm1); rw [ivals_length, HM.out] at hv9; subst hv9; have HGB := Lib.hid (show g9 ≠ w7.heap.size + 1 by (rcases hl9 with h | h <;> (have h2 : g9 = _ := Option.some.inj h; simp [World.drew] at h2; omega))); clear ho9 hg9 hl9; obtain ⟨s0, s1⟩ := HSt.out w9 (bel2 HB7.out HB79.out); have k0 := HTB.out.c0; have k1 := HTB.out.c1; have k2 := HTB.out.f 0; have k3 := HTB.out.f 1)
                | (refine step_append_r w7.heap.size _ (by rfl) _ _ 26 39 (by rfl) i0 _ 24 Tryz.underlying26 hi hz0 hz1 hz2 (by rfl) (by omega) (.slice (some ⟨w7.heap.size + 1, 0, none⟩) 0 0) [] (by rfl) (own_e3 _ w7 _) (bel_al2 w7 _ _).size ⟨g, off, none⟩ m c4 (ivals ml) (by rfl) (by rw [ivals_length]; exact HM.out) (HPW.out _ (bel_al2 w7 _ _)) (ivals_ones ml) (by rw [ivals_length, HM.out]; simp; omega) ?_; intro v9 w9 ho9 hg9 hl9; rw [List.nil_append] at ho9; have HO9 := Lib.hid ho9; have HB79 := Lib.hid (bel_gb (bel_al2 w7 _ _) hg9 (bel_al2 w7 _ _).size (fun j hj => by cases hj; exact Nat.le_succ _)); have HTB := Lib.hid ((two_e3 w7 _ _ _ _).keep hg9 (fun e => Nat.succ_ne_self _ (Option.some.inj e).symm)); obtain ⟨g9, c9, hv9, _⟩ := own_someP HO9.out (by rw [ivals_length, HM.out]; exact hm1); rw [ivals_length, HM.out] at hv9; subst hv9; have HGB := Lib.hid (show g9 ≠ w7.heap.size by (rcases hl9 with h | h <;> (have h2 : g9 = _ := Option.some.inj h; simp [World.drew] at h2; omega))); clear ho9 hg9 hl9; obtain ⟨s0, s1⟩ := HSt.out w9 (bel2 HB7.out HB79.out); have k0 := HTB.out.c0; have k1 := HTB.out.c1; have k2 := HTB.out.f 0; have k3 := HTB.out.f 1))
            all_goals
              go_wp2_with fail
              go_meet
              first
                | exact copied_new HO9.out HB79.out
                | exact copied_old HO9.out HB79.out HTB.out HGB.out (Nat.le_refl _)
                | exact copied_old HO9.out HB79.out HTB.out HGB.out (Nat.le_succ _)
          case rest =>
            obtain ⟨b14, g9, c9, hu, hT, hO, hgb, hwb, hbl⟩ := hcut
            subst hu
            have HT := Lib.hid hT
            have HO := Lib.hid hO
            have hg9 : w7.heap.size ≤ g9 := (ownP_lt hO rfl).1
            have HG9 := Lib.hid hg9
            have HBc := Lib.hid (bel2 HB7.out hbl)
            obtain ⟨_, d1, _, d3⟩ := row_at HO.out HM.out HX.out
            have t0 := HT.out.c0
            have t1 := HT.out.c1
            obtain ⟨V, hV⟩ : ∃ V, V = wc.setCell ⟨g9, k * 2 + 1, none⟩ (.string y) := ⟨_, rfl⟩
            have HTV := Lib.hid (show Two V b14 28 (.int .i64 mn) (.slice (some ⟨g9, 0, none⟩) m c9) by rw [hV]; exact HT.out.keep (grown_setCell _ _ _ _) (fun e => hgb (Option.some.inj e).symm))
            have HOV := Lib.hid (show OwnP 39 w7.heap.size V (.slice (some ⟨g9, 0, none⟩) m c9) (ivals (ml.set k (x, y))) by rw [hV]; exact row_body y HO.out HM.out HX.out)
            have HBV := Lib.hid (show Below w6.heap.size w6 V by rw [hV]; exact HBc.out.setCell (by show w6.heap.size ≤ g9; have := HB7.out.size; omega) _)
            have HVE := Lib.hid hV
            have HSP2 := Lib.hid (show packB key mn (ml.set k (x, y)) = false ∧ getB key (ml.set k (x, y)) x = false from HSP.out)
            have hys : y.size ≤ 1048576 := by
              have h1 := padL_len8 q.data.toList
              rw [← HY.out, bar_size]
              omega
            have HSS := Lib.hid (show ∀ s ∈ ml.set k (x, y), s.2.size ≤ 1048576 from fun s hs => by
              rcases List.mem_or_eq_of_mem_set hs with hs | rfl
              · exact HMO.out.sizes s hs
              · exact hys)
            have HDV := Lib.hid (show Below V.heap.size V V.drew from ⟨rfl, rfl, rfl, Nat.le_refl _, fun _ _ => rfl⟩)
            have HGV := Lib.hid (packGet_any key mn x _ (ml.set k (x, y)) V.drew a0 a1 (HE6.out.below (bel2 HBV.out HDV.out)) (lp_of_own (ownP_below HOV.out HDV.out)) (by rw [List.length_set, HM.out]; omega) HSS.out)
            unfold Got at HGV
            rw [HSP2.out.2] at HGV
            have HOKV := Lib.hid (fun (X : World) (hX : Below V.heap.size V X) => packOk_any key mn _ (ml.set k (x, y)) X a0 a1 (HE6.out.below (bel2 HBV.out hX)) (lp_of_own (ownP_below HOV.out hX)) (by rw [List.length_set, HM.out]; omega) HSS.out)
            rw [HSP2.out.1] at HOKV
            have HStV := Lib.hid (fun (X : World) (hX : Below V.heap.size V X) => show X.cell? ⟨b14, 0, none⟩ = some (.int .i64 mn) ∧ X.cell? ⟨b14, 1, none⟩ = some (.slice (some ⟨g9, 0, none⟩) m c9) ∧ X.cell? ⟨b8, 1, none⟩ = some (.slice (some ⟨g, off, none⟩) m c4) ∧ X.cell? ⟨g, off + k * 2, none⟩ = some (.int .i64 x) from
              ⟨(HTV.out.keep (grown_of_bel hX none) (by simp)).c0, (HTV.out.keep (grown_of_bel hX none) (by simp)).c1, (HSt.out X (bel2 HBV.out hX)).2, (HC.out X (bel2 HBV.out hX)).1⟩)
            obtain ⟨y0, y1, y2, y3⟩ := HStV.out V (Below.refl _ _)
            clear hT hO hgb hwb hbl hg9 hV hys
            go_wp2_with fail
            rw [← HVE.out]
            go_region_held3 (fun w' => w'.cell? ⟨b14, 0, none⟩ = some (.int .i64 mn) ∧ w'.cell? ⟨b14, 1, none⟩ = some (.slice (some ⟨g9, 0, none⟩) m c9) ∧ w'.cell? ⟨b8, 1, none⟩ = some (.slice (some ⟨g, off, none⟩) m c4) ∧ w'.cell? ⟨g, off + k * 2, none⟩ = some (.int .i64 x)) ((refine ⟨?_, ?_, ?_, ?_⟩ <;> assumption))
              (first
                | (go_at_call 11; go_must (refine HGV.out.mono ?_); rintro e w10 ⟨rfl, hb10⟩; have HB10 := Lib.hid (bel2 HDV.out hb10); obtain ⟨s0, s1, s2, s3⟩ := HStV.out w10 HB10.out; clear hb10))
            go_wp2_with fail
            refine (HOKV.out w10 HB10.out).mono ?_
            rintro e w11 ⟨rfl, hb11⟩
            have HB11 := Lib.hid (bel2 HB6.out (bel2 HBV.out (bel2 HB10.out hb11)))
            clear hb11
            go_wp2
            go_ret
            exact ⟨rfl, HB11.out⟩
    · go_enter Tryz.func4, Tryz.ntmps4
      go_wp2_with fail
      go_ret
      exact ⟨rfl, Below.refl _ _⟩
  · go_enter Tryz.func4, Tryz.ntmps4
    go_wp2_with fail
    go_ret
    exact ⟨rfl, Below.refl _ _⟩
end
end Go.Proofs.YtkjginibdablnaaGreatDoor
