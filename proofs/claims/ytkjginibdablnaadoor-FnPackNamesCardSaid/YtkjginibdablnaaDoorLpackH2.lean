/- The law of a drawn pack's names. -/
import Derived.Test.YtkjginibdablnaaDoorDrawPack3
import Derived.Test.YtkjginibdablnaaDoorImplOk
import Derived.Test.YtkjginibdablnaaDoorPackN
import Derived.Test.YtkjginibdablnaaDoorPackLessS
import Derived.Deep.RegionHeld3
namespace Go.Proofs.YtkjginibdablnaaDoor
open Go.RowKit
theorem drew_belE {w w' : World} (h : ∃ n, w' = w.drewN n) : Below w.heap.size w w' := by
  obtain ⟨n, rfl⟩ := h
  exact ⟨rfl, rfl, rfl, Nat.le_refl _, fun _ _ => rfl⟩
theorem names_get {l : List Itm} {k : Nat} {s : Itm} (h : l[k]? = some s) : (names l)[k]? = some s.1 := by simp [names, h]
theorem packB_lt {key no : Int} {l : List Itm} {j : Nat} {x y : Itm} (h : packB key no l = true) (hx : l[j]? = some x) (hy : l[j + 1]? = some y) : x.1 < y.1 := by
  have h1 := okToI_of (packB_parts h).2.2.2 (List.getElem?_eq_some_iff.1 hy).1
  simp only [okI, hy, ordI, hx, Bool.and_eq_true, decide_eq_true_eq] at h1
  exact h1.2
section
set_option maxHeartbeats 3200000
set_option maxRecDepth 100000
theorem lawFnPackNames (a : Option Addr) (len cap : Nat) (zs : List Int) (w : World) (h : Code w a len cap zs) (a0 a1 : Addr) (he : Errs w a0 a1) :
    Calls Tryd.prog 6 #[.slice a len cap] w fun e w' => e = .returned (.bool true) ∧ Below w.heap.size w w' := by
  have HE := Lib.hid he
  clear he
  by_cases hlen : len ≤ 1048576
  · go_enter Tryd.func6, Tryd.ntmps6
    go_wp2_with fail
    refine (drawPackNames_any a len cap zs w h).mono ?_
    rintro e w1 ⟨no, v, l, rfl, hl, h1, h6, hsz, hb⟩
    obtain ⟨A, c, hv⟩ := lp_form hl
    subst hv
    rw [ivals_length] at *
    obtain ⟨n, hn⟩ : ∃ n, l.length = n := ⟨_, rfl⟩
    have HN := Lib.hid hn
    rw [hn] at hl h1 h6 ⊢
    have HSZ := Lib.hid (show ∀ s ∈ l, s.2.size ≤ 1048576 from fun s hs => by have := hsz s hs; omega)
    obtain ⟨W2, hW2⟩ : ∃ X, X = w1.alloc (.cells #[.int .i64 no, .slice A n c] 29) := ⟨_, rfl⟩
    have hb2 : Below w1.heap.size w1 W2 := by rw [hW2]; exact (Below.refl _ _).alloc (Nat.le_refl _) _
    have HT2 := Lib.hid (show Two W2 w1.heap.size 29 (.int .i64 no) (.slice A n c) by rw [hW2]; exact two_new _ _ _ _)
    have HL2 := Lib.hid (lp_next hl hb2)
    have HB2 := Lib.hid (bel2 hb hb2)
    have HW2 := Lib.hid hW2
    obtain ⟨b, hbb⟩ : ∃ b, w1.heap.size = b := ⟨_, rfl⟩
    rw [hbb] at HT2
    have HSt := Lib.hid (fun (X : World) (hX : Below W2.heap.size W2 X) => show X.cell? ⟨b, 0, none⟩ = some (.int .i64 no) ∧ X.cell? ⟨b, 1, none⟩ = some (.slice A n c) from
      ⟨(HT2.out.keep (grown_of_bel hX none) (by simp)).c0, (HT2.out.keep (grown_of_bel hX none) (by simp)).c1⟩)
    clear hl hsz hb hb2 hW2 hn h
    go_wp2_with fail
    rw [← HW2.out]
    clear hbb HW2
    refine (packNames_any W2 no _ l HL2.out (by rw [HN.out]; omega)).mono ?_
    rintro e w3 ⟨v3, rfl, ho3, hb3⟩
    obtain ⟨A3, c3, hv3⟩ := lst_form (lst_of_own ho3)
    subst hv3
    rw [intVals_length, names_length] at *
    have hn3 := HN.out
    rw [hn3] at ho3 ⊢
    clear hn3
    have HO3 := Lib.hid (lst_of_own ho3)
    have HB3 := Lib.hid hb3
    obtain ⟨p0, p1⟩ := HSt.out w3 hb3
    clear ho3 hb3
    go_wp2_with fail
    refine (packNamesS_any w3 no _ l (lp_next HL2.out HB3.out) (by rw [HN.out]; omega)).mono ?_
    rintro e w4 ⟨v4, rfl, ho4, hb4⟩
    have HB4 := Lib.hid (bel2 HB3.out hb4)
    have HO34 := Lib.hid (lst_next HO3.out hb4)
    have HO4 := Lib.hid (lst_of_own ho4)
    clear ho4 hb4 p0 p1
    go_wp2_with fail
    refine (ldInts_any w4 w4.heap.size _ _ (names l) (names l) HO34.out HO4.out (by rw [names_length, HN.out]; omega) (by rw [names_length, HN.out]; omega)).mono ?_
    rw [show decide (names l = names l) = true by simp]
    rintro e w5 ⟨rfl, hq⟩
    have HB45 := Lib.hid (drew_belE hq)
    have HB5 := Lib.hid (bel2 HB4.out HB45.out)
    have HN5 := Lib.hid (lst_next HO34.out HB45.out)
    clear hq HO3 HO34 HO4
    obtain ⟨pb, hpb⟩ : ∃ pb, packB 7 no l = pb := ⟨_, rfl⟩
    have HPB := Lib.hid hpb
    have HPK := Lib.hid (fun (X : World) (hX : Below W2.heap.size W2 X) => packOk_any 7 no _ l X a0 a1 (HE.out.below (bel2 HB2.out hX)) (lp_next HL2.out hX) (by rw [HN.out]; omega) HSZ.out)
    rw [hpb] at HPK
    clear hpb
    go_wp2_with fail
    go_loopw [5] (fun i wr => ∃ j : Nat, j ≤ n ∧ i = .int .i64 (j : Int) ∧ Below w5.heap.size w5 wr) (fun i _ => n - (intOf i).toNat)
    case atStart => exact ⟨0, Nat.zero_le _, rfl, Below.refl _ _⟩
    case round =>
      obtain ⟨j, hj, rfl, hb⟩ := hrel
      have HB := Lib.hid hb
      have HBr := Lib.hid (bel2 HB5.out hb)
      clear hb
      obtain ⟨p0, p1⟩ := HSt.out wr HBr.out
      by_cases hlt : j < n
      · obtain ⟨⟨x, y⟩, hx⟩ : ∃ s, l[j]? = some s := ⟨_, List.getElem?_eq_getElem (by have := HN.out; omega)⟩
        have HX := Lib.hid hx
        obtain ⟨g, off, hA, hg, c1, c2⟩ := lp_at HL2.out (ivals_get hx)
        obtain ⟨g3, off3, hA3, hg3, c3'⟩ := lst_at HN5.out (intVals_get _ _ _ (names_get hx))
        subst hA
        subst hA3
        have HC1 := Lib.hid c1
        have HC3 := Lib.hid c3'
        have HGg := Lib.hid (And.intro hg hg3)
        have hc1 := (HBr.out.cell (p := ⟨g, off + j * 2, none⟩) hg).trans c1
        have hc3 := (HB.out.cell (p := ⟨g3, off3 + j, none⟩) hg3).trans c3'
        have hi1 : (j : Int) < (n : Int) := by omega
        have hi0 : (0 : Int) ≤ (j : Int) := by omega
        have hxx : (x != x) = false := by simp
        clear hx c1 c2 c3' hg hg3
        rcases Nat.eq_zero_or_pos j with h0 | h0
        · have hdk : decide (0 < j) = false := decide_eq_false (by omega)
          clear h0
          go_wp2_with fail
          go_quiet (fail)
          go_wp2
          go_roundw
          case rel => exact ⟨j + 1, by omega, by go_num, below_drewN HB.out _⟩
          case measure => simp [intOf]; omega
        · obtain ⟨j', hj'⟩ : ∃ j', j = j' + 1 := ⟨j - 1, by omega⟩
          obtain ⟨⟨x', y'⟩, hx'⟩ : ∃ s, l[j']? = some s := ⟨_, List.getElem?_eq_getElem (by have := HN.out; omega)⟩
          obtain ⟨g4, off4, hA4, hg4, c4⟩ := lst_at HN5.out (intVals_get _ _ _ (names_get hx'))
          injection hA4 with hA4
          injection hA4 with hA4 hA5
          subst hA4
          subst hA5
          have HC4 := Lib.hid c4
          have hc4 := (HB.out.cell (p := ⟨g3, off3 + j', none⟩) hg4).trans c4
          have hw : IntKind.i64.wrap ((j : Int) - 1) = (j' : Int) := by rw [IntKind.wrap_i64]; omega
          have hm0 : (0 : Int) ≤ (j' : Int) := by omega
          have hmn : (j' : Int) < (n : Int) := by omega
          have hk0 : (0 : Int) < (j : Int) := by omega
          have hdk : decide (0 < j) = true := decide_eq_true h0
          have HX' := Lib.hid hx'
          have HJ := Lib.hid hj'
          have HDR := Lib.hid (show Below wr.heap.size wr wr.drew from ⟨rfl, rfl, rfl, Nat.le_refl _, fun _ _ => rfl⟩)
          clear c4 hx' hj' h0 hg4
          cases pb with
          | false =>
            go_wp2_with fail
            refine wp_region_noPanic ?_
            refine wp_region_held_drew (S := (fun w' => w'.cell? ⟨b, 0, none⟩ = some (.int .i64 no) ∧ w'.cell? ⟨b, 1, none⟩ = some (.slice (some ⟨g, off, none⟩) n c) ∧ w'.cell? ⟨g, off + j * 2, none⟩ = some (.int .i64 x) ∧ w'.cell? ⟨g3, off3 + j, none⟩ = some (.int .i64 x) ∧ w'.cell? ⟨g3, off3 + j', none⟩ = some (.int .i64 x'))) (by kernel_rfl) (by refine ⟨?_, ?_, ?_, ?_, ?_⟩ <;> assumption) (fun hHeld => ?_)
            refine wpAnyH_take (i := 0) (v := ?v0) rfl (by kernel_rfl) (by kernel_rfl) (by kernel_rfl) (fun _ _ _ h => h) (Or.inl ⟨by rfl, ?hy0⟩) hHeld ?rest0
            case hy0 => (intro w' hSw; (try dsimp only at hSw); go_simp; try with_reducible rfl)
            simp only [List.getElem_toArray, List.getElem_cons_zero, Act.put, List.setIfInBounds_toArray, List.set_cons_zero, List.set_cons_succ]
            refine wpAnyH_take (i := 1) (v := ?v1) rfl (by kernel_rfl) (by kernel_rfl) (by kernel_rfl) (fun _ _ _ h => h) (Or.inl ⟨by rfl, ?hy1⟩) hHeld ?rest1
            case hy1 => (intro w' hSw; (try dsimp only at hSw); go_simp; try with_reducible rfl)
            simp only [List.getElem_toArray, List.getElem_cons_succ, List.getElem_cons_zero, Act.put, List.setIfInBounds_toArray, List.set_cons_zero, List.set_cons_succ]
            refine wpAnyH_take (i := 2) (v := ?v2) rfl (by kernel_rfl) (by kernel_rfl) (by kernel_rfl) (fun _ _ _ h => h) (Or.inl ⟨by rfl, ?hy2⟩) hHeld ?rest2
            case hy2 => (intro w' hSw; (try dsimp only at hSw); go_simp; try with_reducible rfl)
            simp only [List.getElem_toArray, List.getElem_cons_succ, List.getElem_cons_zero, Act.put, List.setIfInBounds_toArray, List.set_cons_zero, List.set_cons_succ]
            refine wpAnyH_take (i := 3) (v := ?v3) rfl (by kernel_rfl) (by kernel_rfl) (by kernel_rfl) (fun _ _ _ h => h) (Or.inl ⟨by rfl, ?hy3⟩) hHeld ?rest3
            case hy3 => (intro w' hSw; (try dsimp only at hSw); go_simp; try with_reducible rfl)
            simp only [List.getElem_toArray, List.getElem_cons_succ, List.getElem_cons_zero, Act.put, List.setIfInBounds_toArray, List.set_cons_zero, List.set_cons_succ]
            refine wpAnyH_take (i := 4) (v := ?v4) rfl (by kernel_rfl) (by kernel_rfl) (by kernel_rfl) (fun _ _ _ h => h) (Or.inl ⟨by rfl, ?hy4⟩) hHeld ?rest4
            case hy4 => (intro w' hSw; (try dsimp only at hSw); go_simp; try with_reducible rfl)
            simp only [List.getElem_toArray, List.getElem_cons_succ, List.getElem_cons_zero, Act.put, List.setIfInBounds_toArray, List.set_cons_zero, List.set_cons_succ]
            refine wpAnyH_take (i := 5) (v := ?v5) rfl (by kernel_rfl) (by kernel_rfl) (by kernel_rfl) (fun _ _ _ h => h) (Or.inl ⟨by rfl, ?hy5⟩) hHeld ?rest5
            case hy5 => (intro w' hSw; (try dsimp only at hSw); go_simp; try with_reducible rfl)
            simp only [List.getElem_toArray, List.getElem_cons_succ, List.getElem_cons_zero, Act.put, List.setIfInBounds_toArray, List.set_cons_zero, List.set_cons_succ]
            refine wpAnyH_take (i := 6) (v := ?v6) rfl (by kernel_rfl) (by kernel_rfl) (by kernel_rfl) (fun _ _ _ h => h) (Or.inl ⟨by rfl, ?hy6⟩) hHeld ?rest6
            case hy6 => (intro w' hSw; (try dsimp only at hSw); go_simp; try with_reducible rfl)
            simp only [List.getElem_toArray, List.getElem_cons_succ, List.getElem_cons_zero, Act.put, List.setIfInBounds_toArray, List.set_cons_zero, List.set_cons_succ]
            refine wpAnyH_take (i := 7) (v := ?v7) rfl (by kernel_rfl) (by kernel_rfl) (by kernel_rfl) (fun _ _ _ h => h) (Or.inl ⟨by rfl, ?hy7⟩) hHeld ?rest7
            case hy7 => (intro w' hSw; (try dsimp only at hSw); go_simp; try with_reducible rfl)
            simp only [List.getElem_toArray, List.getElem_cons_succ, List.getElem_cons_zero, Act.put, List.setIfInBounds_toArray, List.set_cons_zero, List.set_cons_succ]
            refine wpAnyH_take (i := 8) (v := ?v8) rfl (by kernel_rfl) (by kernel_rfl) (by kernel_rfl) (fun _ _ _ h => h) (Or.inl ⟨by rfl, ?hy8⟩) hHeld ?rest8
            case hy8 => (intro w' hSw; (try dsimp only at hSw); go_simp; try with_reducible rfl)
            simp only [List.getElem_toArray, List.getElem_cons_succ, List.getElem_cons_zero, Act.put, List.setIfInBounds_toArray, List.set_cons_zero, List.set_cons_succ]
            refine wpAnyH_take (i := 9) (v := ?v9) rfl (by kernel_rfl) (by kernel_rfl) (by kernel_rfl) (fun _ _ _ h => h) (Or.inl ⟨by rfl, ?hy9⟩) hHeld ?rest9
            case hy9 => (intro w' hSw; (try dsimp only at hSw); go_simp; try with_reducible rfl)
            simp only [List.getElem_toArray, List.getElem_cons_succ, List.getElem_cons_zero, Act.put, List.setIfInBounds_toArray, List.set_cons_zero, List.set_cons_succ]
            refine wpAnyH_take (i := 10) (v := ?v10) rfl (by kernel_rfl) (by kernel_rfl) (by kernel_rfl) (fun _ _ _ h => h) (Or.inl ⟨by rfl, ?hy10⟩) hHeld ?rest10
            case hy10 => (intro w' hSw; (try dsimp only at hSw); go_simp; try with_reducible rfl)
            simp only [List.getElem_toArray, List.getElem_cons_succ, List.getElem_cons_zero, Act.put, List.setIfInBounds_toArray, List.set_cons_zero, List.set_cons_succ]
            refine wpAnyH_take (i := 11) (v := ?v11) rfl (by kernel_rfl) (by kernel_rfl) (by kernel_rfl) (fun _ _ _ h => h) (Or.inl ⟨by rfl, ?hy11⟩) hHeld ?rest11
            case hy11 => (intro w' hSw; (try dsimp only at hSw); go_simp; try with_reducible rfl)
            simp only [List.getElem_toArray, List.getElem_cons_succ, List.getElem_cons_zero, Act.put, List.setIfInBounds_toArray, List.set_cons_zero, List.set_cons_succ]
            refine wpAnyH_take (i := 12) (v := ?v12) rfl (by kernel_rfl) (by kernel_rfl) (by kernel_rfl) (fun _ _ _ h => h) (Or.inl ⟨by rfl, ?hy12⟩) hHeld ?rest12
            case hy12 => (intro w' hSw; (try dsimp only at hSw); go_simp; try with_reducible rfl)
            simp only [List.getElem_toArray, List.getElem_cons_succ, List.getElem_cons_zero, Act.put, List.setIfInBounds_toArray, List.set_cons_zero, List.set_cons_succ]
            refine wpAnyH_take (i := 13) (v := ?v13) rfl (by kernel_rfl) (by kernel_rfl) (by kernel_rfl) (fun _ _ _ h => h) (Or.inl ⟨by rfl, ?hy13⟩) hHeld ?rest13
            case hy13 => (intro w' hSw; (try dsimp only at hSw); go_simp; try with_reducible rfl)
            simp only [List.getElem_toArray, List.getElem_cons_succ, List.getElem_cons_zero, Act.put, List.setIfInBounds_toArray, List.set_cons_zero, List.set_cons_succ]
            refine wpAnyH_take (i := 14) (v := ?v14) rfl (by kernel_rfl) (by kernel_rfl) (by kernel_rfl) (fun _ _ _ h => h) (Or.inl ⟨by rfl, ?hy14⟩) hHeld ?rest14
            case hy14 => (intro w' hSw; (try dsimp only at hSw); go_simp; try with_reducible rfl)
            simp only [List.getElem_toArray, List.getElem_cons_succ, List.getElem_cons_zero, Act.put, List.setIfInBounds_toArray, List.set_cons_zero, List.set_cons_succ]
            refine wpAnyH_take (i := 15) (v := ?v15) rfl (by kernel_rfl) (by kernel_rfl) (by kernel_rfl) (fun _ _ _ h => h) (Or.inl ⟨by rfl, ?hy15⟩) hHeld ?rest15
            case hy15 => (intro w' hSw; (try dsimp only at hSw); go_simp; try with_reducible rfl)
            simp only [List.getElem_toArray, List.getElem_cons_succ, List.getElem_cons_zero, Act.put, List.setIfInBounds_toArray, List.set_cons_zero, List.set_cons_succ]
            refine wpAnyH_ready (rs := [16]) (by kernel_rfl) (by simp) ?_
            refine AllReadyH.cons rfl (fun K hK => ?_) AllReadyH.nil
            go_simp
            refine (HPK.out wr.drew (bel2 HBr.out HDR.out)).mono ?_
            rintro e w6 ⟨rfl, hb6⟩
            have HB6 := Lib.hid (bel2 HDR.out hb6)
            obtain ⟨s0, s1⟩ := HSt.out w6 (bel2 HBr.out HB6.out)
            have s2 := ((bel2 HBr.out HB6.out).cell (p := ⟨g, off + j * 2, none⟩) HGg.out.1).trans HC1.out
            have s3 := ((bel2 HB.out HB6.out).cell (p := ⟨g3, off3 + j, none⟩) HGg.out.2).trans HC3.out
            have s4 := ((bel2 HB.out HB6.out).cell (p := ⟨g3, off3 + j', none⟩) HGg.out.2).trans HC4.out
            clear hb6
            go_wp2_with fail
            refine hK.out _ _ ⟨s0, s1, s2, s3, s4⟩ (fun hHeld2 => ?_)
            clear hK K
            refine wpAnyH_take (i := 17) (v := ?v17) rfl (by kernel_rfl) (by kernel_rfl) (by kernel_rfl) (fun _ _ _ h => h) (Or.inl ⟨by rfl, ?hy17⟩) hHeld2 ?rest17
            case hy17 => (intro w' hSw; (try dsimp only at hSw); go_simp; try with_reducible rfl)
            simp only [List.getElem_toArray, List.getElem_cons_succ, List.getElem_cons_zero, Act.put, List.setIfInBounds_toArray, List.set_cons_zero, List.set_cons_succ]
            refine wpAnyH_take (i := 18) (v := ?v18) rfl (by kernel_rfl) (by kernel_rfl) (by kernel_rfl) (fun _ _ _ h => h) (Or.inl ⟨by rfl, ?hy18⟩) hHeld2 ?rest18
            case hy18 => (intro w' hSw; (try dsimp only at hSw); go_simp; try with_reducible rfl)
            simp only [List.getElem_toArray, List.getElem_cons_succ, List.getElem_cons_zero, Act.put, List.setIfInBounds_toArray, List.set_cons_zero, List.set_cons_succ]
            refine wpAnyH_take (i := 19) (v := undef) rfl (by kernel_rfl) (by kernel_rfl) (by kernel_rfl) (fun _ _ _ h => h) (Or.inr ⟨by rfl, rfl⟩) hHeld2 ?_
            simp only [List.getElem_toArray, List.getElem_cons_succ, List.getElem_cons_zero, Act.put, List.setIfInBounds_toArray, List.set_cons_zero, List.set_cons_succ]
            refine wpAnyH_take (i := 20) (v := undef) rfl (by kernel_rfl) (by kernel_rfl) (by kernel_rfl) (fun _ _ _ h => h) (Or.inr ⟨by rfl, rfl⟩) hHeld2 ?_
            simp only [List.getElem_toArray, List.getElem_cons_succ, List.getElem_cons_zero, Act.put, List.setIfInBounds_toArray, List.set_cons_zero, List.set_cons_succ]
            refine wpAnyH_take (i := 21) (v := undef) rfl (by kernel_rfl) (by kernel_rfl) (by kernel_rfl) (fun _ _ _ h => h) (Or.inr ⟨by rfl, rfl⟩) hHeld2 ?_
            simp only [List.getElem_toArray, List.getElem_cons_succ, List.getElem_cons_zero, Act.put, List.setIfInBounds_toArray, List.set_cons_zero, List.set_cons_succ]
            refine wpAnyH_take (i := 22) (v := undef) rfl (by kernel_rfl) (by kernel_rfl) (by kernel_rfl) (fun _ _ _ h => h) (Or.inr ⟨by rfl, rfl⟩) hHeld2 ?_
            simp only [List.getElem_toArray, List.getElem_cons_succ, List.getElem_cons_zero, Act.put, List.setIfInBounds_toArray, List.set_cons_zero, List.set_cons_succ]
            refine wpAnyH_take (i := 23) (v := undef) rfl (by kernel_rfl) (by kernel_rfl) (by kernel_rfl) (fun _ _ _ h => h) (Or.inr ⟨by rfl, rfl⟩) hHeld2 ?_
            simp only [List.getElem_toArray, List.getElem_cons_succ, List.getElem_cons_zero, Act.put, List.setIfInBounds_toArray, List.set_cons_zero, List.set_cons_succ]
            refine wpAnyH_take (i := 24) (v := undef) rfl (by kernel_rfl) (by kernel_rfl) (by kernel_rfl) (fun _ _ _ h => h) (Or.inr ⟨by rfl, rfl⟩) hHeld2 ?_
            simp only [List.getElem_toArray, List.getElem_cons_succ, List.getElem_cons_zero, Act.put, List.setIfInBounds_toArray, List.set_cons_zero, List.set_cons_succ]
            refine wpAnyH_take (i := 25) (v := undef) rfl (by kernel_rfl) (by kernel_rfl) (by kernel_rfl) (fun _ _ _ h => h) (Or.inr ⟨by rfl, rfl⟩) hHeld2 ?_
            simp only [List.getElem_toArray, List.getElem_cons_succ, List.getElem_cons_zero, Act.put, List.setIfInBounds_toArray, List.set_cons_zero, List.set_cons_succ]
            refine wpAnyH_take (i := 26) (v := undef) rfl (by kernel_rfl) (by kernel_rfl) (by kernel_rfl) (fun _ _ _ h => h) (Or.inr ⟨by rfl, rfl⟩) hHeld2 ?_
            simp only [List.getElem_toArray, List.getElem_cons_succ, List.getElem_cons_zero, Act.put, List.setIfInBounds_toArray, List.set_cons_zero, List.set_cons_succ]
            refine wpAnyH_take (i := 27) (v := undef) rfl (by kernel_rfl) (by kernel_rfl) (by kernel_rfl) (fun _ _ _ h => h) (Or.inr ⟨by rfl, rfl⟩) hHeld2 ?_
            simp only [List.getElem_toArray, List.getElem_cons_succ, List.getElem_cons_zero, Act.put, List.setIfInBounds_toArray, List.set_cons_zero, List.set_cons_succ]
            refine wpAnyH_take (i := 28) (v := undef) rfl (by kernel_rfl) (by kernel_rfl) (by kernel_rfl) (fun _ _ _ h => h) (Or.inr ⟨by rfl, rfl⟩) hHeld2 ?_
            simp only [List.getElem_toArray, List.getElem_cons_succ, List.getElem_cons_zero, Act.put, List.setIfInBounds_toArray, List.set_cons_zero, List.set_cons_succ]
            refine wpAnyH_take (i := 29) (v := ?v29) rfl (by kernel_rfl) (by kernel_rfl) (by kernel_rfl) (fun _ _ _ h => h) (Or.inl ⟨by rfl, ?hy29⟩) hHeld2 ?rest29
            case hy29 => (intro w' hSw; (try dsimp only at hSw); go_simp; try with_reducible rfl)
            simp only [List.getElem_toArray, List.getElem_cons_succ, List.getElem_cons_zero, Act.put, List.setIfInBounds_toArray, List.set_cons_zero, List.set_cons_succ]
            refine wpAnyH_take (i := 30) (v := ?v30) rfl (by kernel_rfl) (by kernel_rfl) (by kernel_rfl) (fun _ _ _ h => h) (Or.inl ⟨by rfl, ?hy30⟩) hHeld2 ?rest30
            case hy30 => (intro w' hSw; (try dsimp only at hSw); go_simp; try with_reducible rfl)
            simp only [List.getElem_toArray, List.getElem_cons_succ, List.getElem_cons_zero, Act.put, List.setIfInBounds_toArray, List.set_cons_zero, List.set_cons_succ]
            refine wpAnyH_done (by kernel_rfl) ?_ _
            refine NoPanic.normal ?_
            go_wp2
            go_roundw
            case rel => exact ⟨j + 1, by omega, by go_num, bel2 HB.out HB6.out⟩
            case measure => simp [intOf]; omega
          | true =>
            have hltx : x' < x := by
              have h1 := HX.out
              rw [HJ.out] at h1
              exact packB_lt HPB.out HX'.out h1
            have hd : decide (x ≤ x') = false := decide_eq_false (by omega)
            go_wp2_with fail
            go_region_held3 (fun w' => w'.cell? ⟨b, 0, none⟩ = some (.int .i64 no) ∧ w'.cell? ⟨b, 1, none⟩ = some (.slice (some ⟨g, off, none⟩) n c) ∧ w'.cell? ⟨g, off + j * 2, none⟩ = some (.int .i64 x) ∧ w'.cell? ⟨g3, off3 + j, none⟩ = some (.int .i64 x) ∧ w'.cell? ⟨g3, off3 + j', none⟩ = some (.int .i64 x')) ((refine ⟨?_, ?_, ?_, ?_, ?_⟩ <;> assumption))
              (first
                | (go_at_call 13; go_must (refine (HPK.out wr.drew (bel2 HBr.out HDR.out)).mono ?_); rintro e w6 ⟨rfl, hb6⟩; have HB6 := Lib.hid (bel2 HDR.out hb6); obtain ⟨s0, s1⟩ := HSt.out w6 (bel2 HBr.out HB6.out); have s2 := ((bel2 HBr.out HB6.out).cell (p := ⟨g, off + j * 2, none⟩) HGg.out.1).trans HC1.out; have s3 := ((bel2 HB.out HB6.out).cell (p := ⟨g3, off3 + j, none⟩) HGg.out.2).trans HC3.out; have s4 := ((bel2 HB.out HB6.out).cell (p := ⟨g3, off3 + j', none⟩) HGg.out.2).trans HC4.out; clear hb6))
            go_wp2
            go_roundw
            case rel => exact ⟨j + 1, by omega, by go_num, bel2 HB.out HB6.out⟩
            case measure => simp [intOf]; omega
      · have hnn : ((n : Int) == (n : Int)) = true := by simp
        go_wp2
        go_ret
        exact ⟨rfl, bel2 HB2.out HBr.out⟩
  · go_enter Tryd.func6, Tryd.ntmps6
    go_wp2_with fail
    go_ret
    exact ⟨rfl, Below.refl _ _⟩
end
end Go.Proofs.YtkjginibdablnaaDoor
