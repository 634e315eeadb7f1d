/- Packs in the reference: made of pieces, and whether one is right. -/
import Derived.Test.YtkjginibdablnaaDoorPut
import Derived.Test.YtkjginibdablnaaDoorPackV
namespace Go.Proofs.YtkjginibdablnaaDoor
open Go.RowKit
def itemOf (k : Nat) (s : ByteArray) : Itm := (((nameN k s.data.toList : Nat) : Int), ⟨(padL s.data.toList).toArray⟩)
def makeI (k : Nat) (ps : List ByteArray) : List Itm := ps.foldl (fun l p => putI l (itemOf k p)) []
def rightB (k : Nat) (x : Itm) : Bool := backOk x.2.data.toList && decide (((nameN k (backT x.2.data.toList) : Nat) : Int) = x.1)
def ordI (l : List Itm) (i : Nat) (x : Itm) : Bool := match i with
  | 0 => true
  | j + 1 => match l[j]? with
    | some y => decide (y.1 < x.1)
    | none => true
def okI (k : Nat) (l : List Itm) (i : Nat) : Bool := match l[i]? with
  | some x => rightB k x && ordI l i x
  | none => true
def okToI (k : Nat) (l : List Itm) : Nat → Bool
  | 0 => true
  | i + 1 => okToI k l i && okI k l i
def packB (key no : Int) (l : List Itm) : Bool := decide (1 ≤ no ∧ no ≤ 99) && (keyB key && (decide (1 ≤ l.length ∧ l.length ≤ 4) && okToI key.toNat l l.length))
theorem okToI_of {k : Nat} {l : List Itm} : ∀ {n i : Nat}, okToI k l n = true → i < n → okI k l i = true
  | n + 1, i, h, hi => by
    simp only [okToI, Bool.and_eq_true] at h
    by_cases e : i = n
    · subst e; exact h.2
    · exact okToI_of h.1 (by omega)
theorem okToI_no {k : Nat} {l : List Itm} : ∀ {n i : Nat}, i < n → okI k l i = false → okToI k l n = false
  | n + 1, i, hi, h => by
    simp only [okToI]
    by_cases e : i = n
    · subst e; rw [h, Bool.and_false]
    · rw [okToI_no (show i < n by omega) h, Bool.false_and]
theorem okToI_all {k : Nat} {l : List Itm} : ∀ {n : Nat}, (∀ i, i < n → okI k l i = true) → okToI k l n = true
  | 0, _ => rfl
  | n + 1, h => by
    simp only [okToI, Bool.and_eq_true]
    exact ⟨okToI_all fun i hi => h i (by omega), h n (by omega)⟩
theorem okI_right {k i : Nat} {l : List Itm} {x : Itm} (h : l[i]? = some x) (hr : rightB k x = false) : okI k l i = false := by simp [okI, h, hr]
theorem okI_less {k j : Nat} {l : List Itm} {x y : Itm} (h : l[j + 1]? = some x) (hy : l[j]? = some y) (hr : decide (y.1 < x.1) = false) : okI k l (j + 1) = false := by
  simp only [okI, h, ordI, hy, hr, Bool.and_false]
theorem okI_zero {k : Nat} {l : List Itm} {x : Itm} (h : l[0]? = some x) (hr : rightB k x = true) : okI k l 0 = true := by simp [okI, h, hr, ordI]
theorem okI_next {k j : Nat} {l : List Itm} {x y : Itm} (h : l[j + 1]? = some x) (hy : l[j]? = some y) (hx : rightB k x = true) (hr : decide (y.1 < x.1) = true) : okI k l (j + 1) = true := by
  simp only [okI, h, ordI, hy, hr, hx, Bool.and_true]
theorem packB_no {key no : Int} {l : List Itm} (h : decide (1 ≤ no ∧ no ≤ 99) = false) : packB key no l = false := by simp only [packB, h, Bool.false_and]
theorem packB_key {key no : Int} {l : List Itm} (h : keyB key = false) : packB key no l = false := by simp only [packB, h, Bool.false_and, Bool.and_false]
theorem packB_len {key no : Int} {l : List Itm} (h : decide (1 ≤ l.length ∧ l.length ≤ 4) = false) : packB key no l = false := by simp only [packB, h, Bool.false_and, Bool.and_false]
theorem packB_item {key no : Int} {l : List Itm} {i : Nat} (hi : i < l.length) (h : okI key.toNat l i = false) : packB key no l = false := by simp only [packB, okToI_no hi h, Bool.and_false]
theorem packB_all {key no : Int} {l : List Itm} (h1 : decide (1 ≤ no ∧ no ≤ 99) = true) (h2 : keyB key = true) (h3 : decide (1 ≤ l.length ∧ l.length ≤ 4) = true) (h4 : okToI key.toNat l l.length = true) : packB key no l = true := by simp only [packB, h1, h2, h3, h4, Bool.and_true]
theorem packB_parts {key no : Int} {l : List Itm} (h : packB key no l = true) : (1 ≤ no ∧ no ≤ 99) ∧ keyB key = true ∧ (1 ≤ l.length ∧ l.length ≤ 4) ∧ okToI key.toNat l l.length = true := by
  simp only [packB, Bool.and_eq_true, decide_eq_true_eq] at h
  exact ⟨h.1, h.2.1, h.2.2.1, h.2.2.2⟩
theorem quiet_zero {P : Program} {f : FuncId} {args : Array Value} {w : World} {n : Nat} {v : Value}
    (h : ∀ W : World, Calls P f args W fun e w' => e = .returned v ∧ W = w') :
    Calls P f args (w.drewN n) fun e w'' => e = .returned v ∧ ∃ m, w'' = w.drewN m :=
  (h _).mono fun _ _ ⟨he, hm⟩ => ⟨he, n, hm.symm⟩
theorem backOk_piece {l : List UInt8} (h : backOk l = true) : pieceB (backT l) = true := by
  rw [backT_yes h]
  simp only [backOk, Bool.and_eq_true] at h
  exact h.1
section
set_option maxHeartbeats 1600000
theorem l3Right_any (k : Nat) (a : Int) (b : ByteArray) (w : World) (hk : k ≤ 99) (hs : b.size ≤ 1048576) :
    Calls Tryd.prog 33 #[.int .i64 (k : Int), .agg #[.int .i64 a, .string b]] w fun e w' => e = .returned (.bool (rightB k (a, b))) ∧ ∃ n, w' = (w.alloc (.cells #[.int .i64 a, .string b] 40)).drewN n := by
  obtain ⟨W, hW⟩ : ∃ W, W = w.alloc (.cells #[.int .i64 a, .string b] 40) := ⟨_, rfl⟩
  obtain ⟨q1, q2⟩ := box_cellsI w W (.int .i64 a) (.string b) 40 (by rw [hW]; exact Below.refl _ _)
  have HP := Lib.hid (padBackSE_any b W hs)
  have HPc := Lib.hid (backOk_piece (l := b.data.toList))
  obtain ⟨t, ht⟩ : ∃ t : ByteArray, t = ⟨(backT b.data.toList).toArray⟩ := ⟨_, rfl⟩
  have HT := Lib.hid ht
  have HTL := Lib.hid (show t.data.toList = backT b.data.toList by rw [ht])
  have HR := Lib.hid (show rightB k (a, b) = (backOk b.data.toList && decide (((nameN k (backT b.data.toList) : Nat) : Int) = a)) from rfl)
  obtain ⟨o, ho⟩ : ∃ o, backOk b.data.toList = o := ⟨_, rfl⟩
  unfold Back at HP
  rw [ho] at HR HP HPc
  clear ht ho
  cases o with
  | false =>
    go_enter Tryd.func33, Tryd.ntmps33
    go_wp2_with fail
    rw [← hW]
    refine HP.out.mono ?_
    rintro e w' ⟨⟨rfl, _⟩, rfl⟩
    rw [← HT.out]
    go_wp2_with fail
    go_quiet (fail)
    go_wp2
    go_ret
    exact ⟨ret_bool (by rw [HR.out]; rfl), _, rfl⟩
  | true =>
    have HN := Lib.hid (fun W => l2Name_any k t W hk (by rw [HTL.out]; exact HPc.out rfl))
    rw [HTL.out] at HN
    generalize nameN k (backT b.data.toList) = z at HN HR
    by_cases hz : (z : Int) = a
    · have hzz : ((z : Int) == a) = true := beq_iff_eq.2 hz
      have HR2 := Lib.hid (show rightB k (a, b) = true by rw [HR.out, Bool.true_and]; exact decide_eq_true hz)
      clear hz
      go_enter Tryd.func33, Tryd.ntmps33
      go_wp2_with fail
      rw [← hW]
      refine HP.out.mono ?_
      rintro e w' ⟨⟨rfl, _⟩, rfl⟩
      rw [← HT.out]
      go_wp2_with fail
      go_quiet ((go_at_call 59; exact quiet_zero HN.out))
      go_wp2
      go_ret
      exact ⟨ret_bool HR2.out.symm, _, rfl⟩
    · have hzz : ((z : Int) == a) = false := beq_eq_false_iff_ne.2 hz
      have HR2 := Lib.hid (show rightB k (a, b) = false by rw [HR.out, Bool.true_and]; exact decide_eq_false hz)
      clear hz
      go_enter Tryd.func33, Tryd.ntmps33
      go_wp2_with fail
      rw [← hW]
      refine HP.out.mono ?_
      rintro e w' ⟨⟨rfl, _⟩, rfl⟩
      rw [← HT.out]
      go_wp2_with fail
      go_quiet ((go_at_call 59; exact quiet_zero HN.out))
      go_wp2
      go_ret
      exact ⟨ret_bool HR2.out.symm, _, rfl⟩
theorem l3Right_is (k : Nat) (a : Int) (b : ByteArray) (v : Bool) (h : rightB k (a, b) = v) (hk : k ≤ 99) (hs : b.size ≤ 1048576) (w : World) (n : Nat) (os : Array Obj) :
    Calls Tryd.prog 33 #[.int .i64 (k : Int), .agg #[.int .i64 a, .string b]] (Sort.grow (w.drewN n) os) fun e w'' => e = .returned (.bool v) ∧ ∃ p : GrownBy, w'' = Sort.grow (w.drewN p.n) p.os :=
  Calls.grown_of ((l3Right_any k a b _ hk hs).mono fun _ _ ⟨he, q, hq⟩ => ⟨by rw [he, h], q, #[.cells #[.int .i64 a, .string b] 40], by rw [hq, ← Sort.alloc_eq_grow]; rfl⟩)
theorem packOkS_any (key no : Int) (v : Value) (l : List Itm) (w : World) (hl : Lp w w.heap.size v (ivals l)) (hn : l.length ≤ 1048600) (hs : ∀ s ∈ l, s.2.size ≤ 1048576) :
    Calls Tryd.prog 11 #[.int .i64 key, packV no v] w fun e w' => e = .returned (.bool (packB key no l)) ∧ Below w.heap.size w w' := by
  obtain ⟨A, c, hv⟩ := lp_form hl
  subst hv
  rw [ivals_length] at *
  obtain ⟨W, hW⟩ : ∃ W, W = w.alloc (.cells #[.int .i64 no, .slice A l.length c] 29) := ⟨_, rfl⟩
  have HWs := Lib.hid (show W.heap.size = w.heap.size + 1 by rw [hW]; simp)
  have HBW := Lib.hid (show Below w.heap.size w W by rw [hW]; exact (Below.refl _ _).alloc (Nat.le_refl _) _)
  have HBX := Lib.hid (show ∀ X, Below W.heap.size W X → X.cell? ⟨w.heap.size, 0, none⟩ = some (.int .i64 no) ∧ X.cell? ⟨w.heap.size, 1, none⟩ = some (.slice A l.length c) from fun X hX => box_cellsI w X _ _ 29 (by rw [← hW, ← HWs.out]; exact hX))
  have HL := Lib.hid (lp_next hl HBW.out)
  have HSZ := Lib.hid hs
  clear hs hl
  obtain ⟨n, hnn⟩ : ∃ n, l.length = n := ⟨_, rfl⟩
  have HN := Lib.hid hnn
  rw [hnn] at hn HBX HL
  have HW := Lib.hid (show w.alloc (.cells #[.int .i64 no, .slice A n c] 29) = W by rw [hW, hnn])
  clear hW
  obtain ⟨q0, q1⟩ := HBX.out W (Below.refl _ _)
  rw [hnn]
  clear hnn
  have mixed := mixedO
  cases h1 : decide (1 ≤ no ∧ no ≤ 99) with
  | false =>
    have HF := Lib.hid (packB_no (key := key) (l := l) h1)
    have H1 := Lib.hid h1
    clear h1
    go_enter Tryd.func11, Tryd.ntmps11
    go_wp2_with (first | (go_at_call 31; go_must (rw [HW.out]); refine (l6In_any _ _ _ _).mono ?_; rintro e w' ⟨rfl, rfl⟩; rw [H1.out]))
    go_ret
    exact ⟨ret_bool HF.out.symm, HBW.out⟩
  | true =>
    have H1 := Lib.hid h1
    clear h1
    cases h2 : keyB key with
    | false =>
      have HF := Lib.hid (packB_key (no := no) (l := l) h2)
      have H2 := Lib.hid h2
      clear h2
      go_enter Tryd.func11, Tryd.ntmps11
      go_wp2_with (first | (go_at_call 31; go_must (rw [HW.out]); refine (l6In_any _ _ _ _).mono ?_; rintro e w' ⟨rfl, rfl⟩; rw [H1.out]) | (go_at_call 32; refine (l2Key_any _ _).mono ?_; rintro e w' ⟨rfl, rfl⟩; rw [H2.out]))
      go_ret
      exact ⟨ret_bool HF.out.symm, HBW.out⟩
    | true =>
      have H2 := Lib.hid h2
      obtain ⟨kk, rfl⟩ : ∃ k : Nat, key = (k : Int) := ⟨key.toNat, by have := keyB_iff.1 h2; omega⟩
      have hk9 : kk ≤ 99 := by have := keyB_iff.1 h2; omega
      clear h2
      cases h3 : decide (1 ≤ (n : Int) ∧ (n : Int) ≤ 4) with
      | false =>
        have HF := Lib.hid (packB_len (key := (kk : Int)) (no := no) (l := l) (by rw [HN.out, ← h3]; congr 1; simp; omega))
        have H3 := Lib.hid h3
        clear h3
        go_enter Tryd.func11, Tryd.ntmps11
        go_wp2_with (first | (go_at_call 31; first | (rw [HW.out]; refine (l6In_any _ _ _ _).mono ?_; rintro e w' ⟨rfl, rfl⟩; rw [H1.out]) | (refine (l6In_any _ _ _ _).mono ?_; rintro e w' ⟨rfl, rfl⟩; rw [H3.out])) | (go_at_call 32; refine (l2Key_any _ _).mono ?_; rintro e w' ⟨rfl, rfl⟩; rw [H2.out]))
        go_ret
        exact ⟨ret_bool HF.out.symm, HBW.out⟩
      | true =>
        have H3 := Lib.hid h3
        have HPA := Lib.hid (fun h4 => packB_all (key := (kk : Int)) (no := no) (l := l) H1.out H2.out (by rw [HN.out]; have := of_decide_eq_true h3; exact decide_eq_true (by omega)) h4)
        rw [Int.toNat_natCast] at HPA
        have HPN := Lib.hid (fun (i : Nat) hi h => packB_item (key := (kk : Int)) (no := no) (l := l) (i := i) hi (by rw [Int.toNat_natCast]; exact h))
        clear h3
        go_enter Tryd.func11, Tryd.ntmps11
        go_wp2_with (first | (go_at_call 31; first | (rw [HW.out]; refine (l6In_any _ _ _ _).mono ?_; rintro e w' ⟨rfl, rfl⟩; rw [H1.out]) | (refine (l6In_any _ _ _ _).mono ?_; rintro e w' ⟨rfl, rfl⟩; rw [H3.out])) | (go_at_call 32; refine (l2Key_any _ _).mono ?_; rintro e w' ⟨rfl, rfl⟩; rw [H2.out]))
        clear q0 q1
        go_loopw [5] (fun i wr => ∃ j : Nat, j ≤ n ∧ i = .int .i64 (j : Int) ∧ okToI kk l j = true ∧ Below W.heap.size W wr) (fun i _ => n - (intOf i).toNat)
        case atStart => exact ⟨0, Nat.zero_le _, rfl, rfl, Below.refl _ _⟩
        case round =>
          obtain ⟨j, hj, rfl, ht, hb⟩ := hrel
          have HT := Lib.hid ht
          have HB := Lib.hid hb
          clear ht hb
          obtain ⟨_, q1⟩ := HBX.out wr HB.out
          by_cases hlt : j < n
          · obtain ⟨⟨a, b⟩, hs⟩ : ∃ s, l[j]? = some s := ⟨_, List.getElem?_eq_getElem (by have := HN.out; omega)⟩
            obtain ⟨g, off, hA, hg, c1, c2⟩ := lp_at HL.out (ivals_get hs)
            subst hA
            have HS := Lib.hid hs
            have HKL := Lib.hid (show j < l.length by rw [HN.out]; exact hlt)
            have hsz := HB.out.size
            have hws := HWs.out
            have hc1 := cell_grown (a := ⟨g, off + j * 2, none⟩) (show g < wr.heap.size by omega) ((HB.out.cell (p := ⟨g, off + j * 2, none⟩) hg).trans c1)
            have hc2 := cell_grown (a := ⟨g, off + j * 2 + 1, none⟩) (show g < wr.heap.size by omega) ((HB.out.cell (p := ⟨g, off + j * 2 + 1, none⟩) hg).trans c2)
            have hq1 := cell_grown (a := ⟨w.heap.size, 1, none⟩) (show w.heap.size < wr.heap.size by omega) q1
            have HG := Lib.hid hg
            have HSS := Lib.hid (HSZ.out _ (List.mem_of_getElem? hs))
            clear c1 c2 hs hg
            have hi1 : (j : Int) < (n : Int) := by omega
            have hi0 : (0 : Int) ≤ (j : Int) := by omega
            cases hr : rightB kk (a, b) with
            | false =>
              have HF := Lib.hid (HPN.out j HKL.out (okI_right HS.out hr))
              have HR := Lib.hid (fun w n os => l3Right_is kk a b false hr hk9 HSS.out w n os)
              clear hr
              go_wp2_with fail
              refine wp_region_quiet_grown (by assumption) (by kernel_rfl) ?_
              repeat (first | go_big_quiet_skip | quiet_step (first | (go_at_call 33; exact HR.out _ _ _)))
              refine wpQuiet_nil ?_
              intro _ hw'
              obtain ⟨⟨nq, osq⟩, hw''⟩ := hw'
              subst hw''
              go_wp2
              go_ret
              exact ⟨ret_bool HF.out.symm, bel2 HBW.out (HB.out.trans (below_grow ((Below.refl _ _).mono HB.out.size) HB.out.size _ _))⟩
            | true =>
              have HRT := Lib.hid hr
              have HR := Lib.hid (fun w n os => l3Right_is kk a b true hr hk9 HSS.out w n os)
              clear hr
              rcases Nat.eq_zero_or_pos j with h0 | h0
              · have hdk : decide (0 < j) = false := decide_eq_false (by omega)
                have HOK := Lib.hid (show okToI kk l (j + 1) = true by subst h0; simp only [okToI]; rw [okI_zero HS.out HRT.out]; rfl)
                clear h0
                go_wp2_with fail
                refine wp_region_quiet_grown (by assumption) (by kernel_rfl) ?_
                repeat (first | go_big_quiet_skip | quiet_step (first | (go_at_call 33; exact HR.out _ _ _)))
                refine wpQuiet_nil ?_
                intro _ hw'
                obtain ⟨⟨nq, osq⟩, hw''⟩ := hw'
                subst hw''
                go_wp2
                go_roundw
                case rel => exact ⟨j + 1, by omega, by go_num, HOK.out, HB.out.trans (below_grow ((Below.refl _ _).mono HB.out.size) HB.out.size _ _)⟩
                case measure => simp [intOf]; omega
              · obtain ⟨j', hj'⟩ : ∃ j', j = j' + 1 := ⟨j - 1, by omega⟩
                obtain ⟨⟨a', b'⟩, hs'⟩ : ∃ s, l[j']? = some s := ⟨_, List.getElem?_eq_getElem (by have := HN.out; omega)⟩
                obtain ⟨g2, off2, hA2, hg2, c1, c2⟩ := lp_at HL.out (ivals_get hs')
                injection hA2 with hA2
                injection hA2 with hA2 hA3
                subst hA2
                subst hA3
                have hp1 := cell_grown (a := ⟨g, off + j' * 2, none⟩) (show g < wr.heap.size by have := HG.out; omega) ((HB.out.cell (p := ⟨g, off + j' * 2, none⟩) HG.out).trans c1)
                have hw : IntKind.i64.wrap ((j : Int) - 1) = (j' : Int) := by rw [IntKind.wrap_i64]; omega
                have hm0 : (0 : Int) ≤ (j' : Int) := by omega
                have hmn : (j' : Int) < (n : Int) := by omega
                have hk0 : (0 : Int) < (j : Int) := by omega
                have hdk : decide (0 < j) = true := decide_eq_true h0
                have HS' := Lib.hid hs'
                have HJ := Lib.hid hj'
                clear c1 c2 hg2 hs' hj' h0
                cases hle : decide (a ≤ a') with
                | true =>
                  have HF := Lib.hid (HPN.out j HKL.out (by
                    have h1 := HS.out
                    rw [HJ.out] at h1 ⊢
                    exact okI_less h1 HS'.out (decide_eq_false (by have := of_decide_eq_true hle; show ¬ a' < a; omega))))
                  go_wp2_with fail
                  refine wp_region_quiet_grown (by assumption) (by kernel_rfl) ?_
                  repeat (first | go_big_quiet_skip | quiet_step (first | (go_at_call 33; exact HR.out _ _ _)))
                  refine wpQuiet_nil ?_
                  intro _ hw'
                  obtain ⟨⟨nq, osq⟩, hw''⟩ := hw'
                  subst hw''
                  go_wp2
                  go_ret
                  exact ⟨ret_bool HF.out.symm, bel2 HBW.out (HB.out.trans (below_grow ((Below.refl _ _).mono HB.out.size) HB.out.size _ _))⟩
                | false =>
                  have HOK := Lib.hid (show okToI kk l (j + 1) = true by
                    have h1 := HS.out
                    have h2 := HT.out
                    rw [HJ.out] at h1 h2 ⊢
                    rw [okToI, h2, okI_next h1 HS'.out HRT.out (decide_eq_true (by have := of_decide_eq_false hle; show a' < a; omega))]
                    rfl)
                  go_wp2_with fail
                  refine wp_region_quiet_grown (by assumption) (by kernel_rfl) ?_
                  repeat (first | go_big_quiet_skip | quiet_step (first | (go_at_call 33; exact HR.out _ _ _)))
                  refine wpQuiet_nil ?_
                  intro _ hw'
                  obtain ⟨⟨nq, osq⟩, hw''⟩ := hw'
                  subst hw''
                  go_wp2
                  go_roundw
                  case rel => exact ⟨j + 1, by omega, by go_num, HOK.out, HB.out.trans (below_grow ((Below.refl _ _).mono HB.out.size) HB.out.size _ _)⟩
                  case measure => simp [intOf]; omega
          · have hjn : j = n := by omega
            have HF := Lib.hid (show packB (kk : Int) no l = true from HPA.out (by rw [HN.out, ← hjn]; exact HT.out))
            subst hjn
            go_wp2
            go_ret
            exact ⟨ret_bool HF.out.symm, bel2 HBW.out HB.out⟩
end
end Go.Proofs.YtkjginibdablnaaDoor
