/- A pack of pieces, in the reference: where one is made. -/
import Derived.Test.YtkjginibdablnaaDoorPackM
namespace Go.Proofs.YtkjginibdablnaaDoor
open Go.RowKit
def piecesB (ps : List ByteArray) : Bool := ps.all fun s => pieceB s.data.toList
def madeB (no key : Int) (ps : List ByteArray) : Bool := decide (1 ≤ no ∧ no ≤ 99) && (keyB key && (decide (1 ≤ ps.length ∧ ps.length ≤ 4) && (piecesB ps && packB key no (makeI key.toNat ps))))
def madeI (no key : Int) (ps : List ByteArray) : List Itm := if madeB no key ps = true then makeI key.toNat ps else []
def madeN (no key : Int) (ps : List ByteArray) : Int := if madeB no key ps = true then no else 0
theorem piecesB_all {ps : List ByteArray} : piecesB ps = true ↔ ∀ s ∈ ps, pieceB s.data.toList = true := by simp [piecesB]
theorem piecesB_take {ps : List ByteArray} {k : Nat} {s : ByteArray} (h : ps[k]? = some s) (hp : pieceB s.data.toList = true) (ht : piecesB (ps.take k) = true) : piecesB (ps.take (k + 1)) = true := by
  rw [List.take_add_one, h]
  unfold piecesB at *
  rw [List.all_append, ht]
  simp [hp]
theorem piecesB_not {ps : List ByteArray} {k : Nat} {s : ByteArray} (h : ps[k]? = some s) (hp : pieceB s.data.toList = false) : piecesB ps = false := by
  cases hq : piecesB ps with
  | false => rfl
  | true => rw [piecesB_all.1 hq s (List.mem_of_getElem? h)] at hp; cases hp
theorem madeI_no {no key : Int} {ps : List ByteArray} (h : madeB no key ps = false) : madeI no key ps = [] ∧ madeN no key ps = 0 := by simp [madeI, madeN, h]
theorem madeI_yes {no key : Int} {ps : List ByteArray} (h : madeB no key ps = true) : madeI no key ps = makeI key.toNat ps ∧ madeN no key ps = no := by simp [madeI, madeN, h]
def Made (B : Nat) (no key : Int) (ps : List ByteArray) (e : Ending) (w' : World) : Prop :=
  ∃ v', e = .returned (.tuple #[packV (madeN no key ps) v', .bool (madeB no key ps)]) ∧ OwnP 40 B w' v' (ivals (madeI no key ps))
theorem made_no {B : Nat} {no key : Int} {ps : List ByteArray} {w' : World} (h : madeB no key ps = false) : Made B no key ps (.returned (.tuple #[packV 0 (.slice none 0 0), .bool false])) w' :=
  ⟨_, by rw [(madeI_no h).2, h], by rw [(madeI_no h).1]; exact ownP_nil _ _ _⟩
theorem foldl_sizes (k : Nat) : ∀ (ps : List ByteArray) (l : List Itm), (∀ s ∈ l, s.2.size ≤ 1048576) → ∀ s ∈ ps.foldl (fun l p => putI l (itemOf k p)) l, s.2.size ≤ 1048576
  | [], _, h => h
  | p :: ps, l, h => by
    rw [List.foldl_cons]
    refine foldl_sizes k ps _ fun s hs => ?_
    rcases List.mem_cons.1 ((putI_perm l _).subset hs) with rfl | hs
    · show (⟨(padL p.data.toList).toArray⟩ : ByteArray).size ≤ 1048576
      rw [bar_size]
      have := padL_len8 p.data.toList
      omega
    · exact h s hs
theorem makeI_sizes (k : Nat) (ps : List ByteArray) : ∀ s ∈ makeI k ps, s.2.size ≤ 1048576 := foldl_sizes k ps [] fun _ h => by cases h
section
set_option maxHeartbeats 1600000
theorem packMakeS_any (no key : Int) (v : Value) (ps : List ByteArray) (w : World) (hl : Lst w w.heap.size v (barVals ps)) (hn : ps.length ≤ 1048600) (hs : ∀ s ∈ ps, s.size ≤ maxLen) :
    Calls Tryd.prog 26 #[.int .i64 no, .int .i64 key, v] w fun e w' => Made w.heap.size no key ps e w' ∧ Below w.heap.size w w' := by
  obtain ⟨A, c, hv⟩ := lst_form hl
  subst hv
  rw [barVals_length] at *
  obtain ⟨W, hW⟩ : ∃ W, W = w.alloc (.cells #[.int .i64 0, .slice none 0 0] 29) := ⟨_, rfl⟩
  have HWs := Lib.hid (show W.heap.size = w.heap.size + 1 by rw [hW]; simp)
  have HBW := Lib.hid (show Below w.heap.size w W by rw [hW]; exact (Below.refl _ _).alloc (Nat.le_refl _) _)
  have HTW := Lib.hid (show Two W w.heap.size 29 (.int .i64 0) (.slice none 0 0) by rw [hW]; exact two_new _ _ _ _)
  have HL := Lib.hid (lst_next hl HBW.out)
  have HSZ := Lib.hid hs
  clear hl hs
  obtain ⟨n, hnn⟩ : ∃ n, ps.length = n := ⟨_, rfl⟩
  have HN := Lib.hid hnn
  rw [hnn] at hn HL ⊢
  clear hnn
  cases h1 : decide (1 ≤ no ∧ no ≤ 99) with
  | false =>
    have HF := Lib.hid (show madeB no key ps = false by simp only [madeB, h1, Bool.false_and])
    have H1 := Lib.hid h1
    clear h1
    go_enter Tryd.func26, Tryd.ntmps26
    go_wp2_with (first | (go_at_call 31; refine (l6In_any _ _ _ _).mono ?_; rintro e w' ⟨rfl, rfl⟩; rw [H1.out]))
    refine bodyPost_ret_by (v := .tuple #[packV 0 (.slice none 0 0), .bool false]) ?_ rfl ⟨made_no HF.out, ?_⟩
    · simp [results, Tryd.results26, Tryd.isAgg29, Tryd.sizeOf29, go_sem]
    · rw [← hW]; exact HBW.out
  | true =>
    have H1 := Lib.hid h1
    cases h2 : keyB key with
    | false =>
      have HF := Lib.hid (show madeB no key ps = false by simp only [madeB, h2, Bool.false_and, Bool.and_false])
      have H2 := Lib.hid h2
      clear h1 h2
      go_enter Tryd.func26, Tryd.ntmps26
      go_wp2_with (first | (go_at_call 31; refine (l6In_any _ _ _ _).mono ?_; rintro e w' ⟨rfl, rfl⟩; rw [H1.out]) | (go_at_call 32; refine (l2Key_any _ _).mono ?_; rintro e w' ⟨rfl, rfl⟩; rw [H2.out]))
      refine bodyPost_ret_by (v := .tuple #[packV 0 (.slice none 0 0), .bool false]) ?_ rfl ⟨made_no HF.out, ?_⟩
      · simp [results, Tryd.results26, Tryd.isAgg29, Tryd.sizeOf29, go_sem]
      · rw [← hW]; exact HBW.out
    | true =>
      have H2 := Lib.hid h2
      obtain ⟨kk, rfl⟩ : ∃ k : Nat, key = (k : Int) := ⟨key.toNat, by have := keyB_iff.1 h2; omega⟩
      have hk9 : kk ≤ 99 := by have := keyB_iff.1 h2; omega
      clear h2
      cases h3 : decide (1 ≤ (n : Int) ∧ (n : Int) ≤ 4) with
      | false =>
        have HF := Lib.hid (show madeB no (kk : Int) ps = false by
          have h : decide (1 ≤ ps.length ∧ ps.length ≤ 4) = false := by rw [HN.out, ← h3]; congr 1; simp; omega
          simp only [madeB, h, Bool.false_and, Bool.and_false])
        have H3 := Lib.hid h3
        clear h1 h3
        go_enter Tryd.func26, Tryd.ntmps26
        go_wp2_with (first | (go_at_call 31; refine (l6In_any _ _ _ _).mono ?_; rintro e w' ⟨rfl, rfl⟩; first | rw [H1.out] | rw [H3.out]) | (go_at_call 32; refine (l2Key_any _ _).mono ?_; rintro e w' ⟨rfl, rfl⟩; rw [H2.out]))
        refine bodyPost_ret_by (v := .tuple #[packV 0 (.slice none 0 0), .bool false]) ?_ rfl ⟨made_no HF.out, ?_⟩
        · simp [results, Tryd.results26, Tryd.isAgg29, Tryd.sizeOf29, go_sem]
        · rw [← hW]; exact HBW.out
      | true =>
        have H3 := Lib.hid h3
        have HMB := Lib.hid (show madeB no (kk : Int) ps = (piecesB ps && packB (kk : Int) no (makeI kk ps)) by
          have h : decide (1 ≤ ps.length ∧ ps.length ≤ 4) = true := by rw [HN.out, ← h3]; congr 1; simp; omega
          simp only [madeB, h1, h, H2.out, Bool.true_and, Int.toNat_natCast])
        clear h1 h3
        go_enter Tryd.func26, Tryd.ntmps26
        go_wp2_with (first | (go_at_call 31; refine (l6In_any _ _ _ _).mono ?_; rintro e w' ⟨rfl, rfl⟩; first | rw [H1.out] | rw [H3.out]) | (go_at_call 32; refine (l2Key_any _ _).mono ?_; rintro e w' ⟨rfl, rfl⟩; rw [H2.out]))
        rw [← hW]
        clear hW
        go_loop [8] (fun i => ∃ j : Nat, j ≤ n ∧ i = .int .i64 (j : Int) ∧ piecesB (ps.take j) = true) (fun i => n - (intOf i).toNat)
        case atStart => exact ⟨0, Nat.zero_le _, rfl, rfl⟩
        case round =>
          obtain ⟨j, hj, rfl, ht⟩ := hrel
          have HT := Lib.hid ht
          clear ht
          by_cases hlt : j < n
          · obtain ⟨s, hsk⟩ : ∃ s, ps[j]? = some s := ⟨_, List.getElem?_eq_getElem (by have := HN.out; omega)⟩
            have HS := Lib.hid (HSZ.out s (List.mem_of_getElem? hsk))
            obtain ⟨g, off, hA, hg, hc1⟩ := lst_at HL.out (barVals_get ps j s hsk)
            subst hA
            have HSK := Lib.hid hsk
            clear hsk hg
            have hi1 : (j : Int) < (n : Int) := by omega
            have hi0 : (0 : Int) ≤ (j : Int) := by omega
            cases hp : pieceB s.data.toList with
            | true =>
              have HP := Lib.hid hp
              clear hp
              go_wp2_with (go_at_call 49; refine (pieceOkS_any _ _ HS.out).mono ?_; rintro e w' ⟨rfl, rfl⟩; rw [HP.out])
              go_round
              case rel => exact ⟨j + 1, by omega, by go_num, piecesB_take HSK.out HP.out HT.out⟩
              case measure => simp [intOf]; omega
            | false =>
              have HP := Lib.hid hp
              have HF := Lib.hid (show madeB no (kk : Int) ps = false by rw [HMB.out, piecesB_not HSK.out hp, Bool.false_and])
              clear hp
              have f3 := HTW.out.c0
              have f4 := HTW.out.c1
              have f5 := HTW.out.f 0
              have f6 := HTW.out.f 1
              go_wp2_with (go_at_call 49; refine (pieceOkS_any _ _ HS.out).mono ?_; rintro e w' ⟨rfl, rfl⟩; rw [HP.out])
              refine bodyPost_ret_by (v := .tuple #[packV 0 (.slice none 0 0), .bool false]) ?_ rfl ⟨made_no HF.out, ?_⟩
              · simp [results, Tryd.results26, Tryd.isAgg29, Tryd.sizeOf29, go_sem, f3, f4]
              · exact (HBW.out.setCell (by show w.heap.size ≤ w.heap.size; omega) _).setCell (by show w.heap.size ≤ w.heap.size; omega) _
          · have hjn : j = n := by omega
            have HAL := Lib.hid (show piecesB ps = true by have := HT.out; rwa [hjn, List.take_of_length_le (by rw [HN.out]; exact Nat.le_refl _)] at this)
            have HLM := Lib.hid (l3Make_any no kk (.slice A n c) ps W hk9 HL.out (by rw [HN.out]; have := of_decide_eq_true H3.out; omega) (piecesB_all.1 HAL.out))
            subst hjn
            go_wp2_with fail
            refine HLM.out.mono ?_
            rintro e w1 ⟨v', rfl, ho, hb⟩
            obtain ⟨A2, m2, c2, hv2⟩ := own_formE ho
            subst hv2
            obtain ⟨W1, hW1⟩ : ∃ X, X = w1.alloc (.cells #[.int .i64 no, .slice A2 m2 c2] 29) := ⟨_, rfl⟩
            have hb1 : Below w1.heap.size w1 W1 := by rw [hW1]; exact (Below.refl _ _).alloc (Nat.le_refl _) _
            have HO1 := Lib.hid (ownP_below ho hb1)
            have HB1 := Lib.hid (bel2 hb hb1)
            have HT1 := Lib.hid (show Two W1 w1.heap.size 29 (.int .i64 no) (.slice A2 m2 c2) by rw [hW1]; exact two_new _ _ _ _)
            have HSS := Lib.hid (show W1.heap.size = w1.heap.size + 1 by rw [hW1]; simp)
            have HW1 := Lib.hid hW1
            have HSW := Lib.hid hb.size
            have g0 := HT1.out.c0
            have g1 := HT1.out.c1
            have HPK := Lib.hid (packOkS_any (kk : Int) no (.slice A2 m2 c2) (makeI kk ps) W1 (lp_of_own HO1.out) (by rw [makeI_length]; have := HN.out; omega) (makeI_sizes kk ps))
            clear ho hb hb1 hW1
            cases hpk : packB (kk : Int) no (makeI kk ps) with
            | false =>
              have HF := Lib.hid (show madeB no (kk : Int) ps = false by rw [HMB.out, hpk, Bool.and_false])
              rw [hpk] at HPK
              clear hpk
              go_wp2_with fail
              go_must (rw [← HW1.out])
              refine HPK.out.mono ?_
              rintro e w2 ⟨rfl, hb2⟩
              have HB2 := Lib.hid hb2
              clear hb2
              have HTZ := Lib.hid (show Two w2 w.heap.size 29 (.int .i64 0) (.slice none 0 0) from (HB2.out.block _ (by have := HB1.out.size; have := HWs.out; omega)).trans ((HB1.out.block _ (by have := HWs.out; omega)).trans HTW.out))
              have f3 := HTZ.out.c0
              have f4 := HTZ.out.c1
              have f5 := HTZ.out.f 0
              have f6 := HTZ.out.f 1
              go_wp2
              refine bodyPost_ret_by (v := .tuple #[packV 0 (.slice none 0 0), .bool false]) ?_ rfl ⟨made_no HF.out, ?_⟩
              · simp [results, Tryd.results26, Tryd.isAgg29, Tryd.sizeOf29, go_sem, f3, f4]
              · exact ((bel2 HBW.out (bel2 HB1.out HB2.out)).setCell (by show w.heap.size ≤ w.heap.size; omega) _).setCell (by show w.heap.size ≤ w.heap.size; omega) _
            | true =>
              have HF := Lib.hid (show madeB no (kk : Int) ps = true by rw [HMB.out, hpk, HAL.out]; rfl)
              rw [hpk] at HPK
              clear hpk
              go_wp2_with fail
              go_must (rw [← HW1.out])
              refine HPK.out.mono ?_
              rintro e w2 ⟨rfl, hb2⟩
              have HB2 := Lib.hid hb2
              clear hb2 g0 g1
              have HTZ := Lib.hid (show Two w2 w.heap.size 29 (.int .i64 0) (.slice none 0 0) from (HB2.out.block _ (by have := HB1.out.size; have := HWs.out; omega)).trans ((HB1.out.block _ (by have := HWs.out; omega)).trans HTW.out))
              have HT2 := Lib.hid (show Two w2 w1.heap.size 29 (.int .i64 no) (.slice A2 m2 c2) from (HB2.out.block _ (by have := HSS.out; omega)).trans HT1.out)
              have HO2 := Lib.hid (ownP_below HO1.out HB2.out)
              have f3 := HTZ.out.c0
              have f4 := HTZ.out.c1
              have f5 := HTZ.out.f 0
              have f6 := HTZ.out.f 1
              have g0 := HT2.out.c0
              have g1 := HT2.out.c1
              go_wp2
              refine bodyPost_ret_by (v := .tuple #[packV no (.slice A2 m2 c2), .bool true]) ?_ rfl ⟨⟨.slice A2 m2 c2, ?_, ?_⟩, ?_⟩
              · simp [results, Tryd.results26, Tryd.isAgg29, Tryd.sizeOf29, go_sem, f3, f4]
              · rw [(madeI_yes HF.out).2, HF.out]
              · rw [(madeI_yes HF.out).1, Int.toNat_natCast]
                exact ownP_two HO2.out (by have := HWs.out; omega)
              · exact ((bel2 HBW.out (bel2 HB1.out HB2.out)).setCell (by show w.heap.size ≤ w.heap.size; omega) _).setCell (by show w.heap.size ≤ w.heap.size; omega) _
end
end Go.Proofs.YtkjginibdablnaaDoor
