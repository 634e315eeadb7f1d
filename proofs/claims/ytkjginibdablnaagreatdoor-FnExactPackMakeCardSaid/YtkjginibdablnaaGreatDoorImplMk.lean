/- The program's making of a pack: by way of a heap. -/
import Derived.Test.YtkjginibdablnaaGreatDoorHeapU
import Derived.Test.YtkjginibdablnaaGreatDoorMkP
import Derived.Test.YtkjginibdablnaaGreatDoorImplOk
namespace Go.Proofs.YtkjginibdablnaaGreatDoor
open Go.RowKit
theorem drew_belM {w w' : World} (h : ∃ n, w' = w.drewN n) : Below w.heap.size w w' := by
  obtain ⟨n, rfl⟩ := h
  exact ⟨rfl, rfl, rfl, Nat.le_refl _, fun _ _ => rfl⟩
theorem own_ltM {B g : Nat} {w : World} {v : Value} {l : List Itm} (h : OwnP 39 B w v (ivals l)) (hg : v.ownBlock = some g) : B ≤ g := (ownP_lt h hg).1
theorem perm_next {ps : List ByteArray} {key : Int} {j : Nat} {s : ByteArray} {L M : List Itm} (h : ps[j]? = some s) (hp : L.Perm ((ps.take j).map (itemX key))) (hm : M.Perm (L ++ [itemX key s])) : M.Perm ((ps.take (j + 1)).map (itemX key)) := by
  rw [List.take_add_one, h, List.map_append]
  exact hm.trans (hp.append_right _)
theorem perm_len {ps : List ByteArray} {key : Int} {j : Nat} {L : List Itm} (hp : L.Perm ((ps.take j).map (itemX key))) : L.length ≤ ps.length := by
  rw [hp.length_eq, List.length_map]
  rw [List.length_take]
  omega
theorem two_hg {w w' : World} {pb hb : Nat} {T : TypeId} {x y v : Value} (h : Two w pb T x y) (hg : HG w.drew w' hb v) (hb1 : hb < pb) (hv : ∀ k, v.ownBlock = some k → k < pb) : Two w' pb T x y :=
  (hg.block pb h.lt (by omega) (fun e => by have := hv _ e; omega)).trans h
theorem own_hg {w w' : World} {pb hb : Nat} {o v : Value} {l : List Itm} (h : OwnP 39 (pb + 1) w o (ivals l)) (hg : HG w.drew w' hb v) (hb1 : hb < pb) (hv : ∀ k, v.ownBlock = some k → k < pb) : OwnP 39 (pb + 1) w' o (ivals l) := by
  cases ho : o.ownBlock with
  | none =>
    unfold OwnP at h ⊢
    obtain ⟨h1, h2⟩ := h
    refine ⟨h1, ?_⟩
    rcases h2 with h2 | ⟨g, cap, cur, h3, _⟩
    · exact .inl h2
    · rw [h3] at ho; cases ho
  | some q =>
    obtain ⟨h1, h2⟩ := ownP_lt h ho
    have hq : w'.heap[q]? = w.heap[q]? := hg.block q h2 (by omega) (fun e => by have := hv _ e; omega)
    unfold OwnP at h ⊢
    obtain ⟨k1, k2⟩ := h
    refine ⟨k1, ?_⟩
    rcases k2 with k2 | ⟨g, cap, cur, h3, h4, h5, h6⟩
    · exact .inl k2
    · rw [h3] at ho
      have e : g = q := Option.some.inj ho
      subst e
      exact .inr ⟨g, cap, cur, h3, h4, hq.trans h5, h6⟩
theorem own_pbM {w : World} {pb : Nat} {o : Value} {l : List Itm} (h : OwnP 39 (pb + 1) w o (ivals l)) : o.ownBlock ≠ some pb := fun e => by
  have := (ownP_lt h e).1
  omega
theorem hp_keep {B hb : Nat} {w w' : World} {v : Value} {l : List Itm} {row : Option Nat} (h : HP B hb w v l) (hg : w.grownBy w' row) (h1 : row ≠ some hb) (h2 : v.ownBlock = none ∨ v.ownBlock ≠ row) : HP B hb w' v l :=
  ⟨(hg.block hb h.lt (fun e => h1 e.symm)).trans h.cell, h.own.kept hg h2, h.ne⟩
theorem own_neM {w : World} {pb q : Nat} {o : Value} {l : List Itm} (h : OwnP 39 (pb + 1) w o (ivals l)) (hq : q ≤ pb) : o.ownBlock ≠ some q := fun e => by
  have := (ownP_lt h e).1
  omega
theorem own_apart {w : World} {pb : Nat} {o v : Value} {l : List Itm} (h : OwnP 39 (pb + 1) w o (ivals l)) (hv : ∀ k, v.ownBlock = some k → k < pb) : v.ownBlock = none ∨ v.ownBlock ≠ o.ownBlock := by
  cases e : v.ownBlock with
  | none => exact .inl rfl
  | some k =>
    refine .inr fun e2 => ?_
    have h1 := hv k e
    have h2 := (ownP_lt h e2.symm).1
    omega
section
set_option maxHeartbeats 3200000
set_option maxRecDepth 100000
theorem packMake_any (no key : Int) (v : Value) (ps : List ByteArray) (w : World) (a0 a1 : Addr) (he : Errs w a0 a1) (hl : Lst w w.heap.size v (barVals ps)) (hn : ps.length ≤ 1048600) (hs : ∀ s ∈ ps, s.size ≤ maxLen) :
    Calls Tryz.prog 9 #[.int .i64 no, .int .i64 key, v] w fun e w' => Made w.heap.size no key ps e w' ∧ Below w.heap.size w w' := by
  obtain ⟨i0, hi, hz0, hz1, hz2⟩ := infoItem_parts
  obtain ⟨A, c, hv⟩ := lst_form hl
  subst hv
  rw [barVals_length] at *
  obtain ⟨W1, hW1⟩ : ∃ W, W = (w.alloc (.cells #[.int .i64 0, .slice none 0 0] 28)).alloc (.cells #[] 39) := ⟨_, rfl⟩
  obtain ⟨W, hW⟩ : ∃ W, W = W1.alloc (.cells #[.slice (some ⟨w.heap.size + 1, 0, none⟩) 0 0] 56) := ⟨_, rfl⟩
  have hs1 : W1.heap.size = w.heap.size + 2 := by rw [hW1]; simp
  have HWs := Lib.hid (show W.heap.size = w.heap.size + 3 by rw [hW]; simp [hs1])
  have hb1 : Below w.heap.size w W1 := by rw [hW1]; exact ((Below.refl _ w).alloc (Nat.le_refl _) _).alloc (by simp) _
  have hbW : Below W1.heap.size W1 W := by rw [hW]; exact (Below.refl _ _).alloc (Nat.le_refl _) _
  have HBW := Lib.hid (bel2 hb1 hbW)
  have ht1 : Two W1 w.heap.size 28 (.int .i64 0) (.slice none 0 0) := by
    rw [hW1]
    exact (two_new w (.int .i64 0) (.slice none 0 0) 28).keep (row := none) (grown_of_bel ((Below.refl _ _).alloc (Nat.le_refl _) _) none) (by simp)
  have HTW := Lib.hid (ht1.keep (grown_of_bel hbW none) (by simp))
  obtain ⟨hb, hhb⟩ : ∃ hb, W1.heap.size = hb := ⟨_, rfl⟩
  have HP0 := Lib.hid (show HP (w.heap.size + 1) hb W (.slice (some ⟨w.heap.size + 1, 0, none⟩) 0 0) [] from by
    refine ⟨?_, ?_, ?_⟩
    · rw [hW, ← hhb]; exact heap_alloc_new W1 _
    · refine ownP_below ?_ hbW
      rw [hW1]
      have := ownP_empty 39 (w.alloc (.cells #[.int .i64 0, .slice none 0 0] 28))
      rw [show (w.alloc (.cells #[.int .i64 0, .slice none 0 0] 28)).heap.size = w.heap.size + 1 by simp] at this
      exact this
    · intro e
      injection e with e
      have : w.heap.size + 1 = hb := e
      omega)
  have HHB := Lib.hid (show hb = w.heap.size + 2 by omega)
  have hhb2 : w.heap.size + 1 + 1 = hb := by omega
  have HE := Lib.hid he
  have HL := Lib.hid hl
  have HSZ := Lib.hid hs
  obtain ⟨n, hnn⟩ : ∃ n, ps.length = n := ⟨_, rfl⟩
  have HN := Lib.hid hnn
  rw [hnn] at hn HL ⊢
  have HWE := Lib.hid (show W = ((w.alloc (.cells #[.int .i64 0, .slice none 0 0] 28)).alloc (.cells #[] 39)).alloc (.cells #[.slice (some ⟨w.heap.size + 1, 0, none⟩) 0 0] 56) by rw [hW, hW1])
  clear hl hs he hW1 hW hs1 hb1 hbW ht1 hhb hnn
  go_enter Tryz.func9, Tryz.ntmps9
  go_wp2_with fail
  rw [← HWE.out]
  go_loopw [16] (fun i wr => ∃ (j : Nat) (v : Value) (L : List Itm), j ≤ n ∧ i = .int .i64 (j : Int) ∧ HP (w.heap.size + 1) hb wr v L ∧ L.Perm ((ps.take j).map (itemX key)) ∧ HeapO L L.length ∧ Below (w.heap.size + 1) W wr) (fun i _ => n - (intOf i).toNat)
  case atStart => exact ⟨0, _, [], Nat.zero_le _, rfl, HP0.out, by simp, (fun k h0 hk => by simp at hk), Below.refl _ _⟩
  case round =>
    obtain ⟨j, v, L, hj, rfl, hp, hpe, ho, hbl⟩ := hrel
    have HPr := Lib.hid hp
    have HPE := Lib.hid hpe
    have HO := Lib.hid ho
    have HBL := Lib.hid hbl
    have HBr := Lib.hid (show Below w.heap.size w wr from HBW.out.trans (hbl.mono (by omega)))
    have HLN := Lib.hid (perm_len hpe)
    clear hp hpe ho hbl
    by_cases hlt : j < n
    · obtain ⟨s, hsk⟩ : ∃ s, ps[j]? = some s := ⟨_, List.getElem?_eq_getElem (by have := HN.out; omega)⟩
      have HS := Lib.hid (HSZ.out s (List.mem_of_getElem? hsk))
      obtain ⟨g, off, hA, hg, hc⟩ := lst_at HL.out (barVals_get ps j s hsk)
      subst hA
      have HSK := Lib.hid hsk
      have hc1 := (HBr.out.cell (p := ⟨g, off + j, none⟩) hg).trans hc
      clear hsk hg hc
      have hi1 : (j : Int) < (n : Int) := by omega
      have hi0 : (0 : Int) ≤ (j : Int) := by omega
      obtain ⟨x, hx⟩ : ∃ x, nameZ key s.data.toList = x := ⟨_, rfl⟩
      obtain ⟨y, hy⟩ : ∃ y : ByteArray, ⟨(padL s.data.toList).toArray⟩ = y := ⟨_, rfl⟩
      have HI := Lib.hid (show itemX key s = (x, y) by rw [← hx, ← hy]; rfl)
      have HNO := Lib.hid (nameOf_any key s wr a0 a1 (HE.out.below HBr.out) HS.out)
      have HPO := Lib.hid (fun W' => padOf_any s W' HS.out)
      unfold Padded at HPO
      rw [hx] at HNO
      rw [hy] at HPO
      clear hx hy
      go_wp2_with fail
      refine HNO.out.mono ?_
      rintro e w1 ⟨rfl, hd1⟩
      have HB1 := Lib.hid (drew_belM hd1)
      clear hd1
      go_wp2_with fail
      refine (HPO.out w1).mono ?_
      rintro e w2 ⟨rfl, hd2⟩
      have HB2 := Lib.hid (bel2 HB1.out hd2)
      clear hd2
      go_wp2_with fail
      refine (heapPush_any (w.heap.size + 1) hb w2 v L x y (HPr.out.below HB2.out) (by have := HB2.out.size; have := HPr.out.lt; have := HHB.out; omega) HO.out (by have := HLN.out; have := HN.out; omega)).mono ?_
      rintro e w3 ⟨rfl, v3, L3, hp3, hpe3, ho3, _, hg3⟩
      have HP3 := Lib.hid hp3
      have hpe4 : L3.Perm (L ++ [itemX key s]) := by rw [HI.out]; exact hpe3
      have HPE3 := Lib.hid (perm_next HSK.out HPE.out hpe4)
      have HO3 := Lib.hid ho3
      have HB3 := Lib.hid (HBL.out.trans ((HB2.out.mono (by have := HPr.out.lt; have := HHB.out; omega)).trans (hg3.bel (by have := HHB.out; omega) (fun q hq => own_ltM HPr.out.own hq) (by have := HB2.out.size; have := HPr.out.lt; have := HHB.out; omega))))
      clear hp3 hpe3 hpe4 ho3 hg3
      go_wp2_with fail
      go_roundw
      case rel => exact ⟨j + 1, v3, L3, by omega, by go_num, HP3.out, HPE3.out, HO3.out, HB3.out⟩
      case measure => simp [intOf]; omega
    · have HPA := Lib.hid (show L.Perm (ps.map (itemX key)) by have h := HPE.out; rwa [List.take_of_length_le (by rw [HN.out]; omega)] at h)
      obtain ⟨pb, hpb⟩ : ∃ pb, wr.heap.size = pb := ⟨_, rfl⟩
      obtain ⟨X, hX⟩ : ∃ X, X = wr.alloc (.cells #[.int .i64 no, .slice none 0 0] 28) := ⟨_, rfl⟩
      have hbX : Below wr.heap.size wr X := by rw [hX]; exact (Below.refl _ _).alloc (Nat.le_refl _) _
      have HTX := Lib.hid (show Two X pb 28 (.int .i64 no) (.slice none 0 0) by rw [hX, ← hpb]; exact two_new _ _ _ _)
      have HPX := Lib.hid (HPr.out.below hbX)
      have HBX := Lib.hid (HBL.out.trans (hbX.mono (by have := HPr.out.lt; have := HHB.out; omega)))
      have HVP := Lib.hid (fun q (hq : v.ownBlock = some q) => show q < pb by have := (ownP_lt HPr.out.own hq).2; omega)
      have HPB := Lib.hid (show hb < pb by have := HPr.out.lt; omega)
      have HXE := Lib.hid hX
      clear hX hbX
      go_wp2_with fail
      rw [← HXE.out]
      go_loopg [] (L.length) (fun q wr => ∃ (v o : Value) (M acc : List Itm), M.length = q ∧ HP (w.heap.size + 1) hb wr v M ∧ HeapO M M.length ∧ Two wr pb 28 (.int .i64 no) o ∧ OwnP 39 (pb + 1) wr o (ivals acc) ∧ (acc ++ M).Perm (ps.map (itemX key)) ∧ Srt acc ∧ (∀ a ∈ acc, ∀ b ∈ M, a.1 ≤ b.1) ∧ (∀ k, v.ownBlock = some k → k < pb) ∧ Below (w.heap.size + 1) W wr)
      case atStart => exact ⟨v, _, L, [], rfl, HPX.out, HO.out, HTX.out, ownP_nil _ _ _, HPA.out, List.Pairwise.nil, (fun a ha => by cases ha), HVP.out, HBX.out⟩
      case round =>
        clear HPr HPE HO HBL HBr HPX HBX HVP HTX HXE HPA HLN
        obtain ⟨v, o, M, acc, hmq, hp, ho, ht, how, hpe, hsr, hle, hvp, hbl⟩ := hrel
        have HMQ := Lib.hid hmq
        have HPr := Lib.hid hp
        have HO := Lib.hid ho
        have HT := Lib.hid ht
        have HOW := Lib.hid how
        have HPE := Lib.hid hpe
        have HSR := Lib.hid hsr
        have HLE := Lib.hid hle
        have HVP := Lib.hid hvp
        have HBL := Lib.hid hbl
        have HBr := Lib.hid (show Below w.heap.size w wr from HBW.out.trans (hbl.mono (by omega)))
        have HLN := Lib.hid (show acc.length + M.length = n by have := hpe.length_eq; rw [List.length_append, List.length_map, HN.out] at this; exact this)
        obtain ⟨A1, c1, hv1⟩ := hp.form
        subst hv1
        have hc0 := hp.c0
        obtain ⟨m, hm⟩ : ∃ m, M.length = m := ⟨_, rfl⟩
        have HM := Lib.hid hm
        rw [hm] at hc0 HPr HVP
        have hm9 : m ≤ 1048600 := by have := HLN.out; omega
        clear hmq hp ho ht how hpe hsr hle hvp hbl hm
        rcases Nat.eq_zero_or_pos m with h0 | h0
        · have HM0 := Lib.hid (show M = [] from List.length_eq_zero_iff.1 (by rw [HM.out]; exact h0))
          have HPA := Lib.hid (show acc.Perm (ps.map (itemX key)) by have h := HPE.out; rwa [HM0.out, List.append_nil] at h)
          obtain ⟨A2, m2, c2, hv2⟩ := own_formE HOW.out
          subst hv2
          have HZ := Lib.hid h0
          have hz : ¬ (0 : Int) < (m : Int) := by omega
          have g0 := HT.out.c0
          have g1 := HT.out.c1
          have HTZ := Lib.hid (show Two wr w.heap.size 28 (.int .i64 0) (.slice none 0 0) from (HBL.out.block _ (by omega)).trans HTW.out)
          have HPK := Lib.hid (packOk_any key no (.slice A2 m2 c2) acc wr a0 a1 (HE.out.below HBr.out) (lp_of_own HOW.out) (by have := HLN.out; omega) (perm_sizes HPA.out))
          obtain ⟨ok, hok⟩ : ∃ ok, packB key no acc = ok := ⟨_, rfl⟩
          have HOK := Lib.hid hok
          rw [hok] at HPK
          clear h0 hok
          go_wp2_with fail
          refine (heapLen_any A1 m c1 (by omega) wr).mono ?_
          rintro e w5 ⟨rfl, rfl⟩
          go_wp2_with fail
          refine HPK.out.mono ?_
          rintro e w6 ⟨rfl, hb6⟩
          have HB6 := Lib.hid hb6
          have HTZ6 := Lib.hid (HTZ.out.keep (grown_of_bel hb6 none) (by simp))
          have HT6 := Lib.hid (HT.out.keep (grown_of_bel hb6 none) (by simp))
          have HOW6 := Lib.hid (ownP_below HOW.out hb6)
          clear hb6 g0 g1 hc0
          have f3 := HTZ6.out.c0
          have f4 := HTZ6.out.c1
          have f5 := HTZ6.out.f 0
          have f6 := HTZ6.out.f 1
          have g0 := HT6.out.c0
          have g1 := HT6.out.c1
          cases ok with
          | false =>
            have HF := Lib.hid (sorted_not HPA.out HSR.out HOK.out)
            go_wp2
            refine bodyPost_ret_by (v := .tuple #[packV 0 (.slice none 0 0), .bool false]) ?_ rfl ⟨made_no HF.out, ?_⟩
            · simp [results, Tryz.results9, Tryz.isAgg28, Tryz.sizeOf28, go_sem, f3, f4]
            · exact ((bel2 HBr.out HB6.out).setCell (by show w.heap.size ≤ w.heap.size; omega) _).setCell (by show w.heap.size ≤ w.heap.size; omega) _
          | true =>
            have HF := Lib.hid (sorted_made HPA.out HSR.out HOK.out)
            have hpw : w.heap.size ≠ pb := by have := HPB.out; have := HHB.out; omega
            have hpw2 : w.heap.size ≤ pb + 1 := by have := HPB.out; have := HHB.out; omega
            go_wp2
            refine bodyPost_ret_by (v := .tuple #[packV no (.slice A2 m2 c2), .bool true]) ?_ rfl ⟨⟨_, by rw [HF.out.1, HF.out.2.2], ?_⟩, ?_⟩
            · simp [results, Tryz.results9, Tryz.isAgg28, Tryz.sizeOf28, go_sem, f3, f4]
            · rw [HF.out.2.1]
              exact ownP_less (ownP_set (ownP_set HOW6.out (by have := HPB.out; have := HHB.out; omega) 0 _) (by have := HPB.out; have := HHB.out; omega) 1 _) hpw2
            · exact ((bel2 HBr.out HB6.out).setCell (by show w.heap.size ≤ w.heap.size; omega) _).setCell (by show w.heap.size ≤ w.heap.size; omega) _
        · obtain ⟨A2, m2, c2, hv2⟩ := own_formE HOW.out
          subst hv2
          have hz : (0 : Int) < (m : Int) := by omega
          have g0 := HT.out.c0
          have g1 := HT.out.c1
          have HPL := Lib.hid (heapPop_any (w.heap.size + 1) hb wr.drew _ M HPr.out.drew (by rw [HM.out]; exact h0) HO.out (by rw [HM.out]; omega))
          have hta := assert_item
          clear h0
          go_wp2_with fail
          refine (heapLen_any A1 m c1 (by omega) wr).mono ?_
          rintro e w5 ⟨rfl, rfl⟩
          go_wp2_with fail
          go_region_law
            (first
              | (refine step_append_r (pb + 1) (w6.alloc (.cells #[.int .i64 a, .string b] 39)) (by rfl) _ _ 26 39 (by rfl) i0 _ 24 Tryz.underlying26 hi hz0 hz1 hz2 (by rfl) (by omega) (.slice A2 m2 c2) _ (by rfl) (ownP_al HOW6.out _) (by have := HS6.out; simp; omega) _ 1 1 [(.int .i64 a, .string b)] (by rfl) (by rfl) (news_one w6 _ _ _ 39 (Below.refl _ _)) (ones_twoI _ _ rfl rfl) (by rw [ivals_length]; have := HLN.out; simp; omega) ?_; intro v7 w7 ho7 hg7 hl7; have HO7 := Lib.hid ho7; have HG7 := Lib.hid hg7; clear ho7 hg7 hl7; obtain ⟨g7, c7, hv7, _⟩ := own_someP HO7.out (by simp); rw [List.length_append] at hv7; simp only [List.length_singleton] at hv7; subst hv7; have HT7 := Lib.hid ((HT6.out.keep (grown_of_bel ((Below.refl _ w6).alloc (Nat.le_refl _) _) none) (by simp)).keep HG7.out (fun e => own_pbM HOW.out e.symm)); have k0 := HT7.out.c0; have k1 := HT7.out.c1; have kf := HT7.out.f 1)
              | (go_simp; go_at_call 33; go_must (refine HPL.out.mono ?_); rintro e w6 ⟨a, b, rfl, v6, M6, hp6, hpe6, ho6, hmin6, hv6, hg6⟩; have HP6 := Lib.hid hp6; have HPE6 := Lib.hid hpe6; have HO6 := Lib.hid ho6; have HMIN6 := Lib.hid hmin6; have HV6 := Lib.hid hv6; have HG6 := Lib.hid hg6; have HT6 := Lib.hid (two_hg HT.out hg6 HPB.out HVP.out); have HOW6 := Lib.hid (own_hg HOW.out hg6 HPB.out HVP.out); have HS6 := Lib.hid (show pb < w6.heap.size from HT6.out.lt); clear hp6 hpe6 ho6 hmin6 hv6 hg6; have g60 := HT6.out.c0; have g61 := HT6.out.c1; have g62 := cell_alI g60 (.cells #[.int .i64 a, .string b] 39); have g63 := cell_alI g61 (.cells #[.int .i64 a, .string b] 39)))
          all_goals
            go_wp2_with fail
            go_roundg (M6.length)
            case measure =>
              have h := HPE6.out.length_eq
              rw [List.length_append, HMQ.out] at h
              simp at h
              omega
            case rel =>
              obtain ⟨r1, r2, r3⟩ := pop_step (x := (a, b)) HPE.out HSR.out HLE.out HPE6.out HMIN6.out
              have hgA := grown_of_bel ((Below.refl _ w6).alloc (Nat.le_refl _) (.cells #[.int .i64 a, .string b] 39)) none
              have hpA := hp_keep HP6.out hgA (by simp) (Classical.em _)
              have hpB := hp_keep hpA HG7.out (own_neM HOW.out (by have := HPB.out; omega)) (own_apart HOW.out (fun k hk => HVP.out k (HV6.out ▸ hk)))
              have hpC := hp_keep hpB (grown_setCell w7 pb 1 (.slice (some ⟨g7, 0, none⟩) ((ivals acc).length + 1) c7)) (by intro e; injection e; have := HPB.out; omega) (.inr (fun e => by have := HVP.out pb (HV6.out ▸ e); omega))
              have hoF : OwnP 39 (pb + 1) w7 (.slice (some ⟨g7, 0, none⟩) ((ivals acc).length + 1) c7) (ivals (acc ++ [(a, b)])) := by rw [ivals_snoc]; exact HO7.out
              have hlo := HG6.out.bel (B := w.heap.size + 1) (by have := HHB.out; omega) (fun k hk => own_ltM HPr.out.own hk) (by have := HPr.out.lt; have := HHB.out; show w.heap.size + 1 ≤ w5.heap.size; omega)
              have hlo2 : Below (w.heap.size + 1) w5 w6 := ⟨hlo.os, hlo.tape, hlo.output, hlo.size, hlo.block⟩
              have hlo3 := (HBL.out.trans hlo2).alloc (by have := HS6.out; have := HPB.out; have := HHB.out; omega) (.cells #[.int .i64 a, .string b] 39)
              have hlo4 := bel_gb hlo3 HG7.out (by have := HS6.out; have := HPB.out; have := HHB.out; simp; omega) (fun k hk => by have := (ownP_lt HOW.out hk).1; have := HPB.out; have := HHB.out; omega)
              exact ⟨v6, _, M6, acc ++ [(a, b)], rfl, hpC, HO6.out, HT7.out.set1 _, ownP_set_ne hoF (own_pbM hoF) 1 _, r1, r2, r3, (fun k hk => HVP.out k (HV6.out ▸ hk)), hlo4.setCell (by show w.heap.size + 1 ≤ pb; have := HPB.out; have := HHB.out; omega) _⟩
end
end Go.Proofs.YtkjginibdablnaaGreatDoor
