/- The law of a drawn pack's form: each name once. -/
import Derived.Test.YtkjginibdablnaaDoorDrawPack3
import Derived.Test.YtkjginibdablnaaDoorMkP
import Derived.Test.YtkjginibdablnaaDoorImplOk
import Derived.Test.YtkjginibdablnaaDoorPackCopy
import Derived.Deep.RegionHeld3
import Derived.Deep.DeepCutAuto
import Derived.Deep.CutBlock
namespace Go.Proofs.YtkjginibdablnaaDoor
open Go.RowKit
theorem own_eX {T B s : Nat} {W : World} (h : W.heap[s]? = some (.cells #[] T (0, 0))) (hs : B ≤ s) : OwnP T B W (.slice (some ⟨s, 0, none⟩) 0 0) [] :=
  ⟨by simp [flat], .inr ⟨s, 0, #[], rfl, hs, h, Nat.le_refl _, Nat.zero_le _, rfl, rfl⟩⟩
theorem bel_al3 (w : World) (o o' o'' : Obj) : Below w.heap.size w (((w.alloc o).alloc o').alloc o'').drew := bel_dr ((((Below.refl _ w).alloc (Nat.le_refl _) o).alloc (by simp) o').alloc (by simp; omega) o'')
theorem news_at {W : World} {s : Nat} {x y : Value} {T : TypeId} (h : W.heap[s]? = some (.cells #[x, y] T (0, 0))) : ∀ j u, (flat [(x, y)])[j]? = some u → W.cell? ((⟨s, 0, none⟩ : Addr).add j) = some u := by
  intro j u hj
  rw [add_at, Nat.zero_add]
  match j, hj with
  | 0, hj => simp [flat] at hj; subst hj; simp [World.cell?, h]
  | 1, hj => simp [flat] at hj; subst hj; simp [World.cell?, h]
  | j + 2, hj => simp [flat] at hj
theorem heap_al {w : World} {s : Nat} {o o' : Obj} (h : w.heap[s]? = some o) : (w.alloc o').heap[s]? = some o := by
  have hs : s < w.heap.size := by
    rcases Nat.lt_or_ge s w.heap.size with h' | h'
    · exact h'
    · rw [Array.getElem?_eq_none h'] at h; cases h
  rw [Below.heap_alloc _ _ _ hs]
  exact h
theorem cell_d {w : World} {a : Addr} {v : Value} (h : w.cell? a = some v) : w.drew.cell? a = some v := h
theorem cell_a1 {w : World} {a : Addr} {v : Value} {o : Obj} (h : w.cell? a = some v) : (w.alloc o).cell? a = some v := cell_alI h o
theorem cell_a2 {w : World} {a : Addr} {v : Value} {o o' : Obj} (h : w.cell? a = some v) : ((w.alloc o).alloc o').cell? a = some v := cell_alI (cell_alI h o) o'
theorem cell_a1d {w : World} {a : Addr} {v : Value} {o : Obj} (h : w.cell? a = some v) : (w.alloc o).drew.cell? a = some v := cell_alI h o
theorem cell_a2d {w : World} {a : Addr} {v : Value} {o o' : Obj} (h : w.cell? a = some v) : ((w.alloc o).alloc o').drew.cell? a = some v := cell_alI (cell_alI h o) o'
theorem cell_a3d {w : World} {a : Addr} {v : Value} {o o' o'' : Obj} (h : w.cell? a = some v) : (((w.alloc o).alloc o').alloc o'').drew.cell? a = some v := cell_alI (cell_alI (cell_alI h o) o') o''
theorem at_dr {w : World} {s : Nat} {o : Obj} (h : w.heap[s]? = some o) : w.drew.heap[s]? = some o := h
theorem at_new1 (w : World) (o o' : Obj) : ((w.alloc o).alloc o').heap[w.heap.size + 1]? = some o' := by
  have h := heap_alloc_new (w.alloc o) o'
  rwa [show (w.alloc o).heap.size = w.heap.size + 1 by simp] at h
theorem at_new2 (w : World) (o o' o'' : Obj) : (((w.alloc o).alloc o').alloc o'').heap[w.heap.size + 2]? = some o'' := by
  have h := heap_alloc_new ((w.alloc o).alloc o') o''
  rwa [show ((w.alloc o).alloc o').heap.size = w.heap.size + 2 by simp] at h
theorem gb_at2 {W w9 : World} {s g9 n c n' c' : Nat} (hg : W.grownBy w9 (Value.slice (some ⟨s, 0, none⟩) n c).ownBlock)
    (hl : (Value.slice (some ⟨g9, 0, none⟩) n' c').ownBlock = (Value.slice (some ⟨s, 0, none⟩) n c).ownBlock ∨ (Value.slice (some ⟨g9, 0, none⟩) n' c').ownBlock = some W.heap.size) :
    ∀ (k : Nat) (o : Obj), k ≠ s → W.heap[k]? = some o → w9.heap[k]? = some o ∧ g9 ≠ k := fun k o hk h => by
  have hs : k < W.heap.size := by
    rcases Nat.lt_or_ge k W.heap.size with h' | h'
    · exact h'
    · rw [Array.getElem?_eq_none h'] at h; cases h
  refine ⟨(hg.block k hs (fun e => hk (Option.some.inj e))).trans h, ?_⟩
  rcases hl with e | e
  · have h2 : g9 = s := Option.some.inj e
    omega
  · have h2 : g9 = W.heap.size := Option.some.inj e
    omega
theorem two_h0 {w : World} {b : Nat} {T : TypeId} {x y : Value} (h : w.heap[b]? = some (.cells #[x, y] T (0, 0))) : w.cell? ⟨b, 0, none⟩ = some x := Two.c0 h
theorem two_h1 {w : World} {b : Nat} {T : TypeId} {x y : Value} (h : w.heap[b]? = some (.cells #[x, y] T (0, 0))) : w.cell? ⟨b, 1, none⟩ = some y := Two.c1 h
theorem two_hf {w : World} {b : Nat} {T : TypeId} {x y : Value} (h : w.heap[b]? = some (.cells #[x, y] T (0, 0))) (i : Nat) : w.frozen? ⟨b, i, none⟩ = false := Two.f h i
theorem lp_tail {w : World} {B g m c : Nat} {l : List Itm} (ho : OwnP 40 B w (.slice (some ⟨g, 0, none⟩) m c) (ivals l)) (hm : l.length = m) (h1 : 1 ≤ m) :
    Lp w w.heap.size (.slice (if c = 1 then some (⟨g, 0, none⟩ : Addr) else some (⟨g, 2, none⟩ : Addr)) (m - 1) (c - 1)) (ivals (l.drop 1)) := by
  have h := lp_of_own ho
  have hc := (lp_cap h).1
  rw [ivals_length, hm] at hc
  have hlen : (ivals (l.drop 1)).length = m - 1 := by rw [ivals_length, List.length_drop, hm]
  refine ⟨_, c - 1, by rw [hlen], by rw [hlen]; omega, fun h0 => ?_⟩
  rw [hlen] at h0
  rw [if_neg (by omega)]
  refine ⟨g, 2, rfl, (ownP_lt ho rfl).2, fun j s hs => ?_⟩
  rw [ivals_drop, List.getElem?_drop] at hs
  obtain ⟨g', off', hA, _, d1, d2⟩ := lp_at h hs
  injection hA with hA
  injection hA with hA1 hA2
  subst hA1
  subst hA2
  rw [show 2 + j * 2 = 0 + (1 + j) * 2 by omega]
  exact ⟨d1, d2⟩
theorem form_more {key no : Int} {l : List Itm} {x : Itm} (hx : l[0]? = some x) : packB key no (l ++ [x]) = false := by
  cases hb : packB key no (l ++ [x]) with
  | false => rfl
  | true =>
    have hs := packB_strict hb
    unfold Strict at hs
    rw [List.pairwise_append] at hs
    have := hs.2.2 x (List.mem_of_getElem? hx) x (List.mem_singleton.2 rfl)
    omega
theorem form_no {key : Int} {l : List Itm} : packB key 0 l = false := packB_no (by decide)
theorem form_nil {key no : Int} : packB key no [] = false := packB_len (by decide)
theorem form_tail {key no : Int} {l : List Itm} (h : packB key no l = true) : packB key no (l.drop 1) = decide (1 < l.length) := by
  obtain ⟨h1, h2, h3, _⟩ := packB_parts h
  by_cases hl : 1 < l.length
  · rw [decide_eq_true hl]
    refine packB_all (decide_eq_true h1) h2 (decide_eq_true (by rw [List.length_drop]; omega)) (okToI_all fun i hi => ?_)
    rw [List.length_drop] at hi
    obtain ⟨x, hx⟩ : ∃ x, l[i + 1]? = some x := ⟨_, List.getElem?_eq_getElem (by omega)⟩
    have hxd : (l.drop 1)[i]? = some x := by rw [List.getElem?_drop, Nat.add_comm]; exact hx
    have hr := packB_right h (List.mem_of_getElem? hx)
    cases i with
    | zero => exact okI_zero hxd hr
    | succ j =>
      obtain ⟨y, hy⟩ : ∃ y, l[j + 1]? = some y := ⟨_, List.getElem?_eq_getElem (by omega)⟩
      have hyd : (l.drop 1)[j]? = some y := by rw [List.getElem?_drop, Nat.add_comm]; exact hy
      exact okI_next hxd hyd hr (decide_eq_true (packB_next h hy hx))
  · rw [decide_eq_false hl]
    exact packB_len (decide_eq_false (by rw [List.length_drop]; omega))
section
set_option maxHeartbeats 6400000
set_option maxRecDepth 100000
theorem lawFnPackForm (a : Option Addr) (len cap : Nat) (zs : List Int) (w : World) (h : Code w a len cap zs) (a0 a1 : Addr) (he : Errs w a0 a1) :
    Calls Tryd.prog 5 #[.slice a len cap] w fun e w' => e = .returned (.bool true) ∧ Below w.heap.size w w' := by
  have HE := Lib.hid he
  clear he
  by_cases hlen : len ≤ 1048576
  · obtain ⟨i0, hi, hz0, hz1, hz2⟩ := infoItem_parts
    go_enter Tryd.func5, Tryd.ntmps5
    go_wp2_with fail
    refine (drawPackOk_any a len cap zs w h).mono ?_
    rintro e w1 ⟨key, no, v, l, rfl, ho, hk0, hk1, h1, h6, hsz, hb⟩
    obtain ⟨g, c, hv, hg⟩ := own_someP ho (by rw [ivals_length]; exact h1)
    rw [ivals_length] at hv
    subst hv
    obtain ⟨m, hm⟩ : ∃ m, l.length = m := ⟨_, rfl⟩
    have HM := Lib.hid hm
    rw [hm] at ho h1 h6 ⊢
    obtain ⟨⟨x0, y0⟩, hx0⟩ : ∃ s, l[0]? = some s := ⟨_, List.getElem?_eq_getElem (by omega)⟩
    have HX0 := Lib.hid hx0
    obtain ⟨W2, hW2⟩ : ∃ X, X = w1.alloc (.cells #[.int .i64 no, .slice (some ⟨g, 0, none⟩) m c] 29) := ⟨_, rfl⟩
    have hb2 : Below w1.heap.size w1 W2 := by rw [hW2]; exact (Below.refl _ _).alloc (Nat.le_refl _) _
    have HT2 := Lib.hid (show Two W2 w1.heap.size 29 (.int .i64 no) (.slice (some ⟨g, 0, none⟩) m c) by rw [hW2]; exact two_new _ _ _ _)
    have HO2 := Lib.hid (ownP_below ho hb2)
    have HP2 := Lib.hid (lp_of_own HO2.out)
    have HB2 := Lib.hid (bel2 hb hb2)
    have HSZ := Lib.hid (show ∀ s ∈ l, s.2.size ≤ 1048576 from fun s hs => by have := hsz s hs; omega)
    have HG2 := Lib.hid (show g < W2.heap.size from (ownP_lt HO2.out rfl).2)
    have HW2 := Lib.hid hW2
    obtain ⟨b4, hb4⟩ : ∃ b, w1.heap.size = b := ⟨_, rfl⟩
    rw [hb4] at HT2
    obtain ⟨pb, hpb⟩ : ∃ pb, packB key no l = pb := ⟨_, rfl⟩
    have HPB := Lib.hid hpb
    have HOI := Lib.hid (fun (X : World) (hX : Below W2.heap.size W2 X) => packOk_any key no _ l X a0 a1 (HE.out.below (bel2 HB2.out hX)) (lp_next HP2.out hX) (by rw [HM.out]; omega) HSZ.out)
    have HOS := Lib.hid (fun (X : World) (hX : Below W2.heap.size W2 X) => packOkS_any key no _ l X (lp_next HP2.out hX) (by rw [HM.out]; omega) HSZ.out)
    rw [hpb] at HOI HOS
    have HSt := Lib.hid (fun (X : World) (hX : Below W2.heap.size W2 X) => show X.cell? ⟨b4, 0, none⟩ = some (.int .i64 no) ∧ X.cell? ⟨b4, 1, none⟩ = some (.slice (some ⟨g, 0, none⟩) m c) ∧ X.cell? ⟨g, 0, none⟩ = some (.int .i64 x0) ∧ X.cell? ⟨g, 1, none⟩ = some (.string y0) from by
      have h1 := HT2.out.keep (grown_of_bel hX none) (by simp)
      have h2 := row_at (ownP_below HO2.out hX) HM.out HX0.out
      exact ⟨h1.c0, h1.c1, by simpa using h2.1, by simpa using h2.2.1⟩)
    clear h ho hsz hb hb2 hW2 hm hpb hx0 hg
    go_wp2_with fail
    rw [← HW2.out]
    clear hb4
    refine (HOI.out W2 (Below.refl _ _)).mono ?_
    rintro e w3 ⟨rfl, hb3⟩
    have HB3 := Lib.hid hb3
    obtain ⟨p0, p1, _, _⟩ := HSt.out w3 hb3
    clear hb3
    go_wp2_with fail
    refine (HOS.out w3 HB3.out).mono ?_
    rintro e w7 ⟨rfl, hb7⟩
    have HB7 := Lib.hid (bel2 HB3.out hb7)
    clear hb7 p0 p1
    cases pb with
    | false =>
      obtain ⟨p0, p1, _, _⟩ := HSt.out w7 HB7.out
      go_wp2_with fail
      refine (HOS.out w7 HB7.out).mono ?_
      rintro e w8 ⟨rfl, hb8⟩
      have HB8 := Lib.hid (bel2 HB2.out (bel2 HB7.out hb8))
      clear hb8 p0 p1
      go_wp2
      go_ret
      exact ⟨rfl, HB8.out⟩
    | true =>
      have HPW := Lib.hid (fun (X : World) (hX : Below w7.heap.size w7 X) => (fun (j : Nat) (u : Value) (hu : (flat (ivals l))[j]? = some u) => news_all (lp_next HP2.out (bel2 HB7.out hX)) j u hu))
      have HS7 := Lib.hid (fun (X : World) (hX : Below w7.heap.size w7 X) => HSt.out X (bel2 HB7.out hX))
      obtain ⟨p0, p1, p2, p3⟩ := HSt.out w7 HB7.out
      have hb4l : b4 < w7.heap.size := by have := HT2.out.lt; have := HB7.out.size; omega
      have hgl : g < w7.heap.size := by have := HG2.out; have := HB7.out.size; omega
      have hm0 : (0 : Int) < (m : Int) := by omega
      have hm1 : 0 < m := h1
      go_upto_region 7 with fail
      go_cut [6] from 34 to 46 (fun p wx => Copied w7 no (m + 1) (l ++ [(x0, y0)]) p wx)
      case first =>
        go_wp2_with fail
        go_region_held3 (fun w' => w'.cell? ⟨b4, 0, none⟩ = some (.int .i64 no) ∧ w'.cell? ⟨b4, 1, none⟩ = some (.slice (some ⟨g, 0, none⟩) m c) ∧ w'.cell? ⟨g, 0, none⟩ = some (.int .i64 x0) ∧ w'.cell? ⟨g, 1, none⟩ = some (.string y0)) ((refine ⟨?_, ?_, ?_, ?_⟩ <;> first | with_reducible assumption | (with_reducible refine cell_d ?_; with_reducible assumption) | (with_reducible refine cell_a1d ?_; with_reducible assumption) | (with_reducible refine cell_a2d ?_; with_reducible assumption) | (with_reducible refine cell_a3d ?_; with_reducible assumption) | (with_reducible refine cell_a1 ?_; with_reducible assumption) | (with_reducible refine cell_a2 ?_; with_reducible assumption) | (with_reducible refine cell_far (cell_far ?_ (by omega)) (by omega); with_reducible assumption) | go_keep))
          (first
            | (refine step_append_r w7.heap.size _ (by rfl) _ _ 27 40 (by rfl) i0 _ 24 Tryd.underlying27 hi hz0 hz1 hz2 (by rfl) (by omega) (.slice (some ⟨w7.heap.size, 0, none⟩) 0 0) [] (by rfl) (own_eX (by refine at_dr ?_; first | exact heap_alloc_new _ _ | exact heap_al (heap_alloc_new _ _) | exact heap_al (heap_al (heap_alloc_new _ _)) | exact at_new1 _ _ _ | exact heap_al (at_new1 _ _ _) | exact at_new2 _ _ _ _) (by omega)) (by first | exact (bel_al1 w7 _).size | exact (bel_al2 w7 _ _).size | exact (bel_al3 w7 _ _ _).size) ⟨g, 0, none⟩ m c (ivals l) (by rfl) (by rw [ivals_length]; exact HM.out) (HPW.out _ (by first | exact bel_al1 _ _ | exact bel_al2 _ _ _ | exact bel_al3 _ _ _ _)) (ivals_ones l) (by rw [ivals_length, HM.out]; simp; omega) ?_; intro v9 w9 ho9 hg9 hl9; rw [List.nil_append] at ho9; have HO9 := Lib.hid ho9; have HB79 := Lib.hid (bel_gb (show Below w7.heap.size w7 _ from (by first | exact bel_al1 _ _ | exact bel_al2 _ _ _ | exact bel_al3 _ _ _ _)) hg9 (by first | exact (bel_al1 w7 _).size | exact (bel_al2 w7 _ _).size | exact (bel_al3 w7 _ _ _).size) (fun j hj => by cases hj; first | exact Nat.le_refl _ | exact Nat.le_add_right _ _)); obtain ⟨g9, c9, hv9, _⟩ := own_someP HO9.out (by rw [ivals_length, HM.out]; exact h1); rw [ivals_length, HM.out] at hv9; subst hv9; have HI9 := Lib.hid (gb_at2 hg9 hl9); have hg9l : g9 < w9.heap.size := (ownP_lt ho9 rfl).2; clear ho9 hg9 hl9; obtain ⟨s0, s1, s2, s3⟩ := HS7.out w9 HB79.out; have hs79 := HB79.out.size)
            | (refine step_append_r w7.heap.size _ (by rfl) _ _ 27 40 (by rfl) i0 _ 24 Tryd.underlying27 hi hz0 hz1 hz2 (by rfl) (by omega) (.slice (some ⟨w7.heap.size + 1, 0, none⟩) 0 0) [] (by rfl) (own_eX (by refine at_dr ?_; first | exact heap_alloc_new _ _ | exact heap_al (heap_alloc_new _ _) | exact heap_al (heap_al (heap_alloc_new _ _)) | exact at_new1 _ _ _ | exact heap_al (at_new1 _ _ _) | exact at_new2 _ _ _ _) (by omega)) (by first | exact (bel_al1 w7 _).size | exact (bel_al2 w7 _ _).size | exact (bel_al3 w7 _ _ _).size) ⟨g, 0, none⟩ m c (ivals l) (by rfl) (by rw [ivals_length]; exact HM.out) (HPW.out _ (by first | exact bel_al1 _ _ | exact bel_al2 _ _ _ | exact bel_al3 _ _ _ _)) (ivals_ones l) (by rw [ivals_length, HM.out]; simp; omega) ?_; intro v9 w9 ho9 hg9 hl9; rw [List.nil_append] at ho9; have HO9 := Lib.hid ho9; have HB79 := Lib.hid (bel_gb (show Below w7.heap.size w7 _ from (by first | exact bel_al1 _ _ | exact bel_al2 _ _ _ | exact bel_al3 _ _ _ _)) hg9 (by first | exact (bel_al1 w7 _).size | exact (bel_al2 w7 _ _).size | exact (bel_al3 w7 _ _ _).size) (fun j hj => by cases hj; first | exact Nat.le_refl _ | exact Nat.le_add_right _ _)); obtain ⟨g9, c9, hv9, _⟩ := own_someP HO9.out (by rw [ivals_length, HM.out]; exact h1); rw [ivals_length, HM.out] at hv9; subst hv9; have HI9 := Lib.hid (gb_at2 hg9 hl9); have hg9l : g9 < w9.heap.size := (ownP_lt ho9 rfl).2; clear ho9 hg9 hl9; obtain ⟨s0, s1, s2, s3⟩ := HS7.out w9 HB79.out; have hs79 := HB79.out.size)
            | (refine step_append_r w7.heap.size _ (by rfl) _ _ 27 40 (by rfl) i0 _ 24 Tryd.underlying27 hi hz0 hz1 hz2 (by rfl) (by omega) (.slice (some ⟨w7.heap.size + 2, 0, none⟩) 0 0) [] (by rfl) (own_eX (by refine at_dr ?_; first | exact heap_alloc_new _ _ | exact heap_al (heap_alloc_new _ _) | exact heap_al (heap_al (heap_alloc_new _ _)) | exact at_new1 _ _ _ | exact heap_al (at_new1 _ _ _) | exact at_new2 _ _ _ _) (by omega)) (by first | exact (bel_al1 w7 _).size | exact (bel_al2 w7 _ _).size | exact (bel_al3 w7 _ _ _).size) ⟨g, 0, none⟩ m c (ivals l) (by rfl) (by rw [ivals_length]; exact HM.out) (HPW.out _ (by first | exact bel_al1 _ _ | exact bel_al2 _ _ _ | exact bel_al3 _ _ _ _)) (ivals_ones l) (by rw [ivals_length, HM.out]; simp; omega) ?_; intro v9 w9 ho9 hg9 hl9; rw [List.nil_append] at ho9; have HO9 := Lib.hid ho9; have HB79 := Lib.hid (bel_gb (show Below w7.heap.size w7 _ from (by first | exact bel_al1 _ _ | exact bel_al2 _ _ _ | exact bel_al3 _ _ _ _)) hg9 (by first | exact (bel_al1 w7 _).size | exact (bel_al2 w7 _ _).size | exact (bel_al3 w7 _ _ _).size) (fun j hj => by cases hj; first | exact Nat.le_refl _ | exact Nat.le_add_right _ _)); obtain ⟨g9, c9, hv9, _⟩ := own_someP HO9.out (by rw [ivals_length, HM.out]; exact h1); rw [ivals_length, HM.out] at hv9; subst hv9; have HI9 := Lib.hid (gb_at2 hg9 hl9); have hg9l : g9 < w9.heap.size := (ownP_lt ho9 rfl).2; clear ho9 hg9 hl9; obtain ⟨s0, s1, s2, s3⟩ := HS7.out w9 HB79.out; have hs79 := HB79.out.size)
            | (refine step_append_r w7.heap.size _ (by rfl) _ _ 27 40 (by rfl) i0 _ 24 Tryd.underlying27 hi hz0 hz1 hz2 (by rfl) (by omega) (.slice (some ⟨g9, 0, none⟩) m c9) (ivals l) (by rfl) (by first | exact HO9.out | exact ownP_al HO9.out _ | exact ownP_al (ownP_al HO9.out _) _) (by first | exact HB79.out.size | (have := HB79.out.size; simp; omega)) ⟨w7.heap.size, 0, none⟩ 1 1 [(.int .i64 x0, .string y0)] (by rfl) (by rfl) (news_at (by first | exact (HI9.out w7.heap.size (.cells #[.int .i64 x0, .string y0] 40 (0, 0)) (by omega) (by refine at_dr ?_; first | exact heap_alloc_new _ _ | exact heap_al (heap_alloc_new _ _) | exact heap_al (heap_al (heap_alloc_new _ _)) | exact at_new1 _ _ _ | exact heap_al (at_new1 _ _ _) | exact at_new2 _ _ _ _)).1 | exact heap_al (HI9.out w7.heap.size (.cells #[.int .i64 x0, .string y0] 40 (0, 0)) (by omega) (by refine at_dr ?_; first | exact heap_alloc_new _ _ | exact heap_al (heap_alloc_new _ _) | exact heap_al (heap_al (heap_alloc_new _ _)) | exact at_new1 _ _ _ | exact heap_al (at_new1 _ _ _) | exact at_new2 _ _ _ _)).1)) (ones_twoI _ _ rfl rfl) (by rw [ivals_length, HM.out]; simp; omega) ?_; intro v10 w10 ho10 hg10 hl10; have HO10 := Lib.hid ho10; have HB710 := Lib.hid (bel_gb (show Below w7.heap.size w7 _ from (by first | exact HB79.out | exact HB79.out.alloc HB79.out.size _ | exact (HB79.out.alloc HB79.out.size _).alloc (by have := HB79.out.size; simp; omega) _)) hg10 (by first | exact HB79.out.size | (have := HB79.out.size; simp; omega)) (fun j hj => by cases hj; exact (ownP_lt HO9.out rfl).1)); obtain ⟨g10, c10, hv10, _⟩ := own_someP HO10.out (by simp); rw [List.length_append, ivals_length, HM.out] at hv10; simp only [List.length_singleton] at hv10; subst hv10; have HI10 := Lib.hid (gb_at2 hg10 hl10); clear ho10 hg10 hl10 s0 s1 s2 s3; obtain ⟨s0, s1, s2, s3⟩ := HS7.out w10 HB710.out; have hs710 := HB710.out.size; first | (have h9 := HI9.out w7.heap.size (.cells #[.int .i64 0, .slice none 0 0] 29 (0, 0)) (by omega) (by refine at_dr ?_; first | exact heap_alloc_new _ _ | exact heap_al (heap_alloc_new _ _) | exact heap_al (heap_al (heap_alloc_new _ _)) | exact at_new1 _ _ _ | exact heap_al (at_new1 _ _ _) | exact at_new2 _ _ _ _); have HTP := Lib.hid (HI10.out w7.heap.size (.cells #[.int .i64 0, .slice none 0 0] 29 (0, 0)) (fun e => h9.2 e.symm) (by first | exact h9.1 | exact heap_al h9.1)); clear h9; have k0 := two_h0 HTP.out.1; have k1 := two_h1 HTP.out.1; have k2 := two_hf HTP.out.1 0; have k3 := two_hf HTP.out.1 1) | (have h9 := HI9.out (w7.heap.size + 1) (.cells #[.int .i64 0, .slice none 0 0] 29 (0, 0)) (by omega) (by refine at_dr ?_; first | exact heap_alloc_new _ _ | exact heap_al (heap_alloc_new _ _) | exact heap_al (heap_al (heap_alloc_new _ _)) | exact at_new1 _ _ _ | exact heap_al (at_new1 _ _ _) | exact at_new2 _ _ _ _); have HTP := Lib.hid (HI10.out (w7.heap.size + 1) (.cells #[.int .i64 0, .slice none 0 0] 29 (0, 0)) (fun e => h9.2 e.symm) (by first | exact h9.1 | exact heap_al h9.1)); clear h9; have k0 := two_h0 HTP.out.1; have k1 := two_h1 HTP.out.1; have k2 := two_hf HTP.out.1 0; have k3 := two_hf HTP.out.1 1) | (have h9 := HI9.out (w7.heap.size + 2) (.cells #[.int .i64 0, .slice none 0 0] 29 (0, 0)) (by omega) (by refine at_dr ?_; first | exact heap_alloc_new _ _ | exact heap_al (heap_alloc_new _ _) | exact heap_al (heap_al (heap_alloc_new _ _)) | exact at_new1 _ _ _ | exact heap_al (at_new1 _ _ _) | exact at_new2 _ _ _ _); have HTP := Lib.hid (HI10.out (w7.heap.size + 2) (.cells #[.int .i64 0, .slice none 0 0] 29 (0, 0)) (fun e => h9.2 e.symm) (by first | exact h9.1 | exact heap_al h9.1)); clear h9; have k0 := two_h0 HTP.out.1; have k1 := two_h1 HTP.out.1; have k2 := two_hf HTP.out.1 0; have k3 := two_hf HTP.out.1 1) | (have HTP := Lib.hid (HI10.out w9.heap.size (.cells #[.int .i64 0, .slice none 0 0] 29 (0, 0)) (by omega) (by first | exact heap_alloc_new _ _ | exact heap_al (heap_alloc_new _ _) | exact heap_al (heap_al (heap_alloc_new _ _)) | exact at_new1 _ _ _ | exact heap_al (at_new1 _ _ _) | exact at_new2 _ _ _ _)); have k0 := two_h0 HTP.out.1; have k1 := two_h1 HTP.out.1; have k2 := two_hf HTP.out.1 0; have k3 := two_hf HTP.out.1 1) | (have HTP := Lib.hid (HI10.out (w9.heap.size + 1) (.cells #[.int .i64 0, .slice none 0 0] 29 (0, 0)) (by omega) (by first | exact heap_alloc_new _ _ | exact heap_al (heap_alloc_new _ _) | exact heap_al (heap_al (heap_alloc_new _ _)) | exact at_new1 _ _ _ | exact heap_al (at_new1 _ _ _) | exact at_new2 _ _ _ _)); have k0 := two_h0 HTP.out.1; have k1 := two_h1 HTP.out.1; have k2 := two_hf HTP.out.1 0; have k3 := two_hf HTP.out.1 1) | skip)
            | (refine step_append_r w7.heap.size _ (by rfl) _ _ 27 40 (by rfl) i0 _ 24 Tryd.underlying27 hi hz0 hz1 hz2 (by rfl) (by omega) (.slice (some ⟨g9, 0, none⟩) m c9) (ivals l) (by rfl) (by first | exact HO9.out | exact ownP_al HO9.out _ | exact ownP_al (ownP_al HO9.out _) _) (by first | exact HB79.out.size | (have := HB79.out.size; simp; omega)) ⟨w7.heap.size + 1, 0, none⟩ 1 1 [(.int .i64 x0, .string y0)] (by rfl) (by rfl) (news_at (by first | exact (HI9.out (w7.heap.size + 1) (.cells #[.int .i64 x0, .string y0] 40 (0, 0)) (by omega) (by refine at_dr ?_; first | exact heap_alloc_new _ _ | exact heap_al (heap_alloc_new _ _) | exact heap_al (heap_al (heap_alloc_new _ _)) | exact at_new1 _ _ _ | exact heap_al (at_new1 _ _ _) | exact at_new2 _ _ _ _)).1 | exact heap_al (HI9.out (w7.heap.size + 1) (.cells #[.int .i64 x0, .string y0] 40 (0, 0)) (by omega) (by refine at_dr ?_; first | exact heap_alloc_new _ _ | exact heap_al (heap_alloc_new _ _) | exact heap_al (heap_al (heap_alloc_new _ _)) | exact at_new1 _ _ _ | exact heap_al (at_new1 _ _ _) | exact at_new2 _ _ _ _)).1)) (ones_twoI _ _ rfl rfl) (by rw [ivals_length, HM.out]; simp; omega) ?_; intro v10 w10 ho10 hg10 hl10; have HO10 := Lib.hid ho10; have HB710 := Lib.hid (bel_gb (show Below w7.heap.size w7 _ from (by first | exact HB79.out | exact HB79.out.alloc HB79.out.size _ | exact (HB79.out.alloc HB79.out.size _).alloc (by have := HB79.out.size; simp; omega) _)) hg10 (by first | exact HB79.out.size | (have := HB79.out.size; simp; omega)) (fun j hj => by cases hj; exact (ownP_lt HO9.out rfl).1)); obtain ⟨g10, c10, hv10, _⟩ := own_someP HO10.out (by simp); rw [List.length_append, ivals_length, HM.out] at hv10; simp only [List.length_singleton] at hv10; subst hv10; have HI10 := Lib.hid (gb_at2 hg10 hl10); clear ho10 hg10 hl10 s0 s1 s2 s3; obtain ⟨s0, s1, s2, s3⟩ := HS7.out w10 HB710.out; have hs710 := HB710.out.size; first | (have h9 := HI9.out w7.heap.size (.cells #[.int .i64 0, .slice none 0 0] 29 (0, 0)) (by omega) (by refine at_dr ?_; first | exact heap_alloc_new _ _ | exact heap_al (heap_alloc_new _ _) | exact heap_al (heap_al (heap_alloc_new _ _)) | exact at_new1 _ _ _ | exact heap_al (at_new1 _ _ _) | exact at_new2 _ _ _ _); have HTP := Lib.hid (HI10.out w7.heap.size (.cells #[.int .i64 0, .slice none 0 0] 29 (0, 0)) (fun e => h9.2 e.symm) (by first | exact h9.1 | exact heap_al h9.1)); clear h9; have k0 := two_h0 HTP.out.1; have k1 := two_h1 HTP.out.1; have k2 := two_hf HTP.out.1 0; have k3 := two_hf HTP.out.1 1) | (have h9 := HI9.out (w7.heap.size + 1) (.cells #[.int .i64 0, .slice none 0 0] 29 (0, 0)) (by omega) (by refine at_dr ?_; first | exact heap_alloc_new _ _ | exact heap_al (heap_alloc_new _ _) | exact heap_al (heap_al (heap_alloc_new _ _)) | exact at_new1 _ _ _ | exact heap_al (at_new1 _ _ _) | exact at_new2 _ _ _ _); have HTP := Lib.hid (HI10.out (w7.heap.size + 1) (.cells #[.int .i64 0, .slice none 0 0] 29 (0, 0)) (fun e => h9.2 e.symm) (by first | exact h9.1 | exact heap_al h9.1)); clear h9; have k0 := two_h0 HTP.out.1; have k1 := two_h1 HTP.out.1; have k2 := two_hf HTP.out.1 0; have k3 := two_hf HTP.out.1 1) | (have h9 := HI9.out (w7.heap.size + 2) (.cells #[.int .i64 0, .slice none 0 0] 29 (0, 0)) (by omega) (by refine at_dr ?_; first | exact heap_alloc_new _ _ | exact heap_al (heap_alloc_new _ _) | exact heap_al (heap_al (heap_alloc_new _ _)) | exact at_new1 _ _ _ | exact heap_al (at_new1 _ _ _) | exact at_new2 _ _ _ _); have HTP := Lib.hid (HI10.out (w7.heap.size + 2) (.cells #[.int .i64 0, .slice none 0 0] 29 (0, 0)) (fun e => h9.2 e.symm) (by first | exact h9.1 | exact heap_al h9.1)); clear h9; have k0 := two_h0 HTP.out.1; have k1 := two_h1 HTP.out.1; have k2 := two_hf HTP.out.1 0; have k3 := two_hf HTP.out.1 1) | (have HTP := Lib.hid (HI10.out w9.heap.size (.cells #[.int .i64 0, .slice none 0 0] 29 (0, 0)) (by omega) (by first | exact heap_alloc_new _ _ | exact heap_al (heap_alloc_new _ _) | exact heap_al (heap_al (heap_alloc_new _ _)) | exact at_new1 _ _ _ | exact heap_al (at_new1 _ _ _) | exact at_new2 _ _ _ _)); have k0 := two_h0 HTP.out.1; have k1 := two_h1 HTP.out.1; have k2 := two_hf HTP.out.1 0; have k3 := two_hf HTP.out.1 1) | (have HTP := Lib.hid (HI10.out (w9.heap.size + 1) (.cells #[.int .i64 0, .slice none 0 0] 29 (0, 0)) (by omega) (by first | exact heap_alloc_new _ _ | exact heap_al (heap_alloc_new _ _) | exact heap_al (heap_al (heap_alloc_new _ _)) | exact at_new1 _ _ _ | exact heap_al (at_new1 _ _ _) | exact at_new2 _ _ _ _)); have k0 := two_h0 HTP.out.1; have k1 := two_h1 HTP.out.1; have k2 := two_hf HTP.out.1 0; have k3 := two_hf HTP.out.1 1) | skip)
            | (refine step_append_r w7.heap.size _ (by rfl) _ _ 27 40 (by rfl) i0 _ 24 Tryd.underlying27 hi hz0 hz1 hz2 (by rfl) (by omega) (.slice (some ⟨g9, 0, none⟩) m c9) (ivals l) (by rfl) (by first | exact HO9.out | exact ownP_al HO9.out _ | exact ownP_al (ownP_al HO9.out _) _) (by first | exact HB79.out.size | (have := HB79.out.size; simp; omega)) ⟨w7.heap.size + 2, 0, none⟩ 1 1 [(.int .i64 x0, .string y0)] (by rfl) (by rfl) (news_at (by first | exact (HI9.out (w7.heap.size + 2) (.cells #[.int .i64 x0, .string y0] 40 (0, 0)) (by omega) (by refine at_dr ?_; first | exact heap_alloc_new _ _ | exact heap_al (heap_alloc_new _ _) | exact heap_al (heap_al (heap_alloc_new _ _)) | exact at_new1 _ _ _ | exact heap_al (at_new1 _ _ _) | exact at_new2 _ _ _ _)).1 | exact heap_al (HI9.out (w7.heap.size + 2) (.cells #[.int .i64 x0, .string y0] 40 (0, 0)) (by omega) (by refine at_dr ?_; first | exact heap_alloc_new _ _ | exact heap_al (heap_alloc_new _ _) | exact heap_al (heap_al (heap_alloc_new _ _)) | exact at_new1 _ _ _ | exact heap_al (at_new1 _ _ _) | exact at_new2 _ _ _ _)).1)) (ones_twoI _ _ rfl rfl) (by rw [ivals_length, HM.out]; simp; omega) ?_; intro v10 w10 ho10 hg10 hl10; have HO10 := Lib.hid ho10; have HB710 := Lib.hid (bel_gb (show Below w7.heap.size w7 _ from (by first | exact HB79.out | exact HB79.out.alloc HB79.out.size _ | exact (HB79.out.alloc HB79.out.size _).alloc (by have := HB79.out.size; simp; omega) _)) hg10 (by first | exact HB79.out.size | (have := HB79.out.size; simp; omega)) (fun j hj => by cases hj; exact (ownP_lt HO9.out rfl).1)); obtain ⟨g10, c10, hv10, _⟩ := own_someP HO10.out (by simp); rw [List.length_append, ivals_length, HM.out] at hv10; simp only [List.length_singleton] at hv10; subst hv10; have HI10 := Lib.hid (gb_at2 hg10 hl10); clear ho10 hg10 hl10 s0 s1 s2 s3; obtain ⟨s0, s1, s2, s3⟩ := HS7.out w10 HB710.out; have hs710 := HB710.out.size; first | (have h9 := HI9.out w7.heap.size (.cells #[.int .i64 0, .slice none 0 0] 29 (0, 0)) (by omega) (by refine at_dr ?_; first | exact heap_alloc_new _ _ | exact heap_al (heap_alloc_new _ _) | exact heap_al (heap_al (heap_alloc_new _ _)) | exact at_new1 _ _ _ | exact heap_al (at_new1 _ _ _) | exact at_new2 _ _ _ _); have HTP := Lib.hid (HI10.out w7.heap.size (.cells #[.int .i64 0, .slice none 0 0] 29 (0, 0)) (fun e => h9.2 e.symm) (by first | exact h9.1 | exact heap_al h9.1)); clear h9; have k0 := two_h0 HTP.out.1; have k1 := two_h1 HTP.out.1; have k2 := two_hf HTP.out.1 0; have k3 := two_hf HTP.out.1 1) | (have h9 := HI9.out (w7.heap.size + 1) (.cells #[.int .i64 0, .slice none 0 0] 29 (0, 0)) (by omega) (by refine at_dr ?_; first | exact heap_alloc_new _ _ | exact heap_al (heap_alloc_new _ _) | exact heap_al (heap_al (heap_alloc_new _ _)) | exact at_new1 _ _ _ | exact heap_al (at_new1 _ _ _) | exact at_new2 _ _ _ _); have HTP := Lib.hid (HI10.out (w7.heap.size + 1) (.cells #[.int .i64 0, .slice none 0 0] 29 (0, 0)) (fun e => h9.2 e.symm) (by first | exact h9.1 | exact heap_al h9.1)); clear h9; have k0 := two_h0 HTP.out.1; have k1 := two_h1 HTP.out.1; have k2 := two_hf HTP.out.1 0; have k3 := two_hf HTP.out.1 1) | (have h9 := HI9.out (w7.heap.size + 2) (.cells #[.int .i64 0, .slice none 0 0] 29 (0, 0)) (by omega) (by refine at_dr ?_; first | exact heap_alloc_new _ _ | exact heap_al (heap_alloc_new _ _) | exact heap_al (heap_al (heap_alloc_new _ _)) | exact at_new1 _ _ _ | exact heap_al (at_new1 _ _ _) | exact at_new2 _ _ _ _); have HTP := Lib.hid (HI10.out (w7.heap.size + 2) (.cells #[.int .i64 0, .slice none 0 0] 29 (0, 0)) (fun e => h9.2 e.symm) (by first | exact h9.1 | exact heap_al h9.1)); clear h9; have k0 := two_h0 HTP.out.1; have k1 := two_h1 HTP.out.1; have k2 := two_hf HTP.out.1 0; have k3 := two_hf HTP.out.1 1) | (have HTP := Lib.hid (HI10.out w9.heap.size (.cells #[.int .i64 0, .slice none 0 0] 29 (0, 0)) (by omega) (by first | exact heap_alloc_new _ _ | exact heap_al (heap_alloc_new _ _) | exact heap_al (heap_al (heap_alloc_new _ _)) | exact at_new1 _ _ _ | exact heap_al (at_new1 _ _ _) | exact at_new2 _ _ _ _)); have k0 := two_h0 HTP.out.1; have k1 := two_h1 HTP.out.1; have k2 := two_hf HTP.out.1 0; have k3 := two_hf HTP.out.1 1) | (have HTP := Lib.hid (HI10.out (w9.heap.size + 1) (.cells #[.int .i64 0, .slice none 0 0] 29 (0, 0)) (by omega) (by first | exact heap_alloc_new _ _ | exact heap_al (heap_alloc_new _ _) | exact heap_al (heap_al (heap_alloc_new _ _)) | exact at_new1 _ _ _ | exact heap_al (at_new1 _ _ _) | exact at_new2 _ _ _ _)); have k0 := two_h0 HTP.out.1; have k1 := two_h1 HTP.out.1; have k2 := two_hf HTP.out.1 0; have k3 := two_hf HTP.out.1 1) | skip)
            | (refine step_append_r w7.heap.size _ (by rfl) _ _ 27 40 (by rfl) i0 _ 24 Tryd.underlying27 hi hz0 hz1 hz2 (by rfl) (by omega) (.slice (some ⟨g9, 0, none⟩) m c9) (ivals l) (by rfl) (by first | exact HO9.out | exact ownP_al HO9.out _ | exact ownP_al (ownP_al HO9.out _) _) (by first | exact HB79.out.size | (have := HB79.out.size; simp; omega)) ⟨w9.heap.size, 0, none⟩ 1 1 [(.int .i64 x0, .string y0)] (by rfl) (by rfl) (news_at (by first | exact heap_alloc_new _ _ | exact heap_al (heap_alloc_new _ _) | exact heap_al (heap_al (heap_alloc_new _ _)) | exact at_new1 _ _ _ | exact heap_al (at_new1 _ _ _) | exact at_new2 _ _ _ _)) (ones_twoI _ _ rfl rfl) (by rw [ivals_length, HM.out]; simp; omega) ?_; intro v10 w10 ho10 hg10 hl10; have HO10 := Lib.hid ho10; have HB710 := Lib.hid (bel_gb (show Below w7.heap.size w7 _ from (by first | exact HB79.out | exact HB79.out.alloc HB79.out.size _ | exact (HB79.out.alloc HB79.out.size _).alloc (by have := HB79.out.size; simp; omega) _)) hg10 (by first | exact HB79.out.size | (have := HB79.out.size; simp; omega)) (fun j hj => by cases hj; exact (ownP_lt HO9.out rfl).1)); obtain ⟨g10, c10, hv10, _⟩ := own_someP HO10.out (by simp); rw [List.length_append, ivals_length, HM.out] at hv10; simp only [List.length_singleton] at hv10; subst hv10; have HI10 := Lib.hid (gb_at2 hg10 hl10); clear ho10 hg10 hl10 s0 s1 s2 s3; obtain ⟨s0, s1, s2, s3⟩ := HS7.out w10 HB710.out; have hs710 := HB710.out.size; first | (have h9 := HI9.out w7.heap.size (.cells #[.int .i64 0, .slice none 0 0] 29 (0, 0)) (by omega) (by refine at_dr ?_; first | exact heap_alloc_new _ _ | exact heap_al (heap_alloc_new _ _) | exact heap_al (heap_al (heap_alloc_new _ _)) | exact at_new1 _ _ _ | exact heap_al (at_new1 _ _ _) | exact at_new2 _ _ _ _); have HTP := Lib.hid (HI10.out w7.heap.size (.cells #[.int .i64 0, .slice none 0 0] 29 (0, 0)) (fun e => h9.2 e.symm) (by first | exact h9.1 | exact heap_al h9.1)); clear h9; have k0 := two_h0 HTP.out.1; have k1 := two_h1 HTP.out.1; have k2 := two_hf HTP.out.1 0; have k3 := two_hf HTP.out.1 1) | (have h9 := HI9.out (w7.heap.size + 1) (.cells #[.int .i64 0, .slice none 0 0] 29 (0, 0)) (by omega) (by refine at_dr ?_; first | exact heap_alloc_new _ _ | exact heap_al (heap_alloc_new _ _) | exact heap_al (heap_al (heap_alloc_new _ _)) | exact at_new1 _ _ _ | exact heap_al (at_new1 _ _ _) | exact at_new2 _ _ _ _); have HTP := Lib.hid (HI10.out (w7.heap.size + 1) (.cells #[.int .i64 0, .slice none 0 0] 29 (0, 0)) (fun e => h9.2 e.symm) (by first | exact h9.1 | exact heap_al h9.1)); clear h9; have k0 := two_h0 HTP.out.1; have k1 := two_h1 HTP.out.1; have k2 := two_hf HTP.out.1 0; have k3 := two_hf HTP.out.1 1) | (have h9 := HI9.out (w7.heap.size + 2) (.cells #[.int .i64 0, .slice none 0 0] 29 (0, 0)) (by omega) (by refine at_dr ?_; first | exact heap_alloc_new _ _ | exact heap_al (heap_alloc_new _ _) | exact heap_al (heap_al (heap_alloc_new _ _)) | exact at_new1 _ _ _ | exact heap_al (at_new1 _ _ _) | exact at_new2 _ _ _ _); have HTP := Lib.hid (HI10.out (w7.heap.size + 2) (.cells #[.int .i64 0, .slice none 0 0] 29 (0, 0)) (fun e => h9.2 e.symm) (by first | exact h9.1 | exact heap_al h9.1)); clear h9; have k0 := two_h0 HTP.out.1; have k1 := two_h1 HTP.out.1; have k2 := two_hf HTP.out.1 0; have k3 := two_hf HTP.out.1 1) | (have HTP := Lib.hid (HI10.out w9.heap.size (.cells #[.int .i64 0, .slice none 0 0] 29 (0, 0)) (by omega) (by first | exact heap_alloc_new _ _ | exact heap_al (heap_alloc_new _ _) | exact heap_al (heap_al (heap_alloc_new _ _)) | exact at_new1 _ _ _ | exact heap_al (at_new1 _ _ _) | exact at_new2 _ _ _ _)); have k0 := two_h0 HTP.out.1; have k1 := two_h1 HTP.out.1; have k2 := two_hf HTP.out.1 0; have k3 := two_hf HTP.out.1 1) | (have HTP := Lib.hid (HI10.out (w9.heap.size + 1) (.cells #[.int .i64 0, .slice none 0 0] 29 (0, 0)) (by omega) (by first | exact heap_alloc_new _ _ | exact heap_al (heap_alloc_new _ _) | exact heap_al (heap_al (heap_alloc_new _ _)) | exact at_new1 _ _ _ | exact heap_al (at_new1 _ _ _) | exact at_new2 _ _ _ _)); have k0 := two_h0 HTP.out.1; have k1 := two_h1 HTP.out.1; have k2 := two_hf HTP.out.1 0; have k3 := two_hf HTP.out.1 1) | skip)
            | (refine step_append_r w7.heap.size _ (by rfl) _ _ 27 40 (by rfl) i0 _ 24 Tryd.underlying27 hi hz0 hz1 hz2 (by rfl) (by omega) (.slice (some ⟨g9, 0, none⟩) m c9) (ivals l) (by rfl) (by first | exact HO9.out | exact ownP_al HO9.out _ | exact ownP_al (ownP_al HO9.out _) _) (by first | exact HB79.out.size | (have := HB79.out.size; simp; omega)) ⟨w9.heap.size + 1, 0, none⟩ 1 1 [(.int .i64 x0, .string y0)] (by rfl) (by rfl) (news_at (by first | exact heap_alloc_new _ _ | exact heap_al (heap_alloc_new _ _) | exact heap_al (heap_al (heap_alloc_new _ _)) | exact at_new1 _ _ _ | exact heap_al (at_new1 _ _ _) | exact at_new2 _ _ _ _)) (ones_twoI _ _ rfl rfl) (by rw [ivals_length, HM.out]; simp; omega) ?_; intro v10 w10 ho10 hg10 hl10; have HO10 := Lib.hid ho10; have HB710 := Lib.hid (bel_gb (show Below w7.heap.size w7 _ from (by first | exact HB79.out | exact HB79.out.alloc HB79.out.size _ | exact (HB79.out.alloc HB79.out.size _).alloc (by have := HB79.out.size; simp; omega) _)) hg10 (by first | exact HB79.out.size | (have := HB79.out.size; simp; omega)) (fun j hj => by cases hj; exact (ownP_lt HO9.out rfl).1)); obtain ⟨g10, c10, hv10, _⟩ := own_someP HO10.out (by simp); rw [List.length_append, ivals_length, HM.out] at hv10; simp only [List.length_singleton] at hv10; subst hv10; have HI10 := Lib.hid (gb_at2 hg10 hl10); clear ho10 hg10 hl10 s0 s1 s2 s3; obtain ⟨s0, s1, s2, s3⟩ := HS7.out w10 HB710.out; have hs710 := HB710.out.size; first | (have h9 := HI9.out w7.heap.size (.cells #[.int .i64 0, .slice none 0 0] 29 (0, 0)) (by omega) (by refine at_dr ?_; first | exact heap_alloc_new _ _ | exact heap_al (heap_alloc_new _ _) | exact heap_al (heap_al (heap_alloc_new _ _)) | exact at_new1 _ _ _ | exact heap_al (at_new1 _ _ _) | exact at_new2 _ _ _ _); have HTP := Lib.hid (HI10.out w7.heap.size (.cells #[.int .i64 0, .slice none 0 0] 29 (0, 0)) (fun e => h9.2 e.symm) (by first | exact h9.1 | exact heap_al h9.1)); clear h9; have k0 := two_h0 HTP.out.1; have k1 := two_h1 HTP.out.1; have k2 := two_hf HTP.out.1 0; have k3 := two_hf HTP.out.1 1) | (have h9 := HI9.out (w7.heap.size + 1) (.cells #[.int .i64 0, .slice none 0 0] 29 (0, 0)) (by omega) (by refine at_dr ?_; first | exact heap_alloc_new _ _ | exact heap_al (heap_alloc_new _ _) | exact heap_al (heap_al (heap_alloc_new _ _)) | exact at_new1 _ _ _ | exact heap_al (at_new1 _ _ _) | exact at_new2 _ _ _ _); have HTP := Lib.hid (HI10.out (w7.heap.size + 1) (.cells #[.int .i64 0, .slice none 0 0] 29 (0, 0)) (fun e => h9.2 e.symm) (by first | exact h9.1 | exact heap_al h9.1)); clear h9; have k0 := two_h0 HTP.out.1; have k1 := two_h1 HTP.out.1; have k2 := two_hf HTP.out.1 0; have k3 := two_hf HTP.out.1 1) | (have h9 := HI9.out (w7.heap.size + 2) (.cells #[.int .i64 0, .slice none 0 0] 29 (0, 0)) (by omega) (by refine at_dr ?_; first | exact heap_alloc_new _ _ | exact heap_al (heap_alloc_new _ _) | exact heap_al (heap_al (heap_alloc_new _ _)) | exact at_new1 _ _ _ | exact heap_al (at_new1 _ _ _) | exact at_new2 _ _ _ _); have HTP := Lib.hid (HI10.out (w7.heap.size + 2) (.cells #[.int .i64 0, .slice none 0 0] 29 (0, 0)) (fun e => h9.2 e.symm) (by first | exact h9.1 | exact heap_al h9.1)); clear h9; have k0 := two_h0 HTP.out.1; have k1 := two_h1 HTP.out.1; have k2 := two_hf HTP.out.1 0; have k3 := two_hf HTP.out.1 1) | (have HTP := Lib.hid (HI10.out w9.heap.size (.cells #[.int .i64 0, .slice none 0 0] 29 (0, 0)) (by omega) (by first | exact heap_alloc_new _ _ | exact heap_al (heap_alloc_new _ _) | exact heap_al (heap_al (heap_alloc_new _ _)) | exact at_new1 _ _ _ | exact heap_al (at_new1 _ _ _) | exact at_new2 _ _ _ _)); have k0 := two_h0 HTP.out.1; have k1 := two_h1 HTP.out.1; have k2 := two_hf HTP.out.1 0; have k3 := two_hf HTP.out.1 1) | (have HTP := Lib.hid (HI10.out (w9.heap.size + 1) (.cells #[.int .i64 0, .slice none 0 0] 29 (0, 0)) (by omega) (by first | exact heap_alloc_new _ _ | exact heap_al (heap_alloc_new _ _) | exact heap_al (heap_al (heap_alloc_new _ _)) | exact at_new1 _ _ _ | exact heap_al (at_new1 _ _ _) | exact at_new2 _ _ _ _)); have k0 := two_h0 HTP.out.1; have k1 := two_h1 HTP.out.1; have k2 := two_hf HTP.out.1 0; have k3 := two_hf HTP.out.1 1) | skip)
            | fail)
        all_goals
          have HOF := Lib.hid (show OwnP 40 w7.heap.size w10 (.slice (some ⟨g10, 0, none⟩) (m + 1) c10) (ivals (l ++ [(x0, y0)])) by rw [ivals_snoc]; exact HO10.out)
          go_wp2_with fail
          go_meet
          first
            | exact copied_new HOF.out HB710.out
            | exact copied_old HOF.out HB710.out HTP.out.1 HTP.out.2 (by omega)
      case rest =>
        obtain ⟨b6, g6, c6, hu, hT6, hO6, _, hwb, hbl⟩ := hcut
        subst hu
        have HT6 := Lib.hid hT6
        have HO6 := Lib.hid hO6
        have HBc := Lib.hid (bel2 HB7.out hbl)
        obtain ⟨W8, hW8⟩ : ∃ X, X = wc.alloc (.cells #[.int .i64 0, .slice (some ⟨g, 0, none⟩) m c] 29) := ⟨_, rfl⟩
        have hb8 : Below wc.heap.size wc W8 := by rw [hW8]; exact (Below.refl _ _).alloc (Nat.le_refl _) _
        have HT68 := Lib.hid (HT6.out.keep (grown_of_bel hb8 none) (by simp))
        have HO68 := Lib.hid (ownP_below HO6.out hb8)
        have HT8 := Lib.hid (show Two W8 wc.heap.size 29 (.int .i64 0) (.slice (some ⟨g, 0, none⟩) m c) by rw [hW8]; exact two_new _ _ _ _)
        have HB8 := Lib.hid (bel2 HBc.out hb8)
        have HW8 := Lib.hid hW8
        obtain ⟨b7, hb7⟩ : ∃ b, wc.heap.size = b := ⟨_, rfl⟩
        rw [hb7] at HT8
        obtain ⟨p0, p1, p2, p3⟩ := HSt.out wc HBc.out
        obtain ⟨r0, r1, r2, r3⟩ := HSt.out W8 HB8.out
        have e0 := cell_alI r0 (.cells #[.int .i64 0, .slice none 0 0] 29)
        have e1 := cell_alI r1 (.cells #[.int .i64 0, .slice none 0 0] 29)
        have hmc : m ≤ c := by
          have := (lp_cap HP2.out).1
          rw [ivals_length, HM.out] at this
          exact this
        have hi1 : (1 : Int) ≤ (m : Int) := by omega
        have hmc1 : (m : Int) ≤ (c : Int) := by omega
        clear hT6 hO6 hwb hbl hb8 hW8
        go_upto_region 9 with fail
        clear hb7
        rw [← HW8.out]
        go_region
        obtain ⟨AC, hAC⟩ : ∃ x : Option Addr, (if c = 1 then some (⟨g, 0, none⟩ : Addr) else some (⟨g, 2, none⟩ : Addr)) = x := ⟨_, rfl⟩
        obtain ⟨m1, hm1'⟩ : ∃ x, m - 1 = x := ⟨_, rfl⟩
        obtain ⟨c1, hc1'⟩ : ∃ x, c - 1 = x := ⟨_, rfl⟩
        have HPT := Lib.hid (fun (X : World) (hX : Below W2.heap.size W2 X) => show Lp X X.heap.size (.slice AC m1 c1) (ivals (l.drop 1)) by
          have h := lp_tail (ownP_below HO2.out hX) HM.out h1
          rw [hAC, hm1', hc1'] at h
          exact h)
        rw [hAC, hm1', hc1']
        obtain ⟨W9, hW9⟩ : ∃ X, X = (W8.alloc (.cells #[.int .i64 no, .slice AC m1 c1] 29)).drew := ⟨_, rfl⟩
        have hb9 : Below W8.heap.size W8 W9 := by rw [hW9]; exact bel_al1 W8 _
        have HT9 := Lib.hid (show Two W9 W8.heap.size 29 (.int .i64 no) (.slice AC m1 c1) by rw [hW9]; exact two_new W8 _ _ _)
        have HT69 := Lib.hid (HT68.out.keep (grown_of_bel hb9 none) (by simp))
        have HT79 := Lib.hid (HT8.out.keep (grown_of_bel hb9 none) (by simp))
        have HO69 := Lib.hid (ownP_below HO68.out hb9)
        have HB9 := Lib.hid (bel2 HB8.out hb9)
        rw [← hW9]
        obtain ⟨b8, hb8'⟩ : ∃ b, W8.heap.size = b := ⟨_, rfl⟩
        rw [hb8'] at HT9 ⊢
        have HStA := Lib.hid (fun (X : World) (hX : Below W9.heap.size W9 X) => show X.cell? ⟨b6, 0, none⟩ = some (.int .i64 no) ∧ X.cell? ⟨b6, 1, none⟩ = some (.slice (some ⟨g6, 0, none⟩) (m + 1) c6) ∧ X.cell? ⟨b7, 0, none⟩ = some (.int .i64 0) ∧ X.cell? ⟨b7, 1, none⟩ = some (.slice (some ⟨g, 0, none⟩) m c) ∧ X.cell? ⟨b8, 0, none⟩ = some (.int .i64 no) ∧ X.cell? ⟨b8, 1, none⟩ = some (.slice AC m1 c1) ∧ X.cell? ⟨b4, 0, none⟩ = some (.int .i64 no) ∧ X.cell? ⟨b4, 1, none⟩ = some (.slice (some ⟨g, 0, none⟩) m c) from by
          have t6 := HT69.out.keep (grown_of_bel hX none) (by simp)
          have t7 := HT79.out.keep (grown_of_bel hX none) (by simp)
          have t8 := HT9.out.keep (grown_of_bel hX none) (by simp)
          have t4 := HSt.out X (bel2 HB9.out hX)
          exact ⟨t6.c0, t6.c1, t7.c0, t7.c1, t8.c0, t8.c1, t4.1, t4.2.1⟩)
        have HSL := Lib.hid (show ∀ s ∈ l ++ [(x0, y0)], s.2.size ≤ 1048576 from fun s hs => by
          rcases List.mem_append.1 hs with hs | hs
          · exact HSZ.out s hs
          · rw [List.mem_singleton.1 hs]; exact HSZ.out _ (List.mem_of_getElem? HX0.out))
        have HCA := Lib.hid (fun (X : World) (hX : Below W9.heap.size W9 X) => packOk_any key no _ (l ++ [(x0, y0)]) X a0 a1 (HE.out.below (bel2 HB2.out (bel2 HB9.out hX))) (lp_of_own (ownP_below HO69.out hX)) (by rw [List.length_append, HM.out]; simp; omega) HSL.out)
        rw [form_more HX0.out] at HCA
        have HCB := Lib.hid (fun (X : World) (hX : Below W9.heap.size W9 X) => packOk_any key 0 _ l X a0 a1 (HE.out.below (bel2 HB2.out (bel2 HB9.out hX))) (lp_next HP2.out (bel2 HB9.out hX)) (by rw [HM.out]; omega) HSZ.out)
        rw [form_no] at HCB
        have HCC := Lib.hid (fun (X : World) (hX : Below W9.heap.size W9 X) => packOk_any key no _ (l.drop 1) X a0 a1 (HE.out.below (bel2 HB2.out (bel2 HB9.out hX))) (HPT.out X (bel2 HB9.out hX)) (by rw [List.length_drop, HM.out]; omega) (fun s hs => HSZ.out s (List.mem_of_mem_drop hs)))
        obtain ⟨q, hq⟩ : ∃ q, decide (1 < m) = q := ⟨_, rfl⟩
        rw [form_tail HPB.out, HM.out, hq] at HCC
        have HCD := Lib.hid (fun (X : World) (hX : Below W9.heap.size W9 X) => packOk_any key no (.slice none 0 0) [] X a0 a1 (HE.out.below (bel2 HB2.out (bel2 HB9.out hX))) (lp_none X _) (by simp) (by simp))
        rw [form_nil] at HCD
        have hqz : decide ((1 : Int) < (m : Int)) = q := by rw [← hq]; exact decide_eq_decide.2 (by omega)
        have hqq : (q == q) = true := by simp
        have HBD := Lib.hid (show Below W9.heap.size W9 W9.drew from ⟨rfl, rfl, rfl, Nat.le_refl _, fun _ _ => rfl⟩)
        obtain ⟨u0, u1, u2, u3, u4', u5, u6', u7⟩ := HStA.out W9 (Below.refl _ _)
        clear hAC hm1' hc1' hW9 hb9 hb8' hq p0 p1 p2 p3 r0 r1 r2 r3 e0 e1 hmc hi1 hmc1
        go_wp2_with fail
        go_region_held3 (fun w' => w'.cell? ⟨b6, 0, none⟩ = some (.int .i64 no) ∧ w'.cell? ⟨b6, 1, none⟩ = some (.slice (some ⟨g6, 0, none⟩) (m + 1) c6) ∧ w'.cell? ⟨b7, 0, none⟩ = some (.int .i64 0) ∧ w'.cell? ⟨b7, 1, none⟩ = some (.slice (some ⟨g, 0, none⟩) m c) ∧ w'.cell? ⟨b8, 0, none⟩ = some (.int .i64 no) ∧ w'.cell? ⟨b8, 1, none⟩ = some (.slice AC m1 c1) ∧ w'.cell? ⟨b4, 0, none⟩ = some (.int .i64 no) ∧ w'.cell? ⟨b4, 1, none⟩ = some (.slice (some ⟨g, 0, none⟩) m c)) ((refine ⟨?_, ?_, ?_, ?_, ?_, ?_, ?_, ?_⟩ <;> assumption))
          (first
            | (go_at_call 13; with_reducible refine (HCA.out W9.drew HBD.out).mono ?_; rintro e w11 ⟨rfl, hb11⟩; have HB11 := Lib.hid (bel2 HBD.out hb11); obtain ⟨s0, s1, s2, s3, s4, s5, s6, s7⟩ := HStA.out w11 HB11.out; clear hb11)
            | (go_at_call 13; with_reducible refine (HCB.out w11 HB11.out).mono ?_; rintro e w12 ⟨rfl, hb12⟩; have HB12 := Lib.hid (bel2 HB11.out hb12); obtain ⟨s0, s1, s2, s3, s4, s5, s6, s7⟩ := HStA.out w12 HB12.out; clear hb12)
            | (go_at_call 13; with_reducible refine (HCC.out w12 HB12.out).mono ?_; rintro e w13 ⟨rfl, hb13⟩; have HB13 := Lib.hid (bel2 HB12.out hb13); obtain ⟨s0, s1, s2, s3, s4, s5, s6, s7⟩ := HStA.out w13 HB13.out; clear hb13)
            | (go_at_call 13; with_reducible refine (HCD.out w13 HB13.out).mono ?_; rintro e w14 ⟨rfl, hb14⟩; have HB14 := Lib.hid (bel2 HB13.out hb14); obtain ⟨s0, s1, s2, s3, s4, s5, s6, s7⟩ := HStA.out w14 HB14.out; clear hb14)
            | fail)
        go_wp2
        go_ret
        exact ⟨rfl, bel2 HB2.out (bel2 HB9.out HB14.out)⟩
  · go_enter Tryd.func5, Tryd.ntmps5
    go_wp2_with fail
    go_ret
    exact ⟨rfl, Below.refl _ _⟩
end
end Go.Proofs.YtkjginibdablnaaDoor
