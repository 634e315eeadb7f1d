/- The drawing of a pack. -/
import Derived.Test.YtkjginibdablnaaDoorSome
import Derived.Test.YtkjginibdablnaaDoorKey
import Derived.Deep.DeepCutAuto
import Derived.Deep.CutBlock
import Derived.Deep.RegionLaw
namespace Go.Proofs.YtkjginibdablnaaDoor
open Go.RowKit
/-- a drawn pack -/
def GavePack (w : World) (r K : Nat) (e : Ending) (w' : World) : Prop :=
  ∃ (key no : Int) (v : Value) (l : List Itm), e = .returned (.tuple #[.int .i64 key, packV no v]) ∧ 0 ≤ key ∧ key ≤ 100 ∧ OwnP 40 w.heap.size w' v (ivals l) ∧ 1 ≤ l.length ∧ l.length ≤ 6 ∧ (∀ s ∈ l, s.2.size ≤ 9) ∧ Rd w' r K ∧ Below r w w'
/-- the pack as it lies while it is drawn -/
def Lay (w : World) (r b : Nat) (W : World) (no : Int) (v : Value) (l : List Itm) : Prop :=
  Two W b 29 (.int .i64 no) v ∧ OwnP 40 (w.heap.size + 1) W v (ivals l) ∧ Below r w W ∧ Two W w.heap.size 29 (.int .i64 0) (.slice none 0 0)
def Laid (w : World) (r K b m : Nat) (W : World) : Prop :=
  ∃ (no : Int) (v : Value) (l : List Itm), Lay w r b W no v l ∧ v.ownBlock ≠ some b ∧ 1 ≤ l.length ∧ l.length ≤ m ∧ (∀ s ∈ l, s.2.size ≤ 9) ∧ Rd W r K
theorem lay_pick {w W W' : World} {r b : Nat} {no : Int} {v : Value} {l : List Itm} (h : Lay w r b W no v l) (hg : W.grownBy W' (some r)) (hr : r < w.heap.size) (hb : w.heap.size < b) : Lay w r b W' no v l :=
  ⟨h.1.keep hg (by intro e; injection e; omega), ownP_pick h.2.1 hg (by omega), h.2.2.1.trans (gb_below hg (Nat.le_refl _) (by have := h.2.2.1.size; omega)), h.2.2.2.keep hg (by intro e; injection e; omega)⟩
theorem lay_row {w W : World} {r b g n c : Nat} {no : Int} {l : List Itm} (h : Lay w r b W no (.slice (some ⟨g, 0, none⟩) n c) l) (hn : l.length = n) : W.ownsRow (w.heap.size + 1) 40 2 (.slice (some ⟨g, 0, none⟩) n c) n (flat (ivals l)) := by
  have h2 := h.2.1
  unfold OwnP at h2
  rw [ivals_length, hn] at h2
  exact h2
theorem two_far {w : World} {b b' i : Nat} {T : TypeId} {x y u : Value} (h : Two w b T x y) (hb : b ≠ b') : Two (w.setCell ⟨b', i, none⟩ u) b T x y := h.keep (grown_setCell w b' i u) (by intro e; injection e; omega)
theorem rd_far {w : World} {r K b i : Nat} {u : Value} (h : Rd w r K) (hb : r < b) : Rd (w.setCell ⟨b, i, none⟩ u) r K := h.grown (grown_setCell w b i u) (fun k e => by injection e; omega)
theorem flat_set2 : ∀ {l : List Itm} {k : Nat} {a : Int} {b c : ByteArray}, l[k]? = some (a, b) → (flat (ivals l)).set (k * 2 + 1) (.string c) = flat (ivals (l.set k (a, c)))
  | (a', b') :: l, 0, a, b, c, h => by
    injection h with h
    injection h with h1 h2
    subst h1
    rfl
  | s :: l, k + 1, a, b, c, h => by
    have h2 := flat_set2 (l := l) (k := k) (a := a) (b := b) (c := c) (by simpa using h)
    show (flat (ival s :: ivals l)).set ((k + 1) * 2 + 1) (.string c) = flat (ival s :: ivals (l.set k (a, c)))
    rw [flat_cons, flat_cons, ← h2, show (k + 1) * 2 + 1 = (k * 2 + 1) + 2 by omega]
    rfl
theorem makeI_size9 (k : Nat) (ps : List ByteArray) : ∀ s ∈ makeI k ps, s.2.size ≤ 9 := by
  suffices ∀ (ps : List ByteArray) (l : List Itm), (∀ s ∈ l, s.2.size ≤ 9) → ∀ s ∈ ps.foldl (fun l p => putI l (itemOf k p)) l, s.2.size ≤ 9 from this ps [] fun _ h => by cases h
  intro ps
  induction ps with
  | nil => exact fun _ h => h
  | cons p ps ih =>
    intro l h
    rw [List.foldl_cons]
    refine ih _ fun s hs => ?_
    rcases List.mem_cons.1 ((putI_perm l _).subset hs) with rfl | hs
    · show (⟨(padL p.data.toList).toArray⟩ : ByteArray).size ≤ 9
      rw [bar_size]
      have := padL_len8 p.data.toList
      omega
    · exact h s hs
theorem madeB_len {no key : Int} {ps : List ByteArray} (h : madeB no key ps = true) : 1 ≤ ps.length ∧ ps.length ≤ 4 := by
  simp only [madeB, Bool.and_eq_true, decide_eq_true_eq] at h
  exact h.2.2.1
section
set_option maxHeartbeats 3200000
set_option maxRecDepth 100000
theorem l91Pack_any (w : World) (r K : Nat) (h : Rd w r K) (hK : K ≤ 50000) :
    Calls Tryd.prog 41 #[.pointer (some ⟨r, 0, none⟩)] w (GavePack w r (K + 40)) := by
  obtain ⟨i0, hi, hz0, hz1, hz2⟩ := infoItem_parts
  have hrw := h.lt
  obtain ⟨W, hW⟩ : ∃ W, W = w.alloc (.cells #[.int .i64 0, .slice none 0 0] 29) := ⟨_, rfl⟩
  have HWs := Lib.hid (show W.heap.size = w.heap.size + 1 by rw [hW]; simp)
  have HBW := Lib.hid (show Below r w W by rw [hW]; exact (Below.refl _ _).alloc (by omega) _)
  have HTW := Lib.hid (show Two W w.heap.size 29 (.int .i64 0) (.slice none 0 0) by rw [hW]; exact two_new _ _ _ _)
  have HR := Lib.hid (show Rd W r K by rw [hW]; exact h.alloc _)
  have HW := Lib.hid hW
  clear h hW
  go_enter Tryd.func41, Tryd.ntmps41
  go_wp2_with fail
  rw [← HW.out]
  refine (pick_any 9 _ r _ HR.out (by omega) (by omega)).mono ?_
  rintro e w1 ⟨x1, rfl, hx1, _, hr1, hg1⟩
  have hx1b : x1 < 9 := by have := hx1 (by omega); omega
  have HR1 := Lib.hid hr1
  have HB1 := Lib.hid (HBW.out.trans (gb_below hg1 (Nat.le_refl _) (by have := HWs.out; omega)))
  have HT1 := Lib.hid (HTW.out.keep hg1 (by intro e; injection e; omega))
  have hs1 : w.heap.size + 1 ≤ w1.heap.size := by have := hg1.size; have := HWs.out; omega
  clear hx1 hr1 hg1
  go_wp2_with fail
  refine (l91Some_any 4 w1 r _ HR1.out (by omega) (by omega) (by omega)).mono ?_
  rintro e w2 ⟨vs, ps, rfl, ho2, hl2, hsz2, hr2, hb2⟩
  have HR2 := Lib.hid hr2
  have HB2 := Lib.hid (HB1.out.trans (gb_below hb2 (Nat.le_refl _) (by omega)))
  have HT2 := Lib.hid (HT1.out.keep hb2 (by intro e; injection e; omega))
  have HO2 := Lib.hid ho2
  have HSZ2 := Lib.hid hsz2
  have hs2 : w.heap.size + 1 ≤ w2.heap.size := Nat.le_trans hs1 hb2.size
  clear hr2 hb2 ho2 hsz2
  have HPM := Lib.hid (packMakeS_any (1 + (x1 : Int)) 7 vs ps w2 (lst_of_own HO2.out) (by omega) (fun s hs => by have := HSZ2.out s hs; unfold maxLen; omega))
  go_wp2_with fail
  refine HPM.out.mono ?_
  rintro e w3 ⟨⟨v3, rfl, ho3⟩, hb3⟩
  obtain ⟨A3, m3, c3, hv3⟩ := own_formE ho3
  subst hv3
  obtain ⟨W4, hW4⟩ : ∃ X, X = w3.alloc (.cells #[.int .i64 (madeN (1 + (x1 : Int)) 7 ps), .slice A3 m3 c3] 29) := ⟨_, rfl⟩
  have hs3 : w.heap.size + 1 ≤ w3.heap.size := Nat.le_trans hs2 hb3.size
  have hb4 : Below w3.heap.size w3 W4 := by rw [hW4]; exact (Below.refl _ _).alloc (Nat.le_refl _) _
  have HS4 := Lib.hid (show W4.heap.size = w3.heap.size + 1 by rw [hW4]; simp)
  have HO4 := Lib.hid (ownP_below ho3 hb4)
  have HNE := Lib.hid (show (Value.slice A3 m3 c3).ownBlock ≠ some w3.heap.size from fun e => by have := (ownP_lt ho3 e).2; omega)
  have HR4 := Lib.hid ((HR2.out.below hb3 (by omega)).below hb4 (by omega))
  have HB4 := Lib.hid (HB2.out.trans ((hb3.trans (hb4.mono hb3.size)).mono (by omega)))
  have HT4 := Lib.hid (show Two W4 w.heap.size 29 (.int .i64 0) (.slice none 0 0) from (hb4.block _ (by omega)).trans ((hb3.block _ (by omega)).trans HT2.out))
  have HP4 := Lib.hid (show Two W4 w3.heap.size 29 (.int .i64 (madeN (1 + (x1 : Int)) 7 ps)) (.slice A3 m3 c3) by rw [hW4]; exact two_new _ _ _ _)
  have HW4 := Lib.hid hW4
  clear ho3 hb3 hb4 hW4
  obtain ⟨no, hno⟩ : ∃ no, madeN (1 + (x1 : Int)) 7 ps = no := ⟨_, rfl⟩
  obtain ⟨ok, hok⟩ : ∃ ok, madeB (1 + (x1 : Int)) 7 ps = ok := ⟨_, rfl⟩
  have HOK := Lib.hid hok
  rw [hno] at HW4 HP4
  rw [hno, hok]
  clear hno hok
  go_upto_if 19 with fail
  rw [← HW4.out]
  obtain ⟨b, hb⟩ : ∃ b, w3.heap.size = b := ⟨_, rfl⟩
  rw [hb] at HNE HP4 HS4 hs3 ⊢
  clear hb HW4
  go_cut [] from 18 to 22 (fun wx => Laid w r (K + 22) b 4 wx)
  case first =>
    cases ok with
    | true =>
      have HMI := Lib.hid (madeI_yes HOK.out).1
      have HML := Lib.hid (madeB_len HOK.out)
      go_wp2_with fail
      go_meet
      exact ⟨no, _, madeI (1 + (x1 : Int)) 7 ps, ⟨HP4.out, ownP_less HO4.out (by omega), HB4.out, HT4.out⟩, HNE.out, by rw [HMI.out, makeI_length]; exact HML.out.1, by rw [HMI.out, makeI_length]; exact HML.out.2, by rw [HMI.out]; exact makeI_size9 _ _, HR4.out⟩
    | false =>
      obtain ⟨W5, hW5⟩ : ∃ X, X = W4.alloc (.cells #[.string ⟨#[97, 98, 99]⟩, .string ⟨#[98]⟩] 9) := ⟨_, rfl⟩
      have HL5 := Lib.hid (show Lst W5 W5.heap.size (.slice (some ⟨W4.heap.size, 0, none⟩) 2 2) (barVals [⟨#[97, 98, 99]⟩, ⟨#[98]⟩]) by
        rw [hW5]
        exact lst_of_own (World.ownsRow_lit W4 #[.string ⟨#[97, 98, 99]⟩, .string ⟨#[98]⟩] 2 (Nat.le_refl _) (by unfold maxLen; omega) rfl))
      have HB5 := Lib.hid (show Below W4.heap.size W4 W5 by rw [hW5]; exact (Below.refl _ _).alloc (Nat.le_refl _) _)
      have HM5 := Lib.hid (l3Make_any 3 7 _ _ W5 (by omega) HL5.out (by simp) (by
        intro s hs
        rcases List.mem_cons.1 hs with rfl | hs
        · rfl
        · rw [List.mem_singleton.1 hs]; rfl))
      have HW5 := Lib.hid hW5
      clear hW5
      go_wp2_with fail
      rw [← HW5.out]
      refine HM5.out.mono ?_
      rintro e w6 ⟨v6, rfl, ho6, hb6⟩
      obtain ⟨A6, m6, c6, hv6⟩ := own_formE ho6
      subst hv6
      have HB6 := Lib.hid (bel2 HB5.out hb6)
      have HP6 := Lib.hid (HP4.out.keep (grown_of_bel HB6.out none) (by simp))
      have HT6 := Lib.hid (HT4.out.keep (grown_of_bel HB6.out none) (by simp))
      have HO6 := Lib.hid (ownP_less ho6 HB5.out.size)
      have HR6 := Lib.hid (HR4.out.below HB6.out (by have := HS4.out; omega))
      clear ho6 hb6
      have hp0 := HP6.out.c0
      have hp1 := HP6.out.c1
      have hf0 := HP6.out.f 0
      have hf1 := HP6.out.f 1
      have h4s := HS4.out
      go_wp2_with fail
      go_meet
      have HNE6 := Lib.hid (ownP_ne HO6.out (show b < W4.heap.size by omega))
      exact ⟨3, _, makeI 7 [⟨#[97, 98, 99]⟩, ⟨#[98]⟩], ⟨(HP6.out.set0 _).set1 _, ownP_less (ownP_set_ne (ownP_set_ne HO6.out HNE6.out 0 _) HNE6.out 1 _) (by omega), ((HB4.out.trans (HB6.out.mono (by omega))).setCell (by show r ≤ b; omega) _).setCell (by show r ≤ b; omega) _, two_far (two_far HT6.out (by omega)) (by omega)⟩, HNE6.out, by rw [makeI_length]; simp, by rw [makeI_length]; simp, makeI_size9 _ _, rd_far (rd_far HR6.out (by omega)) (by omega)⟩
  case rest =>
    obtain ⟨no, v, l, hlay, hne, h1, h4, hsz, hr⟩ := hcut
    have HSZ := Lib.hid hsz
    have HNV := Lib.hid hne
    have hlb : w.heap.size < b := by omega
    obtain ⟨g, c, hv, hg⟩ := own_someP hlay.2.1 (by rw [ivals_length]; exact h1)
    subst hv
    rw [ivals_length] at *
    obtain ⟨n, hn⟩ : ∃ n, l.length = n := ⟨_, rfl⟩
    have HN := Lib.hid hn
    rw [hn] at hlay hne h1 h4 HNV
    have HLY := Lib.hid hlay
    have HR := Lib.hid hr
    have hp1 := hlay.1.c1
    clear hlay hr hne hsz hn
    go_wp2_with fail
    refine (pick_any (n : Int) _ r _ HR.out (by omega) (by omega)).mono ?_
    rintro e w5 ⟨k, rfl, hk, _, hr5, hg5⟩
    have hkn : k < n := by have := hk (by omega); omega
    have HR5 := Lib.hid hr5
    have HL5 := Lib.hid (lay_pick HLY.out hg5 hrw hlb)
    clear hk hr5 hg5 hp1
    go_wp2_with fail
    refine (pick_any 8 _ r _ HR5.out (by omega) (by omega)).mono ?_
    rintro e w6 ⟨x, rfl, hx, _, hr6, hg6⟩
    have HR6 := Lib.hid hr6
    have HL6 := Lib.hid (lay_pick HL5.out hg6 hrw hlb)
    clear hx hr6 hg6
    go_upto_block 0 with fail
    go_cut [] from 28 to 59 (fun wx => Laid w r (K + 30) b 5 wx)
    case first =>
      have hp1 := HL6.out.1.c1
      rcases (by omega : x = 0 ∨ x = 1 ∨ x = 2 ∨ 3 ≤ x) with rfl | rfl | rfl | hx3
      · obtain ⟨⟨a, b0⟩, hs⟩ : ∃ s, l[k]? = some s := ⟨_, List.getElem?_eq_getElem (by have := HN.out; omega)⟩
        obtain ⟨_, hg2⟩ := flat_get (ivals_get hs)
        have HG2 := Lib.hid hg2
        have HSet := Lib.hid (fun z => flat_set2 (c := z) hs)
        clear hs hg2
        have hk1 : (k : Int) < (n : Int) := by omega
        have hk0 : (0 : Int) ≤ (k : Int) := by omega
        have z1 := cell_alI hp1 (.cells #[.string ⟨#[122, 122]⟩, .string ⟨#[98, 46]⟩, .string ⟨#[]⟩, .string ⟨#[97, 98, 99, 46]⟩] 9)
        go_wp2_with fail
        go_region_with (go_at_call 64; go_must (refine (of_lit (Short 9) 4 _ w6.drew r (K + 24) (HR6.out.drewN 1) (by omega) (by omega) (by omega) rfl (by intro v hv; simp at hv; rcases hv with rfl | rfl | rfl | rfl <;> exact ⟨_, rfl, by unfold Short; decide⟩)).mono ?_); rintro e w7 ⟨z, rfl, hz, hr7, hg7⟩; have HR7 := Lib.hid hr7; have HZ := Lib.hid (show z.size ≤ 9 from hz); have HL7 := Lib.hid (lay_pick HL6.out (show w6.grownBy w7 (some r) from ⟨hg7.os, hg7.tape, hg7.output, hg7.size, hg7.block⟩) hrw hlb); clear hz hr7 hg7; have hp7 := HL7.out.1.c1; have HRow := Lib.hid (lay_row HL7.out HN.out); have hq7 := (HRow.out.cellAt (k * 2 + 1) (by omega)).trans HG2.out; have hf7 := HRow.out.frozenAt (k * 2 + 1))
        all_goals
          go_wp2_with fail
          go_meet
          exact ⟨no, _, l.set k (a, z), ⟨two_far HL7.out.1 (fun e => HNV.out (by rw [e]; rfl)), (by have h := (HRow.out.stored (k * 2 + 1) (.string z)).1; unfold OwnP; rw [ivals_length, List.length_set, HN.out, ← HSet.out]; exact h), HL7.out.2.2.1.setCell (by show r ≤ g; omega) _, two_far HL7.out.2.2.2 (by omega)⟩, HNV.out, by rw [List.length_set, HN.out]; exact h1, by rw [List.length_set, HN.out]; omega, (fun s hs => by rcases List.mem_or_eq_of_mem_set hs with hs | rfl; exact HSZ.out s hs; exact HZ.out), rd_far (HR7.out.more (by omega)) (by omega)⟩
      · go_wp2_with fail
        have hp0 := HL6.out.1.c0
        go_region_with (go_at_call 47; go_must (refine (l91Key_any w6.drew r (K + 24) (HR6.out.drewN 1) (by omega)).mono ?_); rintro e w7 ⟨key, rfl, hk0, hk1, hr7, hg7⟩; have HR7 := Lib.hid hr7; have HKK := Lib.hid (And.intro hk0 hk1); have HL7 := Lib.hid (lay_pick HL6.out (show w6.grownBy w7 (some r) from ⟨hg7.os, hg7.tape, hg7.output, hg7.size, hg7.block⟩) hrw hlb); clear hk0 hk1 hr7 hg7; have hp70 := HL7.out.1.c0; have hp71 := HL7.out.1.c1; have f3 := HL7.out.2.2.2.c0; have f4 := HL7.out.2.2.2.c1; have f5 := HL7.out.2.2.2.f 0; have f6 := HL7.out.2.2.2.f 1)
        all_goals
          go_wp2
          refine bodyPost_ret_by (v := .tuple #[.int .i64 key, packV no (.slice (some ⟨g, 0, none⟩) n c)]) ?_ rfl ⟨key, no, _, l, rfl, HKK.out.1, HKK.out.2, ?_, by rw [HN.out]; exact h1, by rw [HN.out]; omega, HSZ.out, ?_, ?_⟩
          · simp [results, Tryd.results41, Tryd.isAgg29, Tryd.sizeOf29, go_sem, f3, f4]
          · exact ownP_less (ownP_set (ownP_set HL7.out.2.1 (by omega) 0 _) (by omega) 1 _) (by omega)
          · exact rd_far (rd_far (HR7.out.more (by omega)) (by omega)) (by omega)
          · exact (HL7.out.2.2.1.setCell (by show r ≤ w.heap.size; omega) _).setCell (by show r ≤ w.heap.size; omega) _
      · go_wp2_with fail
        refine (pick_any 3 _ r _ HR6.out (by omega) (by omega)).mono ?_
        rintro e w7 ⟨y, rfl, _, _, hr7, hg7⟩
        have HR7 := Lib.hid hr7
        have HL7 := Lib.hid (lay_pick HL6.out hg7 hrw hlb)
        clear hr7 hg7 hp1
        by_cases hy : y = 0
        · subst hy
          obtain ⟨⟨a, b0⟩, hs⟩ : ∃ s, l[k]? = some s := ⟨_, List.getElem?_eq_getElem (by have := HN.out; omega)⟩
          obtain ⟨hg1, hg2⟩ := flat_get (ivals_get hs)
          have HS0 := Lib.hid (HSZ.out _ (List.mem_of_getElem? hs))
          clear hs
          have hk1 : (k : Int) < (n : Int) := by omega
          have hk0 : (0 : Int) ≤ (k : Int) := by omega
          have hp1 := HL7.out.1.c1
          have hq1 := ((lay_row HL7.out HN.out).cellAt (k * 2) (by omega)).trans hg1
          have hq2 := ((lay_row HL7.out HN.out).cellAt (k * 2 + 1) (by omega)).trans hg2
          have z1 := cell_alI hp1 (.cells #[.int .i64 a, .string b0] 40)
          have z2 := cell_alI hq1 (.cells #[.int .i64 a, .string b0] 40)
          have z3 := cell_alI hq2 (.cells #[.int .i64 a, .string b0] 40)
          clear hg1 hg2
          obtain ⟨Y, hY⟩ : ∃ Y, Y = (w7.alloc (.cells #[.int .i64 a, .string b0] 40)).drew := ⟨_, rfl⟩
          have hBY : Below w7.heap.size w7 Y := by rw [hY]; have h := (Below.refl _ w7).alloc (Nat.le_refl _) (.cells #[.int .i64 a, .string b0] 40); exact ⟨h.os, h.tape, h.output, h.size, h.block⟩
          have hs7 : w.heap.size + 1 ≤ w7.heap.size := by have := HL7.out.1.lt; omega
          have HOA := Lib.hid (ownP_below HL7.out.2.1 hBY)
          have HTY := Lib.hid (HL7.out.1.keep (grown_of_bel hBY none) (by simp))
          have HTZ := Lib.hid (HL7.out.2.2.2.keep (grown_of_bel hBY none) (by simp))
          have HBY := Lib.hid (HL7.out.2.2.1.trans (hBY.mono (by omega)))
          have HRY := Lib.hid (HR7.out.below hBY (by omega))
          have HNW := Lib.hid (show ∀ j u, (flat [(Value.int .i64 a, Value.string b0)])[j]? = some u → Y.cell? ((⟨w7.heap.size, 0, none⟩ : Addr).add j) = some u from news_one w7 Y _ _ 40 (by rw [hY]; have h := Below.refl (w7.heap.size + 1) (w7.alloc (.cells #[.int .i64 a, .string b0] 40)); exact ⟨h.os, h.tape, h.output, h.size, h.block⟩))
          have HYS := Lib.hid (show Y.heap.size = w7.heap.size + 1 by rw [hY]; simp [World.drew])
          have HBL := Lib.hid HL7.out.1.lt
          have HYE := Lib.hid hY
          clear hBY hY
          go_wp2_with fail
          go_region_law
            (first | (rw [← HYE.out]; refine step_append_r (w.heap.size + 1) Y (by rfl) _ _ 27 40 (by rfl) i0 _ 24 Tryd.underlying27 hi hz0 hz1 hz2 (by rfl) (by omega) (.slice (some ⟨g, 0, none⟩) n c) _ (by rfl) HOA.out (by have := HYS.out; omega) _ 1 1 [(.int .i64 a, .string b0)] (by rfl) (by rfl) HNW.out (ones_twoI _ _ rfl rfl) (by rw [ivals_length, HN.out]; simp; omega) ?_; intro v1 w8 ho1 hgr1 hloc1; have HO1 := Lib.hid ho1; have HG1 := Lib.hid hgr1; have HLOC := Lib.hid hloc1; clear ho1 hgr1 hloc1; obtain ⟨g1, c1, hv1, _⟩ := own_someP HO1.out (by simp); rw [List.length_append] at hv1; simp only [List.length_singleton] at hv1; subst hv1; have HT3 := Lib.hid (HTY.out.keep HG1.out (fun e => HNV.out e.symm)); have hc3 := HT3.out.c1; have hf3 := HT3.out.f 1))
          all_goals
            have HNV2 := Lib.hid (show (Value.slice (some ⟨g1, 0, none⟩) ((ivals l).length + 1) c1).ownBlock ≠ some b by
              intro e
              rcases HLOC.out with h | h
              · exact HNV.out (h.symm.trans e)
              · rw [h] at e
                injection e with e
                have := HYS.out
                have := HBL.out
                omega)
            have HOF := Lib.hid (show OwnP 40 (w.heap.size + 1) w8 _ (ivals (l ++ [(a, b0)])) by rw [ivals_snoc]; exact HO1.out)
            have HB8 := Lib.hid (show Below r w w8 from bel_gb HBY.out HG1.out (by have := HYS.out; omega) (fun j hj => by have := (ownP_lt HOA.out hj).1; omega))
            have HT8 := Lib.hid (HTZ.out.keep HG1.out (fun e => by have := (ownP_lt HOA.out e.symm).1; omega))
            have HR8 := Lib.hid (HRY.out.grown HG1.out (fun j hj => by have := (ownP_lt HOA.out hj).1; omega))
            go_wp2_with fail
            go_meet
            exact ⟨no, _, l ++ [(a, b0)], ⟨HT3.out.set1 _, ownP_set_ne HOF.out HNV2.out 1 _, HB8.out.setCell (by show r ≤ b; omega) _, two_far HT8.out (by omega)⟩, HNV2.out, by simp, by simp [HN.out]; omega, (fun s hs => by rcases List.mem_append.1 hs with hs | hs; exact HSZ.out s hs; rw [List.mem_singleton.1 hs]; exact HS0.out), rd_far (HR8.out.more (by omega)) (by omega)⟩
        · have e0 : ((y : Int) == 0) = false := beq_eq_false_iff_ne.2 (by omega)
          clear hy
          go_wp2_with fail
          go_meet
          exact ⟨no, _, l, HL7.out, HNV.out, by rw [HN.out]; exact h1, by rw [HN.out]; omega, HSZ.out, HR7.out.more (by omega)⟩
      · have e0 : ((x : Int) == 0) = false := beq_eq_false_iff_ne.2 (by omega)
        have e1 : ((x : Int) == 1) = false := beq_eq_false_iff_ne.2 (by omega)
        have e2 : ((x : Int) == 2) = false := beq_eq_false_iff_ne.2 (by omega)
        clear hx3
        go_wp2_with fail
        go_meet
        exact ⟨no, _, l, HL6.out, HNV.out, by rw [HN.out]; exact h1, by rw [HN.out]; omega, HSZ.out, HR6.out.more (by omega)⟩
    case rest =>
      clear HL6 HR6 HSZ HNV HN h1 h4 hkn
      obtain ⟨no, v, l, hlay, hne, h1, h4, hsz, hr⟩ := hcut
      obtain ⟨g, c, hv, hg⟩ := own_someP hlay.2.1 (by rw [ivals_length]; exact h1)
      subst hv
      rw [ivals_length] at *
      have HSZ := Lib.hid hsz
      have H14 := Lib.hid (And.intro h1 h4)
      have HLN := Lib.hid (show (flat (ivals l)).length = (flat (ivals l)).length from rfl)
      obtain ⟨n, hn⟩ : ∃ n, l.length = n := ⟨_, rfl⟩
      rw [hn] at hlay hne
      have HLY := Lib.hid hlay
      have HRz := Lib.hid hr
      have hp0 := hlay.1.c0
      have hp1 := hlay.1.c1
      have f3 := hlay.2.2.2.c0
      have f4 := hlay.2.2.2.c1
      have f5 := hlay.2.2.2.f 0
      have f6 := hlay.2.2.2.f 1
      clear hlay hr hne hsz hn h1 h4
      go_wp2_with fail
      go_region
      all_goals
        go_wp2
        refine bodyPost_ret_by (v := .tuple #[.int .i64 7, packV no (.slice (some ⟨g, 0, none⟩) n c)]) ?_ rfl ⟨7, no, _, l, rfl, by omega, by omega, ?_, H14.out.1, by have := H14.out.2; omega, HSZ.out, ?_, ?_⟩
        · simp [results, Tryd.results41, Tryd.isAgg29, Tryd.sizeOf29, go_sem, f3, f4]
        · exact ownP_less (ownP_set (ownP_set (ownP_dr HLY.out.2.1 1) (by omega) 0 _) (by omega) 1 _) (by omega)
        · exact rd_far (rd_far ((HRz.out.drewN 1).more (by omega)) (by omega)) (by omega)
        · exact ((below_drewN HLY.out.2.2.1 1).setCell (by show r ≤ w.heap.size; omega) _).setCell (by show r ≤ w.heap.size; omega) _
end
end Go.Proofs.YtkjginibdablnaaDoor
