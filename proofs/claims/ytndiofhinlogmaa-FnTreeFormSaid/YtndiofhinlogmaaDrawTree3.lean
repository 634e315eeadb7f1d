/- The drawings of trees, on: a drawn tree. -/
import Derived.Test.YtndiofhinlogmaaDrawTree2
namespace Go.Proofs.Ytndiofhinlogmaa
open Go.RowKit
def GaveT (m : Nat) (w : World) (r K : Nat) (e : Ending) (w' : World) : Prop :=
  ∃ (L : List Fil) (g0 c : Nat), e = .returned (.slice (some ⟨g0, 0, none⟩) L.length c) ∧ OwnP 38 w.heap.size w' (.slice (some ⟨g0, 0, none⟩) L.length c) (fvals L) ∧ L.length ≤ m ∧ TameF L ∧ Rd w' r K ∧ Below r w w' ∧ w.heap.size ≤ w'.heap.size
theorem Rd_allocF {w : World} {r K : Nat} (h : Rd w r K) (o : Obj) : Rd (w.alloc o) r K := h.grown (row := none) (World.grownBy_alloc w o none) (fun k e => by cases e)
theorem tameF_set {s : Fil} {l : List Fil} (h : TameF (s :: l)) : TameF ((s.1, ⟨#[65]⟩) :: l) := fun t ht => by
  rcases List.mem_cons.1 ht with rfl | ht
  · exact ⟨(h s (by simp)).1, by show (⟨#[65]⟩ : ByteArray).size ≤ 45; decide⟩
  · exact h t (by simp [ht])
section
set_option maxHeartbeats 3200000
theorem l91Tree_any (w : World) (r K : Nat) (h : Rd w r K) (hK : K ≤ 70000) : Calls Try.prog 40 #[.pointer (some ⟨r, 0, none⟩)] w (GaveT 7 w r (K + 130)) := by
  obtain ⟨i0, hi, hz0, hz1, hz2⟩ := infoFile_parts
  have hrw := h.lt
  have HR := Lib.hid (Rd_allocF h (.cells #[] 38))
  have HE := Lib.hid (ownP_empty 38 w)
  have HA := Lib.hid ((Below.refl r w).alloc (Nat.le_of_lt hrw) (.cells #[] 38))
  clear h
  go_enter Try.func40, Try.ntmps40
  go_wp2_with fail
  refine (pick_any 6 _ r K HR.out (by omega) (by omega)).mono ?_
  rintro e w1 ⟨x, rfl, hx, _, hr1, hg1⟩
  have hx6 : x ≤ 5 := by have := hx (by omega); omega
  have HR1 := Lib.hid hr1
  have HO1 := Lib.hid (ownP_pick HE.out hg1 hrw)
  have HB1 := Lib.hid (HA.out.trans (gb_below hg1 (Nat.le_refl _) (by simp; omega)))
  have HS1 := Lib.hid (show w.heap.size ≤ w1.heap.size by have h := hg1.size; simp at h; omega)
  clear hx hr1 hg1
  go_wp2_with fail
  go_loopw [3, 4] (fun o n wr => ∃ (L : List Fil) (m g0 c : Nat), n = .int .i64 (m : Int) ∧ o = .slice (some ⟨g0, 0, none⟩) L.length c ∧ m ≤ 5 ∧ L.length ≤ 6 ∧ TameF L ∧ OwnP 38 w.heap.size wr o (fvals L) ∧ Rd wr r (K + 1 + 21 * (5 - m)) ∧ Below r w wr ∧ w.heap.size ≤ wr.heap.size) (fun _ n _ => (intOf n).toNat)
  case atStart => exact ⟨[], x, w.heap.size, 0, rfl, rfl, hx6, by simp, tameF_nil, HO1.out, HR1.out.more (by omega), HB1.out, HS1.out⟩
  case round =>
    obtain ⟨L, m, g0, c, rfl, rfl, hm5, hL6, htame, ho, hr, hb, hs⟩ := hrel
    have HT := Lib.hid htame
    have HO := Lib.hid ho
    have HRr := Lib.hid hr
    have HB := Lib.hid hb
    clear htame ho hr hb
    by_cases hm0 : 0 < m
    · go_wp2_with fail
      refine (l91Path_any _ r _ HRr.out (by omega)).mono ?_
      rintro e w2 ⟨a, rfl, ha, hr2, hg2⟩
      have HR2 := Lib.hid hr2
      have HPA := Lib.hid ha
      have HO2 := Lib.hid (ownP_pick HO.out hg2 hrw)
      have HB2 := Lib.hid (HB.out.trans (gb_below hg2 (Nat.le_refl _) (by omega)))
      have hs2 : w.heap.size ≤ w2.heap.size := Nat.le_trans hs hg2.size
      clear hr2 hg2 ha
      go_wp2_with fail
      refine (l91Text_any _ r _ HR2.out (by omega)).mono ?_
      rintro e w3 ⟨b, rfl, hbt, hr3, hg3⟩
      have HR3 := Lib.hid hr3
      have HPB := Lib.hid hbt
      have HO3 := Lib.hid (ownP_pick HO2.out hg3 hrw)
      have HB3 := Lib.hid (HB2.out.trans (gb_below hg3 (Nat.le_refl _) (by omega)))
      have hs3 : w.heap.size ≤ w3.heap.size := Nat.le_trans hs2 hg3.size
      clear hr3 hg3 hbt
      go_wp2_with fail
      refine (treePut_any w3 g0 c L a b (lp_of_own HO3.out) (by omega) HT.out HPA.out HPB.out).mono ?_
      rintro e w4 ⟨v4, L4, ok, rfl, ho4, hok, hb4⟩
      have HR4 := Lib.hid (HR3.out.below hb4 (by omega))
      have HB4 := Lib.hid (HB3.out.trans (hb4.mono (by omega)))
      have hs4 : w.heap.size ≤ w4.heap.size := Nat.le_trans hs3 hb4.size
      cases ok with
      | false =>
        have HO4 := Lib.hid (ownP_below HO3.out hb4)
        clear ho4 hok hb4
        go_wp2
        go_roundw
        case rel => exact ⟨L, m - 1, g0, c, by go_num, rfl, by omega, hL6, HT.out, HO4.out, HR4.out.more (by omega), HB4.out, hs4⟩
        case measure => simp [intOf]; omega
      | true =>
        obtain ⟨hf4, hl4, hl1⟩ := hok rfl
        obtain ⟨g4, c4, hv4, _⟩ := own_some ho4 (by rw [fvals_length]; exact hl1)
        rw [fvals_length] at hv4
        have HO4 := Lib.hid (ownP_less ho4 hs3)
        have HT4 := Lib.hid (tameF_from hf4 HT.out ⟨HPA.out, HPB.out⟩)
        subst hv4
        clear ho4 hok hb4 hf4
        go_wp2
        go_roundw
        case rel => exact ⟨L4, m - 1, g4, c4, by go_num, rfl, by omega, hl4, HT4.out, HO4.out, HR4.out.more (by omega), HB4.out, hs4⟩
        case measure => simp [intOf]; omega
    · have hm1 : m = 0 := by omega
      subst hm1
      go_wp2_with fail
      refine (pick_any 40 _ r (K + 106) (HRr.out.more (by omega)) (by omega) (by omega)).mono ?_
      rintro e w2 ⟨x2, rfl, _, _, hr2, hg2⟩
      have HR2 := Lib.hid hr2
      have HO2 := Lib.hid (ownP_pick HO.out hg2 hrw)
      have HB2 := Lib.hid (HB.out.trans (gb_below hg2 (Nat.le_refl _) (by omega)))
      have hs2 : w.heap.size ≤ w2.heap.size := Nat.le_trans hs hg2.size
      clear hr2 hg2
      by_cases q : x2 = 0
      · subst q
        go_wp2_with fail
        refine (l91Path_any _ r _ HR2.out (by omega)).mono ?_
        rintro e w3 ⟨a, rfl, ha, hr3, hg3⟩
        have HR3 := Lib.hid hr3
        have HPA := Lib.hid ha
        have HO3 := Lib.hid (ownP_pick HO2.out hg3 hrw)
        have HB3 := Lib.hid (HB2.out.trans (gb_below hg3 (Nat.le_refl _) (by omega)))
        have hs3 : w.heap.size ≤ w3.heap.size := Nat.le_trans hs2 hg3.size
        clear hr3 hg3 ha
        have HG3 : Hid (Grew 38 w3 w3 (.slice none 0 0) []) := Lib.hid ⟨ownP_nil _ _ _, Below.refl _ _⟩
        have HOW := Lib.hid (ownP_below HO3.out ((Below.refl _ _).alloc (Nat.le_refl _) (.cells #[.string a, .string ⟨#[97]⟩] 38)))
        go_wp2_with (at_builtin; go_must (refine wpList_append_q w.heap.size _ rfl _ _ 29 38 rfl i0 _ 32 Try.underlying29 hi hz0 hz1 hz2 rfl (by omega) _ (fvals L) rfl HOW.out (by simp; omega) ⟨w3.heap.size, 0, none⟩ 1 1 [(.string a, .string ⟨#[97]⟩)] rfl rfl (news_one _ _ _ _ _ (Below.refl _ _)) (ones_two _ _ rfl rfl) (by rw [fvals_length]; simp; omega) ?_); intro v5 w5 ho5 hg5; have HO5 := Lib.hid (show OwnP 38 w.heap.size w5 v5 (fvals (L ++ [(a, ⟨#[97]⟩)])) by rw [fvals_append]; exact ho5); have HG5 := Lib.hid hg5; clear ho5 hg5)
        obtain ⟨g5, c5, hv5, _⟩ := own_some HO5.out (by rw [fvals_length]; simp)
        rw [fvals_length] at hv5
        subst hv5
        have HBB := Lib.hid (bel_gb (show Below w.heap.size w3 (w3.alloc (.cells #[.string a, .string ⟨#[97]⟩] 38)) from (Below.refl _ _).alloc hs3 _) HG5.out (by simp; omega) (fun g hg => (ownP_lt HOW.out hg).1))
        go_wp2
        go_ret
        exact ⟨L ++ [(a, ⟨#[97]⟩)], g5, c5, rfl, HO5.out, by simp; omega, tameF_snoc HT.out ⟨HPA.out, by show (⟨#[97]⟩ : ByteArray).size ≤ 45; decide⟩, (HR3.out.below HBB.out hrw).more (by omega), HB3.out.trans (HBB.out.mono (by omega)), Nat.le_trans hs3 HBB.out.size⟩
      · have b2 : ((x2 : Int) == 0) = false := beq_eq_false_iff_ne.2 (by omega)
        clear q
        by_cases q1 : x2 = 1
        · subst q1
          match L, hL6, HT, HO2 with
          | [], _, _, HO2 =>
            go_wp2
            go_ret
            exact ⟨[], g0, c, rfl, HO2.out, by simp, tameF_nil, HR2.out.more (by omega), HB2.out, hs2⟩
          | s :: L', hL6, HT, HO2 =>
            have hlen : (fvals (s :: L')).length = L'.length + 1 := by rw [fvals_length]; rfl
            have HO2' : Hid (w2.ownsRow w.heap.size 38 2 (.slice (some ⟨g0, 0, none⟩) (L'.length + 1) c) (L'.length + 1) (flat (fvals (s :: L')))) := Lib.hid (by have h := HO2.out; unfold OwnP at h; rw [hlen] at h; exact h)
            have hq := HO2'.out.cellAt 1 (by omega)
            have hf := HO2'.out.frozenAt 1
            have HS := Lib.hid (HO2'.out.stored 1 (.string ⟨#[65]⟩)).1
            have hl0 : (0 : Int) < ((L'.length + 1 : Nat) : Int) := by omega
            obtain ⟨sa, sb⟩ := s
            have hq2 : w2.cell? ⟨g0, 1, none⟩ = some (.string sb) := hq
            have hf2 : w2.frozen? ⟨g0, 1, none⟩ = false := hf
            have HGB := Lib.hid (ownP_lt HO2.out rfl)
            clear hq hf
            go_wp2
            go_ret
            refine ⟨(sa, ⟨#[65]⟩) :: L', g0, c, rfl, ?_, by simp at hL6 ⊢; omega, tameF_set HT.out, ?_, ?_, by simpa using hs2⟩
            · have h := HS.out
              unfold OwnP
              rw [fvals_length]
              exact h
            · exact (HR2.out.grown (row := some g0) (grown_setCell _ _ _ _) (fun k e => by injection e with e; have := HGB.out.1; omega)).more (by omega)
            · exact HB2.out.setCell (by have := HGB.out.1; show r ≤ g0; omega) _
        · have b3 : ((x2 : Int) == 1) = false := beq_eq_false_iff_ne.2 (by omega)
          clear q1
          go_wp2
          go_ret
          exact ⟨L, g0, c, rfl, HO2.out, by omega, HT.out, HR2.out.more (by omega), HB2.out, hs2⟩
end
end Go.Proofs.Ytndiofhinlogmaa
