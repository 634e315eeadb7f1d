/- The drawings of trees, on: a tree for a law; a tree and a path. -/
import Derived.Test.YtndiofhinlogmaaDrawTree3
import Derived.Deep.RegionWith
namespace Go.Proofs.Ytndiofhinlogmaa
open Go.RowKit
def DrewT (w : World) (e : Ending) (w' : World) : Prop :=
  ∃ (L : List Fil) (g0 c : Nat), e = .returned (.slice (some ⟨g0, 0, none⟩) L.length c) ∧ Lp w' w'.heap.size (.slice (some ⟨g0, 0, none⟩) L.length c) (fvals L) ∧ L.length ≤ 8 ∧ TameF L ∧ Below w.heap.size w w'
def DrewTP (w : World) (e : Ending) (w' : World) : Prop :=
  ∃ (L : List Fil) (g0 c : Nat) (s : ByteArray), e = .returned (.tuple #[.slice (some ⟨g0, 0, none⟩) L.length c, .string s]) ∧ Lp w' w'.heap.size (.slice (some ⟨g0, 0, none⟩) L.length c) (fvals L) ∧ L.length ≤ 8 ∧ TameF L ∧ s.size ≤ 5 ∧ Below w.heap.size w w'
theorem rd_same {w W : World} {r K : Nat} (h : W.heap = w.heap) (hr : Rd w r K) : Rd W r K := by
  obtain ⟨A, n, c, k, h1, h2, h3, h4⟩ := hr
  refine ⟨A, n, c, k, h1, h2, by rw [h]; exact h3, fun hn => ?_⟩
  obtain ⟨b, off, hA, hbr, hc⟩ := h4 hn
  refine ⟨b, off, hA, hbr, fun j hj => ?_⟩
  obtain ⟨x, hx, hcell⟩ := hc j hj
  exact ⟨x, hx, (World.cell?_of_block (a := ⟨b, off + j, none⟩) (by rw [h])).trans hcell⟩
theorem gb_same {w W : World} (h : W.heap = w.heap ∧ W.os = w.os ∧ W.tape = w.tape ∧ W.output = w.output) (row : Option Nat) : w.grownBy W row :=
  ⟨h.2.1, h.2.2.1, h.2.2.2, by rw [h.1]; exact Nat.le_refl _, fun i _ _ => by rw [h.1]⟩
theorem ownP_same {T B : Nat} {w W : World} {v : Value} {l : List (Value × Value)} (h : W.heap = w.heap ∧ W.os = w.os ∧ W.tape = w.tape ∧ W.output = w.output) (ho : OwnP T B w v l) : OwnP T B W v l := ho.kept (gb_same h none) (Classical.em _)
theorem pick_file (n : Nat) (w : World) (r K B g0 c : Nat) (L : List Fil) (h : Rd w r K) (hK : K ≤ 90000) (hn : 1 ≤ n ∧ n ≤ 1000) (ho : OwnP 38 B w (.slice (some ⟨g0, 0, none⟩) n c) (fvals L)) (hr : r < B) (hL : L.length = n) :
    Calls Try.prog 25 #[.pointer (some ⟨r, 0, none⟩), .int .i64 (n : Int)] w fun e w' => ∃ (y : Nat) (s : Fil), e = .returned (.int .i64 (y : Int)) ∧ (y : Int) < (n : Int) ∧ s ∈ L ∧ w'.cell? ⟨g0, y * 2, none⟩ = some (.string s.1) ∧ OwnP 38 B w' (.slice (some ⟨g0, 0, none⟩) n c) (fvals L) ∧ w.grownBy w' (some r) := by
  refine (pick_any (n : Int) w r K h (by omega) (by omega)).mono ?_
  rintro e w' ⟨y, rfl, hy, _, _, hg⟩
  have hyn := hy (by omega)
  have hs : L[y]? = some L[y] := List.getElem?_eq_getElem (by omega)
  have ho' := ownP_pick ho hg hr
  obtain ⟨g', off', e1, _, hc, _⟩ := lp_at (lp_of_own ho') (fvals_get hs)
  cases e1
  exact ⟨y, L[y], rfl, hyn, List.mem_of_getElem? hs, by rw [Nat.zero_add] at hc; exact hc, ho', hg⟩
section
set_option maxHeartbeats 3200000
theorem drawTreeOk_any (a : Option Addr) (len cap : Nat) (zs : List Int) (w : World) (h : Code w a len cap zs) : Calls Try.prog 19 #[.slice a len cap] w (DrewT w) := by
  obtain ⟨i0, hi, hz0, hz1, hz2⟩ := infoFile_parts
  go_enter Try.func19, Try.ntmps19
  go_wp2_with fail
  refine (open_any a len cap zs w h).mono ?_
  rintro e w1 ⟨rfl, hr, hb⟩
  have HB := Lib.hid hb
  have hrw := hr.lt
  have HR := Lib.hid hr
  clear hb h hr
  go_wp2_with fail
  refine (l91Tree_any w1 _ 0 HR.out (by omega)).mono ?_
  rintro e w2 ⟨L, g0, c, rfl, ho, hl, ht, hr2, hb2, hs2⟩
  have HO := Lib.hid ho
  have HT := Lib.hid ht
  have HR2 := Lib.hid hr2
  have HB2 := Lib.hid (HB.out.trans hb2)
  clear ho ht hr2 hb2
  go_wp2_with fail
  refine (pick_any 4 _ _ _ HR2.out (by omega) (by omega)).mono ?_
  rintro e w3 ⟨x, rfl, _, _, hr3, hg3⟩
  have HR3 := Lib.hid hr3
  have HO3 := Lib.hid (ownP_pick HO.out hg3 hrw)
  have HB3 := Lib.hid (HB2.out.trans (gb_below hg3 (Nat.le_refl _) (by omega)))
  have hs3 : w1.heap.size ≤ w3.heap.size := Nat.le_trans hs2 hg3.size
  clear hr3 hg3
  by_cases q : x = 0
  · subst q
    go_wp2_with fail
    refine (l91Path_any _ _ _ HR3.out (by omega)).mono ?_
    rintro e w4 ⟨p, rfl, hp, _, hg4⟩
    have HPP := Lib.hid hp
    have HO4 := Lib.hid (ownP_pick HO3.out hg4 hrw)
    have HB4 := Lib.hid (HB3.out.trans (gb_below hg4 (Nat.le_refl _) (by omega)))
    have hs4 : w1.heap.size ≤ w4.heap.size := Nat.le_trans hs3 hg4.size
    clear hg4 hp
    have HOW := Lib.hid (ownP_below HO4.out ((Below.refl _ _).alloc (Nat.le_refl _) (.cells #[.string p, .string ⟨#[97, 98, 99]⟩] 38)))
    go_wp2_with (at_builtin; go_must (refine wpList_append_q w1.heap.size _ rfl _ _ 29 38 rfl i0 _ 32 Try.underlying29 hi hz0 hz1 hz2 rfl (by omega) _ (fvals L) rfl HOW.out (by simp; omega) ⟨w4.heap.size, 0, none⟩ 1 1 [(.string p, .string ⟨#[97, 98, 99]⟩)] rfl rfl (news_one _ _ _ _ _ (Below.refl _ _)) (ones_two _ _ rfl rfl) (by rw [fvals_length]; simp; omega) ?_); intro v5 w5 ho5 hg5; have HO5 := Lib.hid (show OwnP 38 w1.heap.size w5 v5 (fvals (L ++ [(p, ⟨#[97, 98, 99]⟩)])) by rw [fvals_append]; exact ho5); have HG5 := Lib.hid hg5; clear ho5 hg5)
    obtain ⟨g5, c5, hv5, _⟩ := own_some HO5.out (by rw [fvals_length]; simp)
    rw [fvals_length] at hv5
    subst hv5
    have HBB := Lib.hid (bel_gb (show Below w1.heap.size w4 (w4.alloc (.cells #[.string p, .string ⟨#[97, 98, 99]⟩] 38)) from (Below.refl _ _).alloc hs4 _) HG5.out (by simp; omega) (fun g hg => (ownP_lt HOW.out hg).1))
    have hsw := HB.out.size
    go_wp2
    go_ret
    exact ⟨L ++ [(p, ⟨#[97, 98, 99]⟩)], g5, c5, rfl, lp_of_own HO5.out, by simp; omega, tameF_snoc HT.out ⟨HPP.out, by show (⟨#[97, 98, 99]⟩ : ByteArray).size ≤ 45; decide⟩, HB4.out.trans (HBB.out.mono (by omega))⟩
  · have b3 : ((x : Int) == 0) = false := beq_eq_false_iff_ne.2 (by omega)
    clear q
    go_wp2
    go_ret
    exact ⟨L, g0, c, rfl, lp_of_own HO3.out, by omega, HT.out, HB3.out⟩
theorem drawTreeDrop_any (a : Option Addr) (len cap : Nat) (zs : List Int) (w : World) (h : Code w a len cap zs) : Calls Try.prog 41 #[.slice a len cap] w (DrewTP w) := by
  go_enter Try.func41, Try.ntmps41
  go_wp2_with fail
  refine (open_any a len cap zs w h).mono ?_
  rintro e w1 ⟨rfl, hr, hb⟩
  have HB := Lib.hid hb
  have hrw := hr.lt
  have HR := Lib.hid hr
  clear hb h hr
  go_wp2_with fail
  refine (l91Tree_any w1 _ 0 HR.out (by omega)).mono ?_
  rintro e w2 ⟨L, g0, c, rfl, ho, hl, ht, hr2, hb2, hs2⟩
  have HO := Lib.hid ho
  have HT := Lib.hid ht
  have HR2 := Lib.hid hr2
  have HB2 := Lib.hid (HB.out.trans hb2)
  clear ho ht hr2 hb2
  by_cases h0 : L.length = 0
  · obtain rfl : L = [] := List.length_eq_zero_iff.1 h0
    clear h0
    go_wp2_with fail
    refine (l91Path_any _ _ _ HR2.out (by omega)).mono ?_
    rintro e w4 ⟨p, rfl, hp, _, hg4⟩
    have HPP := Lib.hid hp
    have HO4 := Lib.hid (ownP_pick HO.out hg4 hrw)
    have HB4 := Lib.hid (HB2.out.trans (gb_below hg4 (Nat.le_refl _) (by omega)))
    clear hg4 hp
    go_wp2
    go_ret2
    exact ⟨[], g0, c, p, rfl, lp_of_own HO4.out, by simp, HT.out, HPP.out, HB4.out⟩
  · have hl0 : (0 : Int) < (L.length : Int) := by omega
    go_wp2_with fail
    refine (pick_any 4 _ _ _ HR2.out (by omega) (by omega)).mono ?_
    rintro e w3 ⟨x, rfl, _, _, hr3, hg3⟩
    have HR3 := Lib.hid hr3
    have HO3 := Lib.hid (ownP_pick HO.out hg3 hrw)
    have HB3 := Lib.hid (HB2.out.trans (gb_below hg3 (Nat.le_refl _) (by omega)))
    have hs3 : w1.heap.size ≤ w3.heap.size := Nat.le_trans hs2 hg3.size
    clear hr3 hg3
    by_cases q : 0 < x
    · obtain ⟨n, hn⟩ : ∃ n, L.length = n := ⟨_, rfl⟩
      have HN := Lib.hid hn
      have HL3 := Lib.hid (show Lp w3 w3.heap.size (.slice (some ⟨g0, 0, none⟩) n c) (fvals L) by rw [← hn]; exact lp_of_own HO3.out)
      have HO3' := Lib.hid (show OwnP 38 w1.heap.size w3 (.slice (some ⟨g0, 0, none⟩) n c) (fvals L) by rw [← hn]; exact HO3.out)
      rw [hn] at hl h0 hl0 ⊢
      clear HO3 HO hn
      go_wp2_with fail
      have HPF := Lib.hid (fun (W : World) (hW : W.heap = w3.heap ∧ W.os = w3.os ∧ W.tape = w3.tape ∧ W.output = w3.output) => pick_file n W w.heap.size _ w1.heap.size g0 c L (rd_same hW.1 HR3.out) (by omega) (by omega) (ownP_same hW HO3'.out) hrw HN.out)
      go_region_with (go_at_call 25; go_must (refine (HPF.out w3.drew ⟨rfl, rfl, rfl, rfl⟩).mono ?_); rintro e w4 ⟨y, s, rfl, hy, hs, hc4, ho4, hg4⟩; have hy0 : (0 : Int) ≤ (y : Int) := Int.natCast_nonneg y)
      have HO4 := Lib.hid ho4
      have HS := Lib.hid (HT.out s hs)
      have HB4 := Lib.hid (show Below w.heap.size w w4 from HB3.out.trans (gb_below (show w3.grownBy w4 (some w.heap.size) from ⟨hg4.os, hg4.tape, hg4.output, hg4.size, hg4.block⟩) (Nat.le_refl _) (by have := HB.out.size; omega)))
      clear ho4 hg4 hs hc4
      go_wp2
      go_ret2
      exact ⟨L, g0, c, s.1, by rw [HN.out]; rfl, by rw [HN.out]; have h := lp_of_own HO4.out; exact h, by have := HN.out; omega, HT.out, HS.out.1, HB4.out⟩
    · have b3 : ¬ (0 : Int) < (x : Int) := by omega
      clear q
      go_wp2_with fail
      refine (l91Path_any _ _ _ HR3.out (by omega)).mono ?_
      rintro e w4 ⟨p, rfl, hp, _, hg4⟩
      have HPP := Lib.hid hp
      have HO4 := Lib.hid (ownP_pick HO3.out hg4 hrw)
      have HB4 := Lib.hid (HB3.out.trans (gb_below hg4 (Nat.le_refl _) (by omega)))
      clear hg4 hp
      go_wp2
      go_ret2
      exact ⟨L, g0, c, p, rfl, lp_of_own HO4.out, by omega, HT.out, HPP.out, HB4.out⟩
theorem drawTreeGet_any (a : Option Addr) (len cap : Nat) (zs : List Int) (w : World) (h : Code w a len cap zs) : Calls Try.prog 20 #[.slice a len cap] w (DrewTP w) := by
  go_enter Try.func20, Try.ntmps20
  go_wp2_with fail
  refine (drawTreeDrop_any a len cap zs w h).mono ?_
  rintro e w1 ⟨L, g0, c, s, rfl, hl, hn, ht, hs, hb⟩
  have HL := Lib.hid hl
  have HT := Lib.hid ht
  have HB := Lib.hid hb
  clear hl ht hb h
  go_wp2
  go_ret2
  exact ⟨L, g0, c, s, rfl, HL.out, hn, HT.out, hs, HB.out⟩
end
end Go.Proofs.Ytndiofhinlogmaa
