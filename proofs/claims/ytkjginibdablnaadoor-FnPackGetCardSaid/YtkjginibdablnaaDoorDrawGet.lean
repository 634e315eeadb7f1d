/- The drawing of a key, a pack, and a name. -/
import Derived.Test.YtkjginibdablnaaDoorDrawPack3
import Derived.Test.YtkjginibdablnaaDoorHeapM
namespace Go.Proofs.YtkjginibdablnaaDoor
open Go.RowKit
def DrewGet (w : World) (e : Ending) (w' : World) : Prop := ∃ (key no name : Int) (v : Value) (l : List Itm), e = .returned (.tuple #[.int .i64 key, packV no v, .int .i64 name]) ∧ OwnP 40 w.heap.size w' v (ivals l) ∧ 1 ≤ l.length ∧ l.length ≤ 6 ∧ (∀ s ∈ l, s.2.size ≤ 9) ∧ Below w.heap.size w w'
section
set_option maxHeartbeats 3200000
set_option maxRecDepth 100000
theorem drawPackGet_any (a : Option Addr) (len cap : Nat) (zs : List Int) (w : World) (h : Code w a len cap zs) : Calls Tryd.prog 22 #[.slice a len cap] w (DrewGet w) := by
  obtain ⟨W, hW⟩ : ∃ W, W = w.alloc (.cells #[.int .i64 0, .slice none 0 0] 29) := ⟨_, rfl⟩
  have HWs := Lib.hid (show W.heap.size = w.heap.size + 1 by rw [hW]; simp)
  have HBW := Lib.hid (show Below w.heap.size w W by rw [hW]; exact (Below.refl _ _).alloc (Nat.le_refl _) _)
  have HTW := Lib.hid (show Two W w.heap.size 29 (.int .i64 0) (.slice none 0 0) by rw [hW]; exact two_new _ _ _ _)
  have HC := Lib.hid (show Code W a len cap zs by rw [hW]; exact code_al h _)
  have HW := Lib.hid hW
  clear h hW
  go_enter Tryd.func22, Tryd.ntmps22
  go_wp2_with fail
  rw [← HW.out]
  refine (open_any a len cap zs W HC.out).mono ?_
  rintro e w1 ⟨rfl, hr, hb⟩
  have HR1 := Lib.hid hr
  have HB1 := Lib.hid (HBW.out.trans (hb.mono (by have := HWs.out; omega)))
  have HT1 := Lib.hid (show Two w1 w.heap.size 29 (.int .i64 0) (.slice none 0 0) from (hb.block _ (by have := HWs.out; omega)).trans HTW.out)
  have hr1 := hr.lt
  obtain ⟨r, hrr⟩ : ∃ r, W.heap.size = r := ⟨_, rfl⟩
  have hrw : w.heap.size < r := by have := HWs.out; omega
  rw [hrr] at HR1 hr1 ⊢
  clear hb hr hrr HW
  go_wp2_with fail
  refine (l91Pack_any w1 r 0 HR1.out (by omega)).mono ?_
  rintro e w2 ⟨key, no, v, l, rfl, hk0, hk1, ho2, h1, h6, hsz, hr2, hb2⟩
  obtain ⟨g, c, hv, hg⟩ := own_someP ho2 (by rw [ivals_length]; exact h1)
  rw [ivals_length] at hv
  subst hv
  obtain ⟨m, hm⟩ : ∃ m, l.length = m := ⟨_, rfl⟩
  rw [hm] at ho2 h1 h6 ⊢
  have HM := Lib.hid hm
  obtain ⟨W3, hW3⟩ : ∃ X, X = w2.alloc (.cells #[.int .i64 no, .slice (some ⟨g, 0, none⟩) m c] 29) := ⟨_, rfl⟩
  have hb3 : Below w2.heap.size w2 W3 := by rw [hW3]; exact (Below.refl _ _).alloc (Nat.le_refl _) _
  have hr2lt := hr2.lt
  have HR3 := Lib.hid (show Rd W3 r 40 by rw [hW3]; exact hr2.alloc _)
  have HO3 := Lib.hid (ownP_below ho2 hb3)
  have HT3 := Lib.hid (show Two W3 w.heap.size 29 (.int .i64 0) (.slice none 0 0) from (hb3.block _ (by omega)).trans ((hb2.block _ (by omega)).trans HT1.out))
  have HP3 := Lib.hid (show Two W3 w2.heap.size 29 (.int .i64 no) (.slice (some ⟨g, 0, none⟩) m c) by rw [hW3]; exact two_new _ _ _ _)
  have HB3 := Lib.hid ((HB1.out.trans (hb2.mono (by omega))).trans (hb3.mono (by omega)))
  have hgr : r < g := by omega
  have HSZ := Lib.hid hsz
  have HW3 := Lib.hid hW3
  obtain ⟨b7, hb7⟩ : ∃ b, w2.heap.size = b := ⟨_, rfl⟩
  have hrb : r < b7 := by omega
  have HGB := Lib.hid (show g ≠ b7 by have h2 : g < w2.heap.size := (ownP_lt ho2 rfl).2; omega)
  have HBB := Lib.hid hrb
  rw [hb7] at HP3
  clear ho2 hb2 hb3 hW3 hsz hr2 hr2lt hm
  go_wp2_with fail
  rw [← HW3.out]
  clear hb7
  refine (pick_any 4 W3 r 40 HR3.out (by omega) (by omega)).mono ?_
  rintro e w4 ⟨x, rfl, _, _, hr4, hg4⟩
  have HR4 := Lib.hid hr4
  have HO4 := Lib.hid (ownP_kept HO3.out hg4 (.inr (fun e => by have h := Option.some.inj e; have h2 : g = r := h; omega)))
  have HT4 := Lib.hid (HT3.out.keep hg4 (fun e => by have := Option.some.inj e; omega))
  have HP4 := Lib.hid (HP3.out.keep hg4 (fun e => by have := Option.some.inj e; omega))
  have HB4 := Lib.hid (HB3.out.grown hg4 HB3.out.size (fun k hk => by cases hk; omega))
  clear hr4 hg4
  have p0 := HP4.out.c0
  have p1 := HP4.out.c1
  by_cases hx : x = 0
  · have hx0 : ((x : Int) == 0) = true := by rw [hx]; rfl
    clear hx
    have HPI := Lib.hid (l91Piece_any w4.drew r 41 (HR4.out.drewN 1) (by omega))
    go_wp2_with fail
    go_region_with (first
      | (go_at_call 45; go_must (refine HPI.out.mono ?_); rintro e w5 ⟨s, rfl, hs9, hr5, hg5⟩; have HG5 := Lib.hid (show w4.grownBy w5 (some r) from ⟨hg5.os, hg5.tape, hg5.output, hg5.size, hg5.block⟩); have HS5 := Lib.hid (show s.size ≤ maxLen from Nat.le_trans (show s.size ≤ 9 from hs9) (by unfold maxLen; omega)); clear hs9 hr5 hg5; have HP5 := Lib.hid (HP4.out.keep HG5.out (fun e => by have := Option.some.inj e; have := HBB.out; omega)); have HT5 := Lib.hid (HT4.out.keep HG5.out (fun e => by have := Option.some.inj e; omega)); have q0 := HP5.out.c0; have q1 := HP5.out.c1; have f3 := HT5.out.c0; have f4 := HT5.out.c1; have f5 := HT5.out.f 0; have f6 := HT5.out.f 1)
      | (go_at_call 44; go_must (refine (nameOfS_any 7 s w5 HS5.out).mono ?_); rintro e w6 ⟨rfl, hw6⟩; subst hw6))
    all_goals
      have HO5 := Lib.hid (ownP_kept HO4.out HG5.out (.inr (fun e => by have h2 : g = r := Option.some.inj e; omega)))
      have HB5 := Lib.hid (HB4.out.grown HG5.out HB4.out.size (fun k hk => by cases hk; omega))
      go_wp2
      refine bodyPost_ret_by (v := .tuple #[.int .i64 key, packV no (.slice (some ⟨g, 0, none⟩) m c), .int .i64 (nameZ 7 s.data.toList)]) ?_ rfl ⟨key, no, _, _, l, rfl, ?_, by rw [HM.out]; exact h1, by rw [HM.out]; exact h6, HSZ.out, ?_⟩
      · simp [results, Tryd.results22, Tryd.isAgg29, Tryd.sizeOf29, go_sem, f3, f4]
      · exact ownP_less (ownP_set (ownP_set HO5.out (by omega) 0 _) (by omega) 1 _) (by omega)
      · exact (HB5.out.setCell (by show w.heap.size ≤ w.heap.size; omega) _).setCell (by show w.heap.size ≤ w.heap.size; omega) _
  · have hx0 : ((x : Int) == 0) = false := beq_eq_false_iff_ne.2 (by omega)
    clear hx
    have HPI := Lib.hid (show Calls Tryd.prog 43 #[.pointer (some ⟨r, 0, none⟩), .int .i64 (m : Int)] w4.drew fun e w5 => ∃ (k : Nat) (y : Int), e = .returned (.int .i64 (k : Int)) ∧ (0 : Int) ≤ (k : Int) ∧ (k : Int) < (m : Int) ∧ w5.cell? ⟨g, k * 2, none⟩ = some (.int .i64 y) ∧ Two w5 b7 29 (.int .i64 no) (.slice (some ⟨g, 0, none⟩) m c) ∧ Two w5 w.heap.size 29 (.int .i64 0) (.slice none 0 0) ∧ OwnP 40 w1.heap.size w5 (.slice (some ⟨g, 0, none⟩) m c) (ivals l) ∧ Below w.heap.size w w5 from by
      refine (pick_any (m : Int) w4.drew r 41 (HR4.out.drewN 1) (by omega) (by omega)).mono ?_
      rintro e w5 ⟨k, he, hk, _, _, hg5⟩
      have hg : w4.grownBy w5 (some r) := ⟨hg5.os, hg5.tape, hg5.output, hg5.size, hg5.block⟩
      have hkm : k < m := by have := hk (by omega); omega
      have ho := ownP_kept HO4.out hg (.inr (fun e => by have h2 : g = r := Option.some.inj e; omega))
      obtain ⟨⟨y, z⟩, hy⟩ : ∃ s, l[k]? = some s := ⟨_, List.getElem?_eq_getElem (by have := HM.out; omega)⟩
      exact ⟨k, y, he, by omega, by omega, (row_at ho HM.out hy).1, HP4.out.keep hg (fun e => by have := Option.some.inj e; omega), HT4.out.keep hg (fun e => by have := Option.some.inj e; omega), ho, HB4.out.grown hg HB4.out.size (fun k hk => by cases hk; omega)⟩)
    go_wp2_with fail
    go_region_with (first
      | (go_at_call 43; go_must (refine HPI.out.mono ?_); rintro e w5 ⟨k, y, rfl, k0, k1, r0, hp5, ht5, ho5, hb5⟩; have HO5 := Lib.hid ho5; have HB5 := Lib.hid hb5; have q0 := hp5.c0; have q1 := hp5.c1; have f3 := ht5.c0; have f4 := ht5.c1; have f5 := ht5.f 0; have f6 := ht5.f 1; clear ho5 hb5 hp5 ht5))
    all_goals
      go_wp2
      refine bodyPost_ret_by (v := .tuple #[.int .i64 key, packV no (.slice (some ⟨g, 0, none⟩) m c), .int .i64 y]) ?_ rfl ⟨key, no, _, _, l, rfl, ?_, by rw [HM.out]; exact h1, by rw [HM.out]; exact h6, HSZ.out, ?_⟩
      · simp [results, Tryd.results22, Tryd.isAgg29, Tryd.sizeOf29, go_sem, f3, f4]
      · exact ownP_less (ownP_set (ownP_set HO5.out (by omega) 0 _) (by omega) 1 _) (by omega)
      · exact (HB5.out.setCell (by show w.heap.size ≤ w.heap.size; omega) _).setCell (by show w.heap.size ≤ w.heap.size; omega) _
end
end Go.Proofs.YtkjginibdablnaaDoor
