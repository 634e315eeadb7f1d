/- The drawings of packs: alone; with a key; with a key and a name. -/
import Derived.Test.YtkjginibdablnaaDoorDrawPack2
namespace Go.Proofs.YtkjginibdablnaaDoor
open Go.RowKit
def DrewOk (w : World) (e : Ending) (w' : World) : Prop := ∃ (key no : Int) (v : Value) (l : List Itm), e = .returned (.tuple #[.int .i64 key, packV no v]) ∧ OwnP 40 w.heap.size w' v (ivals l) ∧ 0 ≤ key ∧ key ≤ 100 ∧ 1 ≤ l.length ∧ l.length ≤ 6 ∧ (∀ s ∈ l, s.2.size ≤ 9) ∧ Below w.heap.size w w'
section
set_option maxHeartbeats 1600000
set_option maxRecDepth 100000
theorem drawPackOk_any (a : Option Addr) (len cap : Nat) (zs : List Int) (w : World) (h : Code w a len cap zs) : Calls Tryd.prog 17 #[.slice a len cap] w (DrewOk w) := by
  obtain ⟨W, hW⟩ : ∃ W, W = w.alloc (.cells #[.int .i64 0, .slice none 0 0] 29) := ⟨_, rfl⟩
  have HWs := Lib.hid (show W.heap.size = w.heap.size + 1 by rw [hW]; simp)
  have HBW := Lib.hid (show Below w.heap.size w W by rw [hW]; exact (Below.refl _ _).alloc (Nat.le_refl _) _)
  have HTW := Lib.hid (show Two W w.heap.size 29 (.int .i64 0) (.slice none 0 0) by rw [hW]; exact two_new _ _ _ _)
  have HC := Lib.hid (show Code W a len cap zs by rw [hW]; exact code_al h _)
  have HW := Lib.hid hW
  clear h hW
  go_enter Tryd.func17, Tryd.ntmps17
  go_wp2_with fail
  rw [← HW.out]
  refine (open_any a len cap zs W HC.out).mono ?_
  rintro e w1 ⟨rfl, hr, hb⟩
  have HR1 := Lib.hid hr
  have HB1 := Lib.hid (HBW.out.trans (hb.mono (by have := HWs.out; omega)))
  have HT1 := Lib.hid (show Two w1 w.heap.size 29 (.int .i64 0) (.slice none 0 0) from (hb.block _ (by have := HWs.out; omega)).trans HTW.out)
  have hr1 := hr.lt
  obtain ⟨r, hrr⟩ : ∃ r, W.heap.size = r := ⟨_, rfl⟩
  have hrw : w.heap.size < r := by have := HWs.out; omega
  rw [hrr] at HR1 hr1 ⊢
  clear hb hr hrr HW
  go_wp2_with fail
  refine (l91Pack_any w1 r 0 HR1.out (by omega)).mono ?_
  rintro e w2 ⟨key, no, v, l, rfl, hk0, hk1, ho2, h1, h6, hsz, hr2, hb2⟩
  obtain ⟨A, m, c, hv⟩ := own_formE ho2
  subst hv
  have HO2 := Lib.hid ho2
  have HT2 := Lib.hid (show Two w2 w.heap.size 29 (.int .i64 0) (.slice none 0 0) from (hb2.block _ (by omega)).trans HT1.out)
  have HB2 := Lib.hid (HB1.out.trans (hb2.mono (by omega)))
  have HSZ := Lib.hid hsz
  have f3 := HT2.out.c0
  have f4 := HT2.out.c1
  have f5 := HT2.out.f 0
  have f6 := HT2.out.f 1
  clear ho2 hb2 hsz hr2
  go_wp2
  refine bodyPost_ret_by (v := .tuple #[.int .i64 key, packV no (.slice A m c)]) ?_ rfl ⟨key, no, _, l, rfl, ?_, hk0, hk1, h1, h6, HSZ.out, ?_⟩
  · simp [results, Tryd.results17, Tryd.isAgg29, Tryd.sizeOf29, go_sem, f3, f4]
  · exact ownP_less (ownP_set (ownP_set HO2.out (by omega) 0 _) (by omega) 1 _) (by omega)
  · exact (HB2.out.setCell (by show w.heap.size ≤ w.heap.size; omega) _).setCell (by show w.heap.size ≤ w.heap.size; omega) _
theorem drawPackNames_any (a : Option Addr) (len cap : Nat) (zs : List Int) (w : World) (h : Code w a len cap zs) : Calls Tryd.prog 18 #[.slice a len cap] w (DrewPack w) := by
  obtain ⟨W, hW⟩ : ∃ W, W = w.alloc (.cells #[.int .i64 0, .slice none 0 0] 29) := ⟨_, rfl⟩
  have HWs := Lib.hid (show W.heap.size = w.heap.size + 1 by rw [hW]; simp)
  have HBW := Lib.hid (show Below w.heap.size w W by rw [hW]; exact (Below.refl _ _).alloc (Nat.le_refl _) _)
  have HTW := Lib.hid (show Two W w.heap.size 29 (.int .i64 0) (.slice none 0 0) by rw [hW]; exact two_new _ _ _ _)
  have HC := Lib.hid (show Code W a len cap zs by rw [hW]; exact code_al h _)
  have HW := Lib.hid hW
  clear h hW
  go_enter Tryd.func18, Tryd.ntmps18
  go_wp2_with fail
  rw [← HW.out]
  refine (open_any a len cap zs W HC.out).mono ?_
  rintro e w1 ⟨rfl, hr, hb⟩
  have HR1 := Lib.hid hr
  have HB1 := Lib.hid (HBW.out.trans (hb.mono (by have := HWs.out; omega)))
  have HT1 := Lib.hid (show Two w1 w.heap.size 29 (.int .i64 0) (.slice none 0 0) from (hb.block _ (by have := HWs.out; omega)).trans HTW.out)
  have hr1 := hr.lt
  obtain ⟨r, hrr⟩ : ∃ r, W.heap.size = r := ⟨_, rfl⟩
  have hrw : w.heap.size < r := by have := HWs.out; omega
  rw [hrr] at HR1 hr1 ⊢
  clear hb hr hrr HW
  go_wp2_with fail
  refine (l91Pack_any w1 r 0 HR1.out (by omega)).mono ?_
  rintro e w2 ⟨key, no, v, l, rfl, hk0, hk1, ho2, h1, h6, hsz, hr2, hb2⟩
  obtain ⟨A, m, c, hv⟩ := own_formE ho2
  subst hv
  have HT2 := Lib.hid (show Two (w2.alloc (.cells #[.int .i64 no, .slice A m c] 29)) w.heap.size 29 (.int .i64 0) (.slice none 0 0) from (Below.heap_alloc _ _ _ (by have := hb2.size; have := HB1.out.size; omega)).trans ((hb2.block _ (by omega)).trans HT1.out))
  have HO2 := Lib.hid (ownP_below ho2 ((Below.refl _ w2).alloc (Nat.le_refl _) (.cells #[.int .i64 no, .slice A m c] 29)))
  have HB2 := Lib.hid ((HB1.out.trans (hb2.mono (by omega))).alloc (by have := hb2.size; have := HB1.out.size; omega) (.cells #[.int .i64 no, .slice A m c] 29))
  have HP2 := Lib.hid (two_new w2 (.int .i64 no) (.slice A m c) 29)
  have HSZ := Lib.hid hsz
  have f3 := HT2.out.c0
  have f4 := HT2.out.c1
  have f5 := HT2.out.f 0
  have f6 := HT2.out.f 1
  have p0 := HP2.out.c0
  have p1 := HP2.out.c1
  clear ho2 hb2 hsz hr2
  go_wp2
  refine bodyPost_ret_by (v := packV no (.slice A m c)) ?_ rfl ⟨no, _, l, rfl, ?_, h1, h6, HSZ.out, ?_⟩
  · simp [results, Tryd.results18, Tryd.isAgg29, Tryd.sizeOf29, go_sem, f3, f4]
  · exact lp_of_own (ownP_set (ownP_set HO2.out (by omega) 0 _) (by omega) 1 _)
  · exact (HB2.out.setCell (by show w.heap.size ≤ w.heap.size; omega) _).setCell (by show w.heap.size ≤ w.heap.size; omega) _
end
end Go.Proofs.YtkjginibdablnaaDoor
