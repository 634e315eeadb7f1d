/- The drawings of packs: with names, alone, with a key, with a name; the drawing of what a pack is made of. -/
import Derived.Test.YtkjginibdablnaaDrawPack
namespace Go.Proofs.Ytkjginibdablnaa
open Go.RowKit
theorem code_al {w : World} {a : Option Addr} {len cap : Nat} {zs : List Int} (h : Code w a len cap zs) (o : Obj) : Code (w.alloc o) a len cap zs := by
  rcases h with h | ⟨x, h1, h2, h3, h4, h5, h6⟩
  · exact .inl h
  · exact .inr ⟨x, h1, h2, h3, h4, fun i hi => (World.cell?_alloc_lt w o _ (World.block_lt_of_cell? w _ (h5 i hi))).trans (h5 i hi), h6⟩
def DrewPack (w : World) (e : Ending) (w' : World) : Prop := ∃ (no : Int) (v : Value) (l : List Itm), e = .returned (packV no v) ∧ Lp w' w'.heap.size v (ivals l) ∧ 1 ≤ l.length ∧ l.length ≤ 6 ∧ (∀ s ∈ l, s.2.size ≤ 9) ∧ Below w.heap.size w w'
def DrewLess (w : World) (e : Ending) (w' : World) : Prop := ∃ (no : Int) (v vn : Value) (l : List Itm) (ns : List Int), e = .returned (.tuple #[packV no v, vn]) ∧ Lp w' w'.heap.size v (ivals l) ∧ Lst w' w'.heap.size vn (intVals ns) ∧ 1 ≤ l.length ∧ l.length ≤ 6 ∧ ns.length ≤ 6 ∧ (∀ s ∈ l, s.2.size ≤ 9) ∧ Below w.heap.size w w'
theorem own_set1 {B b n i : Nat} {e : TypeId} {w : World} {v u : Value} {xs : List Value} (h : w.ownsRow B e 1 v n xs) (hb : b < B) : (w.setCell ⟨b, i, none⟩ u).ownsRow B e 1 v n xs := own_pickS h (grown_setCell w b i u) hb
section
set_option maxHeartbeats 1600000
theorem drawPackLess_any (a : Option Addr) (len cap : Nat) (zs : List Int) (w : World) (h : Code w a len cap zs) : Calls Try.prog 20 #[.slice a len cap] w (DrewLess w) := by
  obtain ⟨i0, hi, hz0, hz1, hz2⟩ := info_parts info_int
  obtain ⟨W, hW⟩ : ∃ W, W = w.alloc (.cells #[.int .i64 0, .slice none 0 0] 30) := ⟨_, rfl⟩
  have HWs := Lib.hid (show W.heap.size = w.heap.size + 1 by rw [hW]; simp)
  have HBW := Lib.hid (show Below w.heap.size w W by rw [hW]; exact (Below.refl _ _).alloc (Nat.le_refl _) _)
  have HTW := Lib.hid (show Two W w.heap.size 30 (.int .i64 0) (.slice none 0 0) by rw [hW]; exact two_new _ _ _ _)
  have HC := Lib.hid (show Code W a len cap zs by rw [hW]; exact code_al h _)
  have HW := Lib.hid hW
  clear h hW
  go_enter Try.func20, Try.ntmps20
  go_wp2_with fail
  rw [← HW.out]
  refine (open_any a len cap zs W HC.out).mono ?_
  rintro e w1 ⟨rfl, hr, hb⟩
  have HR1 := Lib.hid hr
  have HB1 := Lib.hid (HBW.out.trans (hb.mono (by have := HWs.out; omega)))
  have HT1 := Lib.hid (show Two w1 w.heap.size 30 (.int .i64 0) (.slice none 0 0) from (hb.block _ (by have := HWs.out; omega)).trans HTW.out)
  have hr1 := hr.lt
  obtain ⟨r, hrr⟩ : ∃ r, W.heap.size = r := ⟨_, rfl⟩
  have hrw : w.heap.size < r := by have := HWs.out; omega
  rw [hrr] at HR1 hr1 ⊢
  clear hb hr hrr HW
  go_wp2_with fail
  refine (l91Pack_any w1 r 0 HR1.out (by omega)).mono ?_
  rintro e w2 ⟨key, no, v, l, rfl, _, _, ho2, h1, h6, hsz, hr2, hb2⟩
  obtain ⟨g, c, hv, hg⟩ := own_someP ho2 (by rw [ivals_length]; exact h1)
  subst hv
  rw [ivals_length] at *
  obtain ⟨n, hn⟩ : ∃ n, l.length = n := ⟨_, rfl⟩
  have HN := Lib.hid hn
  rw [hn] at h1 h6 ho2 ⊢
  have HSZ := Lib.hid hsz
  obtain ⟨W3, hW3⟩ : ∃ X, X = w2.alloc (.cells #[.int .i64 no, .slice (some ⟨g, 0, none⟩) n c] 30) := ⟨_, rfl⟩
  have HS3 := Lib.hid (show W3.heap.size = w2.heap.size + 1 by rw [hW3]; simp)
  have hb3 : Below w2.heap.size w2 W3 := by rw [hW3]; exact (Below.refl _ _).alloc (Nat.le_refl _) _
  have HP3 := Lib.hid (show Two W3 w2.heap.size 30 (.int .i64 no) (.slice (some ⟨g, 0, none⟩) n c) by rw [hW3]; exact two_new _ _ _ _)
  have HO3 := Lib.hid (ownP_below ho2 hb3)
  have HGB := Lib.hid (ownP_lt ho2 rfl)
  have HB3 := Lib.hid (HB1.out.trans ((hb2.mono (by omega)).trans (hb3.mono (by have := HB1.out.size; have := hb2.size; omega))))
  have HT3 := Lib.hid (show Two W3 w.heap.size 30 (.int .i64 0) (.slice none 0 0) from (hb3.block _ (by have := HB1.out.size; have := hb2.size; omega)).trans ((hb2.block _ (by omega)).trans HT1.out))
  have hrs2 : r < w2.heap.size := by have := hb2.size; omega
  have HR3 := Lib.hid (hr2.below hb3 hrs2)
  have HW3 := Lib.hid hW3
  obtain ⟨X, hX⟩ : ∃ X, X = W3.alloc (.cells #[] 3) := ⟨_, rfl⟩
  have hbx : Below W3.heap.size W3 X := by rw [hX]; exact (Below.refl _ _).alloc (Nat.le_refl _) _
  have HE0 : Hid (X.ownsRow W3.heap.size 3 1 (.slice (some ⟨W3.heap.size, 0, none⟩) 0 0) 0 []) := Lib.hid (by rw [hX]; exact World.ownsRow_lit W3 #[] 0 (Nat.le_refl _) (by unfold maxLen; omega) rfl)
  have HPX := Lib.hid (HP3.out.keep (grown_of_bel hbx none) (by simp))
  have HTX := Lib.hid (HT3.out.keep (grown_of_bel hbx none) (by simp))
  have HOX := Lib.hid (ownP_below HO3.out hbx)
  have HRX := Lib.hid (HR3.out.below hbx (by have := HS3.out; omega))
  have HBX := Lib.hid (HB3.out.trans (hbx.mono HB3.out.size))
  have HXs := Lib.hid (show W3.heap.size ≤ X.heap.size from hbx.size)
  have HX := Lib.hid hX
  clear ho2 hb2 hb3 hsz hr2 hW3 hn hbx hX
  go_wp2_with fail
  rw [← HW3.out, ← HX.out]
  obtain ⟨b, hb⟩ : ∃ b, w2.heap.size = b := ⟨_, rfl⟩
  obtain ⟨bn, hbn⟩ : ∃ bn, W3.heap.size = bn := ⟨_, rfl⟩
  rw [hb]
  have e1 : b + 1 = bn := by have := HS3.out; omega
  rw [e1]
  rw [hbn] at HE0 HXs
  rw [hb] at HPX HGB
  rw [hb] at hrs2
  clear hb hbn HW3 HX HR3 HT3 HB3 HO3 HP3 HS3
  go_loopw [7, 8] (fun o i wr => ∃ (j : Nat) (ns : List Int), j ≤ n ∧ i = .int .i64 (j : Int) ∧ wr.ownsRow bn 3 1 o ns.length (intVals ns) ∧ ns.length ≤ j ∧ Two wr b 30 (.int .i64 no) (.slice (some ⟨g, 0, none⟩) n c) ∧ OwnP 45 w1.heap.size wr (.slice (some ⟨g, 0, none⟩) n c) (ivals l) ∧ Rd wr r (40 + j) ∧ Two wr w.heap.size 30 (.int .i64 0) (.slice none 0 0) ∧ Below w.heap.size w wr ∧ bn ≤ wr.heap.size) (fun _ i _ => n - (intOf i).toNat)
  case atStart => exact ⟨0, [], Nat.zero_le _, rfl, HE0.out, by simp, HPX.out, HOX.out, HRX.out.more (by omega), HTX.out, HBX.out, HXs.out⟩
  case round =>
    obtain ⟨j, ns, hj, rfl, ho, hl, hp, hop, hrd, ht, hb, hs⟩ := hrel
    have HO := Lib.hid ho
    have HP := Lib.hid hp
    have HOP := Lib.hid hop
    have HRr := Lib.hid hrd
    have HT := Lib.hid ht
    have HB := Lib.hid hb
    have hp1 := hp.c1
    clear ho hop hrd ht hb
    by_cases hlt : j < n
    · have hi1 : (j : Int) < (n : Int) := by omega
      have hi0 : (0 : Int) ≤ (j : Int) := by omega
      obtain ⟨⟨x, y⟩, hsk⟩ : ∃ s, l[j]? = some s := ⟨_, List.getElem?_eq_getElem (by have := HN.out; omega)⟩
      go_wp2_with fail
      refine (pick_any 2 _ r _ HRr.out (by omega) (by omega)).mono ?_
      rintro e w5 ⟨q, rfl, _, _, hr5, hg5⟩
      have HR5 := Lib.hid hr5
      have HP5 := Lib.hid (hp.keep hg5 (by intro e; injection e; omega))
      have HO5 := Lib.hid (own_pickS HO.out hg5 (by omega))
      have HOP5 := Lib.hid (ownP_pick HOP.out hg5 hr1)
      have HT5 := Lib.hid (HT.out.keep hg5 (by intro e; injection e; omega))
      have HB5 := Lib.hid (HB.out.trans (gb_below hg5 (by omega) (by omega)))
      have hs5 : bn ≤ w5.heap.size := Nat.le_trans hs hg5.size
      clear hr5 hg5 hp1 hp
      have hp1 := HP5.out.c1
      by_cases hq : q = 0
      · subst hq
        obtain ⟨g', off', hA, hg', hc1, _⟩ := lp_at (lp_of_own HOP5.out) (ivals_get hsk)
        injection hA with hA
        injection hA with hA1 hA2
        subst hA1
        subst hA2
        rw [Nat.zero_add] at hc1
        clear hg' hsk
        go_wp2_with (at_builtin; go_must (refine wpList_append_own _ rfl _ _ 26 rfl bn 3 i0 (.int .i64 0) 1 8 Try.underlying26 hi hz0 hz1 hz2 rfl (by decide) _ _ _ rfl (own_alloc HO5.out _) _ 1 1 [.int .i64 x] rfl rfl (cell_one_new _ _ _) (by simp [Value.oneCell']) (by unfold maxLen; omega) (by omega) (by simp; omega) ?_); intro v1 w6 hown' hgrow _; have HO6 := Lib.hid hown'; have HG6 := Lib.hid hgrow; clear hown' hgrow)
        have HA := Lib.hid (show Below w5.heap.size w5 (w5.alloc (.cells #[.int .i64 x] 3)) from (Below.refl _ _).alloc (Nat.le_refl _) _)
        have HB6 := Lib.hid (show Below bn w5 w6 from bel_gb (HA.out.mono hs5) HG6.out (by simp; omega) (fun j hj => (HO5.out.lt j hj).1))
        have HP6 := Lib.hid (show Two w6 b 30 (.int .i64 no) (.slice (some ⟨g, 0, none⟩) n c) from (HB6.out.block _ (by omega)).trans HP5.out)
        have HT6 := Lib.hid (show Two w6 w.heap.size 30 (.int .i64 0) (.slice none 0 0) from (HB6.out.block _ (by omega)).trans HT5.out)
        have HOP6 := Lib.hid (ownP_kept (ownP_below HOP5.out HA.out) HG6.out (.inr (fun e => by
          have h1 := (HO5.out.lt g e.symm).1
          have h2 := HGB.out.2
          omega)))
        go_wp2
        go_roundw
        case rel => exact ⟨j + 1, ns ++ [x], by omega, by go_num, by rw [intVals_append, List.length_append]; exact HO6.out, by simp; omega, HP6.out, HOP6.out, (HR5.out.below HB6.out (by omega)).more (by omega), HT6.out, HB5.out.trans (HB6.out.mono (by omega)), Nat.le_trans hs5 HB6.out.size⟩
        case measure => simp [intOf]; omega
      · have b3 : ((q : Int) == 0) = false := by simp; omega
        clear hq hsk
        go_wp2
        go_roundw
        case rel => exact ⟨j + 1, ns, by omega, by go_num, HO5.out, by omega, HP5.out, HOP5.out, HR5.out.more (by omega), HT5.out, HB5.out, hs5⟩
        case measure => simp [intOf]; omega
    · have hp0 := hp.c0
      have f3 := HT.out.c0
      have f4 := HT.out.c1
      have f5 := HT.out.f 0
      have f6 := HT.out.f 1
      clear hp
      obtain ⟨A', c', ho'⟩ := lst_form (lst_of_own HO.out)
      subst ho'
      rw [intVals_length] at *
      go_wp2
      refine bodyPost_ret_by (v := .tuple #[packV no (.slice (some ⟨g, 0, none⟩) n c), .slice A' ns.length c']) ?_ rfl ⟨no, _, _, l, ns, rfl, ?_, ?_, by rw [HN.out]; exact h1, by rw [HN.out]; exact h6, by omega, HSZ.out, ?_⟩
      · simp [results, Try.results20, Try.isAgg30, Try.sizeOf30, go_sem, f3, f4]
      · exact lp_of_own (ownP_set (ownP_set HOP.out (by omega) 0 _) (by omega) 1 _)
      · exact lst_of_own (own_set1 (own_set1 HO.out (by omega)) (by omega))
      · exact (HB.out.setCell (by show w.heap.size ≤ w.heap.size; omega) _).setCell (by show w.heap.size ≤ w.heap.size; omega) _
end
end Go.Proofs.Ytkjginibdablnaa
