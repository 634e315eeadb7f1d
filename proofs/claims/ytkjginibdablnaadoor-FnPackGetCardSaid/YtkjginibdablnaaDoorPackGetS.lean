/- The chunk of a name in a pack, in the reference; the exact law. -/
import Derived.Test.YtkjginibdablnaaDoorPackGet
import Derived.Test.YtkjginibdablnaaDoorPackN
import Derived.Deep.RegionHeld3
namespace Go.Proofs.YtkjginibdablnaaDoor
open Go.RowKit
section
set_option maxHeartbeats 3200000
theorem packGetS_any (key no name : Int) (v : Value) (l : List Itm) (w : World) (hl : Lp w w.heap.size v (ivals l)) (hn : l.length ≤ 1048600) (hs : ∀ s ∈ l, s.2.size ≤ 1048576) :
    Calls Tryd.prog 15 #[.int .i64 key, packV no v, .int .i64 name] w (Got key l name w) := by
  obtain ⟨A, c, hv⟩ := lp_form hl
  subst hv
  rw [ivals_length] at *
  obtain ⟨W, hW⟩ : ∃ W, W = w.alloc (.cells #[.int .i64 no, .slice A l.length c] 29) := ⟨_, rfl⟩
  have HWs := Lib.hid (show W.heap.size = w.heap.size + 1 by rw [hW]; simp)
  have HBW := Lib.hid (show Below w.heap.size w W by rw [hW]; exact (Below.refl _ _).alloc (Nat.le_refl _) _)
  have HT := Lib.hid (show Two W w.heap.size 29 (.int .i64 no) (.slice A l.length c) by rw [hW]; exact two_new _ _ _ _)
  have HL := Lib.hid (lp_next hl HBW.out)
  have HSZ := Lib.hid hs
  clear hs hl
  obtain ⟨n, hnn⟩ : ∃ n, l.length = n := ⟨_, rfl⟩
  have HN := Lib.hid hnn
  rw [hnn] at hn HT HL
  have HW := Lib.hid (show w.alloc (.cells #[.int .i64 no, .slice A n c] 29) = W by rw [hW, hnn])
  clear hW
  rw [hnn]
  clear hnn
  cases hk : keyB key with
  | false =>
    have HG := Lib.hid (show getB key l name = false ∧ getT key l name = ByteArray.empty by
      unfold getB getT
      cases findI l name with
      | none => exact ⟨rfl, rfl⟩
      | some x =>
        have h : chunkB key x = false := by rw [chunk_is, hk, Bool.false_and]
        exact ⟨h, by simp only [chunkT, h]; rfl⟩)
    have HK := Lib.hid hk
    clear hk
    go_enter Tryd.func15, Tryd.ntmps15
    go_wp2_with (go_at_call 32; refine (l2Key_any _ _).mono ?_; rintro e w' ⟨rfl, rfl⟩; rw [HK.out])
    go_ret2
    exact ⟨by rw [HG.out.1, HG.out.2]; rfl, by rw [HW.out]; exact HBW.out⟩
  | true =>
    have HK := Lib.hid hk
    obtain ⟨kk, rfl⟩ : ∃ k : Nat, key = (k : Int) := ⟨key.toNat, by have := keyB_iff.1 hk; omega⟩
    have hk9 : kk ≤ 99 := by have := keyB_iff.1 hk; omega
    clear hk
    go_enter Tryd.func15, Tryd.ntmps15
    go_wp2_with (go_at_call 32; refine (l2Key_any _ _).mono ?_; rintro e w' ⟨rfl, rfl⟩; rw [HK.out])
    rw [HW.out]
    go_loopw [8] (fun i wr => ∃ j : Nat, j ≤ n ∧ i = .int .i64 (j : Int) ∧ (∀ y ∈ l.take j, y.1 ≠ name) ∧ wr = W) (fun i _ => n - (intOf i).toNat)
    case atStart => exact ⟨0, Nat.zero_le _, rfl, by simp, rfl⟩
    case round =>
      obtain ⟨j, hj, rfl, ht, rfl⟩ := hrel
      have HTk := Lib.hid ht
      have q1 := HT.out.c1
      clear ht
      by_cases hlt : j < n
      · obtain ⟨⟨a, b⟩, hs⟩ : ∃ s, l[j]? = some s := ⟨_, List.getElem?_eq_getElem (by have := HN.out; omega)⟩
        obtain ⟨g, off, hA, hg, c1, c2⟩ := lp_at HL.out (ivals_get hs)
        subst hA
        have HS := Lib.hid hs
        have HSS := Lib.hid (show b.size ≤ 1048576 from HSZ.out _ (List.mem_of_getElem? hs))
        have HC2 := Lib.hid c2
        have HGg := Lib.hid hg
        clear hs hg
        have hi1 : (j : Int) < (n : Int) := by omega
        have hi0 : (0 : Int) ≤ (j : Int) := by omega
        by_cases hx : a = name
        · have hxx : (a == name) = true := beq_iff_eq.2 hx
          have HF := Lib.hid (findI_some HS.out hx HTk.out)
          have HCB := Lib.hid (show chunkB (kk : Int) (a, b) = rightB kk (a, b) by rw [chunk_is, HK.out, Bool.true_and, Int.toNat_natCast])
          have HG := Lib.hid (show getB (kk : Int) l name = chunkB (kk : Int) (a, b) ∧ getT (kk : Int) l name = chunkT (kk : Int) (a, b) by unfold getB getT; rw [HF.out]; exact ⟨rfl, rfl⟩)
          have HLR := Lib.hid (l3Right_any kk a b wr hk9 HSS.out)
          clear hx
          cases hr : rightB kk (a, b) with
          | false =>
            have HGF := Lib.hid (show getB (kk : Int) l name = false ∧ getT (kk : Int) l name = ByteArray.empty by
              rw [HG.out.1, HG.out.2]
              have h : chunkB (kk : Int) (a, b) = false := by rw [HCB.out, hr]
              exact ⟨h, by simp only [chunkT, h]; rfl⟩)
            rw [hr] at HLR
            clear hr
            go_wp2_with fail
            refine HLR.out.mono ?_
            rintro e w' ⟨rfl, m, hw⟩
            have HB2 := Lib.hid (show Below wr.heap.size wr w' by rw [hw]; exact below_drewN ((Below.refl _ _).alloc (Nat.le_refl _) _) m)
            clear hw
            go_wp2
            go_ret2
            exact ⟨by rw [HGF.out.1, HGF.out.2]; rfl, bel2 HBW.out HB2.out⟩
          | true =>
            have hbk : backOk b.data.toList = true := by
              unfold rightB at hr
              simp only [Bool.and_eq_true] at hr
              exact hr.1
            have HBK := Lib.hid hbk
            have HGF := Lib.hid (show getB (kk : Int) l name = true ∧ getT (kk : Int) l name = ⟨(backT b.data.toList).toArray⟩ by
              rw [HG.out.1, HG.out.2]
              have h : chunkB (kk : Int) (a, b) = true := by rw [HCB.out, hr]
              exact ⟨h, by simp only [chunkT, h]; rfl⟩)
            rw [hr] at HLR
            clear hr hbk
            go_wp2_with fail
            refine HLR.out.mono ?_
            rintro e w' ⟨rfl, m, hw⟩
            have HB2 := Lib.hid (show Below wr.heap.size wr w' by rw [hw]; exact below_drewN ((Below.refl _ _).alloc (Nat.le_refl _) _) m)
            have r1 := (HT.out.keep (grown_of_bel HB2.out none) (by simp)).c1
            have r2 := (HB2.out.cell (p := ⟨g, off + j * 2 + 1, none⟩) HGg.out).trans HC2.out
            have HPB := Lib.hid (padBackSE_any b w' HSS.out)
            unfold Back at HPB
            rw [HBK.out] at HPB
            clear hw
            go_wp2_with fail
            refine HPB.out.mono ?_
            rintro e w2 ⟨⟨rfl, _⟩, rfl⟩
            go_wp2
            go_ret2
            exact ⟨by rw [HGF.out.1, HGF.out.2]; rfl, bel2 HBW.out HB2.out⟩
        · have hxx : (a == name) = false := beq_eq_false_iff_ne.2 hx
          have HF := Lib.hid (take_ne HS.out (show (a, b).1 ≠ name from hx) HTk.out)
          clear hx
          go_wp2
          go_roundw
          case rel => exact ⟨j + 1, by omega, by go_num, HF.out, trivial⟩
          case measure => simp [intOf]; omega
      · have HF := Lib.hid (findI_none (show ∀ y ∈ l, y.1 ≠ name by
          have h1 := HTk.out
          rwa [List.take_of_length_le (by have := HN.out; omega)] at h1))
        have HG := Lib.hid (show getB (kk : Int) l name = false ∧ getT (kk : Int) l name = ByteArray.empty by unfold getB getT; rw [HF.out]; exact ⟨rfl, rfl⟩)
        go_wp2
        go_ret2
        exact ⟨by rw [HG.out.1, HG.out.2]; rfl, HBW.out⟩
end
end Go.Proofs.YtkjginibdablnaaDoor
