/- Lists of entries: measured, copied, compared; whether a list is an index, in the reference. -/
import Derived.Test.YtfoocgfedcfkhaaSpot
import Derived.Laws.MakeOwn
import Derived.Laws.OwnMore
namespace Go.Proofs.Ytfoocgfedcfkhaa
open Go.RowKit

theorem run_make_two {P : Program} (t e : TypeId) (i : TypeInfo) (z : Value) (ht : P.underlying t = some (.slice e)) (hi : P.info? e = some i) (hz : i.zero = some z)
    (n : Nat) (hbytes : i.bytes * n ≤ 281474976710656) (h63 : n ≤ 9223372036854775807) (w : World) :
    (Instr.makeSlice t (.int .i64 (n : Int)) (.int .i64 (n : Int))).run P w = .ok (.slice (some ⟨w.heap.size, 0, none⟩) n n) (w.alloc (.cells (madeCells z.cells (n * i.size)) e)) := by
  have hb : (i.bytes : Int) * (n : Int) ≤ 281474976710656 := by
    have h : ((i.bytes * n : Nat) : Int) ≤ 281474976710656 := by omega
    rwa [Int.natCast_mul] at h
  have hr := run_make (P := P) w t e i z ht hi hz .i64 .i64 n n (by omega) (by omega) hb (by omega)
  simp only [Int.toNat_natCast] at hr
  exact hr
theorem info_spot : (Try.prog.info? 32).map (fun i => (i.zero, i.size, i.bytes)) = some (some (.agg #[.int .i64 0, .int .i64 0]), 2, 16) := by kernel_rfl

/-- the entries of l up to k stand in ys, two cells each -/
def Sp2 (l : List (Int × Int)) (k : Nat) (ys : List Value) : Prop :=
  ∀ (i : Nat) (s : Int × Int), i < k → l[i]? = some s → ys[i * 2]? = some (.int .i64 s.1) ∧ ys[i * 2 + 1]? = some (.int .i64 s.2)
theorem sp2_zero (l : List (Int × Int)) (ys : List Value) : Sp2 l 0 ys := fun i s h => absurd h (by omega)
theorem sp2_next {l : List (Int × Int)} {k n : Nat} {ys : List Value} {s : Int × Int} (h : Sp2 l k ys) (hs : l[k]? = some s) (hl : ys.length = n * 2) (hk : k < n) :
    Sp2 l (k + 1) ((ys.set (k * 2) (.int .i64 s.1)).set (k * 2 + 1) (.int .i64 s.2)) := by
  intro i t hi ht
  by_cases hik : i = k
  · subst hik
    rw [hs] at ht
    injection ht with ht
    subst ht
    constructor
    · rw [List.getElem?_set_ne (by omega), List.getElem?_set_self (by omega)]
    · rw [List.getElem?_set_self (by rw [List.length_set]; omega)]
  · obtain ⟨h1, h2⟩ := h i t (by omega) ht
    constructor
    · rw [List.getElem?_set_ne (by omega), List.getElem?_set_ne (by omega)]; exact h1
    · rw [List.getElem?_set_ne (by omega), List.getElem?_set_ne (by omega)]; exact h2
/-- a slice in memory new since B that holds the entries of l -/
def OwnSp (B : Nat) (w : World) (v : Value) (l : List (Int × Int)) : Prop := ∃ ys, w.ownsRow B 32 2 v l.length ys ∧ Sp2 l l.length ys
theorem lsp_of_own {B : Nat} {w : World} {v : Value} {l : List (Int × Int)} (h : OwnSp B w v l) : Lsp w w.heap.size v l := by
  obtain ⟨ys, ho, hs⟩ := h
  rcases ho.2 with ⟨hv, h0⟩ | ⟨g, cap, cur, hv, hb, hg, hnc, hcm, hcs, htk⟩
  · exact ⟨none, 0, by rw [hv, h0], by omega, fun h => by omega⟩
  · subst hv
    refine ⟨some ⟨g, 0, none⟩, cap, rfl, hnc, fun h0 => ⟨g, 0, rfl, ?_, fun j s hj => ?_⟩⟩
    · rcases Nat.lt_or_ge g w.heap.size with hlt | hge
      · exact hlt
      · rw [Array.getElem?_eq_none hge] at hg; cases hg
    · have hjl := (List.getElem?_eq_some_iff.1 hj).1
      obtain ⟨h1, h2⟩ := hs j s hjl hj
      rw [Nat.zero_add]
      exact ⟨(ho.cellAt (j * 2) (by omega)).trans h1, (ho.cellAt (j * 2 + 1) (by omega)).trans h2⟩
theorem lsp_keep {w w' : World} {B : Nat} {v : Value} {l : List (Int × Int)} (h : Lsp w B v l) (hk : ∀ g, g < B → w'.heap[g]? = w.heap[g]?) : Lsp w' B v l := by
  obtain ⟨A, c, hv, hc, hx⟩ := h
  refine ⟨A, c, hv, hc, fun h0 => ?_⟩
  obtain ⟨g, off, hA, hg, hcell⟩ := hx h0
  refine ⟨g, off, hA, hg, fun j s hj => ?_⟩
  obtain ⟨h1, h2⟩ := hcell j s hj
  exact ⟨(World.cell?_of_block (a := ⟨g, off + j * 2, none⟩) (hk g hg)).trans h1, (World.cell?_of_block (a := ⟨g, off + j * 2 + 1, none⟩) (hk g hg)).trans h2⟩
theorem lsp_more {w : World} {B B' : Nat} {v : Value} {l : List (Int × Int)} (h : Lsp w B v l) (hB : B ≤ B') : Lsp w B' v l := by
  obtain ⟨A, c, hv, hc, hx⟩ := h
  refine ⟨A, c, hv, hc, fun h0 => ?_⟩
  obtain ⟨g, off, hA, hg, hcell⟩ := hx h0
  exact ⟨g, off, hA, by omega, hcell⟩
theorem lsp_next {w w' : World} {v : Value} {l : List (Int × Int)} (h : Lsp w w.heap.size v l) (hb : Below w.heap.size w w') : Lsp w' w'.heap.size v l := lsp_more (lsp_keep h fun g hg => hb.block g hg) hb.size
theorem lsp_drewN {w : World} {B : Nat} {v : Value} {l : List (Int × Int)} (h : Lsp w B v l) (n : Nat) : Lsp (w.drewN n) B v l := h
theorem lsp_at {w : World} {B n c k : Nat} {A : Option Addr} {s : Int × Int} {l : List (Int × Int)} (h : Lsp w B (.slice A n c) l) (hk : l[k]? = some s) : ∃ g off, A = some ⟨g, off, none⟩ ∧ g < B ∧ w.cell? ⟨g, off + k * 2, none⟩ = some (.int .i64 s.1) ∧ w.cell? ⟨g, off + k * 2 + 1, none⟩ = some (.int .i64 s.2) := by
  obtain ⟨A', c', hv, hc, hx⟩ := h
  cases hv
  have hlt : k < l.length := (List.getElem?_eq_some_iff.1 hk).1
  obtain ⟨g, off, hA, hg, hcell⟩ := hx (by omega)
  exact ⟨g, off, hA, hg, hcell k s hk⟩
theorem bel2 {w w1 w2 : World} (h : Below w.heap.size w w1) (k : Below w1.heap.size w1 w2) : Below w.heap.size w w2 := h.trans (k.mono h.size)
theorem belD {w w' : World} {n : Nat} (h : Below (w.drewN n).heap.size (w.drewN n) w') : Below w.heap.size w w' := ⟨h.os, h.tape, h.output, h.size, h.block⟩
section
set_option maxHeartbeats 800000
theorem szSpotS_any (w : World) (A : Option Addr) (n c : Nat) (hn : n ≤ maxLen) :
    Calls Try.prog 10 #[.slice A n c, .int .i64 1048576] w fun e w' => ∃ r : Int, e = .returned (.int .i64 r) ∧ (0 ≤ r → n ≤ 1048576) ∧ w' = w := by
  unfold maxLen at hn
  by_cases h : n ≤ 1048576
  · have h1 : 0 ≤ (1048576 : Int) - (n : Int) := by omega
    go_enter Try.func10, Try.ntmps10
    go_wp2
    go_ret
    exact ⟨_, rfl, fun _ => h, rfl⟩
  · have h1 : (1048576 : Int) - (n : Int) < 0 := by omega
    have h2 : -9223372036854775808 ≤ (1048576 : Int) - (n : Int) := by omega
    go_enter Try.func10, Try.ntmps10
    go_wp2
    go_ret
    exact ⟨-1, rfl, fun h => by omega, rfl⟩
theorem toSpotS_any (w : World) (v : Value) (l : List (Int × Int)) (hl : Lsp w w.heap.size v l) (hn : l.length ≤ 1048576) :
    Calls Try.prog 12 #[v] w fun e w' => ∃ v', e = .returned v' ∧ OwnSp w.heap.size w' v' l ∧ Below w.heap.size w w' := by
  obtain ⟨A, c, rfl, hc, hx⟩ := hl
  have HX := Lib.hid hx
  clear hx
  obtain ⟨n, hnn⟩ : ∃ n, l.length = n := ⟨_, rfl⟩
  have HN := Lib.hid hnn
  rw [hnn] at hn hc ⊢
  clear hnn
  obtain ⟨i0, hi, hzz⟩ := Option.map_eq_some_iff.1 info_spot
  simp only [Prod.mk.injEq] at hzz
  obtain ⟨hz0, hz1, hz2⟩ := hzz
  have hmk := fun W : World => run_make_two (P := Try.prog) 25 32 i0 _ Try.underlying25 hi hz0 n (by rw [hz2]; omega) (by omega) W
  obtain ⟨xs, hxs⟩ : ∃ xs, xs = madeCells (Value.agg #[.int .i64 0, .int .i64 0]).cells (n * i0.size) := ⟨_, rfl⟩
  have hxl : xs.size = n * 2 := by rw [hxs, size_madeCells, hz1]
  rw [← hxs] at hmk
  have HO0 : Hid ((w.alloc (.cells xs 32)).ownsRow w.heap.size 32 2 (.slice (some ⟨w.heap.size, 0, none⟩) n n) n xs.toList) :=
    Lib.hid (World.ownsRow_lit w xs n (Nat.le_refl _) (by unfold maxLen; omega) hxl)
  clear hxs hxl hi hz0 hz1 hz2
  go_enter Try.func12, Try.ntmps12
  go_wp2
  go_loopw [4] (fun i wr => ∃ (j : Nat) (ys : List Value), j ≤ n ∧ i = .int .i64 (j : Int) ∧ wr.ownsRow w.heap.size 32 2 (.slice (some ⟨w.heap.size, 0, none⟩) n n) n ys ∧ Sp2 l j ys ∧ Below w.heap.size w wr) (fun i _ => n - (intOf i).toNat)
  case atStart => exact ⟨0, _, Nat.zero_le _, rfl, HO0.out, sp2_zero _ _, (Below.refl _ _).alloc (Nat.le_refl _) _⟩
  case round =>
    obtain ⟨j, ys, hj, rfl, ho, hsp, hb⟩ := hrel
    have HO := Lib.hid ho
    have HB := Lib.hid hb
    have HSP := Lib.hid hsp
    clear ho hb hsp
    by_cases hlt : j < n
    · obtain ⟨⟨a, b⟩, hs⟩ : ∃ s, l[j]? = some s := ⟨_, List.getElem?_eq_getElem (by have := HN.out; omega)⟩
      obtain ⟨g, off, rfl, hg, hcg⟩ := HX.out (by have := HN.out; omega)
      obtain ⟨h1, h2⟩ := hcg j _ hs
      have hc1 := (HB.out.cell (p := ⟨g, off + j * 2, none⟩) hg).trans h1
      have hc2 := (HB.out.cell (p := ⟨g, off + j * 2 + 1, none⟩) hg).trans h2
      have HS2 := Lib.hid (sp2_next HSP.out hs (by have := HO.out.1; omega) hlt)
      clear h1 h2 hcg hs
      have hi1 : (j : Int) < (n : Int) := by omega
      go_wp2_with fail
      refine (toSpot_any a b wr).mono ?_
      rintro e w' ⟨rfl, hb⟩
      have HB2 := Lib.hid hb
      clear hb
      have HO' : Hid (w'.ownsRow w.heap.size 32 2 (.slice (some ⟨w.heap.size, 0, none⟩) n n) n ys) := Lib.hid (HO.out.kept (grown_of_bel HB2.out none) (Classical.em _))
      have hyl : ys.length = n * 2 := by have := HO'.out.1; omega
      obtain ⟨o1, ho1⟩ : ∃ x, ys[j * 2]? = some x := ⟨_, List.getElem?_eq_getElem (by omega)⟩
      obtain ⟨o2, ho2⟩ : ∃ x, ys[j * 2 + 1]? = some x := ⟨_, List.getElem?_eq_getElem (by omega)⟩
      have hq1 := (HO'.out.cellAt (j * 2) (by omega)).trans ho1
      have hq2 := (HO'.out.cellAt (j * 2 + 1) (by omega)).trans ho2
      have hf1 := HO'.out.frozenAt (j * 2)
      have hf2 := HO'.out.frozenAt (j * 2 + 1)
      have HS1 := Lib.hid ((HO'.out.stored (j * 2) (.int .i64 a)).1.stored (j * 2 + 1) (.int .i64 b)).1
      clear hyl ho1 ho2
      go_wp2
      go_roundw
      case rel => exact ⟨j + 1, _, by omega, by go_num, HS1.out, HS2.out, ((HB.out.trans (HB2.out.mono HB.out.size)).setCell (Nat.le_refl _) _).setCell (Nat.le_refl _) _⟩
      case measure => simp [intOf]; omega
    · have hjn : j = n := by omega
      subst hjn
      go_wp2
      go_ret
      exact ⟨_, rfl, ⟨ys, by rw [HN.out]; exact HO.out, by rw [HN.out]; exact HSP.out⟩, HB.out⟩
theorem eqSpot_is (a b c d : Int) (v : Bool) (h : decide (a = c ∧ b = d) = v) (w : World) (n : Nat) (os : Array Obj) :
    Calls Try.prog 28 #[.agg #[.int .i64 a, .int .i64 b], .agg #[.int .i64 c, .int .i64 d]] (Sort.grow (w.drewN n) os) fun e w'' => e = .returned (.bool v) ∧ ∃ p : GrownBy, w'' = Sort.grow (w.drewN p.n) p.os :=
  Calls.grown_of ((eqSpotE_any a b c d _).mono fun _ _ h2 => ⟨by rw [h2.1, h], 0, #[.cells #[.int .i64 a, .int .i64 b] 32] ++ #[.cells #[.int .i64 c, .int .i64 d] 32], by rw [h2.2, Sort.alloc_eq_grow, Sort.alloc_eq_grow, Sort.grow_grow]; rfl⟩)
theorem eqSpotS_any (w : World) (va vb : Value) (la lb : List (Int × Int)) (ha : Lsp w w.heap.size va la) (hb : Lsp w w.heap.size vb lb) (hm : la.length ≤ 1000000000) :
    Calls Try.prog 14 #[va, vb] w fun e w' => e = .returned (.bool (decide (la = lb))) ∧ Below w.heap.size w w' := by
  obtain ⟨A, ca, rfl, hca, hxa⟩ := ha
  obtain ⟨C, cb, rfl, hcb, hxb⟩ := hb
  have mixed := mixedO
  by_cases hl : la.length = lb.length
  · have HXA := Lib.hid hxa
    have HXB := Lib.hid hxb
    obtain ⟨n, hn⟩ : ∃ n, la.length = n := ⟨_, rfl⟩
    have hn2 : lb.length = n := by omega
    have HN := Lib.hid hn
    have HN2 := Lib.hid hn2
    rw [hn] at hm ⊢
    rw [hn2]
    clear hxa hxb hl hn hn2 hca hcb
    go_enter Try.func14, Try.ntmps14
    go_wp2
    go_loopw [5] (fun i wr => ∃ k : Nat, k ≤ n ∧ i = .int .i64 (k : Int) ∧ la.take k = lb.take k ∧ Below w.heap.size w wr) (fun i _ => n - (intOf i).toNat)
    case atStart => exact ⟨0, Nat.zero_le _, rfl, rfl, Below.refl _ _⟩
    case round =>
      obtain ⟨k, hk, rfl, ht, hbw⟩ := hrel
      have HT := Lib.hid ht
      have HB := Lib.hid hbw
      clear ht hbw
      by_cases hlt : k < n
      · obtain ⟨⟨a, b⟩, hx⟩ : ∃ x, la[k]? = some x := ⟨_, List.getElem?_eq_getElem (by have := HN.out; omega)⟩
        obtain ⟨⟨c, d⟩, hy⟩ : ∃ y, lb[k]? = some y := ⟨_, List.getElem?_eq_getElem (by have := HN2.out; omega)⟩
        obtain ⟨g, off, rfl, hg, hcg⟩ := HXA.out (by have := HN.out; omega)
        obtain ⟨g2, off2, rfl, hg2, hcg2⟩ := HXB.out (by have := HN2.out; omega)
        obtain ⟨h1, h2⟩ := hcg k _ hx
        obtain ⟨h3, h4⟩ := hcg2 k _ hy
        have hsz := HB.out.size
        have hc1 := cell_grown (a := ⟨g, off + k * 2, none⟩) (show g < wr.heap.size by omega) ((HB.out.cell (p := ⟨g, off + k * 2, none⟩) hg).trans h1)
        have hc2 := cell_grown (a := ⟨g, off + k * 2 + 1, none⟩) (show g < wr.heap.size by omega) ((HB.out.cell (p := ⟨g, off + k * 2 + 1, none⟩) hg).trans h2)
        have hc3 := cell_grown (a := ⟨g2, off2 + k * 2, none⟩) (show g2 < wr.heap.size by omega) ((HB.out.cell (p := ⟨g2, off2 + k * 2, none⟩) hg2).trans h3)
        have hc4 := cell_grown (a := ⟨g2, off2 + k * 2 + 1, none⟩) (show g2 < wr.heap.size by omega) ((HB.out.cell (p := ⟨g2, off2 + k * 2 + 1, none⟩) hg2).trans h4)
        have HBW := Lib.hid (fun (n : Nat) (os : Array Obj) => below_grow HB.out HB.out.size n os)
        have HX := Lib.hid hx
        have HY := Lib.hid hy
        clear hx hy hcg hcg2 h1 h2 h3 h4 hsz
        have hi1 : (k : Int) < (n : Int) := by omega
        have hi0 : (0 : Int) ≤ (k : Int) := by omega
        by_cases hxy : a = c ∧ b = d
        · obtain ⟨rfl, rfl⟩ := hxy
          go_wp2_with fail
          refine wp_region_quiet_grown (by assumption) (by kernel_rfl) ?_
          repeat (first | go_big_quiet_skip | quiet_step (first | (go_at_call 28; exact eqSpot_is a b a b true (by simp) _ _ _)))
          refine wpQuiet_nil ?_
          intro _ hw'
          obtain ⟨⟨nq, osq⟩, hw''⟩ := hw'
          subst hw''
          go_wp2
          go_roundw
          case rel => exact ⟨k + 1, by omega, by go_num, tk_snoc HT.out HX.out HY.out, HBW.out _ _⟩
          case measure => simp [intOf]; omega
        · have HD := Lib.hid (decide_eq_false hxy)
          have HF := Lib.hid (show la ≠ lb by
            rintro rfl
            have h := HX.out
            rw [HY.out] at h
            injection h with h
            injection h with h1 h2
            exact hxy ⟨h1.symm, h2.symm⟩)
          clear hxy
          go_wp2_with fail
          refine wp_region_quiet_grown (by assumption) (by kernel_rfl) ?_
          repeat (first | go_big_quiet_skip | quiet_step (first | (go_at_call 28; exact eqSpot_is a b c d false HD.out _ _ _)))
          refine wpQuiet_nil ?_
          intro _ hw'
          obtain ⟨⟨nq, osq⟩, hw''⟩ := hw'
          subst hw''
          go_wp2
          go_ret
          exact ⟨ret_bool (by simp [HF.out]), HBW.out _ _⟩
      · have HE := Lib.hid (show la = lb by
          have h1 := HT.out
          rwa [List.take_of_length_le (by have := HN.out; omega), List.take_of_length_le (by have := HN2.out; omega)] at h1)
        go_wp2
        go_ret
        exact ⟨ret_bool (by simp [HE.out]), HB.out⟩
  · have HF := Lib.hid (show la ≠ lb from fun h => hl (by rw [h]))
    have hne : ((la.length : Int) != (lb.length : Int)) = true := by simp; omega
    clear hxa hxb
    generalize la.length = n at *
    generalize lb.length = m at *
    go_enter Try.func14, Try.ntmps14
    go_wp2
    go_ret
    exact ⟨ret_bool (by simp [HF.out]), Below.refl _ _⟩
theorem l4Spot_is (a b : Int) (v : Bool) (h : spotB (a, b) = v) (w : World) : Calls Try.prog 25 #[.agg #[.int .i64 a, .int .i64 b]] w fun e w' => e = .returned (.bool v) ∧ w' = w.alloc (.cells #[.int .i64 a, .int .i64 b] 32) := h ▸ l4Spot_any a b w
theorem indexOkS_any (w : World) (v : Value) (l : List (Int × Int)) (hl : Lsp w w.heap.size v l) (hn : l.length ≤ 1048600) :
    Calls Try.prog 11 #[v] w fun e w' => e = .returned (.bool (idxB l)) ∧ Below w.heap.size w w' := by
  obtain ⟨A, c, rfl, hc, hx⟩ := hl
  have HX := Lib.hid hx
  clear hx
  obtain ⟨n, hnn⟩ : ∃ n, l.length = n := ⟨_, rfl⟩
  have HN := Lib.hid hnn
  rw [hnn] at hn hc ⊢
  clear hnn
  have mixed := mixedO
  go_enter Try.func11, Try.ntmps11
  go_wp2
  go_loopw [3] (fun i wr => ∃ k : Nat, k ≤ n ∧ i = .int .i64 (k : Int) ∧ idxTo l k = true ∧ Below w.heap.size w wr) (fun i _ => n - (intOf i).toNat)
  case atStart => exact ⟨0, Nat.zero_le _, rfl, rfl, Below.refl _ _⟩
  case round =>
    obtain ⟨k, hk, rfl, ht, hb⟩ := hrel
    have HT := Lib.hid ht
    have HB := Lib.hid hb
    clear ht hb
    by_cases hlt : k < n
    · obtain ⟨⟨a, b⟩, hs⟩ : ∃ s, l[k]? = some s := ⟨_, List.getElem?_eq_getElem (by have := HN.out; omega)⟩
      obtain ⟨g, off, rfl, hg, hcg⟩ := HX.out (by have := HN.out; omega)
      obtain ⟨h1, h2⟩ := hcg k _ hs
      have hgr : g < wr.heap.size := Nat.lt_of_lt_of_le hg HB.out.size
      have hc1 := cell_grown (a := ⟨g, off + k * 2, none⟩) hgr ((HB.out.cell (p := ⟨g, off + k * 2, none⟩) hg).trans h1)
      have hc2 := cell_grown (a := ⟨g, off + k * 2 + 1, none⟩) hgr ((HB.out.cell (p := ⟨g, off + k * 2 + 1, none⟩) hg).trans h2)
      have HS := Lib.hid hs
      have HCG := Lib.hid hcg
      clear h1 h2 hs hcg
      have hi1 : (k : Int) < (n : Int) := by omega
      have hi0 : (0 : Int) ≤ (k : Int) := by omega
      have HBW := Lib.hid (fun (n : Nat) (os : Array Obj) => below_grow HB.out HB.out.size n os)
      cases hsb : spotB (a, b) with
      | false =>
        have HF := Lib.hid (idxB_no (by rw [HN.out]; exact hlt) (okAt_bad HS.out hsb))
        have HSB := Lib.hid (fun w => l4Spot_is a b false hsb w)
        clear hsb
        go_wp2_with fail
        refine wp_region_quiet_grown (by assumption) (by kernel_rfl) ?_
        repeat (first | go_big_quiet_skip | quiet_step (first | (go_at_call 25; exact quiet_box HSB.out _ _ _)))
        refine wpQuiet_nil ?_
        intro _ hw'
        obtain ⟨⟨nq, osq⟩, hw''⟩ := hw'
        subst hw''
        go_wp2
        go_ret
        exact ⟨ret_bool HF.out.symm, HBW.out _ _⟩
      | true =>
        have HSB := Lib.hid (fun w => l4Spot_is a b true hsb w)
        rcases Nat.eq_zero_or_pos k with h0 | h0
        · have HOK := Lib.hid (show idxTo l (k + 1) = true by rw [idxTo_succ, HT.out]; subst h0; rw [okAt_first HS.out hsb]; rfl)
          have hdk : decide (0 < k) = false := decide_eq_false (by omega)
          clear hsb h0
          go_wp2_with fail
          refine wp_region_quiet_grown (by assumption) (by kernel_rfl) ?_
          repeat (first | go_big_quiet_skip | quiet_step (first | (go_at_call 25; exact quiet_box HSB.out _ _ _)))
          refine wpQuiet_nil ?_
          intro _ hw'
          obtain ⟨⟨nq, osq⟩, hw''⟩ := hw'
          subst hw''
          go_wp2
          go_roundw
          case rel => exact ⟨k + 1, by omega, by go_num, HOK.out, HBW.out _ _⟩
          case measure => simp [intOf]; omega
        · obtain ⟨m, hm⟩ : ∃ m, k = m + 1 := ⟨k - 1, by omega⟩
          obtain ⟨⟨a', b'⟩, hs'⟩ : ∃ s, l[m]? = some s := ⟨_, List.getElem?_eq_getElem (by have := HN.out; omega)⟩
          have hP := cell_grown (a := ⟨g, off + m * 2, none⟩) hgr ((HB.out.cell (p := ⟨g, off + m * 2, none⟩) hg).trans (HCG.out m _ hs').1)
          have hOK : okAt l k = decide (a' < a) := by
            subst hm
            exact okAt_next HS.out hs' hsb
          have hw : IntKind.i64.wrap ((k : Int) - 1) = (m : Int) := by rw [IntKind.wrap_i64]; omega
          have hm0 : (0 : Int) ≤ (m : Int) := by omega
          have hmn : (m : Int) < (n : Int) := by omega
          have hk0 : (0 : Int) < (k : Int) := by omega
          have hdk : decide (0 < k) = true := decide_eq_true h0
          clear hsb hs' hm
          by_cases hlt2 : a' < a
          · have hd : decide (a ≤ a') = false := decide_eq_false (by omega)
            have HOK := Lib.hid (show idxTo l (k + 1) = true by rw [idxTo_succ, HT.out, hOK, decide_eq_true hlt2]; rfl)
            clear hOK
            go_wp2_with fail
            refine wp_region_quiet_grown (by assumption) (by kernel_rfl) ?_
            repeat (first | go_big_quiet_skip | quiet_step (first | (go_at_call 25; exact quiet_box HSB.out _ _ _)))
            refine wpQuiet_nil ?_
            intro _ hw'
            obtain ⟨⟨nq, osq⟩, hw''⟩ := hw'
            subst hw''
            go_wp2
            go_roundw
            case rel => exact ⟨k + 1, by omega, by go_num, HOK.out, HBW.out _ _⟩
            case measure => simp [intOf]; omega
          · have hd : decide (a ≤ a') = true := decide_eq_true (by omega)
            have HF := Lib.hid (idxB_no (by rw [HN.out]; exact hlt) (by rw [hOK, decide_eq_false hlt2]))
            clear hOK
            go_wp2_with fail
            refine wp_region_quiet_grown (by assumption) (by kernel_rfl) ?_
            repeat (first | go_big_quiet_skip | quiet_step (first | (go_at_call 25; exact quiet_box HSB.out _ _ _)))
            refine wpQuiet_nil ?_
            intro _ hw'
            obtain ⟨⟨nq, osq⟩, hw''⟩ := hw'
            subst hw''
            go_wp2
            go_ret
            exact ⟨ret_bool HF.out.symm, HBW.out _ _⟩
    · have HF := Lib.hid (show idxB l = true by
        have h1 := HT.out
        rw [show k = l.length by have := HN.out; omega] at h1
        exact h1)
      go_wp2
      go_ret
      exact ⟨ret_bool HF.out.symm, HB.out⟩
end
/-- what the frame gives of an argument that is a list of entries -/
def SpotsIn (w : World) (v : Value) (l : List (Int × Int)) : Prop := Lsp w w.heap.size v l ∧ l.length ≤ maxLen
end Go.Proofs.Ytfoocgfedcfkhaa
