/- The drawings of indexes: lists of few entries, of small names and packs. -/
import Derived.Test.YtfoocgfedcfkhaaIdxLess
import Derived.Test.YtfoocgfedcfkhaaRead
namespace Go.Proofs.Ytfoocgfedcfkhaa
open Go.RowKit

theorem ownRow_less {B B' : Nat} {w : World} {e : TypeId} {size n : Nat} {v : Value} {xs : List Value} (h : w.ownsRow B e size v n xs) (hB : B' ≤ B) : w.ownsRow B' e size v n xs := by
  refine ⟨h.1, ?_⟩
  rcases h.2 with h2 | ⟨g, cap, cur, hv, hb, rest⟩
  · exact .inl h2
  · exact .inr ⟨g, cap, cur, hv, by omega, rest⟩
theorem ownSp_less {B B' : Nat} {w : World} {v : Value} {l : List (Int × Int)} (h : OwnSp B w v l) (hB : B' ≤ B) : OwnSp B' w v l := by
  obtain ⟨ys, h1, h2⟩ := h
  exact ⟨ys, ownRow_less h1 hB, h2⟩
theorem ownSp_base {B : Nat} {w : World} {v : Value} {l : List (Int × Int)} (h : OwnSp B w v l) : ∀ g, v.ownBlock = some g → B ≤ g := by
  obtain ⟨ys, o, _⟩ := h
  exact fun g hg => (o.lt g hg).1
theorem ownSp_pick {B r : Nat} {w w' : World} {v : Value} {l : List (Int × Int)} (h : OwnSp B w v l) (hg : w.grownBy w' (some r)) (hr : r < B) : OwnSp B w' v l :=
  ownSp_kept h hg (by
    cases e : v.ownBlock with
    | none => exact .inl rfl
    | some g => right; intro e2; injection e2 with e2; have := ownSp_base h g e; omega)
/-- the entries of a drawn index -/
def Tame (l : List (Int × Int)) : Prop := ∀ t ∈ l, -1 ≤ t.1 ∧ t.1 ≤ 13 ∧ 0 ≤ t.2 ∧ t.2 ≤ 9
theorem tame_nil : Tame [] := fun t h => by simp at h
theorem tame_snoc {l : List (Int × Int)} {s : Int × Int} (h : Tame l) (hs : -1 ≤ s.1 ∧ s.1 ≤ 13 ∧ 0 ≤ s.2 ∧ s.2 ≤ 9) : Tame (l ++ [s]) := fun t ht => by
  rcases List.mem_append.1 ht with h1 | h1
  · exact h t h1
  · rw [List.mem_singleton.1 h1]; exact hs
/-- every entry of L is one of l, or s -/
def From (L l : List (Int × Int)) (s : Int × Int) : Prop := ∀ t ∈ L, t ∈ l ∨ t = s
theorem from_nil (l : List (Int × Int)) (s : Int × Int) : From [] l s := fun t h => by simp at h
theorem from_snoc {L l : List (Int × Int)} {s t : Int × Int} (h : From L l s) (ht : t ∈ l ∨ t = s) : From (L ++ [t]) l s := fun u hu => by
  rcases List.mem_append.1 hu with h1 | h1
  · exact h u h1
  · rw [List.mem_singleton.1 h1]; exact ht
theorem tame_from {L l : List (Int × Int)} {s : Int × Int} (h : From L l s) (hl : Tame l) (hs : -1 ≤ s.1 ∧ s.1 ≤ 13 ∧ 0 ≤ s.2 ∧ s.2 ≤ 9) : Tame L := fun t ht => by
  rcases h t ht with h1 | rfl
  · exact hl t h1
  · exact hs
def PutSp (l : List (Int × Int)) (s : Int × Int) (w : World) (e : Ending) (w' : World) : Prop :=
  ∃ (v : Value) (L : List (Int × Int)), e = .returned v ∧ OwnSp w.heap.size w' v L ∧ From L l s ∧ L.length ≤ l.length + 1 ∧ Below w.heap.size w w'
theorem box_cells (w W : World) (a b : Int) (h : Below (w.heap.size + 1) (w.alloc (.cells #[.int .i64 a, .int .i64 b] 32)) W) :
    W.cell? ⟨w.heap.size, 0, none⟩ = some (.int .i64 a) ∧ W.cell? ⟨w.heap.size, 1, none⟩ = some (.int .i64 b) := by
  constructor
  · rw [h.cell (p := ⟨w.heap.size, 0, none⟩) (Nat.lt_succ_self _), cell_of_row _ _ 0 _ _ (0, 0) (heap_alloc_new w _)]; rfl
  · rw [h.cell (p := ⟨w.heap.size, 1, none⟩) (Nat.lt_succ_self _), cell_of_row _ _ 1 _ _ (0, 0) (heap_alloc_new w _)]; rfl
theorem put_facts {w W X : World} {a b c d : Int} {g off k : Nat} (hW : W = w.alloc (.cells #[.int .i64 a, .int .i64 b] 32)) (hX : Below W.heap.size W X) (hg : g < w.heap.size)
    (h1 : w.cell? ⟨g, off + k * 2, none⟩ = some (.int .i64 c)) (h2 : w.cell? ⟨g, off + k * 2 + 1, none⟩ = some (.int .i64 d)) :
    X.cell? ⟨w.heap.size, 0, none⟩ = some (.int .i64 a) ∧ X.cell? ⟨w.heap.size, 1, none⟩ = some (.int .i64 b) ∧ X.cell? ⟨g, off + k * 2, none⟩ = some (.int .i64 c) ∧ X.cell? ⟨g, off + k * 2 + 1, none⟩ = some (.int .i64 d) := by
  have hs : W.heap.size = w.heap.size + 1 := by rw [hW]; simp
  obtain ⟨b1, b2⟩ := box_cells w X a b (by rw [← hW, ← hs]; exact hX)
  have hwX : Below w.heap.size w X := (show Below w.heap.size w W by rw [hW]; exact (Below.refl _ _).alloc (Nat.le_refl _) _).trans (hX.mono (by omega))
  exact ⟨b1, b2, (hwX.cell (p := ⟨g, off + k * 2, none⟩) hg).trans h1, (hwX.cell (p := ⟨g, off + k * 2 + 1, none⟩) hg).trans h2⟩
theorem step_below {B : Nat} {W wr X w1 : World} {row : Option Nat} (hb : Below B W wr) (hg : X.grownBy w1 row) (hs : wr.heap.size ≤ X.heap.size) (hx : ∀ i, i < wr.heap.size → X.heap[i]? = wr.heap[i]?) (h1 : X.os = wr.os) (h2 : X.tape = wr.tape) (h3 : X.output = wr.output)
    (hB : W.heap.size ≤ wr.heap.size) (hr : ∀ g, row = some g → B ≤ g) (hBW : B ≤ W.heap.size := by exact Nat.le_refl _) : Below B W w1 :=
  (Below.trans hb ⟨h1, h2, h3, hs, fun i hi => hx i (by omega)⟩).grown hg (by omega) hr
section
set_option maxHeartbeats 1600000
theorem l4Put_any (w : World) (v : Value) (l : List (Int × Int)) (a b' : Int) (hl : Lsp w w.heap.size v l) (hn : l.length ≤ 100) :
    Calls Try.prog 37 #[v, .agg #[.int .i64 a, .int .i64 b']] w (PutSp l (a, b') w) := by
  obtain ⟨i0, hi, hz0, hz1, hz2⟩ := info_parts info_spot
  obtain ⟨A, c, rfl, hc, hx⟩ := hl
  have HX := Lib.hid hx
  clear hx
  obtain ⟨n, hnn⟩ : ∃ n, l.length = n := ⟨_, rfl⟩
  have HN := Lib.hid hnn
  rw [hnn] at hn hc ⊢
  clear hnn
  obtain ⟨W, hW⟩ : ∃ W, W = w.alloc (.cells #[.int .i64 a, .int .i64 b'] 32) := ⟨_, rfl⟩
  have hWs : W.heap.size = w.heap.size + 1 := by rw [hW]; simp
  have HW := Lib.hid hW
  have HBW := Lib.hid (show Below w.heap.size w W by rw [hW]; exact (Below.refl _ _).alloc (Nat.le_refl _) _)
  have HE0 := Lib.hid (ownSp_empty W)
  have HA0 := Lib.hid ((Below.refl W.heap.size W).alloc (Nat.le_refl _) (.cells #[] 32))
  go_enter Try.func37, Try.ntmps37
  go_wp2_with fail
  rw [← hW]
  go_loopw [5, 6, 7] (fun o p i wr => ∃ (k : Nat) (L : List (Int × Int)) (b : Bool) (ys : List Value), k ≤ n ∧ p = .bool b ∧ i = .int .i64 (k : Int) ∧ wr.ownsRow W.heap.size 32 2 o L.length ys ∧ Sp2 L L.length ys ∧ From L l (a, b') ∧ L.length ≤ k + 1 ∧ (b = false → L.length ≤ k) ∧ Below W.heap.size W wr) (fun _ _ i _ => n - (intOf i).toNat)
  case atStart =>
    obtain ⟨ys, h1, h2⟩ := HE0.out
    rw [show (⟨W.heap.size, 0, none⟩ : Addr) = ⟨w.heap.size + 1, 0, none⟩ by rw [hWs]] at h1
    exact ⟨0, [], false, ys, Nat.zero_le _, rfl, rfl, h1, h2, from_nil _ _, by simp, (fun _ => by simp), HA0.out⟩
  case round =>
    obtain ⟨k, L, p, ys, hk, rfl, rfl, ho, hsp, hfr, hl1, hl2, hb⟩ := hrel
    have HO := Lib.hid ho
    have HB := Lib.hid hb
    have HSP := Lib.hid hsp
    have HFr := Lib.hid hfr
    have HY := Lib.hid (show ys.length = L.length * 2 from ho.1)
    clear ho hsp hfr hb
    by_cases hlt : k < n
    · obtain ⟨⟨c, d⟩, hs⟩ : ∃ s, l[k]? = some s := ⟨_, List.getElem?_eq_getElem (by have := HN.out; omega)⟩
      obtain ⟨g, off, rfl, hg, hcg⟩ := HX.out (by have := HN.out; omega)
      obtain ⟨h1, h2⟩ := hcg k _ hs
      have H1 := Lib.hid h1
      have H2 := Lib.hid h2
      have HM := Lib.hid (List.mem_of_getElem? hs)
      obtain ⟨q1, q2, q3, q4⟩ := put_facts HW.out HB.out hg H1.out H2.out
      clear h1 h2 hcg hs
      have hi1 : (k : Int) < (n : Int) := by omega
      have hi0 : (0 : Int) ≤ (k : Int) := by omega
      cases p with
      | true =>
        clear hl2
        by_cases hca : c = a
        · have hne : (c != a) = false := by simp [hca]
          clear hca
          go_wp2_with fail
          go_quiet (fail)
          go_wp2_with fail
          go_quiet (fail)
          go_wp2
          go_roundw
          case rel => exact ⟨k + 1, L, true, ys, by omega, rfl, by go_num, HO.out, HSP.out, HFr.out, by omega, (fun h => by cases h), below_drewN HB.out _⟩
          case measure => simp [intOf]; omega
        · have hne : (c != a) = true := by simpa using hca
          clear hca
          go_wp2_with fail
          go_quiet (fail)
          go_wp2_with fail
          go_quiet (fail)
          go_wp2_with (at_builtin; refine wpList_append_own _ rfl _ _ 25 rfl W.heap.size 32 i0 (.agg #[.int .i64 0, .int .i64 0]) 2 16 Try.underlying25 hi hz0 hz1 hz2 rfl (by decide) _ _ _ rfl (own_alloc2 (by exact HO.out) _) _ 1 1 [.int .i64 c, .int .i64 d] rfl rfl (cells_two_new _ _ _ _) (by simp [Value.oneCell']) (by unfold maxLen; omega) (by omega) (by have := HB.out.size; simp; omega) ?_; intro v1 w1 hown' hgrow _; have HO1 := Lib.hid hown'; have HB1 := Lib.hid (step_below HB.out hgrow (by simp) (fun i hi => Below.heap_alloc _ _ i hi) rfl rfl rfl HB.out.size (fun j hj => (HO.out.lt j hj).1)); clear hown' hgrow)
          go_roundw
          case rel => exact ⟨k + 1, L ++ [(c, d)], true, _, by omega, rfl, by go_num, by rw [List.length_append]; exact HO1.out, by rw [List.length_append]; exact sp2_snoc HSP.out HY.out, from_snoc HFr.out (.inl HM.out), by simp; omega, (fun h => by cases h), HB1.out⟩
          case measure => simp [intOf]; omega
      | false =>
        have hl3 := hl2 rfl
        clear hl2
        by_cases hge : a ≤ c
        · have hd : decide (a ≤ c) = true := decide_eq_true hge
          by_cases hca : c = a
          · have hne : (c != a) = false := by simp [hca]
            clear hca hge
            go_wp2_with fail
            go_quiet (fail)
            go_wp2_with (at_builtin; refine wpList_append_own _ rfl _ _ 25 rfl W.heap.size 32 i0 (.agg #[.int .i64 0, .int .i64 0]) 2 16 Try.underlying25 hi hz0 hz1 hz2 rfl (by decide) _ _ _ rfl (own_alloc2 (by exact HO.out) _) _ 1 1 [.int .i64 a, .int .i64 b'] rfl rfl (cells_two_new _ _ _ _) (by simp [Value.oneCell']) (by unfold maxLen; omega) (by omega) (by have := HB.out.size; simp; omega) ?_; intro v1 w1 hown' hgrow _; have HO1 := Lib.hid hown'; have HB1 := Lib.hid (step_below HB.out hgrow (by simp) (fun i hi => Below.heap_alloc _ _ i hi) rfl rfl rfl HB.out.size (fun j hj => (HO.out.lt j hj).1)); clear hown' hgrow; obtain ⟨r1, r2, r3, r4⟩ := put_facts HW.out HB1.out hg H1.out H2.out)
            go_quiet (fail)
            go_wp2
            go_roundw
            case rel => exact ⟨k + 1, L ++ [(a, b')], true, _, by omega, rfl, by go_num, by rw [List.length_append]; exact HO1.out, by rw [List.length_append]; exact sp2_snoc HSP.out HY.out, from_snoc HFr.out (.inr rfl), by simp; omega, (fun h => by cases h), below_drewN HB1.out _⟩
            case measure => simp [intOf]; omega
          · have hne : (c != a) = true := by simpa using hca
            clear hca hge
            go_wp2_with fail
            go_quiet (fail)
            go_wp2_with (at_builtin; refine wpList_append_own _ rfl _ _ 25 rfl W.heap.size 32 i0 (.agg #[.int .i64 0, .int .i64 0]) 2 16 Try.underlying25 hi hz0 hz1 hz2 rfl (by decide) _ _ _ rfl (own_alloc2 (by exact HO.out) _) _ 1 1 [.int .i64 a, .int .i64 b'] rfl rfl (cells_two_new _ _ _ _) (by simp [Value.oneCell']) (by unfold maxLen; omega) (by omega) (by have := HB.out.size; simp; omega) ?_; intro v1 w1 hown' hgrow _; have HO1 := Lib.hid hown'; have HB1 := Lib.hid (step_below HB.out hgrow (by simp) (fun i hi => Below.heap_alloc _ _ i hi) rfl rfl rfl HB.out.size (fun j hj => (HO.out.lt j hj).1)); clear hown' hgrow; obtain ⟨r1, r2, r3, r4⟩ := put_facts HW.out HB1.out hg H1.out H2.out)
            have HY1 := Lib.hid (show (ys ++ [Value.int .i64 a, Value.int .i64 b']).length = (L.length + 1) * 2 from HO1.out.1)
            go_quiet (fail)
            go_wp2_with (at_builtin; refine wpList_append_own _ rfl _ _ 25 rfl W.heap.size 32 i0 (.agg #[.int .i64 0, .int .i64 0]) 2 16 Try.underlying25 hi hz0 hz1 hz2 rfl (by decide) _ _ _ rfl (own_alloc2 (by exact HO1.out) _) _ 1 1 [.int .i64 c, .int .i64 d] rfl rfl (cells_two_new _ _ _ _) (by simp [Value.oneCell']) (by unfold maxLen; omega) (by omega) (by have := HB1.out.size; simp; omega) ?_; intro v2 w2 hown' hgrow _; have HO2 := Lib.hid hown'; have HB2 := Lib.hid (step_below HB1.out hgrow (by simp) (fun i hi => Below.heap_alloc _ _ i hi) rfl rfl rfl HB1.out.size (fun j hj => (HO1.out.lt j hj).1)); clear hown' hgrow)
            go_roundw
            case rel => exact ⟨k + 1, L ++ [(a, b')] ++ [(c, d)], true, _, by omega, rfl, by go_num, by rw [List.length_append, List.length_append]; exact HO2.out, (by
              have h1 := sp2_snoc (s := (a, b')) HSP.out HY.out
              have h2 := sp2_snoc (l := L ++ [(a, b')]) (s := (c, d)) (by rw [List.length_append]; exact h1) (by have h := HY1.out; simp at h ⊢; omega)
              rw [List.length_append]; exact h2), from_snoc (from_snoc HFr.out (.inr rfl)) (.inl HM.out), by simp; omega, (fun h => by cases h), HB2.out⟩
            case measure => simp [intOf]; omega
        · have hd : decide (a ≤ c) = false := decide_eq_false hge
          have hne : (c != a) = true := by simp; omega
          clear hge
          go_wp2_with fail
          go_quiet (fail)
          go_wp2_with fail
          go_quiet (fail)
          go_wp2_with (at_builtin; refine wpList_append_own _ rfl _ _ 25 rfl W.heap.size 32 i0 (.agg #[.int .i64 0, .int .i64 0]) 2 16 Try.underlying25 hi hz0 hz1 hz2 rfl (by decide) _ _ _ rfl (own_alloc2 (by exact HO.out) _) _ 1 1 [.int .i64 c, .int .i64 d] rfl rfl (cells_two_new _ _ _ _) (by simp [Value.oneCell']) (by unfold maxLen; omega) (by omega) (by have := HB.out.size; simp; omega) ?_; intro v1 w1 hown' hgrow _; have HO1 := Lib.hid hown'; have HB1 := Lib.hid (step_below HB.out hgrow (by simp) (fun i hi => Below.heap_alloc _ _ i hi) rfl rfl rfl HB.out.size (fun j hj => (HO.out.lt j hj).1)); clear hown' hgrow)
          go_roundw
          case rel => exact ⟨k + 1, L ++ [(c, d)], false, _, by omega, rfl, by go_num, by rw [List.length_append]; exact HO1.out, by rw [List.length_append]; exact sp2_snoc HSP.out HY.out, from_snoc HFr.out (.inl HM.out), by simp; omega, (fun _ => by simp; omega), HB1.out⟩
          case measure => simp [intOf]; omega
    · have hkn : k = n := by omega
      subst hkn
      cases p with
      | true =>
        clear hl2
        go_wp2
        go_ret
        exact ⟨_, L, rfl, ⟨ys, ownRow_less HO.out (by omega), HSP.out⟩, HFr.out, by have := HN.out; omega, HBW.out.trans (HB.out.mono (by omega))⟩
      | false =>
        have hl3 := hl2 rfl
        clear hl2
        obtain ⟨q1, q2⟩ := box_cells w wr a b' (by rw [← HW.out, ← hWs]; exact HB.out)
        go_wp2_with (at_builtin; refine wpList_append_own _ rfl _ _ 25 rfl W.heap.size 32 i0 (.agg #[.int .i64 0, .int .i64 0]) 2 16 Try.underlying25 hi hz0 hz1 hz2 rfl (by decide) _ _ _ rfl (own_alloc2 (by exact HO.out) _) _ 1 1 [.int .i64 a, .int .i64 b'] rfl rfl (cells_two_new _ _ _ _) (by simp [Value.oneCell']) (by unfold maxLen; omega) (by omega) (by have := HB.out.size; simp; omega) ?_; intro v1 w1 hown' hgrow _; have HO1 := Lib.hid hown'; have HB1 := Lib.hid (step_below HB.out hgrow (by simp) (fun i hi => Below.heap_alloc _ _ i hi) rfl rfl rfl HB.out.size (fun j hj => (HO.out.lt j hj).1)); clear hown' hgrow)
        go_ret
        exact ⟨_, L ++ [(a, b')], rfl, ⟨_, by rw [List.length_append]; exact ownRow_less HO1.out (by omega), by rw [List.length_append]; exact sp2_snoc HSP.out HY.out⟩, from_snoc HFr.out (.inr rfl), by have := HN.out; simp; omega, HBW.out.trans (HB1.out.mono (by omega))⟩
theorem Rd_alloc {w : World} {r K : Nat} (h : Rd w r K) (o : Obj) : Rd (w.alloc o) r K := h.grown (row := none) (World.grownBy_alloc w o none) (fun k e => by cases e)
/-- an append onto a row of the call's own turns nothing else -/
theorem own_grow {w X w1 : World} {B : Nat} {v : Value} {n : Nat} {ys : List Value} (ho : w.ownsRow B 32 2 v n ys) (hg : X.grownBy w1 v.ownBlock) (hs : w.heap.size ≤ X.heap.size) (hx : ∀ i, i < w.heap.size → X.heap[i]? = w.heap[i]?) (h1 : X.os = w.os) (h2 : X.tape = w.tape) (h3 : X.output = w.output) (hB : B ≤ w.heap.size) :
    Below B w w1 := Below.grown (show Below B w X from ⟨h1, h2, h3, hs, fun i hi => hx i (by omega)⟩) hg (by omega) (fun g hg => (ho.lt g hg).1)
def GaveIdx (m : Nat) (w : World) (r K : Nat) (e : Ending) (w' : World) : Prop := ∃ (v : Value) (l : List (Int × Int)), e = .returned v ∧ OwnSp w.heap.size w' v l ∧ l.length ≤ m ∧ Tame l ∧ Rd w' r K ∧ Below r w w'
theorem gb_below {B r : Nat} {a w : World} (h : a.grownBy w (some r)) (hB : B ≤ r) (hs : B ≤ a.heap.size) : Below B a w := ⟨h.os, h.tape, h.output, h.size, fun i hi => h.block i (by omega) (fun e => by cases e; omega)⟩
theorem l91Index_any (w : World) (r K : Nat) (h : Rd w r K) (hK : K ≤ 80000) : Calls Try.prog 30 #[.pointer (some ⟨r, 0, none⟩)] w (GaveIdx 7 w r (K + 20)) := by
  obtain ⟨i0, hi, hz0, hz1, hz2⟩ := info_parts info_spot
  have hrw := h.lt
  have HR := Lib.hid (Rd_alloc h (.cells #[] 32))
  have HE := Lib.hid (ownSp_empty w)
  have HA := Lib.hid ((Below.refl r w).alloc (Nat.le_of_lt hrw) (.cells #[] 32))
  clear h
  go_enter Try.func30, Try.ntmps30
  go_wp2_with fail
  refine (pick_any 7 _ r K HR.out (by omega) (by omega)).mono ?_
  rintro e w1 ⟨x, rfl, hx, _, hr1, hg1⟩
  have hx6 : x ≤ 6 := by have := hx (by omega); omega
  have HR1 := Lib.hid hr1
  have HO1 := Lib.hid (ownSp_pick HE.out hg1 hrw)
  have HB1 := Lib.hid (HA.out.trans (gb_below hg1 (Nat.le_refl _) (by simp; omega)))
  have HS1 := Lib.hid (show w.heap.size ≤ w1.heap.size by have h := hg1.size; simp at h; omega)
  clear hx hr1 hg1
  go_wp2_with fail
  go_loopw [3, 4] (fun o n wr => ∃ (L : List (Int × Int)) (m : Nat), n = .int .i64 (m : Int) ∧ L.length + m ≤ 6 ∧ Tame L ∧ OwnSp w.heap.size wr o L ∧ Rd wr r (K + 13 - 2 * m) ∧ Below r w wr ∧ w.heap.size ≤ wr.heap.size) (fun _ n _ => (intOf n).toNat)
  case atStart => exact ⟨[], x, rfl, by simpa using hx6, tame_nil, HO1.out, HR1.out.more (by omega), HB1.out, HS1.out⟩
  case round =>
    obtain ⟨L, m, rfl, hLm, htame, ho, hr, hb, hs⟩ := hrel
    have HT := Lib.hid htame
    have HO := Lib.hid ho
    have HRr := Lib.hid hr
    have HB := Lib.hid hb
    clear htame ho hr hb
    by_cases hm0 : 0 < m
    · go_wp2_with fail
      refine (pick_any 12 _ r _ HRr.out (by omega) (by omega)).mono ?_
      rintro e w2 ⟨x2, rfl, hx2, _, hr2, hg2⟩
      have hx2b : x2 < 12 := by have := hx2 (by omega); omega
      have HR2 := Lib.hid hr2
      have HO2 := Lib.hid (ownSp_pick HO.out hg2 hrw)
      have HB2 := Lib.hid (HB.out.trans (gb_below hg2 (Nat.le_refl _) (by omega)))
      have hs2 : w.heap.size ≤ w2.heap.size := Nat.le_trans hs hg2.size
      clear hx2 hr2 hg2
      go_wp2_with fail
      refine (pick_any 5 _ r _ HR2.out (by omega) (by omega)).mono ?_
      rintro e w3 ⟨x3, rfl, hx3, _, hr3, hg3⟩
      have hx3b : x3 < 5 := by have := hx3 (by omega); omega
      have HR3 := Lib.hid hr3
      have HO3 := Lib.hid (ownSp_pick HO2.out hg3 hrw)
      have HB3 := Lib.hid (HB2.out.trans (gb_below hg3 (Nat.le_refl _) (by omega)))
      have hs3 : w.heap.size ≤ w3.heap.size := Nat.le_trans hs2 hg3.size
      clear hx3 hr3 hg3
      go_wp2_with fail
      refine (l4Put_any w3 _ L (x2 : Int) (1 + (x3 : Int)) (lsp_of_own HO3.out) (by omega)).mono ?_
      rintro e w4 ⟨v4, L4, rfl, ho4, hf4, hl4, hb4⟩
      have HO4 := Lib.hid (ownSp_less ho4 hs3)
      have HT4 := Lib.hid (tame_from hf4 HT.out ⟨by show -1 ≤ (x2 : Int); omega, by show (x2 : Int) ≤ 13; omega, by show 0 ≤ 1 + (x3 : Int); omega, by show 1 + (x3 : Int) ≤ 9; omega⟩)
      have HR4 := Lib.hid (HR3.out.below hb4 (by omega))
      have HB4 := Lib.hid (HB3.out.trans (hb4.mono (by omega)))
      have hs4 : w.heap.size ≤ w4.heap.size := Nat.le_trans hs3 hb4.size
      clear ho4 hf4 hb4
      go_wp2
      go_roundw
      case rel => exact ⟨L4, m - 1, by go_num, by omega, HT4.out, HO4.out, HR4.out.more (by omega), HB4.out, hs4⟩
      case measure => simp [intOf]; omega
    · have hm1 : m = 0 := by omega
      subst hm1
      go_wp2_with fail
      refine (pick_any 30 _ r (K + 13) (HRr.out.more (by omega)) (by omega) (by omega)).mono ?_
      rintro e w2 ⟨x2, rfl, _, _, hr2, hg2⟩
      have HR2 := Lib.hid hr2
      have HO2 := Lib.hid (ownSp_pick HO.out hg2 hrw)
      have HB2 := Lib.hid (HB.out.trans (gb_below hg2 (Nat.le_refl _) (by omega)))
      have hs2 : w.heap.size ≤ w2.heap.size := Nat.le_trans hs hg2.size
      clear hr2 hg2
      by_cases q : x2 = 0
      · subst q
        go_wp2_with fail
        refine (pick_any 14 _ r _ HR2.out (by omega) (by omega)).mono ?_
        rintro e w3 ⟨x3, rfl, hx3, _, hr3, hg3⟩
        have hx3b : x3 < 14 := by have := hx3 (by omega); omega
        have HR3 := Lib.hid hr3
        have HO3 := Lib.hid (ownSp_pick HO2.out hg3 hrw)
        have HB3 := Lib.hid (HB2.out.trans (gb_below hg3 (Nat.le_refl _) (by omega)))
        have hs3 : w.heap.size ≤ w3.heap.size := Nat.le_trans hs2 hg3.size
        clear hx3 hr3 hg3
        go_wp2_with fail
        refine (pick_any 7 _ r _ HR3.out (by omega) (by omega)).mono ?_
        rintro e w4 ⟨x4, rfl, hx4, _, hr4, hg4⟩
        have hx4b : x4 < 7 := by have := hx4 (by omega); omega
        have HR4 := Lib.hid hr4
        have HO4 := Lib.hid (ownSp_pick HO3.out hg4 hrw)
        have HB4 := Lib.hid (HB3.out.trans (gb_below hg4 (Nat.le_refl _) (by omega)))
        have hs4 : w.heap.size ≤ w4.heap.size := Nat.le_trans hs3 hg4.size
        clear hx4 hr4 hg4
        obtain ⟨ys, hown, hsp⟩ := HO4.out
        have HOw := Lib.hid hown
        have HSp := Lib.hid hsp
        have HYl := Lib.hid (show ys.length = L.length * 2 from hown.1)
        clear hown hsp
        go_wp2_with (at_builtin; refine wpList_append_own _ rfl _ _ 25 rfl w.heap.size 32 i0 (.agg #[.int .i64 0, .int .i64 0]) 2 16 Try.underlying25 hi hz0 hz1 hz2 rfl (by decide) _ _ _ rfl (own_alloc2 HOw.out _) _ 1 1 [.int .i64 ((x3 : Int) - 1), .int .i64 (x4 : Int)] rfl rfl (cells_two_new _ _ _ _) (by simp [Value.oneCell']) (by unfold maxLen; omega) (by omega) (by simp; omega) ?_; intro v5 w5 hown' hgrow _; have HO5 := Lib.hid hown'; have HG5 := Lib.hid hgrow; clear hown' hgrow)
        have HBB := Lib.hid (own_grow HOw.out HG5.out (by simp) (fun i hi => Below.heap_alloc _ _ i hi) rfl rfl rfl hs4)
        go_wp2
        go_ret
        exact ⟨_, L ++ [((x3 : Int) - 1, (x4 : Int))], rfl, ⟨_, by rw [List.length_append]; exact HO5.out, by rw [List.length_append]; exact sp2_snoc HSp.out HYl.out⟩, by simp; omega, tame_snoc HT.out ⟨by show -1 ≤ (x3 : Int) - 1; omega, by show (x3 : Int) - 1 ≤ 13; omega, by show 0 ≤ (x4 : Int); omega, by show (x4 : Int) ≤ 9; omega⟩, (HR4.out.below HBB.out hrw).more (by omega), HB4.out.trans (HBB.out.mono (by omega))⟩
      · have b3 : ((x2 : Int) == 0) = false := beq_eq_false_iff_ne.2 (by omega)
        clear q
        go_wp2
        go_ret
        exact ⟨_, L, rfl, HO2.out, by omega, HT.out, HR2.out.more (by omega), HB2.out⟩
def DrewIdx (w : World) (e : Ending) (w' : World) : Prop := ∃ (v : Value) (l : List (Int × Int)), e = .returned v ∧ Lsp w' w'.heap.size v l ∧ l.length ≤ 8 ∧ Tame l ∧ Below w.heap.size w w'
def DrewIdx2 (m : Int) (w : World) (e : Ending) (w' : World) : Prop := ∃ (v : Value) (l : List (Int × Int)) (p : Int), e = .returned (.tuple #[v, .int .i64 p]) ∧ Lsp w' w'.heap.size v l ∧ l.length ≤ 8 ∧ Tame l ∧ 0 ≤ p ∧ p < m ∧ Below w.heap.size w w'
theorem drawIndexOk_any (a : Option Addr) (len cap : Nat) (zs : List Int) (w : World) (h : Code w a len cap zs) : Calls Try.prog 15 #[.slice a len cap] w (DrewIdx w) := by
  obtain ⟨i0, hi, hz0, hz1, hz2⟩ := info_parts info_spot
  go_enter Try.func15, Try.ntmps15
  go_wp2_with fail
  refine (open_any a len cap zs w h).mono ?_
  rintro e w1 ⟨rfl, hr, hb⟩
  have HB := Lib.hid hb
  have hrw := hr.lt
  have HR := Lib.hid hr
  clear hb h hr
  go_wp2_with fail
  refine (l91Index_any w1 _ 0 HR.out (by omega)).mono ?_
  rintro e w2 ⟨v, L, rfl, ho, hl, ht, hr2, hb2⟩
  have HO := Lib.hid ho
  have HT := Lib.hid ht
  have HR2 := Lib.hid hr2
  have HB2 := Lib.hid (HB.out.trans hb2)
  have hs2 := hb2.size
  clear ho ht hr2 hb2
  go_wp2_with fail
  refine (pick_any 4 _ _ _ HR2.out (by omega) (by omega)).mono ?_
  rintro e w3 ⟨x, rfl, _, _, hr3, hg3⟩
  have HR3 := Lib.hid hr3
  have HO3 := Lib.hid (ownSp_pick HO.out hg3 hrw)
  have HB3 := Lib.hid (HB2.out.trans (gb_below hg3 (Nat.le_refl _) (by omega)))
  have hs3 : w1.heap.size ≤ w3.heap.size := Nat.le_trans hs2 hg3.size
  clear hr3 hg3
  by_cases q : x = 0
  · subst q
    go_wp2_with fail
    refine (pick_any 14 _ _ _ HR3.out (by omega) (by omega)).mono ?_
    rintro e w4 ⟨x3, rfl, hx3, _, hr4, hg4⟩
    have hx3b : x3 < 14 := by have := hx3 (by omega); omega
    have HR4 := Lib.hid hr4
    have HO4 := Lib.hid (ownSp_pick HO3.out hg4 hrw)
    have HB4 := Lib.hid (HB3.out.trans (gb_below hg4 (Nat.le_refl _) (by omega)))
    have hs4 : w1.heap.size ≤ w4.heap.size := Nat.le_trans hs3 hg4.size
    clear hx3 hr4 hg4
    go_wp2_with fail
    refine (pick_any 7 _ _ _ HR4.out (by omega) (by omega)).mono ?_
    rintro e w5 ⟨x4, rfl, hx4, _, hr5, hg5⟩
    have hx4b : x4 < 7 := by have := hx4 (by omega); omega
    have HO5 := Lib.hid (ownSp_pick HO4.out hg5 hrw)
    have HB5 := Lib.hid (HB4.out.trans (gb_below hg5 (Nat.le_refl _) (by omega)))
    have hs5 : w1.heap.size ≤ w5.heap.size := Nat.le_trans hs4 hg5.size
    clear hx4 hr5 hg5
    obtain ⟨ys, hown, hsp⟩ := HO5.out
    have HOw := Lib.hid hown
    have HSp := Lib.hid hsp
    have HYl := Lib.hid (show ys.length = L.length * 2 from hown.1)
    clear hown hsp
    go_wp2_with (at_builtin; refine wpList_append_own _ rfl _ _ 25 rfl w1.heap.size 32 i0 (.agg #[.int .i64 0, .int .i64 0]) 2 16 Try.underlying25 hi hz0 hz1 hz2 rfl (by decide) _ _ _ rfl (own_alloc2 HOw.out _) _ 1 1 [.int .i64 ((x3 : Int) - 1), .int .i64 (x4 : Int)] rfl rfl (cells_two_new _ _ _ _) (by simp [Value.oneCell']) (by unfold maxLen; omega) (by omega) (by simp; omega) ?_; intro v6 w6 hown' hgrow _; have HO6 := Lib.hid hown'; have HG6 := Lib.hid hgrow; clear hown' hgrow)
    have HBB := Lib.hid (own_grow HOw.out HG6.out (by simp) (fun i hi => Below.heap_alloc _ _ i hi) rfl rfl rfl hs5)
    go_wp2
    go_ret
    have hfin : OwnSp w1.heap.size w6 v6 (L ++ [((x3 : Int) - 1, (x4 : Int))]) := ⟨_, by rw [List.length_append]; exact HO6.out, by rw [List.length_append]; exact sp2_snoc HSp.out HYl.out⟩
    exact ⟨_, L ++ [((x3 : Int) - 1, (x4 : Int))], rfl, lsp_of_own hfin, by simp; omega, tame_snoc HT.out ⟨by show -1 ≤ (x3 : Int) - 1; omega, by show (x3 : Int) - 1 ≤ 13; omega, by show 0 ≤ (x4 : Int); omega, by show (x4 : Int) ≤ 9; omega⟩, HB5.out.trans (HBB.out.mono (by omega))⟩
  · have b3 : ((x : Int) == 0) = false := beq_eq_false_iff_ne.2 (by omega)
    clear q
    go_wp2
    go_ret
    exact ⟨_, L, rfl, lsp_of_own HO3.out, by omega, HT.out, HB3.out⟩
theorem drawIndexLess_any (a : Option Addr) (len cap : Nat) (zs : List Int) (w : World) (h : Code w a len cap zs) : Calls Try.prog 16 #[.slice a len cap] w (DrewIdx2 7 w) := by
  go_enter Try.func16, Try.ntmps16
  go_wp2_with fail
  refine (open_any a len cap zs w h).mono ?_
  rintro e w1 ⟨rfl, hr, hb⟩
  have HB := Lib.hid hb
  have hrw := hr.lt
  have HR := Lib.hid hr
  clear hb h hr
  go_wp2_with fail
  refine (l91Index_any w1 _ 0 HR.out (by omega)).mono ?_
  rintro e w2 ⟨v, L, rfl, ho, hl, ht, hr2, hb2⟩
  have HO := Lib.hid ho
  have HT := Lib.hid ht
  have HR2 := Lib.hid hr2
  have HB2 := Lib.hid (HB.out.trans hb2)
  have hs2 := hb2.size
  clear ho ht hr2 hb2
  go_wp2_with fail
  refine (pick_any 7 _ _ _ HR2.out (by omega) (by omega)).mono ?_
  rintro e w3 ⟨x, rfl, hx, _, _, hg3⟩
  have hxb : (x : Int) < 7 := hx (by omega)
  have HO3 := Lib.hid (ownSp_pick HO.out hg3 hrw)
  have HB3 := Lib.hid (HB2.out.trans (gb_below hg3 (Nat.le_refl _) (by omega)))
  clear hg3 hx
  go_wp2
  go_ret2
  exact ⟨_, L, _, rfl, lsp_of_own HO3.out, by omega, HT.out, by omega, hxb, HB3.out⟩
theorem drawIndexFind_any (a : Option Addr) (len cap : Nat) (zs : List Int) (w : World) (h : Code w a len cap zs) : Calls Try.prog 24 #[.slice a len cap] w (DrewIdx2 13 w) := by
  go_enter Try.func24, Try.ntmps24
  go_wp2_with fail
  refine (open_any a len cap zs w h).mono ?_
  rintro e w1 ⟨rfl, hr, hb⟩
  have HB := Lib.hid hb
  have hrw := hr.lt
  have HR := Lib.hid hr
  clear hb h hr
  go_wp2_with fail
  refine (l91Index_any w1 _ 0 HR.out (by omega)).mono ?_
  rintro e w2 ⟨v, L, rfl, ho, hl, ht, hr2, hb2⟩
  have HO := Lib.hid ho
  have HT := Lib.hid ht
  have HR2 := Lib.hid hr2
  have HB2 := Lib.hid (HB.out.trans hb2)
  have hs2 := hb2.size
  clear ho ht hr2 hb2
  go_wp2_with fail
  refine (pick_any 13 _ _ _ HR2.out (by omega) (by omega)).mono ?_
  rintro e w3 ⟨x, rfl, hx, _, _, hg3⟩
  have hxb : (x : Int) < 13 := hx (by omega)
  have HO3 := Lib.hid (ownSp_pick HO.out hg3 hrw)
  have HB3 := Lib.hid (HB2.out.trans (gb_below hg3 (Nat.le_refl _) (by omega)))
  clear hg3 hx
  go_wp2
  go_ret2
  exact ⟨_, L, _, rfl, lsp_of_own HO3.out, by omega, HT.out, by omega, hxb, HB3.out⟩
end
end Go.Proofs.Ytfoocgfedcfkhaa
