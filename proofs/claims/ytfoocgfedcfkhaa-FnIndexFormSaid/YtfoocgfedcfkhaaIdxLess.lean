/- IndexLess of any list of entries, here and in the reference; marks in a list of entries. -/
import Derived.Test.YtfoocgfedcfkhaaSpotS
import Derived.OwnWalk
import Derived.Maps.AppendAt
namespace Go.Proofs.Ytfoocgfedcfkhaa
open Go.RowKit

theorem sp2_snoc {l : List (Int × Int)} {ys : List Value} {s : Int × Int} (h : Sp2 l l.length ys) (hl : ys.length = l.length * 2) : Sp2 (l ++ [s]) (l.length + 1) (ys ++ [.int .i64 s.1, .int .i64 s.2]) := by
  intro i t hi ht
  by_cases hik : i = l.length
  · subst hik
    rw [List.getElem?_append_right (Nat.le_refl _), Nat.sub_self] at ht
    injection ht with ht
    subst ht
    constructor
    · rw [List.getElem?_append_right (by omega), show l.length * 2 - ys.length = 0 by omega]; rfl
    · rw [List.getElem?_append_right (by omega), show l.length * 2 + 1 - ys.length = 1 by omega]; rfl
  · have hlt : i < l.length := by omega
    rw [List.getElem?_append_left hlt] at ht
    obtain ⟨h1, h2⟩ := h i t hlt ht
    constructor
    · rw [List.getElem?_append_left (by omega)]; exact h1
    · rw [List.getElem?_append_left (by omega)]; exact h2
theorem ownSp_snoc {B : Nat} {w : World} {v : Value} {l : List (Int × Int)} {ys : List Value} {s : Int × Int} (hs : Sp2 l l.length ys) (hl : ys.length = l.length * 2) (h : w.ownsRow B 32 2 v (l.length + 1) (ys ++ [.int .i64 s.1, .int .i64 s.2])) : OwnSp B w v (l ++ [s]) :=
  ⟨_, by rw [List.length_append]; exact h, by rw [List.length_append]; exact sp2_snoc hs hl⟩
theorem ownSp_nil (B : Nat) (w : World) : OwnSp B w (.slice none 0 0) [] := ⟨[], World.ownsRow_nil w B 32 2, sp2_zero _ _⟩
theorem ownSp_empty (w : World) : OwnSp w.heap.size (w.alloc (.cells #[] 32)) (.slice (some ⟨w.heap.size, 0, none⟩) 0 0) [] :=
  ⟨[], World.ownsRow_made (size := 2) w #[] 0 (Nat.le_refl _) (by unfold maxLen; omega) (by simp), sp2_zero _ _⟩
theorem ownSp_kept {B : Nat} {w w' : World} {v : Value} {l : List (Int × Int)} {row : Option Nat} (h : OwnSp B w v l) (hg : w.grownBy w' row) (hne : v.ownBlock = none ∨ v.ownBlock ≠ row) : OwnSp B w' v l := by
  obtain ⟨ys, h1, h2⟩ := h
  exact ⟨ys, h1.kept hg hne, h2⟩
theorem ownSp_below {B : Nat} {w w' : World} {v : Value} {l : List (Int × Int)} (h : OwnSp B w v l) (hb : Below w.heap.size w w') : OwnSp B w' v l :=
  ownSp_kept h (grown_of_bel hb none) (Classical.em _)
theorem cells_two_new (w : World) (x y : Value) (t : TypeId) : ∀ (j : Nat) (u : Value), [x, y][j]? = some u → (w.alloc (.cells #[x, y] t)).cell? ((⟨w.heap.size, 0, none⟩ : Addr).add j) = some u := by
  intro j u hj
  have ha : (⟨w.heap.size, 0, none⟩ : Addr).add j = ⟨w.heap.size, j, none⟩ := by unfold Addr.add; by_cases h : j = 0 <;> simp [h]
  rw [ha, cell_of_row (w.alloc (.cells #[x, y] t)) w.heap.size j #[x, y] t (0, 0) (heap_alloc_new w _)]
  simpa using hj
theorem own_alloc2 {w : World} {base e size n : Nat} {v : Value} {xs : List Value} (h : w.ownsRow base e size v n xs) (o : Obj) : (w.alloc o).ownsRow base e size v n xs := h.alloc o
def lessL (p : Int) (l : List (Int × Int)) : List (Int × Int) := l.filter fun s => s.2 != p
theorem lessL_yes {p : Int} {l : List (Int × Int)} {k : Nat} {s : Int × Int} (hs : l[k]? = some s) (h : s.2 ≠ p) : lessL p (l.take (k + 1)) = lessL p (l.take k) ++ [s] := by
  rw [List.take_add_one, hs]
  simp [lessL, List.filter_append, h]
theorem lessL_no {p : Int} {l : List (Int × Int)} {k : Nat} {s : Int × Int} (hs : l[k]? = some s) (h : s.2 = p) : lessL p (l.take (k + 1)) = lessL p (l.take k) := by
  rw [List.take_add_one, hs]
  simp [lessL, List.filter_append, h]
theorem lessL_len (p : Int) (l : List (Int × Int)) (k : Nat) : (lessL p (l.take k)).length ≤ k := by
  have h1 := List.length_filter_le (fun s : Int × Int => s.2 != p) (l.take k)
  rw [List.length_take] at h1
  show (List.filter _ _).length ≤ k
  omega
theorem lessL_len0 (p : Int) (l : List (Int × Int)) : (lessL p l).length ≤ l.length := List.length_filter_le _ _
def lessZ (p : Int) (l : List (Int × Int)) : List (Int × Int) := if idxB l = true then lessL p l else []
theorem lessZ_len (p : Int) (l : List (Int × Int)) : (lessZ p l).length ≤ l.length := by
  unfold lessZ
  split
  · exact lessL_len0 p l
  · simp
def GaveSp (l : List (Int × Int)) (w : World) (e : Ending) (w' : World) : Prop := ∃ v, e = .returned v ∧ OwnSp w.heap.size w' v l ∧ Below w.heap.size w w'
section
set_option maxHeartbeats 800000
theorem indexLess_any (w : World) (v : Value) (l : List (Int × Int)) (p : Int) (hl : Lsp w w.heap.size v l) (hn : l.length ≤ 1048600) :
    Calls Try.prog 17 #[v, .int .i64 p] w (GaveSp (lessZ p l) w) := by
  have HL := Lib.hid hl
  obtain ⟨i0, hi, hz0, hz1, hz2⟩ := info_parts info_spot
  obtain ⟨A, c, rfl, hc, hx⟩ := hl
  have HX := Lib.hid hx
  clear hx
  cases hb : idxB l with
  | false =>
    have HF := Lib.hid (show lessZ p l = [] by simp [lessZ, hb])
    have HI := Lib.hid hb
    clear hb hi hz0 hz1 hz2
    go_enter Try.func17, Try.ntmps17
    go_wp2_with fail
    refine (indexOk_any w _ l HL.out hn).mono ?_
    rintro e w1 ⟨rfl, hb⟩
    rw [HI.out]
    have HB := Lib.hid hb
    clear hb
    go_wp2
    go_ret
    exact ⟨_, rfl, by rw [HF.out]; exact ownSp_nil _ _, HB.out⟩
  | true =>
    have HF := Lib.hid (show lessZ p l = lessL p l by simp [lessZ, hb])
    have HI := Lib.hid hb
    obtain ⟨n, hnn⟩ : ∃ n, l.length = n := ⟨_, rfl⟩
    have HN := Lib.hid hnn
    have HLn : Hid (Lsp w w.heap.size (.slice A n c) l) := by have := HL.out; rw [hnn] at this; exact Lib.hid this
    rw [hnn]
    have hn2 : n ≤ 1048600 := by omega
    clear hb hnn hn hc HL
    go_enter Try.func17, Try.ntmps17
    go_wp2_with fail
    refine (indexOk_any w _ l HLn.out (by have := HN.out; omega)).mono ?_
    rintro e w1 ⟨rfl, hb⟩
    rw [HI.out]
    have HB1 := Lib.hid hb
    clear hb
    go_wp2
    go_loopw [5, 13] (fun o i wr => ∃ (k : Nat) (ys : List Value), k ≤ n ∧ i = .int .i64 (k : Int) ∧ wr.ownsRow w.heap.size 32 2 o (lessL p (l.take k)).length ys ∧ Sp2 (lessL p (l.take k)) (lessL p (l.take k)).length ys ∧ Below w.heap.size w wr) (fun _ i _ => n - (intOf i).toNat)
    case atStart => exact ⟨0, [], Nat.zero_le _, rfl, by simpa [lessL] using World.ownsRow_nil w1 w.heap.size 32 2, by simpa [lessL] using sp2_zero _ _, HB1.out⟩
    case round =>
      obtain ⟨k, ys, hk, rfl, ho, hsp, hb⟩ := hrel
      have HO := Lib.hid ho
      have HB := Lib.hid hb
      have HSP := Lib.hid hsp
      clear ho hb hsp
      by_cases hlt : k < n
      · obtain ⟨⟨a, b⟩, hs⟩ : ∃ s, l[k]? = some s := ⟨_, List.getElem?_eq_getElem (by have := HN.out; omega)⟩
        obtain ⟨g, off, rfl, hg, hcg⟩ := HX.out (by have := HN.out; omega)
        obtain ⟨h1, h2⟩ := hcg k _ hs
        have hc1 := (HB.out.cell (p := ⟨g, off + k * 2, none⟩) hg).trans h1
        have hc2 := (HB.out.cell (p := ⟨g, off + k * 2 + 1, none⟩) hg).trans h2
        have HS := Lib.hid hs
        clear h1 h2 hcg hs
        have hi1 : (k : Int) < (n : Int) := by omega
        have hlen := lessL_len p l k
        by_cases hp : b = p
        · subst hp
          have HE := Lib.hid (lessL_no (p := b) HS.out rfl)
          clear hlen
          go_wp2
          go_roundw
          case rel => exact ⟨k + 1, ys, by omega, by go_num, by rw [HE.out]; exact own_alloc2 HO.out _, by rw [HE.out]; exact HSP.out, HB.out.alloc HB.out.size _⟩
          case measure => simp [intOf]; omega
        · have hne : (b != p) = true := by simpa using hp
          have HE := Lib.hid (lessL_yes HS.out hp)
          clear hp
          have HYL := Lib.hid (show ys.length = (lessL p (l.take k)).length * 2 from HO.out.1)
          generalize hL : lessL p (l.take k) = L at *
          go_wp2_with (at_builtin; refine wpList_append_own _ rfl _ _ 25 rfl w.heap.size 32 i0 (.agg #[.int .i64 0, .int .i64 0]) 2 16 Try.underlying25 hi hz0 hz1 hz2 rfl (by decide) _ _ _ rfl (own_alloc2 (own_alloc2 HO.out _) _) ⟨wr.heap.size + 1, 0, none⟩ 1 1 [.int .i64 a, .int .i64 b] rfl rfl ?_ (by simp [Value.oneCell']) (by unfold maxLen; omega) (by omega) (by have := HB.out.size; simp; omega) ?_; (have h := cells_two_new (wr.alloc (.cells #[.int .i64 a, .int .i64 b] 32)) (.int .i64 a) (.int .i64 b) 32; simpa using h); intro v' w1 hown' hgrow _; have HO1 := Lib.hid hown'; have HG := Lib.hid hgrow; clear hown' hgrow)
          go_roundw
          case rel => exact ⟨k + 1, _, by omega, by go_num, by rw [HE.out, List.length_append]; exact HO1.out, by rw [HE.out, List.length_append]; exact sp2_snoc HSP.out HYL.out, ((HB.out.alloc HB.out.size _).alloc (by have := HB.out.size; simp; omega) _).grown HG.out (by have := HB.out.size; simp; omega) (fun j hj => (HO.out.lt j hj).1)⟩
          case measure => simp [intOf]; omega
      · have HE := Lib.hid (show lessL p (l.take k) = lessL p l by rw [List.take_of_length_le (by have := HN.out; omega)])
        go_wp2
        go_ret
        exact ⟨_, rfl, ⟨ys, by rw [HF.out, ← HE.out]; exact HO.out, by rw [HF.out, ← HE.out]; exact HSP.out⟩, HB.out⟩
theorem indexLessS_any (w : World) (v : Value) (l : List (Int × Int)) (p : Int) (hl : Lsp w w.heap.size v l) (hn : l.length ≤ 1048600) :
    Calls Try.prog 19 #[v, .int .i64 p] w (GaveSp (lessZ p l) w) := by
  have HL := Lib.hid hl
  obtain ⟨i0, hi, hz0, hz1, hz2⟩ := info_parts info_spot
  obtain ⟨A, c, rfl, hc, hx⟩ := hl
  have HX := Lib.hid hx
  clear hx
  have HE0 := Lib.hid (ownSp_empty w)
  have HA0 := Lib.hid ((Below.refl w.heap.size w).alloc (Nat.le_refl _) (.cells #[] 32))
  cases hb : idxB l with
  | false =>
    have HF := Lib.hid (show lessZ p l = [] by simp [lessZ, hb])
    have HI := Lib.hid hb
    clear hb hi hz0 hz1 hz2
    go_enter Try.func19, Try.ntmps19
    go_wp2_with fail
    refine (indexOkS_any (w.alloc (.cells #[] 32)) _ l (lsp_next HL.out HA0.out) hn).mono ?_
    rintro e w1 ⟨rfl, hb⟩
    rw [HI.out]
    have HB := Lib.hid (bel2 HA0.out hb)
    have HE := Lib.hid (ownSp_below HE0.out hb)
    clear hb
    go_wp2
    go_ret
    exact ⟨_, rfl, by rw [HF.out]; exact HE.out, HB.out⟩
  | true =>
    have HF := Lib.hid (show lessZ p l = lessL p l by simp [lessZ, hb])
    have HI := Lib.hid hb
    obtain ⟨n, hnn⟩ : ∃ n, l.length = n := ⟨_, rfl⟩
    have HN := Lib.hid hnn
    have HLn : Hid (Lsp w w.heap.size (.slice A n c) l) := by have := HL.out; rw [hnn] at this; exact Lib.hid this
    rw [hnn]
    have hn2 : n ≤ 1048600 := by omega
    clear hb hnn hn hc HL
    go_enter Try.func19, Try.ntmps19
    go_wp2_with fail
    refine (indexOkS_any (w.alloc (.cells #[] 32)) _ l (lsp_next HLn.out HA0.out) (by have := HN.out; omega)).mono ?_
    rintro e w1 ⟨rfl, hb⟩
    rw [HI.out]
    have HB1 := Lib.hid (bel2 HA0.out hb)
    have HE1 := Lib.hid (ownSp_below HE0.out hb)
    clear hb
    go_wp2
    go_loopw [5, 6] (fun o i wr => ∃ (k : Nat) (ys : List Value), k ≤ n ∧ i = .int .i64 (k : Int) ∧ wr.ownsRow w.heap.size 32 2 o (lessL p (l.take k)).length ys ∧ Sp2 (lessL p (l.take k)) (lessL p (l.take k)).length ys ∧ Below w.heap.size w wr) (fun _ i _ => n - (intOf i).toNat)
    case atStart =>
      obtain ⟨ys, h1, h2⟩ := HE1.out
      exact ⟨0, ys, Nat.zero_le _, rfl, by simpa [lessL] using h1, by simpa [lessL] using h2, HB1.out⟩
    case round =>
      obtain ⟨k, ys, hk, rfl, ho, hsp, hb⟩ := hrel
      have HO := Lib.hid ho
      have HB := Lib.hid hb
      have HSP := Lib.hid hsp
      clear ho hb hsp
      by_cases hlt : k < n
      · obtain ⟨⟨a, b⟩, hs⟩ : ∃ s, l[k]? = some s := ⟨_, List.getElem?_eq_getElem (by have := HN.out; omega)⟩
        obtain ⟨g, off, rfl, hg, hcg⟩ := HX.out (by have := HN.out; omega)
        obtain ⟨h1, h2⟩ := hcg k _ hs
        have hc1 := (HB.out.cell (p := ⟨g, off + k * 2, none⟩) hg).trans h1
        have hc2 := (HB.out.cell (p := ⟨g, off + k * 2 + 1, none⟩) hg).trans h2
        have HS := Lib.hid hs
        clear h1 h2 hcg hs
        have hi1 : (k : Int) < (n : Int) := by omega
        have hlen := lessL_len p l k
        by_cases hp : b = p
        · subst hp
          have HE := Lib.hid (lessL_no (p := b) HS.out rfl)
          clear hlen
          go_wp2
          go_roundw
          case rel => exact ⟨k + 1, ys, by omega, by go_num, by rw [HE.out]; exact HO.out, by rw [HE.out]; exact HSP.out, HB.out⟩
          case measure => simp [intOf]; omega
        · have hne : (b != p) = true := by simpa using hp
          have HE := Lib.hid (lessL_yes HS.out hp)
          clear hp
          have HYL := Lib.hid (show ys.length = (lessL p (l.take k)).length * 2 from HO.out.1)
          generalize hL : lessL p (l.take k) = L at *
          go_wp2_with (at_builtin; refine wpList_append_own _ rfl _ _ 25 rfl w.heap.size 32 i0 (.agg #[.int .i64 0, .int .i64 0]) 2 16 Try.underlying25 hi hz0 hz1 hz2 rfl (by decide) _ _ _ rfl (own_alloc2 HO.out _) ⟨wr.heap.size, 0, none⟩ 1 1 [.int .i64 a, .int .i64 b] rfl rfl (cells_two_new _ _ _ _) (by simp [Value.oneCell']) (by unfold maxLen; omega) (by omega) (by have := HB.out.size; simp; omega) ?_; intro v' w1 hown' hgrow _; have HO1 := Lib.hid hown'; have HG := Lib.hid hgrow; clear hown' hgrow)
          go_roundw
          case rel => exact ⟨k + 1, _, by omega, by go_num, by rw [HE.out, List.length_append]; exact HO1.out, by rw [HE.out, List.length_append]; exact sp2_snoc HSP.out HYL.out, (HB.out.alloc HB.out.size _).grown HG.out (by have := HB.out.size; simp; omega) (fun j hj => (HO.out.lt j hj).1)⟩
          case measure => simp [intOf]; omega
      · have HE := Lib.hid (show lessL p (l.take k) = lessL p l by rw [List.take_of_length_le (by have := HN.out; omega)])
        go_wp2
        go_ret
        exact ⟨_, rfl, ⟨ys, by rw [HF.out, ← HE.out]; exact HO.out, by rw [HF.out, ← HE.out]; exact HSP.out⟩, HB.out⟩
/-- the marks k, k+1, .. two to an entry -/
def marks2 (k n : Nat) : List (Int × Int) := (List.range n).map fun i : Nat => (((k + 2 * i : Nat) : Int), ((k + 2 * i + 1 : Nat) : Int))
theorem marks2_len (k n : Nat) : (marks2 k n).length = n := by simp [marks2]
theorem marks2_get (k n j : Nat) (h : j < n) : (marks2 k n)[j]? = some (((k + 2 * j : Nat) : Int), ((k + 2 * j + 1 : Nat) : Int)) := by simp [marks2, h]
theorem gb_trans {a b c : World} {row : Option Nat} (h : a.grownBy b row) (k : b.grownBy c row) : a.grownBy c row :=
  ⟨k.os.trans h.os, k.tape.trans h.tape, k.output.trans h.output, Nat.le_trans h.size k.size, fun i hi hne => (k.block i (Nat.lt_of_lt_of_le hi h.size) hne).trans (h.block i hi hne)⟩
theorem gb_refl (w : World) (row : Option Nat) : w.grownBy w row := ⟨rfl, rfl, rfl, Nat.le_refl _, fun _ _ _ => rfl⟩
theorem markSpotS_own (w : World) (B : Nat) (A : Option Addr) (cap : Nat) (n k : Nat) (zs : List Value) (h : w.ownsRow B 32 2 (.slice A n cap) n zs) (hA : 0 < n → ∃ g, A = some ⟨g, 0, none⟩) (hn : n ≤ 1048600) (hk : k ≤ 1000) :
    Calls Try.prog 20 #[.slice A n cap, .int .i64 (k : Int)] w fun e w' => e = .returned (.int .i64 ((k + 2 * n : Nat) : Int)) ∧ OwnSp B w' (.slice A n cap) (marks2 k n) ∧ w.grownBy w' (Value.slice A n cap).ownBlock := by
  have H := Lib.hid h
  clear h
  go_enter Try.func20, Try.ntmps20
  go_wp2
  go_loopw [1, 5] (fun kk i wr => ∃ (j : Nat) (ys : List Value), j ≤ n ∧ kk = .int .i64 ((k + 2 * j : Nat) : Int) ∧ i = .int .i64 (j : Int) ∧ wr.ownsRow B 32 2 (.slice A n cap) n ys ∧ Sp2 (marks2 k n) j ys ∧ w.grownBy wr (Value.slice A n cap).ownBlock) (fun _ i _ => n - (intOf i).toNat)
  case atStart => exact ⟨0, zs, Nat.zero_le _, rfl, rfl, H.out, sp2_zero _ _, gb_refl _ _⟩
  case round =>
    obtain ⟨j, ys, hj, rfl, rfl, ho, hsp, hg⟩ := hrel
    have HO := Lib.hid ho
    have HSP := Lib.hid hsp
    have HG := Lib.hid hg
    clear ho hsp hg
    obtain ⟨y, hy⟩ : ∃ y, k + 2 * j = y := ⟨_, rfl⟩
    have hy2 : y ≤ 3000000 := by omega
    rw [hy]
    by_cases hlt : j < n
    · obtain ⟨g, hA2⟩ := hA (by omega)
      subst hA2
      clear hA
      have hyl : ys.length = n * 2 := by have := HO.out.1; omega
      have HS2 := Lib.hid (sp2_next HSP.out (marks2_get k n j hlt) hyl hlt)
      rw [hy] at HS2
      have HY := Lib.hid hy
      obtain ⟨o1, ho1⟩ : ∃ x, ys[j * 2]? = some x := ⟨_, List.getElem?_eq_getElem (by omega)⟩
      obtain ⟨o2, ho2⟩ : ∃ x, ys[j * 2 + 1]? = some x := ⟨_, List.getElem?_eq_getElem (by omega)⟩
      have hq1 := (HO.out.cellAt (j * 2) (by omega)).trans ho1
      have hq2 := (HO.out.cellAt (j * 2 + 1) (by omega)).trans ho2
      have hf1 := HO.out.frozenAt (j * 2)
      have hf2 := HO.out.frozenAt (j * 2 + 1)
      have HS1 := Lib.hid ((HO.out.stored (j * 2) (.int .i64 (y : Int))).1.stored (j * 2 + 1) (.int .i64 ((y : Int) + 1)))
      have HG1 := Lib.hid (gb_trans HG.out (gb_trans (HO.out.stored (j * 2) (.int .i64 (y : Int))).2 HS1.out.2))
      clear hyl ho1 ho2 hy
      have hi1 : (j : Int) < (n : Int) := by omega
      go_wp2
      go_roundw
      case rel => exact ⟨j + 1, _, by omega, by have := HY.out; go_num, by go_num, HS1.out.1, by have h := HS2.out; rw [show ((y + 1 : Nat) : Int) = (y : Int) + 1 by omega] at h; exact h, HG1.out⟩
      case measure => simp [intOf]; omega
    · have hjn : j = n := by omega
      have HY := Lib.hid hy
      clear hy
      subst hjn
      go_wp2
      go_ret
      exact ⟨by rw [HY.out]; rfl, ⟨ys, by rw [marks2_len]; exact HO.out, by rw [marks2_len]; exact HSP.out⟩, HG.out⟩
theorem markSpotS_any (w : World) (B : Nat) (v : Value) (l : List (Int × Int)) (k : Nat) (h : OwnSp B w v l) (hn : l.length ≤ 1048600) (hk : k ≤ 1000) :
    Calls Try.prog 20 #[v, .int .i64 (k : Int)] w fun e w' => e = .returned (.int .i64 ((k + 2 * l.length : Nat) : Int)) ∧ OwnSp B w' v (marks2 k l.length) ∧ w.grownBy w' v.ownBlock := by
  obtain ⟨ys, ho, _⟩ := h
  rcases ho.2 with ⟨hv, h0⟩ | ⟨g, cap, cur, hv, _⟩
  · subst hv
    have h := markSpotS_own w B none 0 0 k ys (by rw [h0] at ho; exact ho) (fun h => absurd h (by omega)) (by omega) hk
    rw [h0]
    exact h
  · subst hv
    exact markSpotS_own w B _ cap l.length k ys ho (fun _ => ⟨g, rfl⟩) hn hk
theorem heldSpotS_any (w : World) (v : Value) (k n : Nat) (h : Lsp w w.heap.size v (marks2 k n)) (hn : n ≤ 1048600) (hk : k ≤ 1000) :
    Calls Try.prog 21 #[v, .int .i64 (k : Int)] w fun e w' => e = .returned (.int .i64 ((k + 2 * n : Nat) : Int)) ∧ w' = w := by
  obtain ⟨A, c, rfl, _⟩ := h
  rename_i hx
  have HX := Lib.hid hx.2
  rw [marks2_len] at *
  clear hx
  go_enter Try.func21, Try.ntmps21
  go_wp2
  go_loopw [1, 5] (fun kk i wr => ∃ j : Nat, j ≤ n ∧ kk = .int .i64 ((k + 2 * j : Nat) : Int) ∧ i = .int .i64 (j : Int) ∧ wr = w) (fun _ i _ => n - (intOf i).toNat)
  case atStart => exact ⟨0, Nat.zero_le _, rfl, rfl, rfl⟩
  case round =>
    obtain ⟨j, hj, rfl, rfl, rfl⟩ := hrel
    obtain ⟨y, hy⟩ : ∃ y, k + 2 * j = y := ⟨_, rfl⟩
    have hy2 : y ≤ 3000000 := by omega
    rw [hy]
    by_cases hlt : j < n
    · obtain ⟨g, off, hA, _, hcg⟩ := HX.out (by omega)
      subst hA
      obtain ⟨h1, h2⟩ := hcg j _ (marks2_get k n j hlt)
      rw [hy] at h1 h2
      have h3 : wr.cell? ⟨g, off + j * 2 + 1, none⟩ = some (.int .i64 ((y : Int) + 1)) := h2
      have HY := Lib.hid hy
      clear hy hcg h2
      have hi1 : (j : Int) < (n : Int) := by omega
      go_wp2
      go_roundw
      case rel => exact ⟨j + 1, by omega, by have := HY.out; go_num, by go_num, by first | rfl | trivial⟩
      case measure => simp [intOf]; omega
    · have hjn : j = n := by omega
      have HY := Lib.hid hy
      clear hy
      subst hjn
      go_wp2
      go_ret
      exact ⟨by rw [HY.out]; rfl, by first | rfl | trivial⟩
end
end Go.Proofs.Ytfoocgfedcfkhaa
