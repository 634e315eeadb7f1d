/- The tree of a list of entries; IndexFind of any list, here and in the reference. -/
import Derived.Test.YtfoocgfedcfkhaaTree
namespace Go.Proofs.Ytfoocgfedcfkhaa
open Go.RowKit
theorem lit_at (w : World) (cs : Array Value) (T : TypeId) (j : Nat) (v : Value) (h : cs[j]? = some v) : (w.alloc (.cells cs T)).cell? ⟨w.heap.size, j, none⟩ = some v := by
  rw [cell_of_row (w.alloc (.cells cs T)) w.heap.size j cs T (0, 0) (heap_alloc_new w _)]
  exact h
def findZ (l : List (Int × Int)) (n : Int) : Int := if idxB l = true then findL l n else 0
section
set_option maxHeartbeats 800000
theorem treeOf_any (w : World) (b n c : Nat) (A : Option Addr) (l : List (Int × Int)) (hcell : w.cell? ⟨b, 0, none⟩ = some (.slice A n c)) (hb : b < w.heap.size) (hl : Lsp w w.heap.size (.slice A n c) l) (hn : l.length = n) (hn2 : n ≤ 1048600) (hr : Ris l) :
    Calls Try.prog 33 #[.slice (some ⟨b, 0, none⟩) 1 1] w fun e w' => ∃ (v : Value) (B : Nat), e = .returned v ∧ Chain w' B v l ∧ Below w.heap.size w w' := by
  have HL := Lib.hid hl
  have HR := Lib.hid hr
  have HN := Lib.hid hn
  have HC := Lib.hid hcell
  clear hl hr hn hcell
  go_enter Try.func33, Try.ntmps33
  go_wp2
  go_loopw [3, 10] (fun root i wr => Below w.heap.size w wr ∧ ((i = .int .i64 0 ∧ root = .pointer none) ∨ (i = .int .i64 1 ∧ Chain wr w.heap.size root l))) (fun _ i _ => 1 - (intOf i).toNat)
  case atStart => exact ⟨Below.refl _ _, .inl ⟨rfl, rfl⟩⟩
  case round =>
    obtain ⟨hbw, ⟨rfl, rfl⟩ | ⟨rfl, hch⟩⟩ := hrel
    · have HB := Lib.hid hbw
      have hc0 := (HB.out.cell (p := ⟨b, 0, none⟩) hb).trans HC.out
      clear hbw
      go_wp2
      go_loopw [3, 16] (fun root i wr => ∃ k : Nat, k ≤ n ∧ i = .int .i64 (k : Int) ∧ Chain wr w.heap.size root (l.take k) ∧ Below w.heap.size w wr) (fun _ i _ => n - (intOf i).toNat)
      case atStart => exact ⟨0, Nat.zero_le _, rfl, rfl, HB.out⟩
      case round =>
        obtain ⟨k, hk, rfl, hch, hb2⟩ := hrel
        have HB2 := Lib.hid hb2
        have HCh := Lib.hid hch
        clear hch hb2
        by_cases hlt : k < n
        · obtain ⟨⟨a, d⟩, hs⟩ : ∃ s, l[k]? = some s := ⟨_, List.getElem?_eq_getElem (by have := HN.out; omega)⟩
          obtain ⟨g, off, rfl, hg, h1, h2⟩ := lsp_at HL.out hs
          have hc1 := (HB2.out.cell (p := ⟨g, off + k * 2, none⟩) hg).trans h1
          have hc2 := (HB2.out.cell (p := ⟨g, off + k * 2 + 1, none⟩) hg).trans h2
          have HT := Lib.hid (show l.take (k + 1) = l.take k ++ [(a, d)] by rw [List.take_add_one, hs]; rfl)
          have HLess := Lib.hid (show ∀ t ∈ l.take k, t.1 < (a, d).1 from fun t ht => by
            obtain ⟨i, hi⟩ := List.getElem?_of_mem ht
            have hik : i < k := by have := (List.getElem?_eq_some_iff.1 hi).1; rw [List.length_take] at this; omega
            rw [List.getElem?_take_of_lt hik] at hi
            exact HR.out i k t (a, d) hik hi hs)
          clear h1 h2 hs
          have hi1 : (k : Int) < (n : Int) := by omega
          go_wp2_with fail
          refine (put_any (a, d) (l.take k) _ w.heap.size _ (HCh.out.below ((Below.refl _ _).alloc (Nat.le_refl _) _)) (by have := HB2.out.size; simp; omega) HLess.out).mono ?_
          rintro e w' ⟨g', rfl, hc', hb'⟩
          have HC' := Lib.hid hc'
          have HB' := Lib.hid ((HB2.out.alloc HB2.out.size _).trans hb')
          clear hc' hb'
          go_wp2
          go_roundw
          case rel => exact ⟨k + 1, by omega, by go_num, by rw [HT.out]; exact HC'.out, HB'.out⟩
          case measure => simp [intOf]; omega
        · have HF := Lib.hid (show l.take k = l by rw [List.take_of_length_le (by have := HN.out; omega)])
          go_wp2
          go_roundw
          case rel => exact ⟨HB2.out, .inr ⟨rfl, by have h := HCh.out; rw [HF.out] at h; exact h⟩⟩
          case measure => simp [intOf]
    · have HCh := Lib.hid hch
      have HB := Lib.hid hbw
      clear hch hbw
      go_wp2
      go_ret
      exact ⟨_, _, rfl, HCh.out, HB.out⟩
theorem indexFind_any (w : World) (v : Value) (l : List (Int × Int)) (n : Int) (hl : Lsp w w.heap.size v l) (hn : l.length ≤ 1048600) :
    Calls Try.prog 23 #[v, .int .i64 n] w fun e w' => e = .returned (.int .i64 (findZ l n)) ∧ Below w.heap.size w w' := by
  have HL := Lib.hid hl
  obtain ⟨A, c, rfl, _⟩ := hl
  cases hb : idxB l with
  | false =>
    have HF := Lib.hid (show findZ l n = 0 by simp [findZ, hb])
    have HI := Lib.hid hb
    clear hb
    go_enter Try.func23, Try.ntmps23
    go_wp2_with fail
    refine (indexOk_any w _ l HL.out hn).mono ?_
    rintro e w1 ⟨rfl, hb⟩
    rw [HI.out]
    have HB := Lib.hid hb
    clear hb
    go_wp2
    go_ret
    exact ⟨ret_int HF.out.symm, HB.out⟩
  | true =>
    have HF := Lib.hid (show findZ l n = findL l n by simp [findZ, hb])
    have HI := Lib.hid hb
    have HR := Lib.hid (idx_ris hb)
    clear hb
    go_enter Try.func23, Try.ntmps23
    go_wp2_with fail
    refine (indexOk_any w _ l HL.out hn).mono ?_
    rintro e w1 ⟨rfl, hb⟩
    rw [HI.out]
    have HB := Lib.hid hb
    have HB2 := Lib.hid (hb.alloc hb.size (.cells #[.slice A l.length c] 25))
    clear hb
    go_wp2_with fail
    refine (treeOf_any _ w1.heap.size l.length c A l (lit_at w1 _ _ 0 _ rfl) (by simp) (lsp_next HL.out HB2.out) rfl hn HR.out).mono ?_
    rintro e w2 ⟨v2, B, rfl, hc, hb⟩
    have HC := Lib.hid hc
    have HB3 := Lib.hid (bel2 HB2.out hb)
    clear hc hb
    go_wp2_with fail
    refine (find_any w2 B v2 l n HC.out HR.out).mono ?_
    rintro e w3 ⟨rfl, rfl⟩
    go_wp2
    go_ret
    exact ⟨ret_int HF.out.symm, HB3.out⟩
theorem indexFindS_any (w : World) (v : Value) (l : List (Int × Int)) (n : Int) (hl : Lsp w w.heap.size v l) (hn : l.length ≤ 1048600) :
    Calls Try.prog 22 #[v, .int .i64 n] w fun e w' => e = .returned (.int .i64 (findZ l n)) ∧ Below w.heap.size w w' := by
  have HL := Lib.hid hl
  obtain ⟨A, c, rfl, _⟩ := hl
  cases hb : idxB l with
  | false =>
    have HF := Lib.hid (show findZ l n = 0 by simp [findZ, hb])
    have HI := Lib.hid hb
    clear hb
    go_enter Try.func22, Try.ntmps22
    go_wp2_with fail
    refine (indexOkS_any w _ l HL.out hn).mono ?_
    rintro e w1 ⟨rfl, hb⟩
    rw [HI.out]
    have HB := Lib.hid hb
    clear hb
    go_wp2
    go_ret
    exact ⟨ret_int HF.out.symm, HB.out⟩
  | true =>
    have HF := Lib.hid (show findZ l n = findL l n by simp [findZ, hb])
    have HI := Lib.hid hb
    clear hb
    go_enter Try.func22, Try.ntmps22
    go_wp2_with fail
    refine (indexOkS_any w _ l HL.out hn).mono ?_
    rintro e w1 ⟨rfl, hb⟩
    rw [HI.out]
    have HB := Lib.hid hb
    clear hb
    go_wp2_with fail
    refine (l4Find_any w1 _ l n (lsp_next HL.out HB.out) hn).mono ?_
    rintro e w3 ⟨rfl, rfl⟩
    go_wp2
    go_ret
    exact ⟨ret_int HF.out.symm, HB.out⟩
end
end Go.Proofs.Ytfoocgfedcfkhaa
