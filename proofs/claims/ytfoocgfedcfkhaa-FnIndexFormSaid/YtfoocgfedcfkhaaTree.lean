/- The search tree of an index: a chain of nodes that leads to the right; a name sought in it. -/
import Derived.Test.YtfoocgfedcfkhaaSpotS
import Derived.Laws.Rows
namespace Go.Proofs.Ytfoocgfedcfkhaa
open Go.RowKit

/-- the tree at v is the chain of the entries of l, in blocks from B on, each behind the one before -/
def Chain (w : World) : Nat → Value → List (Int × Int) → Prop
  | _, v, [] => v = .pointer none
  | B, v, s :: r => ∃ g u, v = .pointer (some ⟨g, 0, none⟩) ∧ B ≤ g ∧ w.heap[g]? = some (.cells #[.int .i64 s.1, .int .i64 s.2, .pointer none, u] 59 (0, 0)) ∧ Chain w (g + 1) u r
theorem Chain.keep {w w' : World} : ∀ {l : List (Int × Int)} {B : Nat} {v : Value}, Chain w B v l → (∀ g, B ≤ g → g < w.heap.size → w'.heap[g]? = w.heap[g]?) → Chain w' B v l
  | [], _, _, h, _ => h
  | s :: r, B, v, h, hk => by
    obtain ⟨g, u, hv, hB, hg, hr⟩ := h
    have hlt : g < w.heap.size := by
      rcases Nat.lt_or_ge g w.heap.size with h' | h'
      · exact h'
      · rw [Array.getElem?_eq_none h'] at hg; cases hg
    exact ⟨g, u, hv, hB, (hk g hB hlt).trans hg, hr.keep fun g' h1 h2 => hk g' (by omega) h2⟩
theorem Chain.below {w w' : World} {l : List (Int × Int)} {B : Nat} {v : Value} (h : Chain w B v l) (hb : Below w.heap.size w w') : Chain w' B v l := h.keep fun g _ h2 => hb.block g h2
theorem Chain.less {w : World} : ∀ {l : List (Int × Int)} {B B' : Nat} {v : Value}, Chain w B v l → B' ≤ B → Chain w B' v l
  | [], _, _, _, h, _ => h
  | _ :: _, _, _, _, h, hB => by
    obtain ⟨g, u, hv, hB2, hg, hr⟩ := h
    exact ⟨g, u, hv, by omega, hg, hr⟩
theorem Chain.drewN {w : World} {l : List (Int × Int)} {B : Nat} {v : Value} (h : Chain w B v l) (n : Nat) : Chain (w.drewN n) B v l := h.keep fun _ _ _ => rfl

def blockLeft (u : Value) (w : World) : Nat := match u with
  | .pointer (some a) => w.heap.size - a.block
  | _ => 0
/-- names rise -/
def Ris (l : List (Int × Int)) : Prop := ∀ (i j : Nat) (p s : Int × Int), i < j → l[i]? = some p → l[j]? = some s → p.1 < s.1
theorem Ris.tail {s : Int × Int} {r : List (Int × Int)} (h : Ris (s :: r)) : Ris r := fun i j p q hij hp hq => h (i + 1) (j + 1) p q (by omega) (by simpa using hp) (by simpa using hq)
theorem Ris.head {s t : Int × Int} {r : List (Int × Int)} (h : Ris (s :: r)) (ht : t ∈ r) : s.1 < t.1 := by
  obtain ⟨i, hi⟩ := List.getElem?_of_mem ht
  exact h 0 (i + 1) s t (by omega) rfl (by simpa using hi)
theorem okAt_of {l : List (Int × Int)} (h : idxB l = true) {k : Nat} (hk : k < l.length) : okAt l k = true := by
  unfold idxB idxTo at h
  exact List.all_eq_true.1 h k (List.mem_range.2 hk)
theorem idx_spot {l : List (Int × Int)} (h : idxB l = true) {k : Nat} {s : Int × Int} (hs : l[k]? = some s) : spotB s = true := by
  cases hb : spotB s with
  | true => rfl
  | false =>
    have h1 := okAt_of h (List.getElem?_eq_some_iff.1 hs).1
    rw [okAt_bad hs hb] at h1
    cases h1
theorem idx_next {l : List (Int × Int)} (h : idxB l = true) {k : Nat} {p s : Int × Int} (hp : l[k]? = some p) (hs : l[k + 1]? = some s) : p.1 < s.1 := by
  have h1 := okAt_of h (List.getElem?_eq_some_iff.1 hs).1
  rw [okAt_next hs hp (idx_spot h hs)] at h1
  exact of_decide_eq_true h1
theorem idx_ris {l : List (Int × Int)} (h : idxB l = true) : Ris l := by
  intro i j
  induction j with
  | zero => intro p s hij; omega
  | succ j ih =>
    intro p s hij hp hs
    have hj : j < l.length := by have := (List.getElem?_eq_some_iff.1 hs).1; omega
    have hq : l[j]? = some l[j] := List.getElem?_eq_getElem hj
    have h1 := idx_next h hq hs
    by_cases hij2 : i = j
    · subst hij2
      rw [hp] at hq
      injection hq with hq
      rw [hq]; exact h1
    · exact Int.lt_trans (ih p _ (by omega) hp hq) h1
/-- the pack of a name -/
def findL : List (Int × Int) → Int → Int
  | [], _ => 0
  | s :: r, n => if s.1 = n then s.2 else findL r n
theorem findL_none {n : Int} : ∀ {l : List (Int × Int)}, (∀ t ∈ l, n < t.1) → findL l n = 0
  | [], _ => rfl
  | s :: r, h => by
    have h1 := h s (by simp)
    rw [findL, if_neg (by omega)]
    exact findL_none fun t ht => h t (by simp [ht])
theorem findL_drop {l : List (Int × Int)} {k : Nat} {s : Int × Int} (hs : l[k]? = some s) (n : Int) : findL (l.drop k) n = if s.1 = n then s.2 else findL (l.drop (k + 1)) n := by
  obtain ⟨hk, he⟩ := List.getElem?_eq_some_iff.1 hs
  rw [List.drop_eq_getElem_cons hk, he, findL]

section
set_option maxHeartbeats 800000
theorem l4Find_any (w : World) (v : Value) (l : List (Int × Int)) (n : Int) (hl : Lsp w w.heap.size v l) (hn : l.length ≤ 1048600) :
    Calls Try.prog 32 #[v, .int .i64 n] w fun e w' => e = .returned (.int .i64 (findL l n)) ∧ w' = w := by
  obtain ⟨A, c, rfl, hc, hx⟩ := hl
  have HX := Lib.hid hx
  clear hx
  obtain ⟨m, hmm⟩ : ∃ m, l.length = m := ⟨_, rfl⟩
  have HN := Lib.hid hmm
  rw [hmm] at hn hc ⊢
  clear hmm
  go_enter Try.func32, Try.ntmps32
  go_wp2
  go_loopw [5] (fun i wr => ∃ k : Nat, k ≤ m ∧ i = .int .i64 (k : Int) ∧ findL l n = findL (l.drop k) n ∧ wr = w) (fun i _ => m - (intOf i).toNat)
  case atStart => exact ⟨0, Nat.zero_le _, rfl, rfl, rfl⟩
  case round =>
    obtain ⟨k, hk, rfl, hf, rfl⟩ := hrel
    have HF := Lib.hid hf
    clear hf
    by_cases hlt : k < m
    · obtain ⟨⟨a, b⟩, hs⟩ : ∃ s, l[k]? = some s := ⟨_, List.getElem?_eq_getElem (by have := HN.out; omega)⟩
      obtain ⟨g, off, rfl, _, hcg⟩ := HX.out (by have := HN.out; omega)
      obtain ⟨hc1, hc2⟩ := hcg k _ hs
      have hd := findL_drop hs n
      have HS := Lib.hid hd
      clear hcg hs hd
      have hi1 : (k : Int) < (m : Int) := by omega
      by_cases ha : a = n
      · subst ha
        have HE := Lib.hid (show findL l a = b by rw [HF.out, HS.out, if_pos rfl])
        go_wp2
        go_ret
        exact ⟨ret_int HE.out.symm, rfl⟩
      · have hne : (a == n) = false := beq_eq_false_iff_ne.2 ha
        have HE := Lib.hid (show findL l n = findL (l.drop (k + 1)) n by rw [HF.out, HS.out, if_neg ha])
        clear ha
        go_wp2
        go_roundw
        case rel => exact ⟨k + 1, by omega, by go_num, HE.out, by first | rfl | trivial⟩
        case measure => simp [intOf]; omega
    · have HE := Lib.hid (show findL l n = 0 by rw [HF.out, List.drop_of_length_le (by have := HN.out; omega)]; rfl)
      go_wp2
      go_ret
      exact ⟨ret_int HE.out.symm, by first | rfl | trivial⟩
theorem find_any (w : World) (B : Nat) (v : Value) (l : List (Int × Int)) (n : Int) (hl : Chain w B v l) (hr : Ris l) :
    Calls Try.prog 34 #[v, .int .i64 n] w fun e w' => e = .returned (.int .i64 (findL l n)) ∧ w' = w := by
  have HL := Lib.hid hl
  have HR := Lib.hid hr
  clear hl hr
  go_enter Try.func34, Try.ntmps34
  go_wp2
  go_loopw [0] (fun u wr => ∃ (B' : Nat) (rest : List (Int × Int)), Chain w B' u rest ∧ Ris rest ∧ findL l n = findL rest n ∧ wr = w) (fun u wr => blockLeft u wr)
  case atStart => exact ⟨B, l, HL.out, HR.out, rfl, rfl⟩
  case round =>
    obtain ⟨B', rest, hch, hri, hf, rfl⟩ := hrel
    have HF := Lib.hid hf
    have HRi := Lib.hid hri
    clear hf hri
    match rest, hch, HF, HRi with
    | [], hch, HF, _ =>
      have hv : _ = Value.pointer none := hch
      subst hv
      go_wp2
      go_ret
      exact ⟨ret_int HF.out.symm, by first | rfl | trivial⟩
    | (a, b) :: r, hch, HF, HRi =>
      obtain ⟨g, u, rfl, _, hg, hrest⟩ := hch
      have h0 := cell_of_row wr g 0 _ _ _ hg
      have h1 := cell_of_row wr g 1 _ _ _ hg
      have h2 := cell_of_row wr g 2 _ _ _ hg
      have h3 := cell_of_row wr g 3 _ _ _ hg
      have hlt : g < wr.heap.size := by
        rcases Nat.lt_or_ge g wr.heap.size with h' | h'
        · exact h'
        · rw [Array.getElem?_eq_none h'] at hg; cases hg
      have HRest := Lib.hid hrest
      have HLT := Lib.hid hlt
      clear hrest hg
      by_cases ha : a = n
      · subst ha
        have HE := Lib.hid (show findL l a = b by rw [HF.out, findL, if_pos rfl])
        have hne : (a != a) = false := by simp
        go_wp2
        go_ret
        exact ⟨ret_int HE.out.symm, by first | rfl | trivial⟩
      · have hne : (a != n) = true := by simpa using ha
        by_cases hl2 : n < a
        · have HE := Lib.hid (show findL l n = findL [] n by
            rw [HF.out]
            show (if a = n then b else findL r n) = 0
            rw [if_neg ha]
            exact findL_none fun t ht => Int.lt_trans hl2 (HRi.out.head ht))
          clear ha
          go_wp2
          go_roundw
          case rel => exact ⟨0, [], rfl, fun i j p q _ hp => by simp at hp, HE.out, by first | rfl | trivial⟩
          case measure => have := HLT.out; simp [blockLeft]; omega
        · have HE := Lib.hid (show findL l n = findL r n by
            rw [HF.out]
            show (if a = n then b else findL r n) = _
            rw [if_neg ha])
          have hm : blockLeft u wr < wr.heap.size - g := by
            have hc := HRest.out
            match r, hc with
            | [], hc =>
              have hu : u = Value.pointer none := hc
              rw [hu]
              show 0 < _
              omega
            | s :: r', hc =>
              obtain ⟨g', u', hu, hB, hg', _⟩ := hc
              have hlt' : g' < wr.heap.size := by
                rcases Nat.lt_or_ge g' wr.heap.size with h' | h'
                · exact h'
                · rw [Array.getElem?_eq_none h'] at hg'; cases hg'
              rw [hu]
              show wr.heap.size - g' < _
              omega
          have HMs := Lib.hid hm
          clear ha hm
          go_wp2
          go_roundw
          case rel => exact ⟨g + 1, r, HRest.out, HRi.out.tail, HE.out, by first | rfl | trivial⟩
          case measure => exact HMs.out
theorem put_any (s : Int × Int) : ∀ (l : List (Int × Int)) (w : World) (B : Nat) (v : Value), Chain w B v l → B ≤ w.heap.size → (∀ t ∈ l, t.1 < s.1) →
    Calls Try.prog 38 #[v, .agg #[.int .i64 s.1, .int .i64 s.2]] w fun e w' => ∃ g' : Nat, e = .returned (.pointer (some ⟨g', 0, none⟩)) ∧ Chain w' B (.pointer (some ⟨g', 0, none⟩)) (l ++ [s]) ∧ Below B w w'
  | [], w, B, v, h, hB, _ => by
    have hv : v = Value.pointer none := h
    subst hv
    obtain ⟨a, b⟩ := s
    have HB := Lib.hid hB
    clear h hB
    go_enter Try.func38, Try.ntmps38
    go_wp2
    go_ret
    refine ⟨_, rfl, ?_, ((Below.refl B w).alloc HB.out _).alloc (by simp; have := HB.out; omega) _⟩
    refine ⟨w.heap.size + 1, .pointer none, rfl, by have := HB.out; omega, ?_, rfl⟩
    have h := heap_alloc_new (w.alloc (.cells #[.int .i64 a, .int .i64 b] 32)) (.cells #[.int .i64 a, .int .i64 b, .pointer none, .pointer none] 59)
    simpa using h
  | t :: r, w, B, v, h, hB, hs => by
    obtain ⟨a, b⟩ := s
    obtain ⟨c, d⟩ := t
    obtain ⟨g, u, rfl, hBg, hg, hrest⟩ := h
    have hlt : g < w.heap.size := by
      rcases Nat.lt_or_ge g w.heap.size with h' | h'
      · exact h'
      · rw [Array.getElem?_eq_none h'] at hg; cases hg
    have hac : c < a := hs (c, d) (by simp)
    have HR := Lib.hid hrest
    have HG := Lib.hid hg
    have HT := Lib.hid (fun t (ht : t ∈ r) => hs t (by simp [ht]))
    clear hs hrest hg
    go_enter Try.func38, Try.ntmps38
    have hgW : (w.alloc (.cells #[.int .i64 a, .int .i64 b] 32)).heap[g]? = some (.cells #[.int .i64 c, .int .i64 d, .pointer none, u] 59 (0, 0)) := (Below.heap_alloc w _ g hlt).trans HG.out
    have hg0 := cell_of_row _ g 0 _ _ _ hgW
    have hg3 := cell_of_row _ g 3 _ _ _ hgW
    have HGW := Lib.hid hgW
    have HCW := Lib.hid (show Chain (w.alloc (.cells #[.int .i64 a, .int .i64 b] 32)) (g + 1) u r from HR.out.keep fun k _ hk => Below.heap_alloc w _ k hk)
    have HSW := Lib.hid (show g + 1 ≤ (w.alloc (.cells #[.int .i64 a, .int .i64 b] 32)).heap.size by simp; omega)
    have HBW := Lib.hid ((Below.refl B w).alloc hB (.cells #[.int .i64 a, .int .i64 b] 32))
    have hd1 : decide (a < c) = false := decide_eq_false (by omega)
    have hd2 : decide (c < a) = true := decide_eq_true hac
    clear hgW
    go_wp2_with fail
    go_quiet (fail)
    go_wp2
    go_quiet (fail)
    go_wp2_with fail
    go_region_with (go_at_call 38; refine (put_any (a, b) r _ (g + 1) u ?_ ?_ HT.out).mono ?_; exact HCW.out.keep (fun _ _ _ => rfl); exact HSW.out; rintro e w' ⟨g', rfl, hc, hb⟩; have HC' := Lib.hid hc; have hb2 : Below (g + 1) (w.alloc (.cells #[.int .i64 a, .int .i64 b] 32)) w' := ⟨hb.os, hb.tape, hb.output, hb.size, hb.block⟩; have HB' := Lib.hid (HBW.out.trans (hb2.mono (Nat.le_succ_of_le hBg))); clear hb2; have hgw := (hb.block g (Nat.lt_succ_self g)).trans HGW.out; have HGw := Lib.hid hgw; have h3w := cell_of_row w' g 3 _ _ _ hgw; have f3w := frozen_of_row w' g 3 _ _ hgw; clear hc hb hgw)
    all_goals
      go_wp2
      go_ret
      refine ⟨_, rfl, ⟨g, .pointer (some ⟨g', 0, none⟩), rfl, hBg, ?_, HC'.out.keep fun k h1 _ => heap_setCell_other w' _ k _ (by show k ≠ g; omega)⟩, HB'.out.setCell hBg _⟩
      have h := heap_setCell_same w' g 3 _ _ (.pointer (some ⟨g', 0, none⟩)) HGw.out
      simpa using h
end
end Go.Proofs.Ytfoocgfedcfkhaa
