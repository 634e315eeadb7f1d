/- The laws of drawn indexes: a name is found, if it is there; without any pack nothing is found; without a pack just its names are gone. -/
import Derived.Test.YtfoocgfedcfkhaaLidxB
import Derived.Test.YtfoocgfedcfkhaaTree2
import Derived.Test.YtfoocgfedcfkhaaDrawSp
import Derived.Laws.StructEq
namespace Go.Proofs.Ytfoocgfedcfkhaa
open Go.RowKit
theorem ris_pair {l : List (Int × Int)} : Ris l ↔ l.Pairwise fun p s => p.1 < s.1 := by
  rw [List.pairwise_iff_getElem]
  constructor
  · intro h i j hi hj hij
    exact h i j _ _ hij (List.getElem?_eq_getElem hi) (List.getElem?_eq_getElem hj)
  · intro h i j p s hij hp hs
    obtain ⟨hi, rfl⟩ := List.getElem?_eq_some_iff.1 hp
    obtain ⟨hj, rfl⟩ := List.getElem?_eq_some_iff.1 hs
    exact h i j hi hj hij
theorem ris_less {l : List (Int × Int)} (p : Int) (h : Ris l) : Ris (lessL p l) := ris_pair.2 ((ris_pair.1 h).filter _)
theorem idx_all {l : List (Int × Int)} (h : idxB l = true) : ∀ t ∈ l, spotB t = true := fun t ht => by
  obtain ⟨i, hi⟩ := List.getElem?_of_mem ht
  exact idx_spot h hi
theorem idx_of {l : List (Int × Int)} (h1 : ∀ t ∈ l, spotB t = true) (h2 : Ris l) : idxB l = true := by
  unfold idxB idxTo
  rw [List.all_eq_true]
  intro k hk
  have hk' := List.mem_range.1 hk
  have hs : l[k]? = some l[k] := List.getElem?_eq_getElem hk'
  have hb := h1 _ (List.getElem_mem hk')
  match k, hk', hs, hb with
  | 0, _, hs, hb => exact okAt_first hs hb
  | k + 1, hk', hs, hb =>
    have hp : l[k]? = some l[k] := List.getElem?_eq_getElem (by omega)
    rw [okAt_next hs hp hb]
    exact decide_eq_true (h2 k (k + 1) _ _ (by omega) hp hs)
theorem idx_less {l : List (Int × Int)} (p : Int) (h : idxB l = true) : idxB (lessL p l) = true :=
  idx_of (fun t ht => idx_all h t ((List.mem_filter.1 ht).1)) (ris_less p (idx_ris h))
theorem lessZ_ok {l : List (Int × Int)} (p : Int) (h : idxB l = true) : lessZ p l = lessL p l := by simp [lessZ, h]
theorem less_comm (p q : Int) (l : List (Int × Int)) : lessL p (lessL q l) = lessL q (lessL p l) := by
  simp only [lessL, List.filter_filter]
  congr 1
  funext s
  exact Bool.and_comm _ _
theorem less_again (p : Int) (l : List (Int × Int)) : lessL p (lessL p l) = lessL p l := by
  simp [lessL, List.filter_filter]
/-- without the packs from 1 to k -/
def lessTo (l : List (Int × Int)) : Nat → List (Int × Int)
  | 0 => l
  | k + 1 => lessL ((k + 1 : Nat) : Int) (lessTo l k)
theorem lessTo_idx {l : List (Int × Int)} (h : idxB l = true) : ∀ k, idxB (lessTo l k) = true
  | 0 => h
  | k + 1 => idx_less _ (lessTo_idx h k)
theorem lessTo_mem {l : List (Int × Int)} {t : Int × Int} : ∀ {k : Nat}, t ∈ lessTo l k → t ∈ l ∧ ∀ j : Nat, 1 ≤ j → j ≤ k → t.2 ≠ (j : Int)
  | 0, h => ⟨h, fun j h1 h2 => by omega⟩
  | k + 1, h => by
    obtain ⟨h1, h2⟩ := List.mem_filter.1 h
    obtain ⟨h3, h4⟩ := lessTo_mem h1
    refine ⟨h3, fun j h5 h6 => ?_⟩
    by_cases hj : j = k + 1
    · subst hj
      simpa using h2
    · exact h4 j h5 (by omega)
theorem lessTo_len {l : List (Int × Int)} : ∀ k, (lessTo l k).length ≤ l.length
  | 0 => Nat.le_refl _
  | k + 1 => Nat.le_trans (lessL_len0 _ _) (lessTo_len k)
theorem lessTo_nine {l : List (Int × Int)} (h : idxB l = true) (ht : Tame l) : lessTo l 9 = [] := by
  cases hl : lessTo l 9 with
  | nil => rfl
  | cons t r =>
    exfalso
    obtain ⟨h1, h2⟩ := lessTo_mem (l := l) (t := t) (k := 9) (by rw [hl]; simp)
    have h3 := ht t h1
    have h4 := idx_all h t h1
    have h5 : 1 ≤ t.2 := by
      simp only [spotB, Bool.and_eq_true, decide_eq_true_eq] at h4
      exact h4.1.2
    have h6 := h2 t.2.toNat (by omega) (by omega)
    omega
theorem findL_mem {l : List (Int × Int)} (h : Ris l) {s : Int × Int} (hs : s ∈ l) : findL l s.1 = s.2 := by
  induction l with
  | nil => simp at hs
  | cons t r ih =>
    show (if t.1 = s.1 then t.2 else findL r s.1) = s.2
    rcases List.mem_cons.1 hs with rfl | h1
    · rw [if_pos rfl]
    · have := h.head h1
      rw [if_neg (by omega)]
      exact ih h.tail h1
theorem findL_absent {n : Int} : ∀ {l : List (Int × Int)}, (∀ t ∈ l, t.1 ≠ n) → findL l n = 0
  | [], _ => rfl
  | t :: r, h => by
    show (if t.1 = n then t.2 else findL r n) = 0
    rw [if_neg (h t (by simp))]
    exact findL_absent fun u hu => h u (by simp [hu])
theorem find_less {l : List (Int × Int)} (h : Ris l) {s : Int × Int} (hs : s ∈ l) (p : Int) : findL (lessL p l) s.1 = if s.2 = p then 0 else s.2 := by
  by_cases hp : s.2 = p
  · rw [if_pos hp]
    refine findL_absent fun t ht e => ?_
    obtain ⟨h1, h2⟩ := List.mem_filter.1 ht
    have e1 := findL_mem h h1
    have e2 := findL_mem h hs
    rw [e] at e1
    rw [e1] at e2
    simp at h2
    exact h2 (e2.trans hp)
  · rw [if_neg hp]
    exact findL_mem (ris_less p h) (List.mem_filter.2 ⟨hs, by simpa using hp⟩)
theorem spotEq_run (a b c d : Int) (v : Bool) (h : decide (a = c ∧ b = d) = v) (w : World) : (Op.equalIn 10000 32 (.agg #[.int .i64 a, .int .i64 b]) (.agg #[.int .i64 c, .int .i64 d])).run Try.prog w = .ok v w := by
  have hS : Try.prog.underlying 32 = some (.struct (Try.prog.fieldsOf 32)) := by kernel_rfl
  have hp : Try.prog.stoodInHeld 32 = false := by kernel_rfl
  have u3 := Try.underlying32
  rw [show (10000 : Nat) = 9999 + 1 from rfl, run_equalIn_agg w 9999 32 _ _ hS hp]
  simp only [Program.fieldsOf, u3]
  go_simp
  subst h
  by_cases h1 : a = c <;> by_cases h2 : b = d <;> simp [h1, h2]
theorem spotEq_guard (op : BinOp) (x y : Operand) (xs ys : Array Value) (w : World) : (eqGuard op 32 x y (.agg xs) (.agg ys)).run Try.prog w = .ok () w := run_eqGuard_agg w op _ x y xs ys (by kernel_rfl)
section
set_option maxHeartbeats 1600000
theorem ldIndex_any (w : World) (va vb : Value) (la lb : List (Int × Int)) (ha : Lsp w w.heap.size va la) (hb : Lsp w w.heap.size vb lb) (hm : la.length ≤ 1000000000) :
    Calls Try.prog 18 #[va, vb] w fun e w' => e = .returned (.bool (decide (la = lb))) ∧ ∃ n, w' = w.drewN n := by
  obtain ⟨A, ca, rfl, hca, hxa⟩ := ha
  obtain ⟨C, cb, rfl, hcb, hxb⟩ := hb
  by_cases hl : la.length = lb.length
  · have HXA := Lib.hid hxa
    have HXB := Lib.hid hxb
    obtain ⟨n, hn⟩ : ∃ n, la.length = n := ⟨_, rfl⟩
    have hn2 : lb.length = n := by omega
    have HN := Lib.hid hn
    have HN2 := Lib.hid hn2
    rw [hn] at hm ⊢
    rw [hn2]
    clear hxa hxb hl hn hn2 hca hcb
    go_enter Try.func18, Try.ntmps18
    go_wp2
    go_loopw [5] (fun i wr => ∃ k m : Nat, k ≤ n ∧ i = .int .i64 (k : Int) ∧ la.take k = lb.take k ∧ wr = w.drewN m) (fun i _ => n - (intOf i).toNat)
    case atStart => exact ⟨0, 0, Nat.zero_le _, rfl, rfl, rfl⟩
    case round =>
      obtain ⟨k, m, hk, rfl, ht, rfl⟩ := hrel
      have HT := Lib.hid ht
      clear ht
      by_cases hlt : k < n
      · obtain ⟨⟨a, b⟩, hx⟩ : ∃ x, la[k]? = some x := ⟨_, List.getElem?_eq_getElem (by have := HN.out; omega)⟩
        obtain ⟨⟨c, d⟩, hy⟩ : ∃ y, lb[k]? = some y := ⟨_, List.getElem?_eq_getElem (by have := HN2.out; omega)⟩
        obtain ⟨g, off, rfl, hg, hcg⟩ := HXA.out (by have := HN.out; omega)
        obtain ⟨g2, off2, rfl, hg2, hcg2⟩ := HXB.out (by have := HN2.out; omega)
        obtain ⟨hc1, hc2⟩ := hcg k _ hx
        obtain ⟨hc3, hc4⟩ := hcg2 k _ hy
        have HX := Lib.hid hx
        have HY := Lib.hid hy
        clear hx hy hcg hcg2
        have hi1 : (k : Int) < (n : Int) := by omega
        by_cases hab : a = c ∧ b = d
        · have hq := fun W : World => spotEq_run a b c d true (decide_eq_true hab) W
          have hg := spotEq_guard .neq
          obtain ⟨rfl, rfl⟩ := hab
          have HS := Lib.hid (tk_snoc HT.out HX.out HY.out)
          go_wp2_with fail
          go_quiet (fail)
          go_wp2
          go_roundw
          case rel => exact ⟨k + 1, _, by omega, by go_num, HS.out, rfl⟩
          case measure => simp [intOf]; omega
        · have hq := fun W : World => spotEq_run a b c d false (decide_eq_false hab) W
          have hg := spotEq_guard .neq
          have HE := Lib.hid (show la ≠ lb from fun h => hab (by
            have h1 := HX.out
            rw [h, HY.out] at h1
            injection h1 with h1
            injection h1 with h2 h3
            exact ⟨h2.symm, h3.symm⟩))
          clear hab
          go_wp2_with fail
          go_quiet (fail)
          go_wp2
          go_ret
          exact ⟨ret_bool (by simp [HE.out]), _, World.drewN_drewN ..⟩
      · have HE := Lib.hid (show la = lb by
          have h1 := HT.out
          rwa [List.take_of_length_le (by have := HN.out; omega), List.take_of_length_le (by have := HN2.out; omega)] at h1)
        go_wp2
        go_ret
        exact ⟨ret_bool (by simp [HE.out]), _, rfl⟩
  · have HF := Lib.hid (show la ≠ lb from fun h => hl (by rw [h]))
    have hne : ((la.length : Int) != (lb.length : Int)) = true := by simp; omega
    clear hxa hxb
    generalize la.length = n at *
    generalize lb.length = m at *
    go_enter Try.func18, Try.ntmps18
    go_wp2
    go_ret
    exact ⟨ret_bool (by simp [HF.out]), 0, rfl⟩
end
end Go.Proofs.Ytfoocgfedcfkhaa
