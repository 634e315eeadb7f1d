/- The two methods of a heap of items that change its length. -/
import Derived.Test.YtkjginibdablnaaGreatDoorHeapM
import Derived.Test.YtkjginibdablnaaGreatDoorPackLessS
import Derived.Deep.RegionLaw
import Derived.Outline
namespace Go.Proofs.YtkjginibdablnaaGreatDoor
open Go.RowKit
/-- all lies as it lay, but for the heap's cell and its row -/
structure HG (w w' : World) (hb : Nat) (v : Value) : Prop where
  os : w'.os = w.os
  tape : w'.tape = w.tape
  output : w'.output = w.output
  size : w.heap.size ≤ w'.heap.size
  block : ∀ i, i < w.heap.size → i ≠ hb → v.ownBlock ≠ some i → w'.heap[i]? = w.heap[i]?
theorem HG.of_below {w w' : World} {hb : Nat} {v : Value} (h : Below w.heap.size w w') : HG w w' hb v := ⟨h.os, h.tape, h.output, h.size, fun i hi _ _ => h.block i hi⟩
theorem HG.of_row {w w' : World} {hb : Nat} {v : Value} (h : w.grownBy w' v.ownBlock) : HG w w' hb v := ⟨h.os, h.tape, h.output, h.size, fun i hi _ hv => h.block i hi (fun e => hv e.symm)⟩
theorem HG.of_cell {w : World} {hb i : Nat} {v u : Value} : HG w (w.setCell ⟨hb, i, none⟩ u) hb v := by
  have h := grown_setCell w hb i u
  exact ⟨h.os, h.tape, h.output, h.size, fun k hk hne _ => h.block k hk (fun e => hne (Option.some.inj e))⟩
theorem HG.trans {a b c : World} {hb : Nat} {v v' : Value} (h : HG a b hb v) (k : HG b c hb v') (hv : v'.ownBlock = v.ownBlock ∨ ∃ g, v'.ownBlock = some g ∧ a.heap.size ≤ g) : HG a c hb v :=
  ⟨k.os.trans h.os, k.tape.trans h.tape, k.output.trans h.output, Nat.le_trans h.size k.size, fun i hi hne hvi => (k.block i (Nat.lt_of_lt_of_le hi h.size) hne (fun e => by
    rcases hv with hv | ⟨g, hv, hg⟩
    · exact hvi (hv.symm.trans e)
    · rw [hv] at e; injection e with e; omega)).trans (h.block i hi hne hvi)⟩
theorem HG.bel {w w' : World} {hb B : Nat} {v : Value} (h : HG w w' hb v) (hB : B ≤ hb) (hv : ∀ g, v.ownBlock = some g → B ≤ g) (hs : B ≤ w.heap.size) : Below B w w' :=
  ⟨h.os, h.tape, h.output, h.size, fun i hi => h.block i (by omega) (by omega) (fun e => by have := hv i e; omega)⟩
theorem hp_set {B hb : Nat} {w : World} {v u : Value} {l m : List Itm} (h : HP B hb w v l) (ho : OwnP 39 B w u (ivals m)) (hne : u.ownBlock ≠ some hb) : HP B hb (w.setCell ⟨hb, 0, none⟩ u) u m := by
  refine ⟨?_, ownP_set_ne ho hne 0 u, hne⟩
  have := h.cell
  simp [World.setCell, Array.getElem?_modify, this]
theorem one_cell {w : World} {b : Nat} {T : TypeId} {x : Value} (h : w.heap[b]? = some (.cells #[x] T (0, 0))) : w.cell? ⟨b, 0, none⟩ = some x := by simp [World.cell?, h]
theorem one_frozen {w : World} {b : Nat} {T : TypeId} {x : Value} (h : w.heap[b]? = some (.cells #[x] T (0, 0))) : w.frozen? ⟨b, 0, none⟩ = false := by simp [World.frozen?, h]
theorem one_set {w : World} {b : Nat} {T : TypeId} {x : Value} (h : w.heap[b]? = some (.cells #[x] T (0, 0))) (u : Value) : (w.setCell ⟨b, 0, none⟩ u).heap[b]? = some (.cells #[u] T (0, 0)) := by
  simp [World.setCell, Array.getElem?_modify, h]
theorem assert_item (x : Value) (w : World) : (Instr.typeAssert (.iface 39 x) 20 39 false).run Tryz.prog w = .ok x w := by kernel_rfl
section
set_option maxHeartbeats 3200000
set_option maxRecDepth 100000
theorem heapPushM_any (B hb : Nat) (w : World) (v : Value) (l : List Itm) (a : Int) (b : ByteArray) (h : HP B hb w v l) (hB : B ≤ w.heap.size) (hn : l.length ≤ 2000000) :
    Calls Tryz.prog 117 #[.pointer (some ⟨hb, 0, none⟩), .iface 39 (.agg #[.int .i64 a, .string b])] w fun e w' => e = .returned (.tuple #[]) ∧
      ∃ v', HP B hb w' v' (l ++ [(a, b)]) ∧ (v'.ownBlock = v.ownBlock ∨ ∃ g, v'.ownBlock = some g ∧ w.heap.size ≤ g) ∧ HG w w' hb v := by
  obtain ⟨i0, hi, hz0, hz1, hz2⟩ := infoItem_parts
  obtain ⟨A, c, hv⟩ := h.form
  subst hv
  obtain ⟨n, hnn⟩ : ∃ n, l.length = n := ⟨_, rfl⟩
  have HN := Lib.hid hnn
  rw [hnn] at h hn ⊢
  clear hnn
  have H := Lib.hid h
  have hc := h.c0
  have z1 := cell_alI hc (.cells #[.int .i64 a, .string b] 39)
  obtain ⟨Y, hY⟩ : ∃ Y, Y = (w.alloc (.cells #[.int .i64 a, .string b] 39)).drew := ⟨_, rfl⟩
  have hBY : Below w.heap.size w Y := by rw [hY]; have h := (Below.refl _ w).alloc (Nat.le_refl _) (.cells #[.int .i64 a, .string b] 39); exact ⟨h.os, h.tape, h.output, h.size, h.block⟩
  have HYS := Lib.hid (show Y.heap.size = w.heap.size + 1 by rw [hY]; simp [World.drew])
  have HY := Lib.hid (h.below hBY)
  have HBY := Lib.hid hBY
  have HNW := Lib.hid (show ∀ j u, (flat [(Value.int .i64 a, Value.string b)])[j]? = some u → Y.cell? ((⟨w.heap.size, 0, none⟩ : Addr).add j) = some u from news_one w Y _ _ 39 (by rw [hY]; have h := Below.refl (w.heap.size + 1) (w.alloc (.cells #[.int .i64 a, .string b] 39)); exact ⟨h.os, h.tape, h.output, h.size, h.block⟩))
  have HYE := Lib.hid hY
  have HBB := Lib.hid hB
  have HLT := Lib.hid h.lt
  have hta := assert_item (.agg #[.int .i64 a, .string b])
  clear h hBY hY hB
  go_enter Tryz.func117, Tryz.ntmps117
  go_wp2_with fail
  go_region_law
    (first | (rw [← HYE.out]; refine step_append_r B Y (by rfl) _ _ 56 39 (by rfl) i0 _ 24 Tryz.underlying56 hi hz0 hz1 hz2 (by rfl) (by omega) (.slice A n c) _ (by rfl) HY.out.own (by have := HYS.out; have := HBB.out; omega) _ 1 1 [(.int .i64 a, .string b)] (by rfl) (by rfl) HNW.out (ones_twoI _ _ rfl rfl) (by rw [ivals_length, HN.out]; simp; omega) ?_; intro v1 w8 ho1 hgr1 hloc1; have HO1 := Lib.hid ho1; have HG1 := Lib.hid hgr1; have HLOC := Lib.hid hloc1; clear ho1 hgr1 hloc1; obtain ⟨g1, c1, hv1, _⟩ := own_someP HO1.out (by simp); rw [List.length_append] at hv1; simp only [List.length_singleton] at hv1; subst hv1; have HP8 := Lib.hid ((HG1.out.block hb (by have := HYS.out; have := HLT.out; omega) (fun e => H.out.ne e.symm)).trans HY.out.cell); have hc3 : w8.cell? ⟨hb, 0, none⟩ = some (.slice A n c) := one_cell HP8.out; have hf3 : w8.frozen? ⟨hb, 0, none⟩ = false := one_frozen HP8.out))
  all_goals
    have HNE := Lib.hid (show (Value.slice (some ⟨g1, 0, none⟩) ((ivals l).length + 1) c1).ownBlock ≠ some hb by
      intro e
      rcases HLOC.out with h | h
      · exact H.out.ne (h.symm.trans e)
      · rw [h] at e
        injection e with e
        have := HYS.out
        have := HLT.out
        omega)
    have HOF := Lib.hid (show OwnP 39 B w8 _ (ivals (l ++ [(a, b)])) by rw [ivals_snoc]; exact HO1.out)
    go_wp2_with fail
    go_end0
    refine ⟨rfl, _, ⟨one_set HP8.out _, ownP_set_ne HOF.out HNE.out 0 _, HNE.out⟩, ?_, ?_⟩
    · rcases HLOC.out with h | h
      · exact .inl h
      · exact .inr ⟨_, h, by have := HYS.out; omega⟩
    · have h8 : HG w w8 hb (.slice A n c) := (HG.of_below HBY.out).trans (HG.of_row HG1.out) (.inl rfl)
      exact h8.trans HG.of_cell (.inl rfl)
theorem heapPopM_any (B hb : Nat) (w : World) (v : Value) (l : List Itm) (a : Int) (b : ByteArray) (h : HP B hb w v (l ++ [(a, b)])) (hn : l.length ≤ 2000000) :
    Calls Tryz.prog 116 #[.pointer (some ⟨hb, 0, none⟩)] w fun e w' => e = .returned (.iface 39 (.agg #[.int .i64 a, .string b])) ∧
      ∃ v', HP B hb w' v' l ∧ v'.ownBlock = v.ownBlock ∧ HG w w' hb v := by
  obtain ⟨m, hm⟩ : ∃ m, l.length = m := ⟨_, rfl⟩
  obtain ⟨n, hnm⟩ : ∃ n, n = m + 1 := ⟨_, rfl⟩
  have hln : (l ++ [(a, b)]).length = n := by simp [hm, hnm]
  obtain ⟨g, c, hv, hg⟩ := own_someP h.own (by rw [ivals_length, hln]; omega)
  rw [ivals_length, hln] at hv
  subst hv
  have H := Lib.hid h
  obtain ⟨q1, q2, _, _⟩ := row_at h.own hln (show (l ++ [(a, b)])[m]? = some (a, b) by rw [List.getElem?_append_right (by omega), hm]; simp)
  have hcap : n ≤ c := by
    have := (lp_cap (lp_of_own h.own)).1
    rw [ivals_length, hln] at this
    exact this
  have HC := Lib.hid hcap
  have hc := h.c0
  have hf := h.fz 0
  obtain ⟨X, hX⟩ : ∃ X, X = w.alloc (.cells #[.int .i64 a, .string b] 39) := ⟨_, rfl⟩
  have HBX := Lib.hid (show Below w.heap.size w X by rw [hX]; exact (Below.refl _ w).alloc (Nat.le_refl _) _)
  have HX := Lib.hid (h.below HBX.out)
  have hm0 : (0 : Int) ≤ (m : Int) := by omega
  have hmn : (m : Int) < (n : Int) := by omega
  have hmc : (m : Int) ≤ (c : Int) := by omega
  have hw : IntKind.i64.wrap ((n : Int) - 1) = (m : Int) := by rw [IntKind.wrap_i64]; omega
  have HM := Lib.hid (And.intro hm hnm)
  have z1 := cell_alI hc (.cells #[.int .i64 a, .string b] 39)
  have zf : (w.alloc (.cells #[.int .i64 a, .string b] 39)).frozen? ⟨hb, 0, none⟩ = false := by have := HX.out.fz 0; rwa [hX] at this
  have hlt := h.lt
  have zne : (⟨hb, 0, none⟩ : Addr) ≠ ⟨w.heap.size, 0, none⟩ := by intro e; simp only [Addr.mk.injEq, and_true] at e; omega
  have zne1 : (⟨hb, 0, none⟩ : Addr) ≠ ⟨w.heap.size, 1, none⟩ := by intro e; simp at e
  have zb0 : ((w.alloc (.cells #[.int .i64 a, .string b] 39)).setCell ⟨hb, 0, none⟩ (.slice (some ⟨g, 0, none⟩) m c)).cell? ⟨w.heap.size, 0, none⟩ = some (.int .i64 a) := by
    rw [World.cell?_setCell_other _ _ _ _ zne]; exact lit_at w _ _ 0 _ rfl
  have zb1 : ((w.alloc (.cells #[.int .i64 a, .string b] 39)).setCell ⟨hb, 0, none⟩ (.slice (some ⟨g, 0, none⟩) m c)).cell? ⟨w.heap.size, 1, none⟩ = some (.string b) := by
    rw [World.cell?_setCell_other _ _ _ _ zne1]; exact lit_at w _ _ 1 _ rfl
  clear h hm hnm hln hg hcap hlt zne zne1
  have HXE := Lib.hid hX
  clear hX
  go_enter Tryz.func116, Tryz.ntmps116
  go_wp2_with fail
  go_ret
  refine ⟨rfl, _, ⟨one_set (by rw [← HXE.out]; exact HX.out.cell) _, ?_, H.out.ne⟩, rfl, ?_⟩
  · rw [← HXE.out]
    refine ownP_set_ne (v := .slice (some ⟨g, 0, none⟩) m c) ?_ H.out.ne 0 _
    have h2 := HX.out.own
    unfold OwnP at h2 ⊢
    rw [ivals_length] at h2 ⊢
    obtain ⟨e1, e2⟩ := HM.out
    rw [ivals_append, flat_append, List.length_append, e1, e2] at h2
    rw [e1]
    exact ownsRow_pop (by rw [flat_length, ivals_length, e1]) h2
  · rw [← HXE.out]
    exact (HG.of_below HBX.out).trans HG.of_cell (.inl rfl)
end
end Go.Proofs.YtkjginibdablnaaGreatDoor
