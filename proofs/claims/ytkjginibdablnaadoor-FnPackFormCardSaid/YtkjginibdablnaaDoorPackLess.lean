/- A pack of what is wanted alone: both functions give the same pack. -/
import Derived.Test.YtkjginibdablnaaDoorPackN
import Derived.Test.YtkjginibdablnaaDoorShelf
import Derived.Deep.RegionHeld3
namespace Go.Proofs.YtkjginibdablnaaDoor
open Go.RowKit
def lessL (l : List Itm) (ns : List Int) : List Itm := l.filter fun s => ns.contains s.1
theorem lessL_take {l : List Itm} {k : Nat} {s : Itm} {ns : List Int} (h : l[k]? = some s) : lessL (l.take (k + 1)) ns = if ns.contains s.1 then lessL (l.take k) ns ++ [s] else lessL (l.take k) ns := by
  rw [List.take_add_one, h]
  simp only [lessL, List.filter_append, Option.toList_some]
  by_cases hc : ns.contains s.1 = true
  · rw [if_pos hc, List.filter_cons, if_pos hc]
    rfl
  · rw [if_neg hc, List.filter_cons, if_neg hc, List.filter_nil, List.append_nil]
theorem lessL_le (l : List Itm) (ns : List Int) : (lessL l ns).length ≤ l.length := List.length_filter_le _ _
theorem ivals_snoc (l : List Itm) (a : Int) (b : ByteArray) : ivals (l ++ [(a, b)]) = ivals l ++ [(.int .i64 a, .string b)] := by rw [ivals_append]; rfl
theorem intVals_inv {z : List Int} {j : Nat} {v : Value} (h : (intVals z)[j]? = some v) : v = .int .i64 (z.getD j 0) := by
  simp only [intVals, List.getElem?_map, Option.map_eq_some_iff] at h
  obtain ⟨x, hx, rfl⟩ := h
  simp [List.getD, hx]
/-- a block of two cells, as it lies -/
def Two (w : World) (b : Nat) (T : TypeId) (x y : Value) : Prop := w.heap[b]? = some (.cells #[x, y] T (0, 0))
theorem Two.c0 {w : World} {b : Nat} {T : TypeId} {x y : Value} (h : Two w b T x y) : w.cell? ⟨b, 0, none⟩ = some x := by
  unfold Two at h
  simp [World.cell?, h]
theorem Two.c1 {w : World} {b : Nat} {T : TypeId} {x y : Value} (h : Two w b T x y) : w.cell? ⟨b, 1, none⟩ = some y := by
  unfold Two at h
  simp [World.cell?, h]
theorem Two.f {w : World} {b : Nat} {T : TypeId} {x y : Value} (h : Two w b T x y) (i : Nat) : w.frozen? ⟨b, i, none⟩ = false := by
  unfold Two at h
  simp [World.frozen?, h]
theorem Two.lt {w : World} {b : Nat} {T : TypeId} {x y : Value} (h : Two w b T x y) : b < w.heap.size := by
  rcases Nat.lt_or_ge b w.heap.size with h' | h'
  · exact h'
  · unfold Two at h
    rw [Array.getElem?_eq_none h'] at h; cases h
theorem Two.keep {w w' : World} {b : Nat} {T : TypeId} {x y : Value} {row : Option Nat} (h : Two w b T x y) (hg : w.grownBy w' row) (hne : some b ≠ row) : Two w' b T x y := (hg.block b h.lt hne).trans h
theorem Two.set1 {w : World} {b : Nat} {T : TypeId} {x y : Value} (h : Two w b T x y) (z : Value) : Two (w.setCell ⟨b, 1, none⟩ z) b T x z := by
  unfold Two at h ⊢
  simp [World.setCell, Array.getElem?_modify, h]
theorem Two.set0 {w : World} {b : Nat} {T : TypeId} {x y : Value} (h : Two w b T x y) (z : Value) : Two (w.setCell ⟨b, 0, none⟩ z) b T z y := by
  unfold Two at h ⊢
  simp [World.setCell, Array.getElem?_modify, h]
theorem two_new (w : World) (x y : Value) (T : TypeId) : Two (w.alloc (.cells #[x, y] T)) w.heap.size T x y := heap_alloc_new w _
theorem wpList_append_r (B : Nat) (W : World) {ops : Array Oper} {rest : List Oper} {o : Oper} {a : Act} {Q : Exit → Act → World → Prop} (hgd : o.guard = none) (s x : Operand)
    (t T : TypeId) (ho : o.op = .call { callee := .builtin .append, args := #[s, x], argTypes := #[t, t] })
    (i0 : TypeInfo) (z : Value) (bytes : Nat) (ht : Tryd.prog.underlying t = some (.slice T)) (hi : Tryd.prog.info? T = some i0) (hz0 : i0.zero = some z) (hz1 : i0.size = 2) (hz2 : i0.bytes = bytes) (hzs : z.cells.size = 2) (hby : bytes ≤ 1000)
    (v : Value) (l1 : List (Value × Value)) (hs : a.eval s = v) (hown : OwnP T B W v l1) (hB : B ≤ W.heap.size) (ad : Addr) (m c : Nat) (l2 : List (Value × Value)) (hx : a.eval x = .slice (some ad) m c) (hm : l2.length = m)
    (hnews : ∀ j u, (flat l2)[j]? = some u → W.cell? (ad.add j) = some u) (h1 : Ones l2) (hl : l1.length + l2.length ≤ 2200000) (h : ∀ v' w', OwnP T B w' v' (l1 ++ l2) → W.grownBy w' v.ownBlock → (v'.ownBlock = v.ownBlock ∨ v'.ownBlock = some W.heap.size) → wpList Tryd.prog ops Q rest (a.put o.dst v') w') :
    wpList Tryd.prog ops Q (o :: rest) a W := by
  refine wpList_plain hgd fun K hK => ?_
  subst hm
  have hmul : (l1.length + l2.length) * bytes ≤ 2200000 * 1000 := Nat.mul_le_mul hl hby
  obtain ⟨v', w', hr, h2, h3, h4, h5⟩ := run_append_own_at (P := Tryd.prog) W B t o.type T i0 z 2 bytes ht hi hz0 hz1 hz2 hzs (by decide)
    v l1.length (flat l1) hown ad l2.length c (flat l2) (flat_length l2) hnews h1 (by unfold maxLen; omega) (by omega) hB
  unfold Oper.wp execOp
  simp only [ho, resolve, invoke, builtin, Sem.run_bind, Sem.run_pure, Result.andThen_ok, List.map_toArray, List.map_cons, List.map_nil, hs, hx, hr]
  exact hK _ _ (h v' w' (by unfold OwnP; rw [flat_append, List.length_append]; exact h2) h3 h5)
theorem step_append_r (B : Nat) (W : World) {ops : Array Oper} {o : Oper} {a : Act} {K : Act → World → Prop} {Q : Exit → Act → World → Prop} {E : Prop} (hgd : o.guard = none) (s x : Operand)
    (t T : TypeId) (ho : o.op = .call { callee := .builtin .append, args := #[s, x], argTypes := #[t, t] })
    (i0 : TypeInfo) (z : Value) (bytes : Nat) (ht : Tryd.prog.underlying t = some (.slice T)) (hi : Tryd.prog.info? T = some i0) (hz0 : i0.zero = some z) (hz1 : i0.size = 2) (hz2 : i0.bytes = bytes) (hzs : z.cells.size = 2) (hby : bytes ≤ 1000)
    (v : Value) (l1 : List (Value × Value)) (hs : a.eval s = v) (hown : OwnP T B W v l1) (hB : B ≤ W.heap.size) (ad : Addr) (m c : Nat) (l2 : List (Value × Value)) (hx : a.eval x = .slice (some ad) m c) (hm : l2.length = m)
    (hnews : ∀ j u, (flat l2)[j]? = some u → W.cell? (ad.add j) = some u) (h1 : Ones l2) (hl : l1.length + l2.length ≤ 2200000) (h : ∀ v' w', OwnP T B w' v' (l1 ++ l2) → W.grownBy w' v.ownBlock → (v'.ownBlock = v.ownBlock ∨ v'.ownBlock = some W.heap.size) → K (a.put o.dst v') w') :
    if Region.wanted o (yielded ops a.tmps) = true then Oper.wp Tryd.prog o a W K Q else E := by
  have hw : Region.wanted o (yielded ops a.tmps) = true := by simp [Region.wanted, hgd]
  rw [if_pos hw]
  subst hm
  have hmul : (l1.length + l2.length) * bytes ≤ 2200000 * 1000 := Nat.mul_le_mul hl hby
  obtain ⟨v', w', hr, h2, h3, h4, h5⟩ := run_append_own_at (P := Tryd.prog) W B t o.type T i0 z 2 bytes ht hi hz0 hz1 hz2 hzs (by decide)
    v l1.length (flat l1) hown ad l2.length c (flat l2) (flat_length l2) hnews h1 (by unfold maxLen; omega) (by omega) hB
  unfold Oper.wp execOp
  simp only [ho, resolve, invoke, builtin, Sem.run_bind, Sem.run_pure, Result.andThen_ok, List.map_toArray, List.map_cons, List.map_nil, hs, hx, hr]
  exact h v' w' (by unfold OwnP; rw [flat_append, List.length_append]; exact h2) h3 h5
theorem news_one2 (w : World) (o : Obj) (x y : Value) (T : TypeId) : ∀ j u, (flat [(x, y)])[j]? = some u → ((w.alloc o).alloc (.cells #[x, y] T)).cell? ((⟨w.heap.size + 1, 0, none⟩ : Addr).add j) = some u := by
  intro j u h
  have h2 := news_one (w.alloc o) _ x y T (Below.refl _ _) j u h
  rw [show (w.alloc o).heap.size = w.heap.size + 1 by simp] at h2
  exact h2
theorem ones_twoI (x y : Value) (hx : x.oneCell' = true) (hy : y.oneCell' = true) : Ones [(x, y)] := fun u hu => by
  simp [flat] at hu
  rcases hu with rfl | rfl
  · exact hx
  · exact hy
theorem ownP_two {T B b B' : Nat} {w : World} {v x y : Value} {l : List (Value × Value)} (h : OwnP T B w v l) (hb : b < B ∧ B' ≤ B := by omega) : OwnP T B' ((w.setCell ⟨b, 0, none⟩ x).setCell ⟨b, 1, none⟩ y) v l := ownP_less (ownP_set (ownP_set h hb.1 0 x) hb.1 1 y) hb.2
section
set_option maxHeartbeats 1600000
end
end Go.Proofs.YtkjginibdablnaaDoor
