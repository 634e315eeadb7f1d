/- The methods of a heap of items, as they are reached through the interface: length, order, exchange. -/
import Derived.Test.YtkjginibdablnaaDoorPackLess
import Derived.Test.YtkjginibdablnaaDoorHeapP
import Derived.BigRegion
import Derived.WalkSmall
namespace Go.Proofs.YtkjginibdablnaaDoor
open Go.RowKit
/-- a heap of items: the cell that holds its slice, and its items -/
structure HP (B hb : Nat) (w : World) (v : Value) (l : List Itm) : Prop where
  cell : w.heap[hb]? = some (.cells #[v] 83 (0, 0))
  own : OwnP 40 B w v (ivals l)
  ne : v.ownBlock ≠ some hb
theorem HP.c0 {B hb : Nat} {w : World} {v : Value} {l : List Itm} (h : HP B hb w v l) : w.cell? ⟨hb, 0, none⟩ = some v := by
  have := h.cell
  simp [World.cell?, this]
theorem HP.fz {B hb : Nat} {w : World} {v : Value} {l : List Itm} (h : HP B hb w v l) (i : Nat) : w.frozen? ⟨hb, i, none⟩ = false := by
  have := h.cell
  simp [World.frozen?, this]
theorem HP.lt {B hb : Nat} {w : World} {v : Value} {l : List Itm} (h : HP B hb w v l) : hb < w.heap.size := by
  rcases Nat.lt_or_ge hb w.heap.size with h' | h'
  · exact h'
  · have := h.cell
    rw [Array.getElem?_eq_none h'] at this; cases this
theorem HP.form {B hb : Nat} {w : World} {v : Value} {l : List Itm} (h : HP B hb w v l) : ∃ A c, v = .slice A l.length c := by
  obtain ⟨A, c, h1⟩ := lp_form (lp_of_own h.own)
  rw [ivals_length] at h1
  exact ⟨A, c, h1⟩
theorem HP.below {B hb : Nat} {w w' : World} {v : Value} {l : List Itm} (h : HP B hb w v l) (hw : Below w.heap.size w w') : HP B hb w' v l := ⟨(hw.block hb h.lt).trans h.cell, ownP_below h.own hw, h.ne⟩
theorem HP.drew {B hb : Nat} {w : World} {v : Value} {l : List Itm} (h : HP B hb w v l) : HP B hb w.drew v l := h.below ⟨rfl, rfl, rfl, Nat.le_refl _, fun _ _ => rfl⟩
theorem HP.row {B hb : Nat} {w w' : World} {v : Value} {l l' : List Itm} (h : HP B hb w v l) (hg : w.grownBy w' v.ownBlock) (ho : OwnP 40 B w' v (ivals l')) : HP B hb w' v l' :=
  ⟨(hg.block hb h.lt (fun e => h.ne e.symm)).trans h.cell, ho, h.ne⟩
theorem load_one (T : TypeId) (d : TypeDesc) (hu : Tryd.prog.underlying T = some d) (hd : (match d with | .struct _ | .array _ _ => true | _ => false) = false) (a : Addr) (w : World) (v : Value) (h : w.cell? a = some v) :
    (loadVar T a).run Tryd.prog w = .ok v w := by
  have hagg : (isAgg T).run Tryd.prog w = .ok false w := by
    unfold isAgg
    rw [Sem.run_bind, run_underlying hu w]
    cases d <;> simp_all
  simp [loadVar, Sem.run_bind, hagg, h, go_sem]
theorem nil_len (a : Addr) (w : World) : (nilAhead 298 82 (.pointer (some a)) "Len").run Tryd.prog w = .ok (some false) w := by kernel_rfl
theorem nil_less (a : Addr) (w : World) : (nilAhead 298 82 (.pointer (some a)) "Less").run Tryd.prog w = .ok (some false) w := by kernel_rfl
theorem nil_swap (a : Addr) (w : World) : (nilAhead 298 82 (.pointer (some a)) "Swap").run Tryd.prog w = .ok (some false) w := by kernel_rfl
theorem nil_push (a : Addr) (w : World) : (nilAhead 298 82 (.pointer (some a)) "Push").run Tryd.prog w = .ok (some false) w := by kernel_rfl
theorem nil_pop (a : Addr) (w : World) : (nilAhead 298 82 (.pointer (some a)) "Pop").run Tryd.prog w = .ok (some false) w := by kernel_rfl
theorem method_push (a : Addr) (w : World) : (Go.method 298 82 (.pointer (some a)) "Push").run Tryd.prog w = .ok (128, .pointer (some a)) w := by kernel_rfl
theorem method_pop (a : Addr) (w : World) : (Go.method 298 82 (.pointer (some a)) "Pop").run Tryd.prog w = .ok (127, .pointer (some a)) w := by kernel_rfl
theorem method_len0 (a : Addr) (w : World) : (Go.method 298 82 (.pointer (some a)) "Len").run Tryd.prog w = (loadVar 83 a >>= fun v => pure (53, v)).run Tryd.prog w := by kernel_rfl
theorem method_less0 (a : Addr) (w : World) : (Go.method 298 82 (.pointer (some a)) "Less").run Tryd.prog w = (loadVar 83 a >>= fun v => pure (126, v)).run Tryd.prog w := by kernel_rfl
theorem method_swap0 (a : Addr) (w : World) : (Go.method 298 82 (.pointer (some a)) "Swap").run Tryd.prog w = (loadVar 83 a >>= fun v => pure (129, v)).run Tryd.prog w := by kernel_rfl
theorem method_len (a : Addr) (w : World) (v : Value) (h : w.cell? a = some v) : (Go.method 298 82 (.pointer (some a)) "Len").run Tryd.prog w = .ok (53, v) w := by
  rw [method_len0, Sem.run_bind, load_one _ _ Tryd.underlying83 rfl a w v h]; rfl
theorem method_less (a : Addr) (w : World) (v : Value) (h : w.cell? a = some v) : (Go.method 298 82 (.pointer (some a)) "Less").run Tryd.prog w = .ok (126, v) w := by
  rw [method_less0, Sem.run_bind, load_one _ _ Tryd.underlying83 rfl a w v h]; rfl
theorem method_swap (a : Addr) (w : World) (v : Value) (h : w.cell? a = some v) : (Go.method 298 82 (.pointer (some a)) "Swap").run Tryd.prog w = .ok (129, v) w := by
  rw [method_swap0, Sem.run_bind, load_one _ _ Tryd.underlying83 rfl a w v h]; rfl
theorem flat_setI : ∀ {l : List Itm} {k : Nat} (x : Itm), k < l.length → flat (ivals (l.set k x)) = ((flat (ivals l)).set (k * 2) (.int .i64 x.1)).set (k * 2 + 1) (.string x.2)
  | [], k, x, h => absurd h (by simp)
  | s :: l, 0, x, _ => rfl
  | s :: l, k + 1, x, h => by
    have h2 := flat_setI (l := l) (k := k) x (by simpa using h)
    show flat (ival s :: ivals (l.set k x)) = ((flat (ival s :: ivals l)).set ((k + 1) * 2) (.int .i64 x.1)).set ((k + 1) * 2 + 1) (.string x.2)
    rw [flat_cons, flat_cons, h2, show (k + 1) * 2 + 1 = (k * 2 + 1) + 2 by omega, show (k + 1) * 2 = k * 2 + 2 by omega]
    rfl
/-- an owned row of items: both cells of item k -/
theorem row_at {B g n c k : Nat} {w : World} {l : List Itm} {s : Itm} (h : OwnP 40 B w (.slice (some ⟨g, 0, none⟩) n c) (ivals l)) (hn : l.length = n) (hs : l[k]? = some s) :
    w.cell? ⟨g, k * 2, none⟩ = some (.int .i64 s.1) ∧ w.cell? ⟨g, k * 2 + 1, none⟩ = some (.string s.2) ∧ w.frozen? ⟨g, k * 2, none⟩ = false ∧ w.frozen? ⟨g, k * 2 + 1, none⟩ = false := by
  have hk := (List.getElem?_eq_some_iff.1 hs).1
  obtain ⟨h1, h2⟩ := flat_get (ivals_get hs)
  unfold OwnP at h
  rw [ivals_length, hn] at h
  exact ⟨(h.cellAt (k * 2) (by omega)).trans h1, (h.cellAt (k * 2 + 1) (by omega)).trans h2, h.frozenAt _, h.frozenAt _⟩
/-- an owned row of items: item k stored anew -/
theorem row_set {B g n c k : Nat} {w : World} {l : List Itm} (x : Itm) (h : OwnP 40 B w (.slice (some ⟨g, 0, none⟩) n c) (ivals l)) (hn : l.length = n) (hk : k < n) :
    OwnP 40 B ((w.setCell ⟨g, k * 2, none⟩ (.int .i64 x.1)).setCell ⟨g, k * 2 + 1, none⟩ (.string x.2)) (.slice (some ⟨g, 0, none⟩) n c) (ivals (l.set k x)) := by
  unfold OwnP at h ⊢
  rw [ivals_length, hn] at h
  rw [ivals_length, List.length_set, hn, flat_setI x (by omega)]
  exact ((h.stored (k * 2) _).1.stored (k * 2 + 1) _).1
theorem four_grown (w : World) (g i1 i2 i3 i4 : Nat) (u1 u2 u3 u4 : Value) : w.grownBy ((((w.setCell ⟨g, i1, none⟩ u1).setCell ⟨g, i2, none⟩ u2).setCell ⟨g, i3, none⟩ u3).setCell ⟨g, i4, none⟩ u4).drew (some g) := by
  have h := grown_trans (grown_trans (grown_trans (grown_setCell w g i1 u1) (grown_setCell _ g i2 u2)) (grown_setCell _ g i3 u3)) (grown_setCell _ g i4 u4)
  exact ⟨h.os, h.tape, h.output, h.size, h.block⟩
section
set_option maxHeartbeats 1600000
theorem heapLen_any (A : Option Addr) (n c : Nat) (_hn : n ≤ 2200000) (w : World) : Calls Tryd.prog 53 #[.slice A n c] w fun e w' => e = .returned (.int .i64 (n : Int)) ∧ w' = w := by
  go_enter Tryd.func53, Tryd.ntmps53
  go_wp2
  go_ret
  exact ⟨rfl, rfl⟩
theorem heapLess_any (B g n c i j : Nat) (l : List Itm) (x y : Itm) (w : World) (h : OwnP 40 B w (.slice (some ⟨g, 0, none⟩) n c) (ivals l)) (hl : l.length = n) (hx : l[i]? = some x) (hy : l[j]? = some y) (_hn : n ≤ 2200000) :
    Calls Tryd.prog 126 #[.slice (some ⟨g, 0, none⟩) n c, .int .i64 (i : Int), .int .i64 (j : Int)] w fun e w' => e = .returned (.bool (decide (x.1 < y.1))) ∧ w' = w.drew := by
  obtain ⟨a1, a2, _, _⟩ := row_at h hl hx
  obtain ⟨b1, b2, _, _⟩ := row_at h hl hy
  have hi := (List.getElem?_eq_some_iff.1 hx).1
  have hj := (List.getElem?_eq_some_iff.1 hy).1
  obtain ⟨x1, x2⟩ := x
  obtain ⟨y1, y2⟩ := y
  have i0 : (0 : Int) ≤ (i : Int) := by omega
  have i1 : (i : Int) < (n : Int) := by omega
  have j0 : (0 : Int) ≤ (j : Int) := by omega
  have j1 : (j : Int) < (n : Int) := by omega
  clear h hl hx hy hi hj
  go_enter Tryd.func126, Tryd.ntmps126
  go_wp2_with fail
  go_region
  go_wp2
  go_ret
  exact ⟨rfl, rfl⟩
theorem heapSwap_ne (B g n c i j : Nat) (l : List Itm) (w : World) (h : OwnP 40 B w (.slice (some ⟨g, 0, none⟩) n c) (ivals l)) (hl : l.length = n) (hi : i < n) (hj : j < n) (hij : i ≠ j) (_hn : n ≤ 2200000) :
    Calls Tryd.prog 129 #[.slice (some ⟨g, 0, none⟩) n c, .int .i64 (i : Int), .int .i64 (j : Int)] w fun e w' => e = .returned (.tuple #[]) ∧ OwnP 40 B w' (.slice (some ⟨g, 0, none⟩) n c) (ivals (sw l i j)) ∧ w.grownBy w' (some g) := by
  obtain ⟨⟨x1, x2⟩, hx⟩ : ∃ s, l[i]? = some s := ⟨_, List.getElem?_eq_getElem (by omega)⟩
  obtain ⟨⟨y1, y2⟩, hy⟩ : ∃ s, l[j]? = some s := ⟨_, List.getElem?_eq_getElem (by omega)⟩
  obtain ⟨a1, a2, a3, a4⟩ := row_at h hl hx
  obtain ⟨b1, b2, b3, b4⟩ := row_at h hl hy
  have HE := Lib.hid (show sw l i j = (l.set i (y1, y2)).set j (x1, x2) by unfold sw; rw [hx, hy]; rfl)
  have H := Lib.hid h
  have HLn := Lib.hid hl
  have i0 : (0 : Int) ≤ (i : Int) := by omega
  have i1 : (i : Int) < (n : Int) := by omega
  have j0 : (0 : Int) ≤ (j : Int) := by omega
  have j1 : (j : Int) < (n : Int) := by omega
  have n1 : i * 2 ≠ j * 2 := by omega
  have n2 : i * 2 ≠ j * 2 + 1 := by omega
  have n3 : i * 2 + 1 ≠ j * 2 := by omega
  have n4 : i * 2 + 1 ≠ j * 2 + 1 := by omega
  clear h hl hx hy hij
  go_enter Tryd.func129, Tryd.ntmps129
  go_wp2_with fail
  go_region
  all_goals
    go_wp2
    go_end0
    refine ⟨rfl, ?_, ?_⟩
    · rw [HE.out]
      exact row_set (l := l.set i (y1, y2)) (x1, x2) (row_set (y1, y2) (ownP_below H.out ⟨rfl, rfl, rfl, Nat.le_refl _, fun _ _ => rfl⟩) HLn.out hi) (by rw [List.length_set]; exact HLn.out) hj
    · exact four_grown _ _ _ _ _ _ _ _ _ _
theorem heapSwap_eq (B g n c i : Nat) (l : List Itm) (w : World) (h : OwnP 40 B w (.slice (some ⟨g, 0, none⟩) n c) (ivals l)) (hl : l.length = n) (hi : i < n) (_hn : n ≤ 2200000) :
    Calls Tryd.prog 129 #[.slice (some ⟨g, 0, none⟩) n c, .int .i64 (i : Int), .int .i64 (i : Int)] w fun e w' => e = .returned (.tuple #[]) ∧ OwnP 40 B w' (.slice (some ⟨g, 0, none⟩) n c) (ivals (sw l i i)) ∧ w.grownBy w' (some g) := by
  obtain ⟨⟨x1, x2⟩, hx⟩ : ∃ s, l[i]? = some s := ⟨_, List.getElem?_eq_getElem (by omega)⟩
  obtain ⟨a1, a2, a3, a4⟩ := row_at h hl hx
  have HE := Lib.hid (show sw l i i = (l.set i (x1, x2)).set i (x1, x2) by unfold sw; rw [hx]; rfl)
  have H := Lib.hid h
  have HLn := Lib.hid hl
  have i0 : (0 : Int) ≤ (i : Int) := by omega
  have i1 : (i : Int) < (n : Int) := by omega
  clear h hl hx
  go_enter Tryd.func129, Tryd.ntmps129
  go_wp2_with fail
  go_region
  all_goals
    go_wp2
    go_end0
    refine ⟨rfl, ?_, ?_⟩
    · rw [HE.out]
      exact row_set (l := l.set i (x1, x2)) (x1, x2) (row_set (x1, x2) (ownP_below H.out ⟨rfl, rfl, rfl, Nat.le_refl _, fun _ _ => rfl⟩) HLn.out hi) (by rw [List.length_set]; exact HLn.out) hi
    · exact four_grown _ _ _ _ _ _ _ _ _ _
theorem heapSwap_any (B g n c i j : Nat) (l : List Itm) (w : World) (h : OwnP 40 B w (.slice (some ⟨g, 0, none⟩) n c) (ivals l)) (hl : l.length = n) (hi : i < n) (hj : j < n) (_hn : n ≤ 2200000) :
    Calls Tryd.prog 129 #[.slice (some ⟨g, 0, none⟩) n c, .int .i64 (i : Int), .int .i64 (j : Int)] w fun e w' => e = .returned (.tuple #[]) ∧ OwnP 40 B w' (.slice (some ⟨g, 0, none⟩) n c) (ivals (sw l i j)) ∧ w.grownBy w' (some g) := by
  by_cases hij : i = j
  · subst hij
    exact heapSwap_eq B g n c i l w h hl hi _hn
  · exact heapSwap_ne B g n c i j l w h hl hi hj hij _hn
end
end Go.Proofs.YtkjginibdablnaaDoor
