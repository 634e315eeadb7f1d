/- Slices of structs of two cells: how they lie, how they are kept, and how they are laid end to end. -/
import Derived.Test.YtkjginibdablnaaDoorText
import Derived.WalkKit
import Derived.Below
import Derived.Laws.MakeOwn
import Derived.Laws.OwnMore
import Derived.Deep.RegionHeld3
import Derived.Deep.AppendLies
namespace Go.Proofs.YtkjginibdablnaaDoor
open Go.RowKit
/-- a slice whose elements' two cells hold ps -/
def Lp (w : World) (B : Nat) (v : Value) (ps : List (Value × Value)) : Prop :=
  ∃ A c, v = .slice A ps.length c ∧ ps.length ≤ c ∧ (0 < ps.length → ∃ g off, A = some ⟨g, off, none⟩ ∧ g < B ∧ ∀ (j : Nat) (s : Value × Value), ps[j]? = some s → w.cell? ⟨g, off + j * 2, none⟩ = some s.1 ∧ w.cell? ⟨g, off + j * 2 + 1, none⟩ = some s.2)
def flat (ps : List (Value × Value)) : List Value := ps.flatMap fun s => [s.1, s.2]
theorem flat_cons (s : Value × Value) (ps : List (Value × Value)) : flat (s :: ps) = s.1 :: s.2 :: flat ps := rfl
theorem flat_append (l m : List (Value × Value)) : flat (l ++ m) = flat l ++ flat m := by simp [flat]
theorem flat_length : ∀ l : List (Value × Value), (flat l).length = l.length * 2
  | [] => rfl
  | s :: l => by rw [flat_cons]; simp only [List.length_cons]; rw [flat_length l]; omega
theorem flat_get : ∀ {l : List (Value × Value)} {i : Nat} {s : Value × Value}, l[i]? = some s → (flat l)[i * 2]? = some s.1 ∧ (flat l)[i * 2 + 1]? = some s.2
  | t :: l, 0, s, h => by
    injection h with h
    subst h
    exact ⟨rfl, rfl⟩
  | t :: l, i + 1, s, h => by
    have h2 := flat_get (l := l) (i := i) (s := s) (by simpa using h)
    rw [flat_cons, show (i + 1) * 2 = i * 2 + 1 + 1 by omega]
    exact h2
/-- a slice in memory new since B -/
def OwnP (T B : Nat) (w : World) (v : Value) (ps : List (Value × Value)) : Prop := w.ownsRow B T 2 v ps.length (flat ps)
theorem lp_of_own {T B : Nat} {w : World} {v : Value} {l : List (Value × Value)} (ho : OwnP T B w v l) : Lp w w.heap.size v l := by
  rcases ho.2 with ⟨hv, h0⟩ | ⟨g, cap, cur, hv, hb, hg, hnc, hcm, hcs, htk⟩
  · exact ⟨none, 0, by rw [hv, h0], by omega, fun h => by omega⟩
  · subst hv
    refine ⟨some ⟨g, 0, none⟩, cap, rfl, hnc, fun h0 => ⟨g, 0, rfl, ?_, fun j s hj => ?_⟩⟩
    · rcases Nat.lt_or_ge g w.heap.size with hlt | hge
      · exact hlt
      · rw [Array.getElem?_eq_none hge] at hg; cases hg
    · have hjl := (List.getElem?_eq_some_iff.1 hj).1
      obtain ⟨h1, h2⟩ := flat_get hj
      rw [Nat.zero_add]
      exact ⟨(ho.cellAt (j * 2) (by omega)).trans h1, (ho.cellAt (j * 2 + 1) (by omega)).trans h2⟩
theorem lp_keep {w w' : World} {B : Nat} {v : Value} {l : List (Value × Value)} (h : Lp w B v l) (hk : ∀ g, g < B → w'.heap[g]? = w.heap[g]?) : Lp w' B v l := by
  obtain ⟨A, c, hv, hc, hx⟩ := h
  refine ⟨A, c, hv, hc, fun h0 => ?_⟩
  obtain ⟨g, off, hA, hg, hcell⟩ := hx h0
  refine ⟨g, off, hA, hg, fun j s hj => ?_⟩
  obtain ⟨h1, h2⟩ := hcell j s hj
  exact ⟨(World.cell?_of_block (a := ⟨g, off + j * 2, none⟩) (hk g hg)).trans h1, (World.cell?_of_block (a := ⟨g, off + j * 2 + 1, none⟩) (hk g hg)).trans h2⟩
theorem lp_more {w : World} {B B' : Nat} {v : Value} {l : List (Value × Value)} (h : Lp w B v l) (hB : B ≤ B') : Lp w B' v l := by
  obtain ⟨A, c, hv, hc, hx⟩ := h
  refine ⟨A, c, hv, hc, fun h0 => ?_⟩
  obtain ⟨g, off, hA, hg, hcell⟩ := hx h0
  exact ⟨g, off, hA, by omega, hcell⟩
theorem lp_next {w w' : World} {v : Value} {l : List (Value × Value)} (h : Lp w w.heap.size v l) (hb : Below w.heap.size w w') : Lp w' w'.heap.size v l := lp_more (lp_keep h fun g hg => hb.block g hg) hb.size
theorem lp_drewN {w : World} {B : Nat} {v : Value} {l : List (Value × Value)} (h : Lp w B v l) (n : Nat) : Lp (w.drewN n) B v l := h
theorem lp_form {w : World} {B : Nat} {v : Value} {l : List (Value × Value)} (h : Lp w B v l) : ∃ A c, v = .slice A l.length c := by
  obtain ⟨A, c, hv, _⟩ := h
  exact ⟨A, c, hv⟩
theorem lp_cap {w : World} {B n c : Nat} {A : Option Addr} {l : List (Value × Value)} (h : Lp w B (.slice A n c) l) : l.length ≤ c ∧ n = l.length := by
  obtain ⟨A', c', hv, hc, _⟩ := h
  cases hv
  exact ⟨hc, rfl⟩
theorem lp_at {w : World} {B n c k : Nat} {A : Option Addr} {s : Value × Value} {l : List (Value × Value)} (h : Lp w B (.slice A n c) l) (hk : l[k]? = some s) : ∃ g off, A = some ⟨g, off, none⟩ ∧ g < B ∧ w.cell? ⟨g, off + k * 2, none⟩ = some s.1 ∧ w.cell? ⟨g, off + k * 2 + 1, none⟩ = some s.2 := by
  obtain ⟨A', c', hv, hc, hx⟩ := h
  cases hv
  have hlt : k < l.length := (List.getElem?_eq_some_iff.1 hk).1
  obtain ⟨g, off, hA, hg, hcell⟩ := hx (by omega)
  exact ⟨g, off, hA, hg, hcell k s hk⟩
theorem bel2 {w w1 w2 : World} (h : Below w.heap.size w w1) (k : Below w1.heap.size w1 w2) : Below w.heap.size w w2 := h.trans (k.mono h.size)
theorem belD {w w' : World} {n : Nat} (h : Below (w.drewN n).heap.size (w.drewN n) w') : Below w.heap.size w w' := ⟨h.os, h.tape, h.output, h.size, h.block⟩
theorem lp_none (w : World) (B : Nat) : Lp w B (.slice none 0 0) [] := ⟨none, 0, rfl, Nat.le_refl _, fun h => absurd h (by simp)⟩
theorem ownP_empty (T : Nat) (w : World) : OwnP T w.heap.size (w.alloc (.cells #[] T)) (.slice (some ⟨w.heap.size, 0, none⟩) 0 0) [] :=
  World.ownsRow_lit w #[] 0 (Nat.le_refl _) (by unfold maxLen; omega) rfl
theorem ownP_nil (T B : Nat) (w : World) : OwnP T B w (.slice none 0 0) [] := World.ownsRow_nil w B T 2
theorem ownP_lt {T B g : Nat} {w : World} {v : Value} {l : List (Value × Value)} (h : OwnP T B w v l) (hg : v.ownBlock = some g) : B ≤ g ∧ g < w.heap.size := by
  obtain ⟨h1, h2⟩ := h.lt g hg
  exact ⟨h1, h2⟩
theorem ownP_kept {T B : Nat} {w w' : World} {v : Value} {l : List (Value × Value)} {row : Option Nat} (h : OwnP T B w v l) (hg : w.grownBy w' row) (hne : v.ownBlock = none ∨ v.ownBlock ≠ row) : OwnP T B w' v l := h.kept hg hne
theorem grown_of_bel {a w : World} (h : Below a.heap.size a w) (row : Option Nat) : a.grownBy w row := ⟨h.os, h.tape, h.output, h.size, fun i hi _ => h.block i hi⟩
theorem ownP_below {T B : Nat} {w w' : World} {v : Value} {l : List (Value × Value)} (h : OwnP T B w v l) (hb : Below w.heap.size w w') : OwnP T B w' v l := h.kept (grown_of_bel hb none) (Classical.em _)
theorem ownP_pick {T B r : Nat} {w w' : World} {v : Value} {l : List (Value × Value)} (h : OwnP T B w v l) (hg : w.grownBy w' (some r)) (hr : r < B) : OwnP T B w' v l :=
  ownP_kept h hg (by
    cases e2 : v.ownBlock with
    | none => exact .inl rfl
    | some g => right; intro e3; injection e3 with e3; have := (ownP_lt h e2).1; omega)
theorem ownP_less {T B B' : Nat} {w : World} {v : Value} {l : List (Value × Value)} (h : OwnP T B w v l) (hB : B' ≤ B) : OwnP T B' w v l := by
  refine ⟨h.1, ?_⟩
  rcases h.2 with h2 | ⟨g, cap, cur, hv, hb, rest⟩
  · exact .inl h2
  · exact .inr ⟨g, cap, cur, hv, by omega, rest⟩
theorem bel_gb {B : Nat} {a b c : World} {row : Option Nat} (h : Below B a b) (hg : b.grownBy c row) (hB : B ≤ b.heap.size) (hr : ∀ g, row = some g → B ≤ g) : Below B a c := h.grown hg hB hr
theorem gb_below {B r : Nat} {a w : World} (h : a.grownBy w (some r)) (hB : B ≤ r) (hs : B ≤ a.heap.size) : Below B a w := ⟨h.os, h.tape, h.output, h.size, fun i hi => h.block i (by omega) (fun e => by cases e; omega)⟩
theorem lit_at (w : World) (cs : Array Value) (T : TypeId) (j : Nat) (v : Value) (h : cs[j]? = some v) : (w.alloc (.cells cs T)).cell? ⟨w.heap.size, j, none⟩ = some v := by
  rw [cell_of_row _ _ j _ _ (0, 0) (heap_alloc_new w _)]
  exact h
theorem add_at (g off n : Nat) : (⟨g, off, none⟩ : Addr).add n = ⟨g, off + n, none⟩ := by
  unfold Addr.add
  split
  · subst_vars; rfl
  · rfl
theorem run_make_p {P : Program} (t e : TypeId) (i : TypeInfo) (z : Value) (ht : P.underlying t = some (.slice e)) (hi : P.info? e = some i) (hz : i.zero = some z)
    (n : Nat) (hbytes : i.bytes * n ≤ 281474976710656) (h63 : n ≤ 9223372036854775807) (w : World) :
    (Instr.makeSlice t (.int .i64 (n : Int)) (.int .i64 (n : Int))).run P w = .ok (.slice (some ⟨w.heap.size, 0, none⟩) n n) (w.alloc (.cells (madeCells z.cells (n * i.size)) e)) := by
  have hb : (i.bytes : Int) * (n : Int) ≤ 281474976710656 := by
    have h : ((i.bytes * n : Nat) : Int) ≤ 281474976710656 := by omega
    rwa [Int.natCast_mul] at h
  have hr := run_make (P := P) w t e i z ht hi hz .i64 .i64 n n (by omega) (by omega) hb (by omega)
  simp only [Int.toNat_natCast] at hr
  exact hr
/-- from AD on lie the cells of l -/
def News (w : World) (AD : Addr) (l : List (Value × Value)) : Prop := ∀ j u, (flat l)[j]? = some u → (AD.add j).block < w.heap.size ∧ w.cell? (AD.add j) = some u
theorem news_of {w : World} {n c k : Nat} {ad AD : Addr} {l : List (Value × Value)} (h : Lp w w.heap.size (.slice (some ad) n c) l) (hAD : k < l.length → AD = ad.add (k * 2)) : News w AD (l.drop k) := by
  intro j u hj
  obtain ⟨A', c', hv, hc, hx⟩ := h
  have hj2 : j < (flat (l.drop k)).length := (List.getElem?_eq_some_iff.1 hj).1
  rw [flat_length, List.length_drop] at hj2
  obtain ⟨g, off, hA, hg, hcell⟩ := hx (by omega)
  cases hv
  cases hA
  have hA2 := hAD (by omega)
  have hs : l[k + j / 2]? = some l[k + j / 2] := List.getElem?_eq_getElem (by omega)
  obtain ⟨h1, h2⟩ := hcell _ _ hs
  obtain ⟨b1, b2⟩ := flat_get (l := l.drop k) (i := j / 2) (s := l[k + j / 2]) (by rw [List.getElem?_drop]; exact hs)
  have hadd : AD.add j = ⟨g, off + k * 2 + j, none⟩ := by
    rw [hA2, add_at, add_at]
  rw [hadd]
  refine ⟨hg, ?_⟩
  rcases Nat.mod_two_eq_zero_or_one j with e | e
  · have : j = j / 2 * 2 := by omega
    rw [this] at hj
    rw [b1] at hj
    injection hj with hj
    rw [show off + k * 2 + j = off + (k + j / 2) * 2 by omega, h1, hj]
  · have : j = j / 2 * 2 + 1 := by omega
    rw [this] at hj
    rw [b2] at hj
    injection hj with hj
    rw [show off + k * 2 + j = off + (k + j / 2) * 2 + 1 by omega, h2, hj]
theorem news_drop {w : World} {n c k : Nat} {ad AD : Addr} {l : List (Value × Value)} (h : Lp w w.heap.size (.slice (some ad) n c) l) (hAD : (if c = k then some ad else some (ad.add (k * 2))) = some AD) : News w AD (l.drop k) := by
  refine news_of h fun hk => ?_
  have hc := (lp_cap h).1
  rw [if_neg (by omega)] at hAD
  injection hAD with hAD
  exact hAD.symm
theorem news_take {w : World} {n c : Nat} {ad : Addr} {l : List (Value × Value)} (h : Lp w w.heap.size (.slice (some ad) n c) l) (k : Nat) : News w ad (l.take k) := by
  have h0 : News w ad (l.drop 0) := news_of h fun h0 => by
    obtain ⟨A', c', hv, hc, hx⟩ := h
    obtain ⟨g, off, hA, hg, hcell⟩ := hx h0
    cases hv
    cases hA
    rfl
  intro j u hj
  refine h0 j u ?_
  rw [List.drop_zero]
  have e : flat l = flat (l.take k) ++ flat (l.drop k) := by rw [← flat_append, List.take_append_drop]
  rw [e, List.getElem?_append_left (List.getElem?_eq_some_iff.1 hj).1]
  exact hj
/-- cells that one slot of the machine holds each -/
def Ones (l : List (Value × Value)) : Prop := ∀ u ∈ flat l, u.oneCell' = true
theorem ones_append {l m : List (Value × Value)} (h : Ones l) (k : Ones m) : Ones (l ++ m) := fun u hu => by
  rw [flat_append] at hu
  rcases List.mem_append.1 hu with h1 | h1
  · exact h u h1
  · exact k u h1
/-- since w a slice of its own has been laid -/
def Grew (T : Nat) (w W : World) (v : Value) (l : List (Value × Value)) : Prop := OwnP T w.heap.size W v l ∧ Below w.heap.size w W
theorem grew_start (T : Nat) (w : World) : Grew T w (w.alloc (.cells #[] T)).drew (.slice (some ⟨w.heap.size, 0, none⟩) 0 0) [] := by
  refine ⟨ownP_empty T w, ?_⟩
  have h : Below w.heap.size w (w.alloc (.cells #[] T)) := (Below.refl _ _).alloc (Nat.le_refl _) _
  exact ⟨h.os, h.tape, h.output, h.size, h.block⟩
theorem run_append_p (w W : World) (t T : TypeId) (i0 : TypeInfo) (z : Value) (bytes : Nat) (ht : Tryd.prog.underlying t = some (.slice T)) (hi : Tryd.prog.info? T = some i0) (hz0 : i0.zero = some z) (hz1 : i0.size = 2) (hz2 : i0.bytes = bytes) (hzs : z.cells.size = 2) (hby : bytes ≤ 1000)
    (v : Value) (l1 : List (Value × Value)) (hgr : Grew T w W v l1) (ad : Addr) (c : Nat) (l2 : List (Value × Value))
    (hnews : ∀ j u, (flat l2)[j]? = some u → W.cell? (ad.add j) = some u) (h1 : Ones l2) (hl : l1.length + l2.length ≤ 2000000) (ty : TypeId) :
    ∃ v' w', (Builtin.append_ #[t, t] ty #[v, .slice (some ad) l2.length c]).run Tryd.prog W = .ok v' w' ∧ Grew T w w' v' (l1 ++ l2) ∧ W.grownBy w' v.ownBlock := by
  obtain ⟨hown, hb⟩ := hgr
  have hmul : (l1.length + l2.length) * bytes ≤ 2000000 * 1000 := Nat.mul_le_mul hl hby
  obtain ⟨v', w', hr, h2, h3, h4, h5⟩ := run_append_own_at (P := Tryd.prog) W w.heap.size t ty T i0 z 2 bytes ht hi hz0 hz1 hz2 hzs (by decide)
    v l1.length (flat l1) hown ad l2.length c (flat l2) (flat_length l2) hnews h1 (by unfold maxLen; omega) (by omega) hb.size
  refine ⟨v', w', hr, ⟨?_, bel_gb hb h3 hb.size fun g hg => (hown.lt g hg).1⟩, h3⟩
  unfold OwnP
  rw [flat_append, List.length_append]
  exact h2
theorem step_append_p (w W : World) {ops : Array Oper} {o : Oper} {a : Act} {K : Act → World → Prop} {Q : Exit → Act → World → Prop} {E : Prop} (hgd : o.guard = none) (s x : Operand)
    (t T : TypeId) (ho : o.op = .call { callee := .builtin .append, args := #[s, x], argTypes := #[t, t] })
    (i0 : TypeInfo) (z : Value) (bytes : Nat) (ht : Tryd.prog.underlying t = some (.slice T)) (hi : Tryd.prog.info? T = some i0) (hz0 : i0.zero = some z) (hz1 : i0.size = 2) (hz2 : i0.bytes = bytes) (hzs : z.cells.size = 2) (hby : bytes ≤ 1000)
    (v : Value) (l1 : List (Value × Value)) (hs : a.eval s = v) (hgr : Grew T w W v l1) (ad : Addr) (m c : Nat) (l2 : List (Value × Value)) (hx : a.eval x = .slice (some ad) m c) (hm : l2.length = m)
    (hnews : ∀ j u, (flat l2)[j]? = some u → W.cell? (ad.add j) = some u) (h1 : Ones l2) (hl : l1.length + l2.length ≤ 2000000) (h : ∀ v' w', Grew T w w' v' (l1 ++ l2) → W.grownBy w' v.ownBlock → K (a.put o.dst v') w') :
    if Region.wanted o (yielded ops a.tmps) = true then Oper.wp Tryd.prog o a W K Q else E := by
  have hw : Region.wanted o (yielded ops a.tmps) = true := by simp [Region.wanted, hgd]
  rw [if_pos hw]
  subst hm
  obtain ⟨v', w', hr, h2, h3⟩ := run_append_p w W t T i0 z bytes ht hi hz0 hz1 hz2 hzs hby v l1 hgr ad c l2 hnews h1 hl o.type
  unfold Oper.wp execOp
  simp only [ho, resolve, invoke, builtin, Sem.run_bind, Sem.run_pure, Result.andThen_ok, List.map_toArray, List.map_cons, List.map_nil, hs, hx, hr]
  exact h v' w' h2 h3
theorem wpList_append_p (w W : World) {ops : Array Oper} {rest : List Oper} {o : Oper} {a : Act} {Q : Exit → Act → World → Prop} (hgd : o.guard = none) (s x : Operand)
    (t T : TypeId) (ho : o.op = .call { callee := .builtin .append, args := #[s, x], argTypes := #[t, t] })
    (i0 : TypeInfo) (z : Value) (bytes : Nat) (ht : Tryd.prog.underlying t = some (.slice T)) (hi : Tryd.prog.info? T = some i0) (hz0 : i0.zero = some z) (hz1 : i0.size = 2) (hz2 : i0.bytes = bytes) (hzs : z.cells.size = 2) (hby : bytes ≤ 1000)
    (v : Value) (l1 : List (Value × Value)) (hs : a.eval s = v) (hgr : Grew T w W v l1) (ad : Addr) (m c : Nat) (l2 : List (Value × Value)) (hx : a.eval x = .slice (some ad) m c) (hm : l2.length = m)
    (hnews : ∀ j u, (flat l2)[j]? = some u → W.cell? (ad.add j) = some u) (h1 : Ones l2) (hl : l1.length + l2.length ≤ 2000000) (h : ∀ v' w', Grew T w w' v' (l1 ++ l2) → W.grownBy w' v.ownBlock → wpList Tryd.prog ops Q rest (a.put o.dst v') w') :
    wpList Tryd.prog ops Q (o :: rest) a W := by
  refine wpList_plain hgd fun K hK => ?_
  subst hm
  obtain ⟨v', w', hr, h2, h3⟩ := run_append_p w W t T i0 z bytes ht hi hz0 hz1 hz2 hzs hby v l1 hgr ad c l2 hnews h1 hl o.type
  unfold Oper.wp execOp
  simp only [ho, resolve, invoke, builtin, Sem.run_bind, Sem.run_pure, Result.andThen_ok, List.map_toArray, List.map_cons, List.map_nil, hs, hx, hr]
  exact hK _ _ (h v' w' h2 h3)
/-- one element, laid in a block of its own -/
theorem news_one (w W : World) (x y : Value) (T : TypeId) (hb : Below (w.heap.size + 1) (w.alloc (.cells #[x, y] T)) W) : ∀ j u, (flat [(x, y)])[j]? = some u → W.cell? ((⟨w.heap.size, 0, none⟩ : Addr).add j) = some u := by
  intro j u hj
  rw [add_at, Nat.zero_add]
  rw [hb.cell (p := ⟨w.heap.size, j, none⟩) (Nat.lt_succ_self _)]
  refine lit_at w _ T j u ?_
  match j, hj with
  | 0, hj => simpa [flat] using hj
  | 1, hj => simpa [flat] using hj
  | j + 2, hj => simp [flat] at hj
end Go.Proofs.YtkjginibdablnaaDoor
