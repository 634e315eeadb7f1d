/- A pack's items copied into new memory: the worlds in which that is done, whatever the order. -/
import Derived.Test.YtkjginibdablnaaDoorPackM
import Derived.Test.YtkjginibdablnaaDoorHeapM
namespace Go.Proofs.YtkjginibdablnaaDoor
open Go.RowKit
theorem news_all {w : World} {n c : Nat} {ad : Addr} {l : List (Value × Value)} (h : Lp w w.heap.size (.slice (some ad) n c) l) (j : Nat) (u : Value) (hu : (flat l)[j]? = some u) : w.cell? (ad.add j) = some u := by
  have h2 := news_take h l.length j u (by rw [List.take_of_length_le (Nat.le_refl _)]; exact hu)
  exact h2.2
theorem cell_far {w : World} {b b' i j : Nat} {u v : Value} (h : w.cell? ⟨b, i, none⟩ = some v) (hb : b ≠ b') : (w.setCell ⟨b', j, none⟩ u).cell? ⟨b, i, none⟩ = some v := by
  rw [World.cell?_setCell_other _ _ _ _ (fun e => hb (by injection e with e; exact e.symm))]
  exact h
theorem bel_dr {w w' : World} (h : Below w.heap.size w w') : Below w.heap.size w w'.drew := ⟨h.os, h.tape, h.output, h.size, h.block⟩
theorem bel_al1 (w : World) (o : Obj) : Below w.heap.size w (w.alloc o).drew := bel_dr ((Below.refl _ _).alloc (Nat.le_refl _) _)
theorem bel_al2 (w : World) (o o' : Obj) : Below w.heap.size w ((w.alloc o).alloc o').drew := bel_dr (((Below.refl _ w).alloc (Nat.le_refl _) o).alloc (by simp) o')
theorem own_e1 (T : TypeId) (w : World) : OwnP T w.heap.size (w.alloc (.cells #[] T)).drew (.slice (some ⟨w.heap.size, 0, none⟩) 0 0) [] := ownP_empty T w
theorem own_e2 (T : TypeId) (w : World) (o : Obj) : OwnP T w.heap.size ((w.alloc (.cells #[] T)).alloc o).drew (.slice (some ⟨w.heap.size, 0, none⟩) 0 0) [] := ownP_al (ownP_empty T w) o
theorem own_e3 (T : TypeId) (w : World) (o : Obj) : OwnP T w.heap.size ((w.alloc o).alloc (.cells #[] T)).drew (.slice (some ⟨w.heap.size + 1, 0, none⟩) 0 0) [] := by
  have h := ownP_empty T (w.alloc o)
  rw [show (w.alloc o).heap.size = w.heap.size + 1 by simp] at h
  exact ownP_less h (Nat.le_succ _)
theorem two_e2 (w : World) (o : Obj) (x y : Value) (T : TypeId) : Two ((w.alloc o).alloc (.cells #[x, y] T)).drew (w.heap.size + 1) T x y := by
  have h := two_new (w.alloc o) x y T
  rw [show (w.alloc o).heap.size = w.heap.size + 1 by simp] at h
  exact h
theorem two_e3 (w : World) (o : Obj) (x y : Value) (T : TypeId) : Two ((w.alloc (.cells #[x, y] T)).alloc o).drew w.heap.size T x y :=
  (two_new w x y T).keep (row := none) (w' := ((w.alloc (.cells #[x, y] T)).alloc o).drew) (grown_of_bel (bel_dr ((Below.refl _ _).alloc (Nat.le_refl _) _)) none) (by simp)
theorem set_same {α : Type} {l : List α} {i : Nat} {v : α} (h : l[i]? = some v) : l.set i v = l := by
  apply List.ext_getElem?
  intro j
  by_cases e : i = j
  · subst e
    rw [List.getElem?_set_self (List.getElem?_eq_some_iff.1 h).1, h]
  · rw [List.getElem?_set_ne e]
theorem row_body {B g n c k : Nat} {w : World} {l : List Itm} {x : Int} {z : ByteArray} (y : ByteArray) (h : OwnP 40 B w (.slice (some ⟨g, 0, none⟩) n c) (ivals l)) (hn : l.length = n) (hx : l[k]? = some (x, z)) :
    OwnP 40 B (w.setCell ⟨g, k * 2 + 1, none⟩ (.string y)) (.slice (some ⟨g, 0, none⟩) n c) (ivals (l.set k (x, y))) := by
  have hk := (List.getElem?_eq_some_iff.1 hx).1
  unfold OwnP at h ⊢
  rw [ivals_length, hn] at h
  rw [ivals_length, List.length_set, hn, flat_setI _ hk, set_same (flat_get (ivals_get hx)).1]
  exact (h.stored (k * 2 + 1) _).1
/-- a copy of a pack, with what was changed -/
def Copied (w : World) (no : Int) (m : Nat) (l : List Itm) (p : Value) (wx : World) : Prop :=
  ∃ b g c, p = .pointer (some ⟨b, 0, none⟩) ∧ Two wx b 29 (.int .i64 no) (.slice (some ⟨g, 0, none⟩) m c) ∧ OwnP 40 w.heap.size wx (.slice (some ⟨g, 0, none⟩) m c) (ivals l) ∧ g ≠ b ∧ w.heap.size ≤ b ∧ Below w.heap.size w wx
theorem copied_new {w w9 : World} {no : Int} {m g c : Nat} {l : List Itm} (ho : OwnP 40 w.heap.size w9 (.slice (some ⟨g, 0, none⟩) m c) (ivals l)) (hb : Below w.heap.size w w9) :
    Copied w no m l (.pointer (some ⟨w9.heap.size, 0, none⟩)) (w9.alloc (.cells #[.int .i64 no, .slice (some ⟨g, 0, none⟩) m c] 29)) :=
  ⟨w9.heap.size, g, c, rfl, two_new _ _ _ _, ownP_al ho _, (by have h2 : g < w9.heap.size := (ownP_lt ho rfl).2; omega), hb.size, hb.alloc hb.size _⟩
theorem copied_old {w w9 : World} {no : Int} {m g c b : Nat} {l : List Itm} {x y : Value} (ho : OwnP 40 w.heap.size w9 (.slice (some ⟨g, 0, none⟩) m c) (ivals l)) (hb : Below w.heap.size w w9) (ht : Two w9 b 29 x y) (hgb : g ≠ b) (hwb : w.heap.size ≤ b) :
    Copied w no m l (.pointer (some ⟨b, 0, none⟩)) ((w9.setCell ⟨b, 0, none⟩ (.int .i64 no)).setCell ⟨b, 1, none⟩ (.slice (some ⟨g, 0, none⟩) m c)) := by
  have hne : (Value.slice (some ⟨g, 0, none⟩) m c).ownBlock ≠ some b := fun e => hgb (Option.some.inj e)
  exact ⟨b, g, c, rfl, (ht.set0 _).set1 _, ownP_set_ne (ownP_set_ne ho hne 0 _) hne 1 _, hgb, hwb, (hb.setCell (by show w.heap.size ≤ b; exact hwb) _).setCell (by show w.heap.size ≤ b; exact hwb) _⟩
end Go.Proofs.YtkjginibdablnaaDoor
