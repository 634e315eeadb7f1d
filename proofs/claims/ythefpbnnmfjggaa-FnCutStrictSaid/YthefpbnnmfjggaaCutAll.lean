/- The four functions that list ends and pieces of any string: of a text its own; of what is no text none. -/
import Derived.Test.YthefpbnnmfjggaaRange
import Derived.Test.YthefpbnnmfjggaaLists
namespace Go.Proofs.Ythefpbnnmfjggaa
open Go.RowKit

def endsZ (l : List UInt8) : List Nat := if textB l = true then ends l else []
def piecesZ (l : List UInt8) : List (List UInt8) := if textB l = true then pieces l else []
theorem endsZ_no {l : List UInt8} (h : textB l = false) : endsZ l = [] := by simp [endsZ, h]
theorem piecesZ_no {l : List UInt8} (h : textB l = false) : piecesZ l = [] := by simp [piecesZ, h]
theorem endsZ_yes {l : List UInt8} (h : textB l = true) : endsZ l = ends l := by simp [endsZ, h]
theorem piecesZ_yes {l : List UInt8} (h : textB l = true) : piecesZ l = pieces l := by simp [piecesZ, h]

/-- a list in new memory has come back -/
def GaveOwn (T : TypeId) (xs : List Value) (w : World) (e : Ending) (w' : World) : Prop := ∃ v, e = .returned v ∧ w'.ownsRow w.heap.size T 1 v xs.length xs ∧ Below w.heap.size w w'
theorem gave_lst {T : TypeId} {xs : List Value} {w w' : World} {e : Ending} (h : GaveOwn T xs w e w') : ∃ v, e = .returned v ∧ Lst w' w'.heap.size v xs ∧ Below w.heap.size w w' := by
  obtain ⟨v, h1, h2, h3⟩ := h
  exact ⟨v, h1, lst_of_own h2, h3⟩
theorem bel_trans {w w1 w2 : World} (h : Below w.heap.size w w1) (k : Below w1.heap.size w1 w2) : Below w.heap.size w w2 := h.trans (k.mono h.size)
theorem bel_drew {w w' : World} {n : Nat} (h : Below (w.drewN n).heap.size (w.drewN n) w') : Below w.heap.size w w' := ⟨h.os, h.tape, h.output, h.size, h.block⟩
theorem lst_next {w w' : World} {v : Value} {xs : List Value} (h : Lst w w.heap.size v xs) (hb : Below w.heap.size w w') : Lst w' w'.heap.size v xs := lst_more (lst_below h hb) hb.size
theorem lst_at {w : World} {B n c k : Nat} {A : Option Addr} {x : Value} {xs : List Value} (h : Lst w B (.slice A n c) xs) (hk : xs[k]? = some x) : ∃ g off, A = some ⟨g, off, none⟩ ∧ g < B ∧ w.cell? ⟨g, off + k, none⟩ = some x := by
  obtain ⟨A', c', hv, hc, hx⟩ := h
  cases hv
  have hlt : k < xs.length := (List.getElem?_eq_some_iff.1 hk).1
  obtain ⟨g, off, hA, hg, hcell⟩ := hx (by omega)
  exact ⟨g, off, hA, hg, hcell k x hk⟩
theorem bars_get {l : List (List UInt8)} {k : Nat} {s : ByteArray} (h : (bars l)[k]? = some s) : l[k]? = some s.data.toList := by
  simp only [bars, List.getElem?_map, Option.map_eq_some_iff] at h
  obtain ⟨p, hp, rfl⟩ := h
  exact hp
theorem own_empty (w : World) (T : TypeId) : (w.alloc (.cells #[] T)).ownsRow w.heap.size T 1 (.slice (some ⟨w.heap.size, 0, none⟩) 0 0) 0 [] :=
  World.ownsRow_made (size := 1) w #[] 0 (Nat.le_refl _) (by unfold maxLen; omega) (by simp)

section
set_option maxHeartbeats 400000
theorem cutAllS_any (s : ByteArray) (w : World) (hs : s.size ≤ maxLen) : Calls Try.prog 17 #[.string s] w (GaveOwn 9 (strVals (piecesZ s.data.toList)) w) := by
  cases ht : textB s.data.toList with
  | false =>
    rw [piecesZ_no ht]
    have HS := Lib.hid hs
    clear hs
    go_enter Try.func17, Try.ntmps17
    go_wp2_with (go_at_call 18; refine (textOkS_any _ _ HS.out).mono ?_; rintro e w' ⟨rfl, rfl⟩)
    go_ret
    exact ⟨_, rfl, own_empty w _, (Below.refl _ _).alloc (Nat.le_refl _) _⟩
  | true =>
    rw [piecesZ_yes ht]
    obtain ⟨h40, hl⟩ := textB_parts ht
    have HL := Lib.hid hl
    have HS := Lib.hid hs
    clear hl hs
    go_enter Try.func17, Try.ntmps17
    go_wp2_with (go_at_call 18; refine (textOkS_any _ _ HS.out).mono ?_; rintro e w' ⟨rfl, rfl⟩)
    refine (l1All_any s _ h40 HL.out).mono ?_
    rintro e w' ⟨v, rfl, ho, hb⟩
    have HO := Lib.hid ho
    have HB := Lib.hid hb
    clear ho hb
    go_wp2
    go_ret
    exact ⟨v, rfl, by rw [strVals_length]; exact HO.out, HB.out⟩
theorem cutAll_any (s : ByteArray) (w : World) (hs : s.size ≤ maxLen) : Calls Try.prog 15 #[.string s] w (GaveOwn 9 (strVals (piecesZ s.data.toList)) w) := by
  cases ht : textB s.data.toList with
  | false =>
    rw [piecesZ_no ht]
    have HS := Lib.hid hs
    clear hs
    go_enter Try.func15, Try.ntmps15
    go_wp2_with (go_at_call 22; refine (textOk_any _ _ HS.out).mono ?_; rintro e w' ⟨rfl, rfl⟩)
    go_ret
    exact ⟨_, rfl, World.ownsRow_nil _ _ _ _, (Below.refl _ _).alloc (Nat.le_refl _) _⟩
  | true =>
    rw [piecesZ_yes ht]
    obtain ⟨h40, hl⟩ := textB_parts ht
    refine (cutAll_text s w h40 hl).mono ?_
    rintro e w' ⟨v, rfl, ho, hb⟩
    exact ⟨v, rfl, by rw [strVals_length]; exact ho, hb⟩
end
end Go.Proofs.Ythefpbnnmfjggaa
