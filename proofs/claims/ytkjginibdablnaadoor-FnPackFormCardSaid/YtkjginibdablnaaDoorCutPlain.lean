/- Plain laws of how a text is cut: where a piece ends, and all the ends, one behind the other. No program in sight. -/
import Derived.Test.YtkjginibdablnaaDoorClass
namespace Go.Proofs.YtkjginibdablnaaDoor

/-- a letter as a number from 0 to 25 (of a text) -/
def ltr (l : List UInt8) (i : Nat) : Int := ((l.getD i 0).toNat : Int) - 97
/-- is there a boundary at i? -/
def bnd (l : List UInt8) (i : Nat) : Bool := (ltr l (i - 1) + 2 * ltr l (i - 2) + 3 * ltr l (i - 3)) % 5 == 0
def cutGo (l : List UInt8) (fr : Nat) : Nat → Nat → Nat
  | 0, _ => min (fr + 8) l.length
  | f + 1, i => if i < l.length then (if bnd l i = true then i else cutGo l fr f (i + 1)) else l.length
/-- where the piece ends that begins at fr -/
def cutE (l : List UInt8) (fr : Nat) : Nat := cutGo l fr 5 (fr + 3)

theorem cutGo_stop {l : List UInt8} {fr f i : Nat} (h : ¬ i < l.length) : cutGo l fr (f + 1) i = l.length := by
  simp [cutGo, h]
theorem cutGo_yes {l : List UInt8} {fr f i : Nat} (h : i < l.length) (hb : bnd l i = true) : cutGo l fr (f + 1) i = i := by
  simp [cutGo, h, hb]
theorem cutGo_no {l : List UInt8} {fr f i : Nat} (h : i < l.length) (hb : bnd l i = false) : cutGo l fr (f + 1) i = cutGo l fr f (i + 1) := by
  simp [cutGo, h, hb]
theorem cutGo_zero (l : List UInt8) (fr i : Nat) : cutGo l fr 0 i = min (fr + 8) l.length := rfl

/-- what an end is, of a search that stands at i with f places left -/
theorem cutGo_spec (l : List UInt8) (fr : Nat) : ∀ f i, i + f = fr + 8 → fr + 3 ≤ i → fr < l.length →
    fr < cutGo l fr f i ∧ cutGo l fr f i ≤ l.length ∧ cutGo l fr f i ≤ fr + 8 ∧ (cutGo l fr f i = l.length ∨ i ≤ cutGo l fr f i) ∧
    (∀ e, i ≤ e → e < cutGo l fr f i → bnd l e = false) ∧
    (cutGo l fr f i = l.length ∨ cutGo l fr f i = fr + 8 ∨ bnd l (cutGo l fr f i) = true)
  | 0, i, h, h3, hl => by
    rw [cutGo_zero]
    refine ⟨by omega, by omega, by omega, by omega, fun e h1 h2 => by omega, by omega⟩
  | f + 1, i, h, h3, hl => by
    by_cases hi : i < l.length
    · cases hb : bnd l i with
      | true =>
        rw [cutGo_yes hi hb]
        exact ⟨by omega, by omega, by omega, by omega, fun e h1 h2 => by omega, .inr (.inr hb)⟩
      | false =>
        rw [cutGo_no hi hb]
        obtain ⟨h1, h2, h4, h5, h6, h7⟩ := cutGo_spec l fr f (i + 1) (by omega) (by omega) hl
        refine ⟨h1, h2, h4, by omega, fun e he1 he2 => ?_, h7⟩
        by_cases hei : e = i
        · rw [hei]; exact hb
        · exact h6 e (by omega) he2
    · rw [cutGo_stop hi]
      exact ⟨by omega, by omega, by omega, .inl rfl, fun e h1 h2 => by omega, .inl rfl⟩

theorem cutE_gt {l : List UInt8} {fr : Nat} (h : fr < l.length) : fr < cutE l fr := (cutGo_spec l fr 5 (fr + 3) (by omega) (by omega) h).1
theorem cutE_le {l : List UInt8} {fr : Nat} (h : fr < l.length) : cutE l fr ≤ l.length := (cutGo_spec l fr 5 (fr + 3) (by omega) (by omega) h).2.1
theorem cutE_max {l : List UInt8} {fr : Nat} (h : fr < l.length) : cutE l fr ≤ fr + 8 := (cutGo_spec l fr 5 (fr + 3) (by omega) (by omega) h).2.2.1
theorem cutE_min {l : List UInt8} {fr : Nat} (h : fr < l.length) : cutE l fr = l.length ∨ fr + 3 ≤ cutE l fr := (cutGo_spec l fr 5 (fr + 3) (by omega) (by omega) h).2.2.2.1
theorem cutE_none {l : List UInt8} {fr : Nat} (h : fr < l.length) : ∀ e, fr + 3 ≤ e → e < cutE l fr → bnd l e = false := (cutGo_spec l fr 5 (fr + 3) (by omega) (by omega) h).2.2.2.2.1
theorem cutE_why {l : List UInt8} {fr : Nat} (h : fr < l.length) : cutE l fr = l.length ∨ cutE l fr = fr + 8 ∨ bnd l (cutE l fr) = true := (cutGo_spec l fr 5 (fr + 3) (by omega) (by omega) h).2.2.2.2.2

/-- the ends from a place on, with fuel -/
def endsF (l : List UInt8) : Nat → Nat → List Nat
  | 0, _ => []
  | f + 1, fr => if fr < l.length then cutE l fr :: endsF l f (cutE l fr) else []
/-- the ends of all pieces from a place on -/
def endsAt (l : List UInt8) (fr : Nat) : List Nat := endsF l (l.length - fr) fr
theorem endsF_more (l : List UInt8) : ∀ f fr, l.length - fr ≤ f → endsF l f fr = endsF l (l.length - fr) fr
  | 0, fr, h => by rw [show l.length - fr = 0 by omega]
  | f + 1, fr, h => by
    by_cases hl : fr < l.length
    · have hg := cutE_gt hl
      rw [show l.length - fr = (l.length - fr - 1) + 1 by omega]
      simp only [endsF, if_pos hl]
      rw [endsF_more l f (cutE l fr) (by omega), endsF_more l (l.length - fr - 1) (cutE l fr) (by omega)]
    · rw [show l.length - fr = 0 by omega]
      simp [endsF, hl]
theorem endsAt_cons {l : List UInt8} {fr : Nat} (h : fr < l.length) : endsAt l fr = cutE l fr :: endsAt l (cutE l fr) := by
  have hg := cutE_gt h
  unfold endsAt
  rw [show l.length - fr = (l.length - fr - 1) + 1 by omega]
  simp only [endsF, if_pos h]
  rw [endsF_more l (l.length - fr - 1) (cutE l fr) (by omega)]
theorem endsAt_nil {l : List UInt8} {fr : Nat} (h : ¬ fr < l.length) : endsAt l fr = [] := by
  unfold endsAt
  rw [show l.length - fr = 0 by omega]; rfl
def ends (l : List UInt8) : List Nat := endsAt l 0

/-- the pieces between a place and ends -/
def piecesAt (l : List UInt8) : Nat → List Nat → List (List UInt8)
  | _, [] => []
  | fr, e :: es => (l.drop fr).take (e - fr) :: piecesAt l e es
def pieces (l : List UInt8) : List (List UInt8) := piecesAt l 0 (ends l)
theorem piecesAt_length (l : List UInt8) : ∀ es fr, (piecesAt l fr es).length = es.length
  | [], _ => rfl
  | _ :: es, _ => by simp [piecesAt, piecesAt_length l es]
theorem pieces_length (l : List UInt8) : (pieces l).length = (ends l).length := piecesAt_length l _ _

/-- induction along the ends -/
theorem endsAt_ind {l : List UInt8} {P : Nat → Prop} (h0 : ∀ fr, ¬ fr < l.length → P fr) (h1 : ∀ fr, fr < l.length → P (cutE l fr) → P fr) : ∀ fr, P fr := by
  intro fr
  generalize hn : l.length - fr = n
  induction n using Nat.strongRecOn generalizing fr with
  | ind n ih =>
    by_cases hl : fr < l.length
    · have hg := cutE_gt hl
      exact h1 fr hl (ih (l.length - cutE l fr) (by omega) _ rfl)
    · exact h0 fr hl

theorem endsAt_join {l : List UInt8} : ∀ fr, (piecesAt l fr (endsAt l fr)).flatten = l.drop fr := by
  apply endsAt_ind
  · intro fr h
    rw [endsAt_nil h, List.drop_eq_nil_of_le (by omega)]; rfl
  · intro fr h ih
    have hg := cutE_gt h
    rw [endsAt_cons h]
    simp only [piecesAt, List.flatten_cons, ih]
    rw [show l.drop (cutE l fr) = (l.drop fr).drop (cutE l fr - fr) by rw [List.drop_drop]; congr 1; omega, List.take_append_drop]
theorem pieces_join (l : List UInt8) : (pieces l).flatten = l := by
  have := endsAt_join (l := l) 0
  simpa [pieces, ends] using this

theorem endsAt_length {l : List UInt8} : ∀ fr, 3 * (endsAt l fr).length ≤ l.length - fr + 2 ∧ l.length - fr ≤ 8 * (endsAt l fr).length := by
  apply endsAt_ind
  · intro fr h
    rw [endsAt_nil h]; simp; omega
  · intro fr h ih
    have hg := cutE_gt h
    have hm := cutE_max h
    have hn := cutE_min h
    have hle := cutE_le h
    rw [endsAt_cons h]
    simp only [List.length_cons]
    by_cases he : cutE l fr = l.length
    · rw [endsAt_nil (by omega)] at ih ⊢
      simp at ih ⊢; omega
    · omega
end Go.Proofs.YtkjginibdablnaaDoor
