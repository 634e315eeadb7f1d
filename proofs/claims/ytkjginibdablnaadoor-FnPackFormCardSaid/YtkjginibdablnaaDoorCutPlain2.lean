/- Plain laws of cutting, second part: a cut text's rest is cut as if it began there; what comes behind changes no piece that ended ahead; when pieces are those of a text. -/
import Derived.Test.YtkjginibdablnaaDoorCutPlain
namespace Go.Proofs.YtkjginibdablnaaDoor

theorem ltr_drop (l : List UInt8) (a i : Nat) : ltr (l.drop a) i = ltr l (a + i) := by
  simp [ltr, List.getD_eq_getElem?_getD, List.getElem?_drop]
theorem bnd_drop (l : List UInt8) (a i : Nat) (h : 3 ≤ i) : bnd (l.drop a) i = bnd l (a + i) := by
  unfold bnd
  rw [ltr_drop, ltr_drop, ltr_drop, show a + i - 1 = a + (i - 1) by omega, show a + i - 2 = a + (i - 2) by omega, show a + i - 3 = a + (i - 3) by omega]
theorem cutGo_drop (l : List UInt8) (a fr : Nat) (ha : a ≤ l.length) : ∀ f i, 3 ≤ i → a + cutGo (l.drop a) fr f i = cutGo l (a + fr) f (a + i)
  | 0, i, _ => by rw [cutGo_zero, cutGo_zero, List.length_drop]; omega
  | f + 1, i, h => by
    by_cases hi : i < l.length - a
    · cases hb : bnd l (a + i) with
      | true => rw [cutGo_yes (by rw [List.length_drop]; exact hi) (by rw [bnd_drop l a i h]; exact hb), cutGo_yes (by omega) hb]
      | false =>
        rw [cutGo_no (by rw [List.length_drop]; exact hi) (by rw [bnd_drop l a i h]; exact hb), cutGo_no (by omega) hb, cutGo_drop l a fr ha f (i + 1) (by omega)]
        rfl
    · rw [cutGo_stop (by rw [List.length_drop]; exact hi), cutGo_stop (by omega), List.length_drop]; omega
theorem cutE_drop (l : List UInt8) (a fr : Nat) (ha : a ≤ l.length) : a + cutE (l.drop a) fr = cutE l (a + fr) := cutGo_drop l a fr ha 5 (fr + 3) (by omega)
theorem endsAt_drop (l : List UInt8) (a : Nat) (ha : a ≤ l.length) : ∀ fr, (endsAt (l.drop a) fr).map (a + ·) = endsAt l (a + fr) := by
  apply endsAt_ind
  · intro fr h
    rw [endsAt_nil h, endsAt_nil (by rw [List.length_drop] at h; omega)]; rfl
  · intro fr h ih
    have e2 : a + fr < l.length := by rw [List.length_drop] at h; omega
    rw [endsAt_cons h, List.map_cons, ih, cutE_drop l a fr ha]
    exact (endsAt_cons e2).symm
theorem piecesAt_drop (l : List UInt8) (a : Nat) : ∀ es fr, piecesAt (l.drop a) fr es = piecesAt l (a + fr) (es.map (a + ·))
  | [], _ => rfl
  | e :: es, fr => by
    simp only [piecesAt, List.map_cons]
    rw [piecesAt_drop l a es e, List.drop_drop, show a + e - (a + fr) = e - fr by omega]
theorem pieces_drop (l : List UInt8) (a : Nat) (ha : a ≤ l.length) : pieces (l.drop a) = piecesAt l a (endsAt l a) := by
  unfold pieces ends
  rw [piecesAt_drop, endsAt_drop l a ha]; rfl

/-- where the k-th piece behind a place begins -/
def atk (l : List UInt8) : Nat → Nat → Nat
  | fr, 0 => fr
  | fr, k + 1 => atk l (cutE l fr) k
theorem endsAt_get (l : List UInt8) : ∀ k fr, k < (endsAt l fr).length → (endsAt l fr)[k]? = some (atk l fr (k + 1))
  | k, fr, h => by
    by_cases hl : fr < l.length
    · rw [endsAt_cons hl] at h ⊢
      cases k with
      | zero => rfl
      | succ k =>
        rw [List.getElem?_cons_succ]
        exact endsAt_get l k (cutE l fr) (by simpa using h)
    · rw [endsAt_nil hl] at h; simp at h
theorem piecesAt_get (l : List UInt8) : ∀ k fr, k < (endsAt l fr).length → (piecesAt l fr (endsAt l fr))[k]? = some ((l.drop (atk l fr k)).take (atk l fr (k + 1) - atk l fr k)) ∧ atk l fr k < atk l fr (k + 1) ∧ atk l fr (k + 1) ≤ l.length
  | k, fr, h => by
    by_cases hl : fr < l.length
    · rw [endsAt_cons hl] at h ⊢
      cases k with
      | zero => exact ⟨rfl, cutE_gt hl, cutE_le hl⟩
      | succ k =>
        simp only [piecesAt, List.getElem?_cons_succ]
        exact piecesAt_get l k (cutE l fr) (by simpa using h)
    · rw [endsAt_nil hl] at h; simp at h
theorem endsAt_atk (l : List UInt8) : ∀ k fr, k ≤ (endsAt l fr).length → (endsAt l fr).drop k = endsAt l (atk l fr k) ∧ (piecesAt l fr (endsAt l fr)).drop k = piecesAt l (atk l fr k) (endsAt l (atk l fr k))
  | 0, fr, _ => ⟨rfl, rfl⟩
  | k + 1, fr, h => by
    by_cases hl : fr < l.length
    · rw [endsAt_cons hl] at h ⊢
      exact endsAt_atk l k (cutE l fr) (by simpa using h)
    · rw [endsAt_nil hl] at h; simp at h
theorem atk_le (l : List UInt8) : ∀ k fr, fr ≤ l.length → k ≤ (endsAt l fr).length → atk l fr k ≤ l.length
  | 0, fr, h, _ => h
  | k + 1, fr, h, hk => by
    by_cases hl : fr < l.length
    · rw [endsAt_cons hl] at hk
      exact atk_le l k (cutE l fr) (cutE_le hl) (by simpa using hk)
    · rw [endsAt_nil hl] at hk; simp at hk
theorem atk_succ (l : List UInt8) : ∀ k fr, atk l fr (k + 1) = cutE l (atk l fr k)
  | 0, _ => rfl
  | k + 1, fr => atk_succ l k (cutE l fr)
theorem atk_end (l : List UInt8) : atk l 0 (ends l).length = l.length := by
  have h1 := (endsAt_atk l (ends l).length 0 (Nat.le_refl _)).1
  have h2 := atk_le l (ends l).length 0 (Nat.zero_le _) (Nat.le_refl _)
  rw [show endsAt l 0 = ends l from rfl, List.drop_length] at h1
  by_cases h : atk l 0 (ends l).length < l.length
  · rw [endsAt_cons h] at h1; cases h1
  · omega
theorem pieces_rest (l : List UInt8) (k : Nat) (hk : k ≤ (ends l).length) : pieces (l.drop (atk l 0 k)) = (pieces l).drop k := by
  rw [pieces_drop l _ (atk_le l k 0 (Nat.zero_le _) hk)]
  exact (endsAt_atk l k 0 hk).2.symm

theorem bnd_append (l t : List UInt8) (i : Nat) (h : i < l.length) : bnd (l ++ t) i = bnd l i := by
  have h1 : ∀ j, j ≤ i → ltr (l ++ t) j = ltr l j := fun j hj => by
    simp [ltr, List.getD_eq_getElem?_getD, List.getElem?_append_left (show j < l.length by omega)]
  unfold bnd
  rw [h1 _ (by omega), h1 _ (by omega), h1 _ (by omega)]
theorem cutGo_append (l t : List UInt8) (fr : Nat) : ∀ f i, cutGo l fr f i < l.length → cutGo (l ++ t) fr f i = cutGo l fr f i
  | 0, i, h => by rw [cutGo_zero] at h ⊢; rw [cutGo_zero, List.length_append]; omega
  | f + 1, i, h => by
    by_cases hi : i < l.length
    · have hi' : i < (l ++ t).length := by rw [List.length_append]; omega
      cases hb : bnd l i with
      | true => rw [cutGo_yes hi hb, cutGo_yes hi' (by rw [bnd_append l t i hi]; exact hb)]
      | false =>
        rw [cutGo_no hi hb] at h
        rw [cutGo_no hi hb, cutGo_no hi' (by rw [bnd_append l t i hi]; exact hb)]
        exact cutGo_append l t fr f (i + 1) h
    · rw [cutGo_stop hi] at h; omega
theorem cutE_append (l t : List UInt8) (fr : Nat) (h : cutE l fr < l.length) : cutE (l ++ t) fr = cutE l fr := cutGo_append l t fr 5 (fr + 3) h
theorem pieces_ahead (l t : List UInt8) : ∀ fr, (piecesAt (l ++ t) fr (endsAt (l ++ t) fr)).take ((endsAt l fr).length - 1) = (piecesAt l fr (endsAt l fr)).take ((endsAt l fr).length - 1) ∧
    (endsAt l fr).length ≤ (endsAt (l ++ t) fr).length := by
  apply endsAt_ind
  · intro fr h
    rw [endsAt_nil h]; simp
  · intro fr h ih
    have hl' : fr < (l ++ t).length := by rw [List.length_append]; omega
    have hle := cutE_le h
    by_cases he : cutE l fr = l.length
    · rw [endsAt_cons h, he, endsAt_nil (by omega), endsAt_cons hl']
      simp
    · have hlt : cutE l fr < l.length := by omega
      have hE := endsAt_cons hlt
      rw [endsAt_cons h, endsAt_cons hl', cutE_append l t fr hlt]
      obtain ⟨h1, h2⟩ := ih
      simp only [piecesAt, List.length_cons, Nat.add_sub_cancel]
      refine ⟨?_, by omega⟩
      have hn : (endsAt l (cutE l fr)).length = ((endsAt l (cutE l fr)).length - 1) + 1 := by rw [hE]; simp
      rw [hn, List.take_succ_cons, List.take_succ_cons, h1]
      congr 1
      rw [List.drop_append_of_le_length (by omega), List.take_append_of_le_length (by rw [List.length_drop]; omega)]

/-- a text with letters, but not more than three, is one piece -/
theorem pieces_one (l : List UInt8) (h1 : 1 ≤ l.length) (h3 : l.length ≤ 3) : cutE l 0 = l.length ∧ pieces l = [l] := by
  have hp : 0 < l.length := by omega
  have h := cutE_min hp
  have hle := cutE_le hp
  have he : cutE l 0 = l.length := by omega
  refine ⟨he, ?_⟩
  unfold pieces ends
  rw [endsAt_cons hp, he, endsAt_nil (by omega)]
  simp [piecesAt]

/-- each piece of a text: it has a letter, at most eight, and, but for the last, at least three -/
theorem piecesAt_size {l : List UInt8} : ∀ fr, ∀ i p, (piecesAt l fr (endsAt l fr))[i]? = some p → 1 ≤ p.length ∧ p.length ≤ 8 ∧ (p.length < 3 → i + 1 = (endsAt l fr).length) ∧ (∃ a n, p = (l.drop a).take n) := by
  apply endsAt_ind
  · intro fr h i p hp
    rw [endsAt_nil h] at hp; simp [piecesAt] at hp
  · intro fr h ih i p hp
    have hg := cutE_gt h
    have hle := cutE_le h
    have hm := cutE_max h
    have hn := cutE_min h
    rw [endsAt_cons h] at hp ⊢
    cases i with
    | zero =>
      simp only [piecesAt, List.getElem?_cons_zero, Option.some.injEq] at hp
      subst hp
      have hlen : ((l.drop fr).take (cutE l fr - fr)).length = cutE l fr - fr := by rw [List.length_take, List.length_drop]; omega
      rw [hlen]
      refine ⟨by omega, by omega, fun h3 => ?_, _, _, rfl⟩
      rw [endsAt_nil (by omega)]; rfl
    | succ i =>
      simp only [piecesAt, List.getElem?_cons_succ] at hp
      obtain ⟨h1, h2, h3, h4⟩ := ih i p hp
      refine ⟨h1, h2, fun hh => ?_, h4⟩
      have := h3 hh
      simp only [List.length_cons]; omega
theorem pieces_size {l : List UInt8} {i : Nat} {p : List UInt8} (h : (pieces l)[i]? = some p) : 1 ≤ p.length ∧ p.length ≤ 8 ∧ (p.length < 3 → i + 1 = (pieces l).length) := by
  obtain ⟨h1, h2, h3, _⟩ := piecesAt_size 0 i p h
  exact ⟨h1, h2, fun hh => by rw [pieces_length]; exact h3 hh⟩
theorem pieces_lets {l : List UInt8} (hl : lets l = true) {i : Nat} {p : List UInt8} (h : (pieces l)[i]? = some p) : pieceB p = true := by
  obtain ⟨h1, h2, _, a, n, rfl⟩ := piecesAt_size 0 i p h
  have : lets ((l.drop a).take n) = true := by
    simp only [lets, List.all_eq_true] at hl ⊢
    exact fun x hx => hl x (List.mem_of_mem_drop (List.mem_of_mem_take hx))
  simp only [pieceB, this, Bool.and_true, Bool.and_eq_true, decide_eq_true_eq]
  exact ⟨h1, h2⟩
/-- the pairs of a piece's start and end -/
def spansAt : Nat → List Nat → List (Nat × Nat)
  | _, [] => []
  | fr, e :: es => (fr, e) :: spansAt e es
def spans (l : List UInt8) : List (Nat × Nat) := spansAt 0 (ends l)
theorem spansAt_ends : ∀ (es : List Nat) (fr : Nat), (spansAt fr es).map (·.2) = es
  | [], _ => rfl
  | e :: es, fr => by simp [spansAt, spansAt_ends es e]
theorem spansAt_pieces (l : List UInt8) : ∀ (es : List Nat) (fr : Nat), (spansAt fr es).map (fun p => (l.drop p.1).take (p.2 - p.1)) = piecesAt l fr es
  | [], _ => rfl
  | e :: es, fr => by simp [spansAt, piecesAt, spansAt_pieces l es e]
theorem spansAt_length : ∀ (es : List Nat) (fr : Nat), (spansAt fr es).length = es.length
  | [], _ => rfl
  | e :: es, fr => by simp [spansAt, spansAt_length es e]
theorem spansAt_mem {l : List UInt8} : ∀ fr, ∀ p ∈ spansAt fr (endsAt l fr), p.1 < p.2 ∧ p.2 ≤ l.length := by
  apply endsAt_ind
  · intro fr h p hp
    rw [endsAt_nil h] at hp; simp [spansAt] at hp
  · intro fr h ih p hp
    rw [endsAt_cons h] at hp
    simp only [spansAt, List.mem_cons] at hp
    rcases hp with rfl | hp
    · exact ⟨cutE_gt h, cutE_le h⟩
    · exact ih p hp
/-- a pair of places of a text, the first before the second -/
abbrev SpanOf (l : List UInt8) : Type := { p : Nat × Nat // p.1 < p.2 ∧ p.2 ≤ l.length }
def spansP (l : List UInt8) : List (SpanOf l) := (spans l).pmap (fun p h => ⟨p, h⟩) (fun p hp => spansAt_mem 0 p hp)
theorem spansP_map (l : List UInt8) : (spansP l).map (·.1) = spans l := by
  unfold spansP
  rw [List.map_pmap]
  simp
theorem spansP_length (l : List UInt8) : (spansP l).length = (ends l).length := by
  unfold spansP
  rw [List.length_pmap, spans, spansAt_length]
theorem spansP_ends (l : List UInt8) : (spansP l).map (·.1.2) = ends l := by
  have h := spansAt_ends (ends l) 0
  rw [← spans, ← spansP_map, List.map_map] at h
  exact h
theorem spansP_pieces (l : List UInt8) : (spansP l).map (fun p => (l.drop p.1.1).take (p.1.2 - p.1.1)) = pieces l := by
  have h := spansAt_pieces l (ends l) 0
  rw [← spans, ← spansP_map, List.map_map] at h
  exact h
end Go.Proofs.YtkjginibdablnaaDoor
