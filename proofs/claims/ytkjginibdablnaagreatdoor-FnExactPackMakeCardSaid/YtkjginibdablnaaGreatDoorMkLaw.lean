/- What holds of a pack that was made of pieces, in plain Lean. -/
import Derived.Test.YtkjginibdablnaaGreatDoorMkP
import Derived.Test.YtkjginibdablnaaGreatDoorPackGet
namespace Go.Proofs.YtkjginibdablnaaGreatDoor
theorem item_is {k : Nat} {s : ByteArray} (hp : pieceB s.data.toList = true) : rightB k (itemOf k s) = true := by
  unfold rightB itemOf
  rw [bar_toList, (backOk_pad hp).1, (backOk_pad hp).2]
  simp
theorem back_of {s : ByteArray} (hp : pieceB s.data.toList = true) : (⟨(backT (padL s.data.toList)).toArray⟩ : ByteArray) = s := by
  rw [(backOk_pad hp).2]
theorem findI_mem {l : List Itm} {x : Itm} (hs : Strict l) (hx : x ∈ l) : findI l x.1 = some x := by
  unfold findI
  cases h : l.find? (fun y => decide (y.1 = x.1)) with
  | none =>
    have := List.find?_eq_none.1 h x hx
    simp at this
  | some y =>
    have h1 := List.mem_of_find?_eq_some h
    have h2 := List.find?_some h
    simp only [decide_eq_true_eq] at h2
    rw [strict_inj hs h1 hx h2]
theorem madeI_le (no key : Int) (ps : List ByteArray) : (madeI no key ps).length ≤ ps.length := by
  unfold madeI
  split
  · rw [makeI_length]; exact Nat.le_refl _
  · exact Nat.zero_le _
/-- what is known of a pack that was made -/
structure MadeOf (no key : Int) (ps : List ByteArray) (l : List Itm) : Prop where
  no1 : 1 ≤ no ∧ no ≤ 99
  key1 : 1 ≤ key ∧ key ≤ 99
  len : l.length = ps.length
  len4 : 1 ≤ ps.length ∧ ps.length ≤ 4
  pieces : ∀ s ∈ ps, pieceB s.data.toList = true
  ok : packB key no l = true
  strict : Strict l
  perm : l.Perm (ps.map (itemOf key.toNat))
theorem made_of {no key : Int} {ps : List ByteArray} (h : madeB no key ps = true) : MadeOf no key ps (madeI no key ps) ∧ madeN no key ps = no := by
  obtain ⟨h1, h2, h3, h4, h5⟩ := made_parts h
  obtain ⟨e1, e2⟩ := madeI_yes h
  refine ⟨?_, e2⟩
  rw [e1]
  exact ⟨h1, keyB_iff.1 h2, makeI_length _ _, h3, piecesB_all.1 h4, h5, packB_strict h5, makeI_perm _ _⟩
theorem MadeOf.keyB {no key : Int} {ps : List ByteArray} {l : List Itm} (h : MadeOf no key ps l) : keyB key = true := keyB_iff.2 h.key1
theorem MadeOf.item {no key : Int} {ps : List ByteArray} {l : List Itm} {x : Itm} (h : MadeOf no key ps l) (hx : x ∈ l) : ∃ s ∈ ps, x = itemOf key.toNat s := by
  obtain ⟨s, hs, e⟩ := List.mem_map.1 (h.perm.subset hx)
  exact ⟨s, hs, e.symm⟩
theorem MadeOf.sizes {no key : Int} {ps : List ByteArray} {l : List Itm} (h : MadeOf no key ps l) : ∀ s ∈ l, s.2.size ≤ 1048576 := fun x hx => by
  obtain ⟨s, _, rfl⟩ := h.item hx
  exact itemX_size 0 s
theorem chunkT_of {key : Int} {s : ByteArray} (hk : keyB key = true) (hp : pieceB s.data.toList = true) : chunkB key (itemOf key.toNat s) = true ∧ chunkT key (itemOf key.toNat s) = s := by
  have h : chunkB key (itemOf key.toNat s) = true := by rw [chunk_is, hk, item_is hp]; rfl
  refine ⟨h, ?_⟩
  unfold chunkT
  rw [if_pos h]
  exact back_of hp
/-- each piece is in it, by its name -/
theorem MadeOf.get {no key : Int} {ps : List ByteArray} {l : List Itm} {s : ByteArray} (h : MadeOf no key ps l) (hs : s ∈ ps) : getB key l (nameZ key s.data.toList) = true ∧ getT key l (nameZ key s.data.toList) = s := by
  have hp := h.pieces s hs
  have hx : itemOf key.toNat s ∈ l := h.perm.symm.subset (List.mem_map_of_mem (f := itemOf key.toNat) hs)
  have hf := findI_mem h.strict hx
  have hn : nameZ key s.data.toList = (itemOf key.toNat s).1 := nameZ_ok h.keyB hp
  have hc := chunkT_of h.keyB hp
  unfold getB getT
  rw [hn, hf]
  exact hc
/-- by another key nothing of it is right -/
theorem right_key {k o : Nat} {s : ByteArray} (hk : k ≤ 99) (ho : o ≤ 99) (hp : pieceB s.data.toList = true) : rightB o (itemOf k s) = decide (o = k) := by
  unfold rightB itemOf
  rw [bar_toList, (backOk_pad hp).1, (backOk_pad hp).2, Bool.true_and]
  by_cases e : o = k
  · subst e; simp
  · have : ¬ ((nameN o s.data.toList : Nat) : Int) = ((nameN k s.data.toList : Nat) : Int) := fun h => e (nameN_key ho hk hp (by omega))
    simp [e, this]
theorem MadeOf.getKey {no key o : Int} {ps : List ByteArray} {l : List Itm} {x : Itm} (h : MadeOf no key ps l) (ho : 1 ≤ o ∧ o ≤ 99) (hx : x ∈ l) : getB o l x.1 = decide (o = key) := by
  obtain ⟨s, hs, rfl⟩ := h.item hx
  have hk := h.key1
  unfold getB
  rw [findI_mem h.strict hx]
  show chunkB o (itemOf key.toNat s) = decide (o = key)
  rw [chunk_is, keyB_iff.2 ho, Bool.true_and, right_key (by omega) (by omega) (h.pieces s hs)]
  exact decide_eq_decide.2 (by omega)
theorem MadeOf.okKey {no key o : Int} {ps : List ByteArray} {l : List Itm} (h : MadeOf no key ps l) (ho : 1 ≤ o ∧ o ≤ 99) : packB o no l = decide (o = key) := by
  by_cases e : o = key
  · subst e; rw [h.ok]; simp
  · have hl := h.len
    have h4 := h.len4
    have hx : l[0]? = some l[0] := List.getElem?_eq_getElem (by omega)
    obtain ⟨s, hs, e2⟩ := h.item (List.mem_of_getElem? hx)
    have hk := h.key1
    have hr : rightB o.toNat l[0] = false := by
      rw [e2, right_key (by omega) (by omega) (h.pieces s hs)]
      exact decide_eq_false (by omega)
    rw [packB_item (by omega) (okI_right hx hr)]
    exact (decide_eq_false e).symm
/-- one item's body is changed -/
theorem strict_set {l : List Itm} {k : Nat} {x y : Itm} (hs : Strict l) (hx : l[k]? = some x) (hy : y.1 = x.1) : Strict (l.set k y) := by
  have hk := (List.getElem?_eq_some_iff.1 hx).1
  unfold Strict at *
  rw [List.pairwise_iff_getElem] at *
  intro i j hi hj hij
  rw [List.length_set] at hi hj
  have h := hs i j hi hj hij
  have he : l[k] = x := (List.getElem?_eq_some_iff.1 hx).2
  rw [List.getElem_set, List.getElem_set]
  by_cases e1 : k = i
  · subst e1
    rw [if_pos rfl, if_neg (by omega), hy, ← he]
    exact h
  · rw [if_neg e1]
    by_cases e2 : k = j
    · subst e2
      rw [if_pos rfl, hy, ← he]
      exact h
    · rw [if_neg e2]
      exact h
theorem MadeOf.spoilt {no key : Int} {ps : List ByteArray} {l : List Itm} {k : Nat} {x : Itm} {q : ByteArray} (h : MadeOf no key ps l) (hx : l[k]? = some x) (hq : pieceB q.data.toList = true)
    (hne : (⟨(padL q.data.toList).toArray⟩ : ByteArray) ≠ x.2) : packB key no (l.set k (x.1, ⟨(padL q.data.toList).toArray⟩)) = false ∧ getB key (l.set k (x.1, ⟨(padL q.data.toList).toArray⟩)) x.1 = false := by
  obtain ⟨s, hs, e⟩ := h.item (List.mem_of_getElem? hx)
  have hk := (List.getElem?_eq_some_iff.1 hx).1
  have hk1 := h.key1
  have hr : rightB key.toNat (x.1, (⟨(padL q.data.toList).toArray⟩ : ByteArray)) = false := by
    unfold rightB
    rw [bar_toList, (backOk_pad hq).1, (backOk_pad hq).2, Bool.true_and]
    refine decide_eq_false fun hn => hne ?_
    rw [e] at hn ⊢
    have hn2 : nameN key.toNat q.data.toList = nameN key.toNat s.data.toList := by
      have : ((nameN key.toNat q.data.toList : Nat) : Int) = ((nameN key.toNat s.data.toList : Nat) : Int) := hn
      omega
    have := nameN_inj (by omega) hq (h.pieces s hs) hn2
    show (⟨(padL q.data.toList).toArray⟩ : ByteArray) = ⟨(padL s.data.toList).toArray⟩
    rw [this]
  have hget : (l.set k (x.1, (⟨(padL q.data.toList).toArray⟩ : ByteArray)))[k]? = some (x.1, ⟨(padL q.data.toList).toArray⟩) := List.getElem?_set_self hk
  refine ⟨packB_item (by rw [List.length_set]; exact hk) (okI_right hget hr), ?_⟩
  unfold getB
  have := findI_mem (x := (x.1, (⟨(padL q.data.toList).toArray⟩ : ByteArray))) (strict_set (y := (x.1, (⟨(padL q.data.toList).toArray⟩ : ByteArray))) h.strict hx rfl) (List.mem_of_getElem? hget)
  rw [show findI (l.set k (x.1, (⟨(padL q.data.toList).toArray⟩ : ByteArray))) x.1 = some (x.1, ⟨(padL q.data.toList).toArray⟩) from this]
  show chunkB key _ = false
  rw [chunk_is, hr, Bool.and_false]
/-- the order does not matter -/
theorem MadeOf.back {no key : Int} {ps qs : List ByteArray} (h : madeB no key ps = true) (hp : qs.Perm ps) : madeB no key qs = true ∧ madeI no key qs = madeI no key ps ∧ madeN no key qs = madeN no key ps := by
  obtain ⟨hm, hn⟩ := made_of h
  have hk := hm.keyB
  have e : makeI key.toNat qs = madeI no key ps := (strict_eq hm.strict (makeI_srt _ _) (hm.perm.trans ((hp.symm.map _).trans (makeI_perm _ _).symm))).symm
  have hb : madeB no key qs = true := by
    simp only [madeB, Bool.and_eq_true, decide_eq_true_eq]
    refine ⟨hm.no1, hk, ?_, piecesB_all.2 fun s hs => hm.pieces s (hp.subset hs), ?_⟩
    · rw [hp.length_eq]; exact hm.len4
    · rw [e]; exact hm.ok
  obtain ⟨e1, e2⟩ := madeI_yes hb
  exact ⟨hb, e1.trans e, e2.trans hn.symm⟩
/-- one alone; none; one twice; too many -/
theorem MadeOf.one {no key : Int} {ps : List ByteArray} {l : List Itm} {s : ByteArray} (h : MadeOf no key ps l) (hs : s ∈ ps) : madeB no key [s] = true ∧ madeI no key [s] = [itemOf key.toNat s] ∧ madeN no key [s] = no := by
  have hp := h.pieces s hs
  have e : makeI key.toNat [s] = [itemOf key.toNat s] := rfl
  have hb : madeB no key [s] = true := by
    simp only [madeB, Bool.and_eq_true, decide_eq_true_eq]
    refine ⟨h.no1, h.keyB, by simp, by rw [piecesB_all]; intro t ht; rw [List.mem_singleton.1 ht]; exact hp, ?_⟩
    rw [e]
    exact packB_all (decide_eq_true h.no1) h.keyB (by simp) (okToI_all fun i hi => by
      obtain rfl : i = 0 := by simp at hi; exact hi
      exact okI_zero rfl (item_is hp))
  obtain ⟨e1, e2⟩ := madeI_yes hb
  exact ⟨hb, e1.trans e, e2⟩
theorem made_none (no key : Int) : madeB no key [] = false := by simp [madeB]
theorem made_twice (no key : Int) (s : ByteArray) : madeB no key [s, s] = false := by
  cases h : madeB no key [s, s] with
  | false => rfl
  | true =>
    obtain ⟨hm, _⟩ := made_of h
    have h1 : madeI no key [s, s] = makeI key.toNat [s, s] := (madeI_yes h).1
    have h2 : makeI key.toNat [s, s] = [itemOf key.toNat s, itemOf key.toNat s] := by
      show (if (itemOf key.toNat s).1 < (itemOf key.toNat s).1 then _ else _) = _
      rw [if_neg (Int.lt_irrefl _)]
      rfl
    have h3 := hm.strict
    rw [h1, h2] at h3
    have := (List.pairwise_cons.1 h3).1 _ (List.mem_singleton.2 rfl)
    exact absurd this (Int.lt_irrefl _)
theorem made_five (no key : Int) (a b c d e : ByteArray) : madeB no key [a, b, c, d, e] = false := by simp [madeB]
end Go.Proofs.YtkjginibdablnaaGreatDoor
