/- Items in order, however they were put in order: a pack of pieces is the reference's. -/
import Derived.Test.YtkjginibdablnaaDoorPackMk
namespace Go.Proofs.YtkjginibdablnaaDoor
def itemX (key : Int) (s : ByteArray) : Itm := (nameZ key s.data.toList, ⟨(padL s.data.toList).toArray⟩)
theorem itemX_of {k : Nat} {s : ByteArray} (hk : keyB (k : Int) = true) (hp : pieceB s.data.toList = true) : itemX (k : Int) s = itemOf k s := by
  unfold itemX itemOf
  rw [nameZ_ok hk hp, Int.toNat_natCast]
def Strict (l : List Itm) : Prop := l.Pairwise fun a b => a.1 < b.1
theorem strict_srt {l : List Itm} (h : Strict l) : Srt l := List.Pairwise.imp (fun h => Int.le_of_lt h) h
theorem strict_inj : ∀ {l : List Itm} {a b : Itm}, Strict l → a ∈ l → b ∈ l → a.1 = b.1 → a = b
  | [], _, _, _, ha, _, _ => by cases ha
  | x :: l, a, b, h, ha, hb, e => by
    obtain ⟨h1, h2⟩ := List.pairwise_cons.1 h
    rcases List.mem_cons.1 ha with e1 | ha1
    · rcases List.mem_cons.1 hb with e2 | hb1
      · rw [e1, e2]
      · have := h1 b hb1
        rw [e1] at e
        omega
    · rcases List.mem_cons.1 hb with e2 | hb1
      · have := h1 a ha1
        rw [e2] at e
        omega
      · exact strict_inj h2 ha1 hb1 e
theorem strict_eq : ∀ {l m : List Itm}, Strict l → Srt m → l.Perm m → l = m
  | [], m, _, _, hp => (List.nil_perm.1 hp).symm
  | x :: l, m, hl, hm, hp => by
    obtain ⟨h1, h2⟩ := List.pairwise_cons.1 hl
    match m, hm, hp with
    | [], _, hp => exact absurd (List.perm_nil.1 hp) (by simp)
    | y :: m, hm, hp =>
      obtain ⟨k1, k2⟩ := List.pairwise_cons.1 hm
      have hy : y ∈ x :: l := hp.symm.subset (by simp)
      have hx : x ∈ y :: m := hp.subset (by simp)
      have e : x = y := by
        rcases List.mem_cons.1 hy with e | hy
        · exact e.symm
        · rcases List.mem_cons.1 hx with e | hx
          · exact e
          · have := h1 y hy
            have := k1 x hx
            omega
      subst e
      rw [strict_eq h2 k2 ((List.perm_cons x).1 hp)]
theorem lt_of_next {l : List Itm} (h : ∀ (j : Nat) (x y : Itm), l[j]? = some x → l[j + 1]? = some y → x.1 < y.1) : ∀ (j i : Nat) (x y : Itm), i < j → l[i]? = some x → l[j]? = some y → x.1 < y.1
  | 0, _, _, _, hij, _, _ => by omega
  | j + 1, i, x, y, hij, hx, hy => by
    by_cases e : i = j
    · subst e
      exact h i x y hx hy
    · obtain ⟨z, hz⟩ : ∃ z, l[j]? = some z := ⟨_, List.getElem?_eq_getElem (by have := (List.getElem?_eq_some_iff.1 hy).1; omega)⟩
      exact Int.lt_trans (lt_of_next h j i x z (by omega) hx hz) (h j z y hz hy)
theorem packB_next {key no : Int} {l : List Itm} {j : Nat} {x y : Itm} (h : packB key no l = true) (hx : l[j]? = some x) (hy : l[j + 1]? = some y) : x.1 < y.1 := by
  have h1 := okToI_of (packB_parts h).2.2.2 (List.getElem?_eq_some_iff.1 hy).1
  simp only [okI, hy, ordI, hx, Bool.and_eq_true, decide_eq_true_eq] at h1
  exact h1.2
theorem packB_strict {key no : Int} {l : List Itm} (h : packB key no l = true) : Strict l := by
  unfold Strict
  rw [List.pairwise_iff_getElem]
  intro i j hi hj hij
  exact lt_of_next (fun j x y hx hy => packB_next h hx hy) j i _ _ hij (List.getElem?_eq_getElem hi) (List.getElem?_eq_getElem hj)
theorem packB_right {key no : Int} {l : List Itm} {x : Itm} (h : packB key no l = true) (hx : x ∈ l) : rightB key.toNat x = true := by
  obtain ⟨i, hi, e⟩ := List.mem_iff_getElem.1 hx
  have h1 := okToI_of (packB_parts h).2.2.2 hi
  simp only [okI, List.getElem?_eq_getElem hi, e, Bool.and_eq_true] at h1
  exact h1.1
theorem foldl_perm (k : Nat) : ∀ (ps : List ByteArray) (l : List Itm), (ps.foldl (fun l p => putI l (itemOf k p)) l).Perm (l ++ ps.map (itemOf k))
  | [], l => by simp
  | p :: ps, l => by
    rw [List.foldl_cons, List.map_cons]
    refine (foldl_perm k ps _).trans ?_
    have h1 : (putI l (itemOf k p) ++ ps.map (itemOf k)).Perm ((itemOf k p :: l) ++ ps.map (itemOf k)) := (putI_perm l _).append_right _
    refine h1.trans ?_
    rw [List.cons_append]
    exact List.perm_middle.symm
theorem makeI_perm (k : Nat) (ps : List ByteArray) : (makeI k ps).Perm (ps.map (itemOf k)) := foldl_perm k ps []
theorem foldl_srt (k : Nat) : ∀ (ps : List ByteArray) (l : List Itm), Srt l → Srt (ps.foldl (fun l p => putI l (itemOf k p)) l)
  | [], _, h => h
  | p :: ps, l, h => by
    rw [List.foldl_cons]
    exact foldl_srt k ps _ (putI_srt h)
theorem makeI_srt (k : Nat) (ps : List ByteArray) : Srt (makeI k ps) := foldl_srt k ps [] List.Pairwise.nil
theorem backOk_nil : backOk [] = false := by decide +kernel
theorem back_piece {l : List UInt8} (h : backOk (padL l) = true) : pieceB l = true := by
  cases hp : pieceB l with
  | true => rfl
  | false => rw [padL_no hp, backOk_nil] at h; cases h
theorem map_of {k : Nat} {ps : List ByteArray} (hk : keyB (k : Int) = true) (hp : piecesB ps = true) : ps.map (itemX (k : Int)) = ps.map (itemOf k) :=
  List.map_congr_left fun s hs => itemX_of hk (piecesB_all.1 hp s hs)
theorem key_nat {key : Int} (h : keyB key = true) : key = ((key.toNat : Nat) : Int) := by have := keyB_iff.1 h; omega
theorem made_parts {no key : Int} {ps : List ByteArray} (h : madeB no key ps = true) : (1 ≤ no ∧ no ≤ 99) ∧ keyB key = true ∧ (1 ≤ ps.length ∧ ps.length ≤ 4) ∧ piecesB ps = true ∧ packB key no (makeI key.toNat ps) = true := by
  simp only [madeB, Bool.and_eq_true, decide_eq_true_eq] at h
  exact ⟨h.1, h.2.1, h.2.2.1, h.2.2.2.1, h.2.2.2.2⟩
/-- items in order, of the pieces: they are right if and only if the reference's are; then they are the same -/
theorem sorted_is {no key : Int} {ps : List ByteArray} {l : List Itm} (hp : l.Perm (ps.map (itemX key))) (hs : Srt l) : packB key no l = madeB no key ps ∧ (packB key no l = true → l = makeI key.toNat ps) := by
  have main : packB key no l = true → madeB no key ps = true ∧ l = makeI key.toNat ps := fun h => by
    obtain ⟨h1, h2, h3, _⟩ := packB_parts h
    have hpi : piecesB ps = true := piecesB_all.2 fun s hs => by
      have hx := packB_right h (hp.symm.subset (List.mem_map_of_mem (f := itemX key) hs))
      simp only [rightB, Bool.and_eq_true] at hx
      exact back_piece hx.1
    have hm : ps.map (itemX key) = ps.map (itemOf key.toNat) := by
      have := map_of (k := key.toNat) (ps := ps) (by rw [← key_nat h2]; exact h2) hpi
      rw [← key_nat h2] at this
      exact this
    rw [hm] at hp
    have e : l = makeI key.toNat ps := strict_eq (packB_strict h) (makeI_srt _ _) (hp.trans (makeI_perm _ _).symm)
    have hlen : l.length = ps.length := by rw [hp.length_eq, List.length_map]
    rw [hlen] at h3
    refine ⟨?_, e⟩
    simp only [madeB, Bool.and_eq_true, decide_eq_true_eq]
    exact ⟨h1, h2, h3, hpi, e ▸ h⟩
  refine ⟨?_, fun h => (main h).2⟩
  cases hb : packB key no l with
  | true => exact (main hb).1.symm
  | false =>
    cases hmb : madeB no key ps with
    | false => rfl
    | true =>
      obtain ⟨_, h2, _, hpi, h5⟩ := made_parts hmb
      have hm : ps.map (itemX key) = ps.map (itemOf key.toNat) := by
        have := map_of (k := key.toNat) (ps := ps) (by rw [← key_nat h2]; exact h2) hpi
        rw [← key_nat h2] at this
        exact this
      rw [hm] at hp
      have e : makeI key.toNat ps = l := strict_eq (packB_strict h5) hs ((makeI_perm _ _).trans hp.symm)
      rw [e] at h5
      rw [h5] at hb
      cases hb
theorem sorted_made {no key : Int} {ps : List ByteArray} {l : List Itm} (hp : l.Perm (ps.map (itemX key))) (hs : Srt l) (h : packB key no l = true) : madeB no key ps = true ∧ madeI no key ps = l ∧ madeN no key ps = no := by
  obtain ⟨h1, h2⟩ := sorted_is (no := no) hp hs
  rw [h] at h1
  obtain ⟨h3, h4⟩ := madeI_yes h1.symm
  exact ⟨h1.symm, by rw [h3]; exact (h2 h).symm, h4⟩
theorem sorted_not {no key : Int} {ps : List ByteArray} {l : List Itm} (hp : l.Perm (ps.map (itemX key))) (hs : Srt l) (h : packB key no l = false) : madeB no key ps = false := by
  rw [← (sorted_is (no := no) hp hs).1]; exact h
theorem itemX_size (key : Int) (s : ByteArray) : (itemX key s).2.size ≤ 1048576 := by
  show (⟨(padL s.data.toList).toArray⟩ : ByteArray).size ≤ 1048576
  rw [bar_size]
  have := padL_len8 s.data.toList
  omega
theorem perm_sizes {key : Int} {ps : List ByteArray} {l : List Itm} (hp : l.Perm (ps.map (itemX key))) : ∀ s ∈ l, s.2.size ≤ 1048576 := fun s hs => by
  obtain ⟨p, _, rfl⟩ := List.mem_map.1 (hp.subset hs)
  exact itemX_size key p
end Go.Proofs.YtkjginibdablnaaDoor
