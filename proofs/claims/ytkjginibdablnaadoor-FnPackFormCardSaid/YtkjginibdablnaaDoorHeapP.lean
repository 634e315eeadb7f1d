/- A heap by number, in plain Lean: what its two loops keep, and that what is taken off its top comes in order. -/
import Derived.Test.YtkjginibdablnaaDoorItem
namespace Go.Proofs.YtkjginibdablnaaDoor

def nm (l : List Itm) (k : Nat) : Int := ((l[k]?).map (·.1)).getD 0
theorem nm_at {l : List Itm} {k : Nat} {s : Itm} (h : l[k]? = some s) : nm l k = s.1 := by simp [nm, h]
/-- two items change their places -/
def sw (l : List Itm) (i j : Nat) : List Itm := (l.set i (l[j]?.getD (0, ByteArray.empty))).set j (l[i]?.getD (0, ByteArray.empty))
theorem sw_length (l : List Itm) (i j : Nat) : (sw l i j).length = l.length := by simp [sw]
theorem sw_perm {l : List Itm} {i j : Nat} (hi : i < l.length) (hj : j < l.length) : (sw l i j).Perm l := by
  have h := List.set_set_perm hi hj
  unfold sw
  rw [List.getElem?_eq_getElem hi, List.getElem?_eq_getElem hj]
  exact h
theorem nm_sw {l : List Itm} {i j : Nat} (hi : i < l.length) (hj : j < l.length) (k : Nat) : nm (sw l i j) k = if k = j then nm l i else if k = i then nm l j else nm l k := by
  unfold nm sw
  rw [List.getElem?_eq_getElem hi, List.getElem?_eq_getElem hj]
  by_cases h1 : k = j
  · subst h1
    rw [if_pos rfl, List.getElem?_set_self (by rw [List.length_set]; exact hj)]
    rfl
  · rw [if_neg h1, List.getElem?_set_ne (fun h => h1 h.symm)]
    by_cases h2 : k = i
    · subst h2
      rw [if_pos rfl, List.getElem?_set_self hi]
      rfl
    · rw [if_neg h2, List.getElem?_set_ne (fun h => h2 h.symm)]
def HeapO (l : List Itm) (n : Nat) : Prop := ∀ k, 0 < k → k < n → nm l ((k - 1) / 2) ≤ nm l k
def UpO (l : List Itm) (n j : Nat) : Prop := (∀ k, 0 < k → k < n → k ≠ j → nm l ((k - 1) / 2) ≤ nm l k) ∧ (∀ k, 0 < k → k < n → (k - 1) / 2 = j → 0 < j → nm l ((j - 1) / 2) ≤ nm l k)
def DownO (l : List Itm) (n i : Nat) : Prop := (∀ k, 0 < k → k < n → (k - 1) / 2 ≠ i → nm l ((k - 1) / 2) ≤ nm l k) ∧ (∀ k, 0 < k → k < n → (k - 1) / 2 = i → 0 < i → nm l ((i - 1) / 2) ≤ nm l k)
theorem nm_snoc {l : List Itm} {x : Itm} {k : Nat} (h : k < l.length) : nm (l ++ [x]) k = nm l k := by
  unfold nm
  rw [List.getElem?_append_left h]
theorem up_start {l : List Itm} (h : HeapO l l.length) (x : Itm) : UpO (l ++ [x]) (l.length + 1) l.length := by
  refine ⟨fun k h0 hk hne => ?_, fun k h0 hk hp hj => by omega⟩
  rw [nm_snoc (by omega), nm_snoc (by omega)]
  exact h k h0 (by omega)
theorem up_done {l : List Itm} {n j : Nat} (h : UpO l n j) (hj : j = 0 ∨ nm l ((j - 1) / 2) ≤ nm l j) : HeapO l n := fun k h0 hk => by
  by_cases hkj : k = j
  · subst hkj
    rcases hj with rfl | hj
    · omega
    · exact hj
  · exact h.1 k h0 hk hkj
theorem up_step {l : List Itm} {n j : Nat} (h : UpO l n j) (hj0 : 0 < j) (hjn : j < n) (hn : n = l.length) (hlt : nm l j < nm l ((j - 1) / 2)) : UpO (sw l ((j - 1) / 2) j) n ((j - 1) / 2) := by
  have hs := nm_sw (l := l) (i := (j - 1) / 2) (j := j) (by omega) (by omega)
  obtain ⟨h1, h2⟩ := h
  obtain ⟨i, hi⟩ : ∃ i, (j - 1) / 2 = i := ⟨_, rfl⟩
  rw [hi] at hs hlt ⊢
  refine ⟨fun k h0 hk hne => ?_, fun k h0 hk hp hi0 => ?_⟩
  · rw [hs k, hs ((k - 1) / 2)]
    by_cases e1 : k = j
    · subst e1
      rw [hi, if_pos rfl, if_neg (by omega), if_pos rfl]
      omega
    · rw [if_neg e1, if_neg hne]
      by_cases e2 : (k - 1) / 2 = j
      · rw [if_pos e2]
        have := h2 k h0 hk e2 hj0
        rw [hi] at this
        exact this
      · rw [if_neg e2]
        have := h1 k h0 hk e1
        by_cases e3 : (k - 1) / 2 = i
        · rw [if_pos e3]
          rw [e3] at this
          omega
        · rw [if_neg e3]
          exact this
  · rw [hs k, hs ((i - 1) / 2), if_neg (show ¬ (i - 1) / 2 = j by omega), if_neg (show ¬ (i - 1) / 2 = i by omega)]
    have h3 := h1 i hi0 (by omega) (by omega)
    by_cases e1 : k = j
    · rw [if_pos e1]
      exact h3
    · rw [if_neg e1, if_neg (show ¬ k = i by omega)]
      have := h1 k h0 hk e1
      rw [hp] at this
      omega
theorem down_start {l : List Itm} {n : Nat} (hn : n + 1 = l.length) (h : HeapO l (n + 1)) : DownO (sw l 0 n) n 0 := by
  have hs := nm_sw (l := l) (i := 0) (j := n) (by omega) (by omega)
  refine ⟨fun k h0 hk hp => ?_, fun k h0 hk hp hi0 => by omega⟩
  rw [hs k, hs ((k - 1) / 2), if_neg (by omega), if_neg (by omega), if_neg (by omega), if_neg (by omega)]
  exact h k h0 (by omega)
theorem down_done {l : List Itm} {n i : Nat} (h : DownO l n i) (h1 : 2 * i + 1 < n → nm l i ≤ nm l (2 * i + 1)) (h2 : 2 * i + 2 < n → nm l i ≤ nm l (2 * i + 2)) : HeapO l n := fun k h0 hk => by
  by_cases e : (k - 1) / 2 = i
  · rcases (show k = 2 * i + 1 ∨ k = 2 * i + 2 by omega) with rfl | rfl
    · rw [e]; exact h1 hk
    · rw [e]; exact h2 hk
  · exact h.1 k h0 hk e
theorem down_step {l : List Itm} {n i j : Nat} (h : DownO l n i) (hn : n ≤ l.length) (hj : j = 2 * i + 1 ∨ j = 2 * i + 2) (hjn : j < n) (hlt : nm l j < nm l i)
    (hc : ∀ c, 0 < c → c < n → (c - 1) / 2 = i → nm l j ≤ nm l c) : DownO (sw l i j) n j := by
  have hs := nm_sw (l := l) (i := i) (j := j) (by omega) (by omega)
  obtain ⟨h1, h2⟩ := h
  refine ⟨fun k h0 hk hp => ?_, fun k h0 hk hp hj0 => ?_⟩
  · rw [hs k, hs ((k - 1) / 2), if_neg hp]
    by_cases e1 : k = j
    · rw [if_pos e1, if_pos (show (k - 1) / 2 = i by omega)]
      omega
    · rw [if_neg e1]
      by_cases e2 : k = i
      · rw [if_pos e2, if_neg (show ¬ (k - 1) / 2 = i by omega)]
        subst e2
        exact h2 j (by omega) hjn (by omega) h0
      · rw [if_neg e2]
        by_cases e3 : (k - 1) / 2 = i
        · rw [if_pos e3]
          exact hc k h0 hk e3
        · rw [if_neg e3]
          exact h1 k h0 hk e3
  · rw [hs k, hs ((j - 1) / 2), if_neg (show ¬ (j - 1) / 2 = j by omega), if_pos (show (j - 1) / 2 = i by omega), if_neg (show ¬ k = j by omega), if_neg (show ¬ k = i by omega)]
    have := h1 k h0 hk (by omega)
    rw [hp] at this
    exact this
theorem heap_min {l : List Itm} {n : Nat} (h : HeapO l n) : ∀ (m k : Nat), k ≤ m → k < n → nm l 0 ≤ nm l k
  | 0, k, hm, hk => by rw [show k = 0 by omega]; exact Int.le_refl _
  | m + 1, k, hm, hk => by
    rcases Nat.eq_zero_or_pos k with rfl | h0
    · exact Int.le_refl _
    · exact Int.le_trans (heap_min h m ((k - 1) / 2) (by omega) (by omega)) (h k h0 hk)
/-- ordered -/
def Srt (l : List Itm) : Prop := l.Pairwise fun a b => a.1 ≤ b.1
theorem srt_snoc {l : List Itm} {x : Itm} (h : Srt l) (hx : ∀ a ∈ l, a.1 ≤ x.1) : Srt (l ++ [x]) := by
  unfold Srt
  rw [List.pairwise_append]
  exact ⟨h, List.pairwise_singleton _ _, fun a ha b hb => by rw [List.mem_singleton.1 hb]; exact hx a ha⟩
/-- one is taken off the top -/
theorem pop_step {acc l rest all : List Itm} {x : Itm} (hp : (acc ++ l).Perm all) (hs : Srt acc) (hle : ∀ a ∈ acc, ∀ b ∈ l, a.1 ≤ b.1) (hl : (rest ++ [x]).Perm l) (hmin : ∀ b ∈ l, x.1 ≤ b.1) :
    (acc ++ [x] ++ rest).Perm all ∧ Srt (acc ++ [x]) ∧ (∀ a ∈ acc ++ [x], ∀ b ∈ rest, a.1 ≤ b.1) := by
  have hx : x ∈ l := hl.subset (by simp)
  refine ⟨?_, srt_snoc hs fun a ha => hle a ha x hx, fun a ha b hb => ?_⟩
  · rw [List.append_assoc]
    exact ((List.perm_append_comm (l₁ := [x]) (l₂ := rest)).append_left acc).trans ((hl.append_left acc).trans hp)
  · have hb' : b ∈ l := hl.subset (by simp [hb])
    rcases List.mem_append.1 ha with ha | ha
    · exact hle a ha b hb'
    · rw [List.mem_singleton.1 ha]
      exact hmin b hb'
end Go.Proofs.YtkjginibdablnaaDoor
