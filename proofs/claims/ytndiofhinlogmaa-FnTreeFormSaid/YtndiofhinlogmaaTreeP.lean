/- Trees, in plain Lean: which files are a tree; what is found in one. -/
import Derived.Test.YtndiofhinlogmaaPath
import Derived.Test.YtndiofhinlogmaaFile
namespace Go.Proofs.Ytndiofhinlogmaa
open Go.RowKit
theorem bl_irr : ∀ x : List UInt8, Op.bytesLess x x = false
  | [] => rfl
  | a :: x => by
    show (decide (a < a) || (a == a && Op.bytesLess x x)) = false
    rw [bl_irr x]; simp
theorem bl_trans : ∀ {x y z : List UInt8}, Op.bytesLess x y = true → Op.bytesLess y z = true → Op.bytesLess x z = true
  | x, y, [], _, h => by cases y <;> simp [Op.bytesLess] at h
  | [], y, c :: z, _, _ => rfl
  | a :: x, [], c :: z, h, _ => by simp [Op.bytesLess] at h
  | a :: x, b :: y, c :: z, h, k => by
    simp only [Op.bytesLess, Bool.or_eq_true, decide_eq_true_eq, Bool.and_eq_true, beq_iff_eq] at h k ⊢
    rcases h with h | ⟨rfl, h⟩
    · rcases k with k | ⟨rfl, k⟩
      · exact .inl (UInt8.lt_trans h k)
      · exact .inl h
    · rcases k with k | ⟨rfl, k⟩
      · exact .inl k
      · exact .inr ⟨rfl, bl_trans h k⟩
theorem bl_tri : ∀ x y : List UInt8, (Op.bytesLess x y || x == y) = !(Op.bytesLess y x)
  | [], [] => rfl
  | [], b :: y => rfl
  | a :: x, [] => rfl
  | a :: x, b :: y => by
    have h := bl_tri x y
    simp only [Op.bytesLess]
    by_cases h1 : a < b
    · have h2 : ¬ b < a := fun h => UInt8.lt_irrefl _ (UInt8.lt_trans h1 h)
      have h3 : (b == a) = false := by simp; rintro rfl; exact UInt8.lt_irrefl _ h1
      simp [h1, h2, h3]
    · by_cases h2 : b < a
      · have h3 : (a == b) = false := by simp; rintro rfl; exact UInt8.lt_irrefl _ h2
        simp [h1, h2, h3]
      · have h3 : a = b := by
          exact Classical.byContradiction fun hne => by
            rcases UInt8.lt_or_lt_of_ne hne with h | h
            · exact h1 h
            · exact h2 h
        subst h3
        simpa [h1] using h
abbrev pth (s : Fil) : List UInt8 := s.1.data.toList
def clash (a b : List UInt8) : Bool := a.length != b.length && a[0]? == b[0]?
def under (a b : List UInt8) : Bool := Lib.hasPrefix b (a ++ [47])
theorem under_clash {a b : List UInt8} (ha : pathB a = true) (hb : pathB b = true) (h : Op.bytesLess a b = true) : under a b = clash a b := by
  match a, b, ha, hb, h with
  | [x], [y], _, _, _ => simp [under, clash, Lib.hasPrefix, List.isPrefixOf]
  | [x], [y, c, z], _, hb, _ =>
    have hc : c = 47 := by
      simp only [pathB, Bool.and_eq_true, beq_iff_eq] at hb
      exact hb.1.2
    subst hc
    simp [under, clash, Lib.hasPrefix, List.isPrefixOf]
  | [x, c, z], [y], _, _, h =>
    have : x ≠ y := by
      rintro rfl
      simp [Op.bytesLess] at h
    simp [under, clash, Lib.hasPrefix, List.isPrefixOf, this]
  | [x, c, z], [y, d, u], _, _, _ => simp [under, clash, Lib.hasPrefix, List.isPrefixOf]
def okF (l : List Fil) (i : Nat) : Bool := match l[i]? with
  | none => true
  | some s => pathB (pth s) && textB s.2.data.toList && (match i with
    | 0 => true
    | j + 1 => match l[j]? with
      | some p => Op.bytesLess (pth p) (pth s)
      | none => true) && (l.take i).all fun g => !clash (pth g) (pth s)
def okTo (l : List Fil) (k : Nat) : Bool := (List.range k).all (okF l)
def treeB (l : List Fil) : Bool := okTo l l.length && decide (l.length ≤ 6)
theorem okTo_succ (l : List Fil) (k : Nat) : okTo l (k + 1) = (okTo l k && okF l k) := by simp [okTo, List.range_succ]
theorem okTo_of {l : List Fil} {k i : Nat} (h : okTo l k = true) (hi : i < k) : okF l i = true := List.all_eq_true.1 h i (List.mem_range.2 hi)
theorem tree_no {l : List Fil} {k : Nat} (hk : k < l.length) (h : okF l k = false) : treeB l = false := by
  cases hb : treeB l with
  | false => rfl
  | true =>
    simp only [treeB, Bool.and_eq_true] at hb
    rw [okTo_of hb.1 hk] at h
    cases h
theorem okF_parts {l : List Fil} {k : Nat} {s : Fil} (hs : l[k]? = some s) (h : okF l k = true) :
    pathB (pth s) = true ∧ textB s.2.data.toList = true ∧ (∀ j p, k = j + 1 → l[j]? = some p → Op.bytesLess (pth p) (pth s) = true) ∧ (l.take k).all (fun g => !clash (pth g) (pth s)) = true := by
  simp only [okF, hs, Bool.and_eq_true] at h
  refine ⟨h.1.1.1, h.1.1.2, fun j p hj hp => ?_, h.2⟩
  subst hj
  have h1 := h.1.2
  simp only [hp] at h1
  exact h1
theorem ok_less {l : List Fil} {k : Nat} (h : okTo l k = true) : ∀ (d i : Nat) (p s : Fil), i + d + 1 < k → l[i]? = some p → l[i + d + 1]? = some s → Op.bytesLess (pth p) (pth s) = true
  | 0, i, p, s, hk, hp, hs => (okF_parts hs (okTo_of h hk)).2.2.1 i p rfl hp
  | d + 1, i, p, s, hk, hp, hs => by
    obtain ⟨q, hq⟩ : ∃ q, l[i + d + 1]? = some q := ⟨_, List.getElem?_eq_getElem (by have := (List.getElem?_eq_some_iff.1 hs).1; omega)⟩
    exact bl_trans (ok_less h d i p q (by omega) hp hq) ((okF_parts hs (okTo_of h hk)).2.2.1 (i + d + 1) q rfl hq)
/-- what the program asks of what stands ahead -/
theorem under_all {l : List Fil} {k : Nat} {s : Fil} (hs : l[k]? = some s) (h : okTo l k = true) (hp : pathB (pth s) = true) (hl : ∀ j p, k = j + 1 → l[j]? = some p → Op.bytesLess (pth p) (pth s) = true) :
    (l.take k).any (fun g => under (pth g) (pth s)) = !((l.take k).all fun g => !clash (pth g) (pth s)) := by
  rw [List.not_all_eq_any_not]
  simp only [Bool.not_not]
  rw [Bool.eq_iff_iff, List.any_eq_true, List.any_eq_true]
  have key : ∀ g ∈ l.take k, under (pth g) (pth s) = clash (pth g) (pth s) := fun g hg => by
    obtain ⟨i, hi⟩ := List.getElem?_of_mem hg
    have hik : i < k := by have := (List.getElem?_eq_some_iff.1 hi).1; rw [List.length_take] at this; omega
    rw [List.getElem?_take_of_lt hik] at hi
    have hless : Op.bytesLess (pth g) (pth s) = true := by
      obtain ⟨j, rfl⟩ : ∃ j, k = j + 1 := ⟨k - 1, by omega⟩
      obtain ⟨p, hp2⟩ : ∃ p, l[j]? = some p := ⟨_, List.getElem?_eq_getElem (by have := (List.getElem?_eq_some_iff.1 hs).1; omega)⟩
      by_cases hij : i = j
      · subst hij
        exact hl i g rfl hi
      · exact bl_trans (ok_less h (j - i - 1) i g p (by omega) hi (by rw [show i + (j - i - 1) + 1 = j by omega]; exact hp2)) (hl j p rfl hp2)
    exact under_clash (okF_parts hi (okTo_of h hik)).1 hp hless
  constructor
  · rintro ⟨g, hg, h1⟩
    exact ⟨g, hg, by rw [← key g hg]; exact h1⟩
  · rintro ⟨g, hg, h1⟩
    exact ⟨g, hg, by rw [key g hg]; exact h1⟩
theorem okF_eq {l : List Fil} {k : Nat} {s : Fil} (hs : l[k]? = some s) (hp : pathB (pth s) = true) (ht : textB s.2.data.toList = true) (hl : ∀ j p, k = j + 1 → l[j]? = some p → Op.bytesLess (pth p) (pth s) = true) :
    okF l k = (l.take k).all fun g => !clash (pth g) (pth s) := by
  simp only [okF, hs, hp, ht, Bool.and_true, Bool.true_and]
  match k, hs, hl with
  | 0, _, _ => simp
  | j + 1, hs, hl =>
    obtain ⟨p, hp2⟩ : ∃ p, l[j]? = some p := ⟨_, List.getElem?_eq_getElem (by have := (List.getElem?_eq_some_iff.1 hs).1; omega)⟩
    simp only [hp2, hl j p rfl hp2, Bool.true_and]
theorem okF_path {l : List Fil} {k : Nat} {s : Fil} (hs : l[k]? = some s) (hp : pathB (pth s) = false) : okF l k = false := by simp [okF, hs, hp]
theorem okF_text {l : List Fil} {k : Nat} {s : Fil} (hs : l[k]? = some s) (hp : textB s.2.data.toList = false) : okF l k = false := by simp [okF, hs, hp]
theorem okF_less {l : List Fil} {j : Nat} {p s : Fil} (hs : l[j + 1]? = some s) (hp : l[j]? = some p) (h : Op.bytesLess (pth p) (pth s) = false) : okF l (j + 1) = false := by simp [okF, hs, hp, h]
/-- the first text of a path -/
def getF (l : List Fil) (n : ByteArray) : Option ByteArray := (l.find? fun s => s.1 == n).map (·.2)
end Go.Proofs.Ytndiofhinlogmaa
