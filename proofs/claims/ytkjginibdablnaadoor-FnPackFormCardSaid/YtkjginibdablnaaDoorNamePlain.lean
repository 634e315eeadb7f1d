/- The number of a piece is its own; under one key two pieces have two names; under two keys a piece has two names. -/
import Derived.Test.YtkjginibdablnaaDoorText
namespace Go.Proofs.YtkjginibdablnaaDoor
open Go.RowKit

def dg (b : UInt8) : Nat := b.toNat - 96
def codeL (l : List UInt8) : Nat := l.foldl (fun n b => 27 * n + dg b) 0
theorem codeL_snoc (l : List UInt8) (b : UInt8) : codeL (l ++ [b]) = 27 * codeL l + dg b := by simp [codeL]
theorem isLet_dg {b : UInt8} (h : isLet b = true) : 1 ≤ dg b ∧ dg b ≤ 26 ∧ b.toNat = dg b + 96 := by
  rw [isLet_int] at h
  have := of_decide_eq_true h
  unfold dg
  omega
theorem codeL_lt (l : List UInt8) : ∀ r : List UInt8, l = r.reverse → lets l = true → codeL l < 27 ^ l.length := by
  intro r
  induction r generalizing l with
  | nil => rintro rfl _; simp [codeL]
  | cons b r ih =>
    intro hl h
    rw [List.reverse_cons] at hl
    subst hl
    rw [lets_snoc, Bool.and_eq_true] at h
    have h1 := ih r.reverse rfl h.1
    have h2 := isLet_dg h.2
    rw [codeL_snoc, List.length_append, List.length_singleton, Nat.pow_succ]
    omega
theorem codeL_bound {l : List UInt8} (h : lets l = true) : codeL l < 27 ^ l.length := codeL_lt l l.reverse (by simp) h
theorem codeL_inj_aux : ∀ (r s : List UInt8), lets r.reverse = true → lets s.reverse = true → codeL r.reverse = codeL s.reverse → r = s := by
  intro r
  induction r with
  | nil =>
    intro s _ hs h
    cases s with
    | nil => rfl
    | cons b s =>
      rw [List.reverse_cons, lets_snoc, Bool.and_eq_true] at hs
      have := isLet_dg hs.2
      rw [List.reverse_cons, codeL_snoc] at h
      simp [codeL] at h
      omega
  | cons b r ih =>
    intro s hr hs h
    rw [List.reverse_cons, lets_snoc, Bool.and_eq_true] at hr
    have hb := isLet_dg hr.2
    cases s with
    | nil =>
      rw [List.reverse_cons, codeL_snoc] at h
      simp [codeL] at h
      omega
    | cons c s =>
      rw [List.reverse_cons, lets_snoc, Bool.and_eq_true] at hs
      have hc := isLet_dg hs.2
      rw [List.reverse_cons, List.reverse_cons, codeL_snoc, codeL_snoc] at h
      have h1 : dg b = dg c := by omega
      have h2 : codeL r.reverse = codeL s.reverse := by omega
      have h3 : b = c := UInt8.toNat_inj.1 (by omega)
      rw [h3, ih s hr.1 hs.1 h2]
theorem codeL_inj {l m : List UInt8} (hl : lets l = true) (hm : lets m = true) (h : codeL l = codeL m) : l = m := by
  have := codeL_inj_aux l.reverse m.reverse (by simpa using hl) (by simpa using hm) (by simpa using h)
  simpa using congrArg List.reverse this

def nameMost : Nat := 999999999989
def nameN (key : Nat) (l : List UInt8) : Nat := (codeL l * (2 * key + 1) + 7919 * key) % nameMost
theorem pieceB_parts {l : List UInt8} (h : pieceB l = true) : 1 ≤ l.length ∧ l.length ≤ 8 ∧ lets l = true := by
  simp only [pieceB, Bool.and_eq_true, decide_eq_true_eq] at h
  exact ⟨h.1.1, h.1.2, h.2⟩
theorem codeL_piece {l : List UInt8} (h : pieceB l = true) : codeL l < 282429536481 := by
  obtain ⟨_, h8, hl⟩ := pieceB_parts h
  refine Nat.lt_of_lt_of_le (codeL_bound hl) ?_
  exact Nat.pow_le_pow_right (by omega) h8
theorem nameN_lt (key : Nat) (l : List UInt8) : nameN key l < nameMost := Nat.mod_lt _ (by decide)
theorem cop_odd : ∀ k : Fin 100, Nat.gcd nameMost (2 * k.val + 1) = 1 := by decide +kernel
theorem cop_small : ∀ k : Fin 99, Nat.gcd nameMost (k.val + 1) = 1 := by decide +kernel
theorem nameN_inj {key : Nat} (hk : key ≤ 99) {l m : List UInt8} (hl : pieceB l = true) (hm : pieceB m = true) (h : nameN key l = nameN key m) : l = m := by
  have hcl := codeL_piece hl
  have hcm := codeL_piece hm
  refine codeL_inj (pieceB_parts hl).2.2 (pieceB_parts hm).2.2 ?_
  have hg := cop_odd ⟨key, by omega⟩
  have key2 : ∀ a b : Nat, a ≤ b → b < 282429536481 → (a * (2 * key + 1) + 7919 * key) % nameMost = (b * (2 * key + 1) + 7919 * key) % nameMost → a = b := by
    intro a b hab hb he
    have hd : nameMost ∣ (b * (2 * key + 1) + 7919 * key) - (a * (2 * key + 1) + 7919 * key) := Nat.dvd_of_mod_eq_zero (Nat.sub_mod_eq_zero_of_mod_eq he.symm)
    rw [Nat.add_sub_add_right, ← Nat.sub_mul] at hd
    have h2 := Nat.Coprime.dvd_of_dvd_mul_right hg hd
    rcases Nat.eq_zero_or_pos (b - a) with h0 | h0
    · omega
    · have := Nat.le_of_dvd h0 h2
      unfold nameMost at this
      omega
  unfold nameN at h
  rcases Nat.le_total (codeL l) (codeL m) with hle | hle
  · exact key2 _ _ hle hcm h
  · exact (key2 _ _ hle hcl h.symm).symm
theorem nameN_key {k k' : Nat} (hk : k ≤ 99) (hk' : k' ≤ 99) {l : List UInt8} (hl : pieceB l = true) (h : nameN k l = nameN k' l) : k = k' := by
  have hcl := codeL_piece hl
  have key2 : ∀ a b c : Nat, a ≤ b → b ≤ 99 → 1 ≤ b → c < 282429536481 → (c * (2 * a + 1) + 7919 * a) % nameMost = (c * (2 * b + 1) + 7919 * b) % nameMost → a = b := by
    intro a b c hab hb _ hc he
    have e1 : ∀ k, c * (2 * k + 1) + 7919 * k = k * (2 * c + 7919) + c := by
      intro k
      rw [Nat.mul_add, Nat.mul_add, Nat.mul_one, Nat.mul_left_comm c 2 k, Nat.mul_left_comm k 2 c, Nat.mul_comm c k, Nat.mul_comm 7919 k]
      omega
    rw [e1, e1] at he
    have hd : nameMost ∣ (b * (2 * c + 7919) + c) - (a * (2 * c + 7919) + c) := Nat.dvd_of_mod_eq_zero (Nat.sub_mod_eq_zero_of_mod_eq he.symm)
    rw [Nat.add_sub_add_right, ← Nat.sub_mul] at hd
    rcases Nat.eq_zero_or_pos (b - a) with h0 | h0
    · omega
    · have hg := cop_small ⟨b - a - 1, by omega⟩
      have e2 : b - a - 1 + 1 = b - a := by omega
      simp only [e2] at hg
      have h2 := Nat.Coprime.dvd_of_dvd_mul_left hg hd
      have := Nat.le_of_dvd (by omega) h2
      unfold nameMost at this
      omega
  unfold nameN at h
  rcases Nat.le_total k k' with hle | hle
  · rcases Nat.eq_zero_or_pos k' with h0 | h0
    · omega
    · exact key2 _ _ _ hle hk' h0 hcl h
  · rcases Nat.eq_zero_or_pos k with h0 | h0
    · omega
    · exact (key2 _ _ _ hle hk h0 hcl h.symm).symm

/-- the name of whatever stands there; -1 where a key or a piece is not one -/
def keyB (key : Int) : Bool := decide (1 ≤ key ∧ key ≤ 99)
def nameZ (key : Int) (l : List UInt8) : Int := if keyB key = true ∧ pieceB l = true then (nameN key.toNat l : Nat) else -1
theorem nameZ_ok {key : Int} {l : List UInt8} (hk : keyB key = true) (hp : pieceB l = true) : nameZ key l = (nameN key.toNat l : Nat) := by simp [nameZ, hk, hp]
theorem nameZ_key {key : Int} {l : List UInt8} (hk : keyB key = false) : nameZ key l = -1 := by simp [nameZ, hk]
theorem nameZ_piece {key : Int} {l : List UInt8} (hp : pieceB l = false) : nameZ key l = -1 := by simp [nameZ, hp]
theorem nameZ_nonneg {key : Int} {l : List UInt8} : 0 ≤ nameZ key l ↔ keyB key = true ∧ pieceB l = true := by
  unfold nameZ
  split
  · rename_i h
    exact ⟨fun _ => h, fun _ => by omega⟩
  · rename_i h
    constructor
    · intro h; omega
    · intro h2; exact absurd h2 h
theorem nameZ_lt (key : Int) (l : List UInt8) : nameZ key l < 999999999989 := by
  unfold nameZ
  split
  · have := nameN_lt key.toNat l
    unfold nameMost at this
    omega
  · omega
theorem keyB_iff {key : Int} : keyB key = true ↔ 1 ≤ key ∧ key ≤ 99 := by simp [keyB]
theorem nameZ_inj {key : Int} {l m : List UInt8} (h0 : 0 ≤ nameZ key l) (h : nameZ key l = nameZ key m) : l = m := by
  obtain ⟨hk, hl⟩ := nameZ_nonneg.1 h0
  obtain ⟨_, hm⟩ := nameZ_nonneg.1 (h ▸ h0)
  rw [nameZ_ok hk hl, nameZ_ok hk hm] at h
  have := keyB_iff.1 hk
  exact nameN_inj (key := key.toNat) (by omega) hl hm (by omega)
theorem nameZ_keys {k k' : Int} {l : List UInt8} (h0 : 0 ≤ nameZ k l) (h : nameZ k l = nameZ k' l) : k = k' := by
  obtain ⟨hk, hl⟩ := nameZ_nonneg.1 h0
  obtain ⟨hk', _⟩ := nameZ_nonneg.1 (h ▸ h0)
  rw [nameZ_ok hk hl, nameZ_ok hk' hl] at h
  have h1 := keyB_iff.1 hk
  have h2 := keyB_iff.1 hk'
  have := nameN_key (k := k.toNat) (k' := k'.toNat) (by omega) (by omega) hl (by omega)
  omega
end Go.Proofs.YtkjginibdablnaaDoor
