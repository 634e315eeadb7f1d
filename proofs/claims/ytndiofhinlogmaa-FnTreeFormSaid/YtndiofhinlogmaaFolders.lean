/- The program's folders: a map of maps; what is put into it is found in it. -/
import Derived.Test.YtndiofhinlogmaaTreeOk
import Derived.Maps.OwnSet
import Derived.WalkSpells
namespace Go.Proofs.Ytndiofhinlogmaa
open Go.RowKit Go.Maps
abbrev DU := DataW Unit
/-- an element of the outer map, by its block's number alone -/
def readM : Value → Option (DU × List MemPlace)
  | .map (some b) => some (.lit (.int .i64 (b : Int)), [])
  | .map none => some (.nil, [])
  | _ => none
theorem readM_inv {v : Value} {z : DU × List MemPlace} (h : readM v = some z) : (v = .map none ∧ z.1 = .nil) ∨ ∃ b : Nat, v = .map (some b) ∧ z.1 = .lit (.int .i64 (b : Int)) := by
  match v, h with
  | .map (some b), h =>
    simp only [readM, Option.some.injEq] at h
    subst h
    exact .inr ⟨b, rfl, rfl⟩
  | .map none, h =>
    simp only [readM, Option.some.injEq] at h
    subst h
    exact .inl ⟨rfl, rfl⟩
theorem readS_inv {v : Value} {z : DU × List MemPlace} (h : plainElem Try.prog 9 v = some z) : ∃ s, v = .string s ∧ z.1 = .lit (.string s.data.toList) := by
  unfold plainElem at h
  rw [Try.underlying9] at h
  cases v <;> simp at h
  obtain ⟨_, rfl⟩ := h
  exact ⟨_, rfl, rfl⟩
def folderI (l : List UInt8) : List UInt8 := if (Lib.cut l [47]).2.2 then (Lib.cut l [47]).1 else []
/-- the last text of a path -/
def getL : List Fil → ByteArray → Option ByteArray
  | [], _ => none
  | s :: l, p => match getL l p with
    | some t => some t
    | none => if s.1 = p then some s.2 else none
theorem getL_snoc : ∀ (l : List Fil) (s : Fil) (p : ByteArray), getL (l ++ [s]) p = if s.1 = p then some s.2 else getL l p
  | [], s, p => rfl
  | t :: l, s, p => by
    show (match getL (l ++ [s]) p with | some t => some t | none => if t.1 = p then some t.2 else none) = _
    rw [getL_snoc l s p]
    by_cases h : s.1 = p
    · simp [h]
    · simp only [if_neg h]
      rfl
theorem isKeyS (l : List UInt8) : WideAt.IsKeyLit (.string l) := trivial
theorem kS_ne {f g : List UInt8} (h : f ≠ g) : (Lit.string f) ≠ Lit.string g := fun e => by injection e; contradiction
theorem keyedS : Keyed Try.prog 9 := string_keyed Try.underlying9
theorem data_inj {x y : ByteArray} (h : x.data.toList = y.data.toList) : x = y := ByteArray.ext (Array.toList_inj.1 h)
/-- what an inner map tells of the paths of a folder -/
def Inner (E : DU) (l : List Fil) (f : List UInt8) : Prop := ∀ p : ByteArray, folderI p.data.toList = f →
  Maps.has E (.string p.data.toList) = (getL l p).isSome ∧ E.atKey (.string p.data.toList) (.lit (.string [])) = .lit (.string ((getL l p).getD ByteArray.empty).data.toList)
def Outer (w : World) (b0 n : Nat) (l : List Fil) (B : Nat) (D : DU) : Prop :=
  (∀ f : List UInt8, (D.atKey (.string f) .nil = .nil ∧ ∀ p : ByteArray, folderI p.data.toList = f → getL l p = none) ∨
    ∃ (b : Nat) (E : DU), D.atKey (.string f) .nil = .lit (.int .i64 (b : Int)) ∧ B ≤ b ∧ b ≠ b0 ∧ w.ownsMap Try.prog 9 (plainElem Try.prog 9) b n E ∧ Inner E l f) ∧
  (∀ (f g : List UInt8) (b : Int), f ≠ g → D.atKey (.string f) .nil = .lit (.int .i64 b) → D.atKey (.string g) .nil ≠ .lit (.int .i64 b))
def Folds (w : World) (b0 n : Nat) (l : List Fil) (B : Nat) : Prop := ∃ D : DU, w.ownsMap Try.prog 9 readM b0 n D ∧ B ≤ b0 ∧ Outer w b0 n l B D
theorem folds_kept {w w' : World} {b0 n B : Nat} {l : List Fil} (h : Folds w b0 n l B) (hg : w.grownBy w' none) : Folds w' b0 n l B := by
  obtain ⟨D, ho, hb, h1, h2⟩ := h
  refine ⟨D, ho.kept hg (by simp), hb, fun f => ?_, h2⟩
  rcases h1 f with h3 | ⟨b, E, a1, a2, a3, a4, a5⟩
  · exact .inl h3
  · exact .inr ⟨b, E, a1, a2, a3, a4.kept hg (by simp), a5⟩
theorem folds_made (w : World) (B : Nat) (hB : B ≤ w.heap.size) : Folds (w.alloc (.map #[] 0)) w.heap.size 0 [] B :=
  ⟨.map [], World.ownsMap_made _ _ _ _, hB, fun f => .inl ⟨rfl, fun _ _ => rfl⟩, fun f g b _ h => by cases h⟩
theorem inner_empty {l : List Fil} {f : List UInt8} (h : ∀ p : ByteArray, folderI p.data.toList = f → getL l p = none) : Inner (.map []) l f := fun p hp => by
  rw [h p hp]
  exact ⟨rfl, rfl⟩
theorem inner_put {E : DU} {l : List Fil} {f : List UInt8} {p t : ByteArray} (hE : IsMap E) (h : Inner E l f) : Inner (E.put (.string p.data.toList) (.lit (.string t.data.toList))) (l ++ [(p, t)]) f := fun q hq => by
  rw [getL_snoc]
  by_cases e : p = q
  · subst e
    rw [if_pos rfl, has_put_same hE (isKeyS _), atKey_put_same hE (isKeyS _)]
    exact ⟨rfl, rfl⟩
  · have hne : (Lit.string q.data.toList) ≠ .string p.data.toList := kS_ne fun h => e (data_inj h).symm
    rw [if_neg e, has_put_other hne, atKey_put_other hne]
    exact h q hq
theorem inner_other {E : DU} {l : List Fil} {f : List UInt8} {p t : ByteArray} (hf : folderI p.data.toList ≠ f) (h : Inner E l f) : Inner E (l ++ [(p, t)]) f := fun q hq => by
  rw [getL_snoc, if_neg (fun e : p = q => hf (by rw [e]; exact hq))]
  exact h q hq
/-- behind the store into the folder's own map -/
theorem outer_put {w w' : World} {b0 n B b : Nat} {l : List Fil} {D E : DU} {p t : ByteArray} (h : Outer w b0 n l B D) (hb : D.atKey (.string (folderI p.data.toList)) .nil = .lit (.int .i64 (b : Int))) (hB : B ≤ b) (hb0 : b ≠ b0)
    (hE : IsMap E) (hin : Inner E l (folderI p.data.toList)) (hown : w'.ownsMap Try.prog 9 (plainElem Try.prog 9) b (n + 1) (E.put (.string p.data.toList) (.lit (.string t.data.toList)))) (hg : w.grownBy w' (some b)) :
    Outer w' b0 (n + 1) (l ++ [(p, t)]) B D := by
  refine ⟨fun f => ?_, h.2⟩
  by_cases hf : folderI p.data.toList = f
  · subst hf
    exact .inr ⟨b, _, hb, hB, hb0, hown, inner_put hE hin⟩
  · rcases h.1 f with ⟨h3, h4⟩ | ⟨b', E', a1, a2, a3, a4, a5⟩
    · refine .inl ⟨h3, fun q hq => ?_⟩
      rw [getL_snoc, if_neg (fun e : p = q => hf (by rw [e]; exact hq))]
      exact h4 q hq
    · refine .inr ⟨b', E', a1, a2, a3, (a4.kept hg ?_).mono (Nat.le_succ n), inner_other hf a5⟩
      intro e
      injection e with e
      subst e
      exact h.2 _ _ _ hf hb a1
/-- a new folder -/
theorem outer_new {w w' : World} {b0 n B b : Nat} {l : List Fil} {D : DU} {f : List UInt8} (hD : IsMap D) (h : Outer w b0 n l B D) (hnil : D.atKey (.string f) .nil = .nil) (hbw : w.heap.size ≤ b) (hB : B ≤ b) (hb0 : b ≠ b0)
    (hown : w'.ownsMap Try.prog 9 (plainElem Try.prog 9) b n (.map [] : DU)) (hkeep : ∀ (j : Nat) (E : DU), j < w.heap.size → j ≠ b0 → w.ownsMap Try.prog 9 (plainElem Try.prog 9) j n E → w'.ownsMap Try.prog 9 (plainElem Try.prog 9) j n E) :
    Outer w' b0 n l B (D.put (.string f) (.lit (.int .i64 (b : Int)))) := by
  have old : ∀ (g : List UInt8), D.atKey (.string g) .nil ≠ .lit (.int .i64 (b : Int)) := fun g e => by
    rcases h.1 g with ⟨h3, _⟩ | ⟨b', E', a1, _, _, a4, _⟩
    · rw [h3] at e
      cases e
    · rw [a1] at e
      injection e with e
      injection e with _ e
      have := a4.lt
      omega
  refine ⟨fun g => ?_, fun g g' c hne h1 h2 => ?_⟩
  · by_cases e : g = f
    · subst e
      rw [atKey_put_same hD (isKeyS _)]
      refine .inr ⟨b, _, rfl, hB, hb0, hown, inner_empty ?_⟩
      rcases h.1 g with ⟨_, h4⟩ | ⟨b', E', a1, _⟩
      · exact h4
      · rw [hnil] at a1
        cases a1
    · rw [atKey_put_other (kS_ne e)]
      rcases h.1 g with h3 | ⟨b', E', a1, a2, a3, a4, a5⟩
      · exact .inl h3
      · exact .inr ⟨b', E', a1, a2, a3, hkeep b' E' a4.lt a3 a4, a5⟩
  · by_cases e : g = f
    · subst e
      rw [atKey_put_same hD (isKeyS _)] at h1
      rw [atKey_put_other (kS_ne (Ne.symm hne))] at h2
      injection h1 with h1
      injection h1 with _ h1
      subst h1
      exact old _ h2
    · rw [atKey_put_other (kS_ne e)] at h1
      by_cases e' : g' = f
      · subst e'
        rw [atKey_put_same hD (isKeyS _)] at h2
        injection h2 with h2
        injection h2 with _ h2
        subst h2
        exact old _ h1
      · rw [atKey_put_other (kS_ne e')] at h2
        exact h.2 g g' c hne h1 h2
end Go.Proofs.Ytndiofhinlogmaa
