/- The drawings of packs: with names, alone, with a key, with a name; the drawing of what a pack is made of. -/
import Derived.Test.YtkjginibdablnaaDoorDrawPack
namespace Go.Proofs.YtkjginibdablnaaDoor
open Go.RowKit
theorem code_al {w : World} {a : Option Addr} {len cap : Nat} {zs : List Int} (h : Code w a len cap zs) (o : Obj) : Code (w.alloc o) a len cap zs := by
  rcases h with h | ⟨x, h1, h2, h3, h4, h5, h6⟩
  · exact .inl h
  · exact .inr ⟨x, h1, h2, h3, h4, fun i hi => (World.cell?_alloc_lt w o _ (World.block_lt_of_cell? w _ (h5 i hi))).trans (h5 i hi), h6⟩
def DrewPack (w : World) (e : Ending) (w' : World) : Prop := ∃ (no : Int) (v : Value) (l : List Itm), e = .returned (packV no v) ∧ Lp w' w'.heap.size v (ivals l) ∧ 1 ≤ l.length ∧ l.length ≤ 6 ∧ (∀ s ∈ l, s.2.size ≤ 9) ∧ Below w.heap.size w w'
def DrewLess (w : World) (e : Ending) (w' : World) : Prop := ∃ (no : Int) (v vn : Value) (l : List Itm) (ns : List Int), e = .returned (.tuple #[packV no v, vn]) ∧ Lp w' w'.heap.size v (ivals l) ∧ Lst w' w'.heap.size vn (intVals ns) ∧ 1 ≤ l.length ∧ l.length ≤ 6 ∧ ns.length ≤ 6 ∧ (∀ s ∈ l, s.2.size ≤ 9) ∧ Below w.heap.size w w'
theorem own_set1 {B b n i : Nat} {e : TypeId} {w : World} {v u : Value} {xs : List Value} (h : w.ownsRow B e 1 v n xs) (hb : b < B) : (w.setCell ⟨b, i, none⟩ u).ownsRow B e 1 v n xs := own_pickS h (grown_setCell w b i u) hb
section
set_option maxHeartbeats 1600000
end
end Go.Proofs.YtkjginibdablnaaDoor
