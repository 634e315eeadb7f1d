/- What the cards over the two errors and the tables of unicode/utf8 share: the errors as they were laid; a start that meets the condition; the named variables read again. -/
import Derived.Test.YtkjginibdablnaaDoorCards
import Derived.Test.YtkjginibdablnaaDoorTie
import Derived.Test.YtkjginibdablnaaDoorName
import Derived.WalkKit
import Derived.ProofKit
import Derived.OpenShut
import Derived.ShutString
import Derived.ChangeOld
import Derived.Below
import Derived.LaidMore
import Derived.Stop.Joined
import Derived.Stop.LaidTwo
import Derived.SevenTiedAt
namespace Go.Proofs.YtkjginibdablnaaDoor
open Go.ChangeShapes Go.WideShapes Go.ChangeAt Go.RowKit

theorem own : ownKnob Tryd.prog.godebug = none := by kernel_rfl
theorem laidOut : laidOutB Tryd.prog = true := by kernel_rfl
theorem gKey : Tryd.prog.globalNamed "loop.example/depositary/impl.errKey" = some 0 := by kernel_rfl
theorem gPiece : Tryd.prog.globalNamed "loop.example/depositary/impl.errPiece" = some 1 := by kernel_rfl
theorem tKey : (Tryd.prog.globals[0]?).map (·.type) = some 75 := by kernel_rfl
theorem tPiece : (Tryd.prog.globals[1]?).map (·.type) = some 75 := by kernel_rfl
theorem starE : "*" ++ "errors.errorString" = "*errors.errorString" := by decide
theorem rowE (u : TypeId) (h : Tryd.prog.typeName? 3 u = some "*errors.errorString") : u = 164 :=
  typeName_ptr_named (nm := "errors.errorString") (by rw [starE]; kernel_rfl) (by kernel_rfl) (by decide) u (by rw [starE]; exact h)
theorem cellsE : Tryd.prog.cellsOf 187 = 1 := by kernel_rfl
theorem cellsS : Tryd.prog.cellsOf 9 = 1 := by kernel_rfl

def laidErrs : List (String × DataW Unit) := [("unicode/utf8.acceptRanges", Rows.laid_unicode_utf8_acceptRanges), ("loop.example/depositary/impl.errPiece", Rows.laid_loop_example_depositary_impl_errPiece), ("loop.example/depositary/impl.errKey", Rows.laid_loop_example_depositary_impl_errKey), ("unicode/utf8.first", Rows.laid_unicode_utf8_first)]
theorem laid_tail {P : Program} {x : String × DataW Unit} {r : List (String × DataW Unit)} {W : World} (h : laidMet P (x :: r) W) : laidMet P r W := by
  obtain ⟨ps, ⟨g, t, cs, fuel, p, q, _, _, _, _, hr, e⟩, hnd, hrows⟩ := h
  subst e
  exact ⟨q, hr, (List.nodup_append.1 hnd).2.1, fun b off hm => hrows b off (List.mem_append_right _ hm)⟩

theorem errs_of_laid {W : World} (h : laidMetH Tryd.prog laidErrs W) : ∃ a0 a1 : Addr, Errs W a0 a1 ∧
    W.var? Tryd.prog "loop.example/depositary/impl.errKey" = some #[.iface 164 (.pointer (some a0))] ∧ W.var? Tryd.prog "loop.example/depositary/impl.errPiece" = some #[.iface 164 (.pointer (some a1))] := by
  rw [MakeChecks.laidMetH_plain _ _ _ (by kernel_rfl)] at h
  have h := laid_tail h
  obtain ⟨a1, a0, s1, s0, c1, c0, t1, t0, hv1, hv0, hc1, _, _, hc0, _, _, hne, hb1, hb0⟩ := laid_sentinels2 h gPiece tPiece gKey tKey Tryd.underlying75 rowE Tryd.underlying164 Tryd.underlying187 rfl rfl Tryd.underlying9 cellsE cellsS
  refine ⟨a0, a1, ⟨?_, ?_, hne.symm, ⟨_, _, hb0⟩, ⟨_, _, hb1⟩, ?_⟩, hv0, hv1⟩
  · simpa using World.var?_cell gKey hv0 0
  · simpa using World.var?_cell gPiece hv1 0
  · have := World.var?_cell gPiece hv1 0
    have h2 : W.cell? ⟨1, 0, none⟩ = some (.iface 164 (.pointer (some a1))) := by simpa using this
    rcases Nat.lt_or_ge 1 W.heap.size with h' | h'
    · exact h'
    · simp [World.cell?, Array.getElem?_eq_none h'] at h2

theorem var_below {W W' : World} {n : String} {cs : Array Value} (h3 : W.var? Tryd.prog n = some cs) (hb : Below W.heap.size W W') : W'.var? Tryd.prog n = some cs := by
  unfold World.var? at h3 ⊢
  cases h1 : Tryd.prog.globalNamed n with
  | none => rw [h1] at h3; cases h3
  | some g =>
    rw [h1] at h3
    simp only [Option.bind_some] at h3 ⊢
    have hg : g < W.heap.size := by
      cases hh : W.heap[g]? with
      | none => rw [hh] at h3; cases h3
      | some o => exact (Array.getElem?_eq_some_iff.1 hh).1
    rw [hb.block g hg]; exact h3

theorem vars_again {H : Type} (enc : TypeId × Value → H) {W : World} {x0 x1 : Value} (h0 : W.var? Tryd.prog "loop.example/depositary/impl.errKey" = some #[x0]) (h1 : W.var? Tryd.prog "loop.example/depositary/impl.errPiece" = some #[x1]) (i0 : IsIface x0) (i1 : IsIface x1) (sp : Nat → Bool) :
    DataW.TrodVars enc Tryd.prog W sp ["loop.example/depositary/impl.errKey", "loop.example/depositary/impl.errPiece"] [tok enc x0, tok enc x1] [.cell 0 0, .cell 1 0] :=
  vars_read2 enc gKey tKey Tryd.underlying75 h0 i0 gPiece tPiece Tryd.underlying75 h1 i1 sp

noncomputable def firstCells : Array Value := match (Go.Pinned.utf8First : DataW Unit) with
  | .agg l => (l.map fun | .lit (.int k n) => Value.int k n | _ => Value.int .u8 0).toArray
  | _ => #[]
/-- the door's own heap, the one table that the door leaves out laid beside -/
noncomputable def tabWorld (os : Os) : World :=
  { World.doorLaid Tryd.prog 57 os with heap := (World.doorLaid Tryd.prog 57 os).heap.modify 3 fun
      | .cells _ t frozen => .cells firstCells t frozen
      | o => o }
theorem door_met (os : Os) (args : Array Value) : laidMetH Tryd.prog laidErrs ((tabWorld os).forCall (fun _ _ => 0) ⟨#[], args, []⟩).memory :=
  laidMetH_of_parts3 (fuel := 8) (laidMet_of_run' 8 (by kernel_rfl) (by kernel_rfl)) (by kernel_rfl) (by kernel_rfl)
end Go.Proofs.YtkjginibdablnaaDoor
