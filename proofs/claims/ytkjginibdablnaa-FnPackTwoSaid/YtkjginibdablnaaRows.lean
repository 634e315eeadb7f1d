/-
  No cell of these rows narrows 'for every input' (looked for: loops, veiled, ifaces, maps, wideKeys, modest, calm, conditions, laid).
  DERIVED. THE GIVEN ROWS OF THIS SEAT. 4 by the template 'for every input the law returns true; each argument reads behind the call as it read before'; 0 by the template 'total and deterministic' (their statements: YtkjginibdablnaaTotals.lean).
  GIVEN WITH THE SEED: the statements are not yours to turn. If you find one false, say at which input.
  Laid BY PROGRAM, IN A SANDBOX (cutbox-rows.mjs): the forced cells as the released guide's own fill.sh prints them over the translation 3949cb33392f5fa4… (all of the seat's roots in one cut). By AI agents, Wed Nov 11 2026. No macro, syntax, notation, axiom, sorry.
-/
import Derived.Test.YtkjginibdablnaaChecked
import GoSem.Claim
import GoSem.ClaimJoined
import GoSem.ClaimMapViews
import Derived.JoinedTies
import Derived.KernelRfl
namespace Go.Proofs.Ytkjginibdablnaa
/- THE CELL 'sum', in the pinned program and in every row, IS THE sha256 OF THE DUMP (.gsa) THAT YtkjginibdablnaaProg.lean LOADS. Nothing in Lean hashes anything: it is a label: what it is worth is what the hold of that sum in a sandbox is worth. -/
noncomputable def Try.pinned : Pinned := { name := "ytkjginibdablnaa", sum := "3949cb33392f5fa492bca6901564c6928f4b05aa5d7f8cd8df483c2a202324c3", checked := Try.checked }
namespace Rows
def none {H : Type} : Left H := { results := [], args := [] }

/-- 'laws.FnExactPackNames': WHATEVER THE INPUT: true; the input reads as it did. -/
def fnExactPackNamesSpec : ChangeSpec := { name := "fnExactPackNames", fn := fun _ => fun
  | [d] => { results := [.lit (.bool true)], args := [d] }
  | _ => none }
def fnExactPackNamesRow : OpenClaim := { program := "ytkjginibdablnaa", sum := "3949cb33392f5fa492bca6901564c6928f4b05aa5d7f8cd8df483c2a202324c3", func := "loop.example/depositary/laws.FnExactPackNames", spec := "fnExactPackNames", apart := false }
def FnExactPackNamesSaid : Prop := fnExactPackNamesRow.holds Try.pinned (OpenSpec.ofChange fnExactPackNamesSpec)

/-- ITS FALSE NEIGHBOUR: 'it returns false'. Refute it at one input. -/
def fnExactPackNamesWrong : ChangeSpec := { name := "fnExactPackNames", fn := fun _ => fun
  | [d] => { results := [.lit (.bool false)], args := [d] }
  | _ => none }
def FnExactPackNamesWrongFalsely : Prop := fnExactPackNamesRow.holds Try.pinned (OpenSpec.ofChange fnExactPackNamesWrong)

/-- 'laws.FnExactPackLess': WHATEVER THE INPUT: true; the input reads as it did. -/
def fnExactPackLessSpec : ChangeSpec := { name := "fnExactPackLess", fn := fun _ => fun
  | [d1, d2] => { results := [.lit (.bool true)], args := [d1, d2] }
  | _ => none }
def fnExactPackLessRow : OpenClaim := { program := "ytkjginibdablnaa", sum := "3949cb33392f5fa492bca6901564c6928f4b05aa5d7f8cd8df483c2a202324c3", func := "loop.example/depositary/laws.FnExactPackLess", spec := "fnExactPackLess", apart := false }
def FnExactPackLessSaid : Prop := fnExactPackLessRow.holds Try.pinned (OpenSpec.ofChange fnExactPackLessSpec)

/-- ITS FALSE NEIGHBOUR: 'it returns false'. Refute it at one input. -/
def fnExactPackLessWrong : ChangeSpec := { name := "fnExactPackLess", fn := fun _ => fun
  | [d1, d2] => { results := [.lit (.bool false)], args := [d1, d2] }
  | _ => none }
def FnExactPackLessWrongFalsely : Prop := fnExactPackLessRow.holds Try.pinned (OpenSpec.ofChange fnExactPackLessWrong)

/-- 'laws.FnPackLess': WHATEVER THE INPUT: true; the input reads as it did. -/
def fnPackLessSpec : ChangeSpec := { name := "fnPackLess", fn := fun _ => fun
  | [d] => { results := [.lit (.bool true)], args := [d] }
  | _ => none }
def fnPackLessRow : OpenClaim := { program := "ytkjginibdablnaa", sum := "3949cb33392f5fa492bca6901564c6928f4b05aa5d7f8cd8df483c2a202324c3", func := "loop.example/depositary/laws.FnPackLess", spec := "fnPackLess", apart := false }
def FnPackLessSaid : Prop := fnPackLessRow.holds Try.pinned (OpenSpec.ofChange fnPackLessSpec)

/-- ITS FALSE NEIGHBOUR: 'it returns false'. Refute it at one input. -/
def fnPackLessWrong : ChangeSpec := { name := "fnPackLess", fn := fun _ => fun
  | [d] => { results := [.lit (.bool false)], args := [d] }
  | _ => none }
def FnPackLessWrongFalsely : Prop := fnPackLessRow.holds Try.pinned (OpenSpec.ofChange fnPackLessWrong)

/-- 'laws.FnPackTwo': WHATEVER THE INPUT: true; the input reads as it did. -/
def fnPackTwoSpec : ChangeSpec := { name := "fnPackTwo", fn := fun _ => fun
  | [d1, d2] => { results := [.lit (.bool true)], args := [d1, d2] }
  | _ => none }
def fnPackTwoRow : OpenClaim := { program := "ytkjginibdablnaa", sum := "3949cb33392f5fa492bca6901564c6928f4b05aa5d7f8cd8df483c2a202324c3", func := "loop.example/depositary/laws.FnPackTwo", spec := "fnPackTwo", apart := false }
def FnPackTwoSaid : Prop := fnPackTwoRow.holds Try.pinned (OpenSpec.ofChange fnPackTwoSpec)

/-- ITS FALSE NEIGHBOUR: 'it returns false'. Refute it at one input. -/
def fnPackTwoWrong : ChangeSpec := { name := "fnPackTwo", fn := fun _ => fun
  | [d1, d2] => { results := [.lit (.bool false)], args := [d1, d2] }
  | _ => none }
def FnPackTwoWrongFalsely : Prop := fnPackTwoRow.holds Try.pinned (OpenSpec.ofChange fnPackTwoWrong)

/- THE SECOND FORM. 'bulk': how many values and letters a reading holds, each counted each time it is reached (what is shared counts as often as it is met; a slice's spare places count too). A statement '..UptoSaid' is the law's where the arguments, and the package variables that the reading takes, are together of bulk at most 1048576: NARROWER than '..Said'. Prove '..Said' where nothing that the law and all that it calls make is longer than what came in: it says more and counts as full. Else prove '..UptoSaid'. A law counts once. -/
mutual
def uptoBulk {H : Type} : DataW H → Nat
  | .lit (.string bytes) => bytes.length + 1
  | .lit _ => 1
  | .nil => 1
  | .ptr d => uptoBulk d + 1
  | .slice elems spare => uptoBulkAll elems + uptoBulkAll spare + 1
  | .agg parts => uptoBulkAll parts + 1
  | .iface _ d => uptoBulk d + 1
  | .map entries => uptoBulkEntries entries + 1
  | .held _ => 1
def uptoBulkAll {H : Type} : List (DataW H) → Nat
  | [] => 0
  | d :: r => uptoBulk d + uptoBulkAll r
def uptoBulkEntries {H : Type} : List (Lit × DataW H) → Nat
  | [] => 0
  | x :: r => uptoBulkEntry x + uptoBulkEntries r
def uptoBulkEntry {H : Type} : Lit × DataW H → Nat
  | (.string bytes, d) => bytes.length + uptoBulk d + 1
  | (_, d) => uptoBulk d + 1
 end
def uptoSmall : (H : Type) → List (DataW H) → Bool := fun _ ds => decide (uptoBulkAll ds ≤ 1048576)
def OpenSpec.upto (s : _root_.Go.ChangeSpec) : _root_.Go.OpenSpec := { _root_.Go.OpenSpec.ofChange s with cond := some uptoSmall }

/-- 'laws.FnExactPackNames', WHERE WHAT IT READS IS OF BULK AT MOST 1048576: true; the input reads as it did. -/
def fnExactPackNamesUptoRow : OpenClaim := { program := "ytkjginibdablnaa", sum := "3949cb33392f5fa492bca6901564c6928f4b05aa5d7f8cd8df483c2a202324c3", func := "loop.example/depositary/laws.FnExactPackNames", spec := "fnExactPackNames", apart := false, narrowed := true }
def FnExactPackNamesUptoSaid : Prop := fnExactPackNamesUptoRow.holds Try.pinned (OpenSpec.upto fnExactPackNamesSpec)

/-- 'laws.FnExactPackLess', WHERE WHAT IT READS IS OF BULK AT MOST 1048576: true; the input reads as it did. -/
def fnExactPackLessUptoRow : OpenClaim := { program := "ytkjginibdablnaa", sum := "3949cb33392f5fa492bca6901564c6928f4b05aa5d7f8cd8df483c2a202324c3", func := "loop.example/depositary/laws.FnExactPackLess", spec := "fnExactPackLess", apart := false, narrowed := true }
def FnExactPackLessUptoSaid : Prop := fnExactPackLessUptoRow.holds Try.pinned (OpenSpec.upto fnExactPackLessSpec)

/-- 'laws.FnPackLess', WHERE WHAT IT READS IS OF BULK AT MOST 1048576: true; the input reads as it did. -/
def fnPackLessUptoRow : OpenClaim := { program := "ytkjginibdablnaa", sum := "3949cb33392f5fa492bca6901564c6928f4b05aa5d7f8cd8df483c2a202324c3", func := "loop.example/depositary/laws.FnPackLess", spec := "fnPackLess", apart := false, narrowed := true }
def FnPackLessUptoSaid : Prop := fnPackLessUptoRow.holds Try.pinned (OpenSpec.upto fnPackLessSpec)

/-- 'laws.FnPackTwo', WHERE WHAT IT READS IS OF BULK AT MOST 1048576: true; the input reads as it did. -/
def fnPackTwoUptoRow : OpenClaim := { program := "ytkjginibdablnaa", sum := "3949cb33392f5fa492bca6901564c6928f4b05aa5d7f8cd8df483c2a202324c3", func := "loop.example/depositary/laws.FnPackTwo", spec := "fnPackTwo", apart := false, narrowed := true }
def FnPackTwoUptoSaid : Prop := fnPackTwoUptoRow.holds Try.pinned (OpenSpec.upto fnPackTwoSpec)

end Rows
end Go.Proofs.Ytkjginibdablnaa
