/-
  No cell of these rows narrows 'for every input' (looked for: loops, veiled, ifaces, maps, wideKeys, modest, calm, conditions, laid).
  DERIVED. THE GIVEN ROWS OF THIS SEAT. 6 by the template 'for every input the law returns true; each argument reads behind the call as it read before'; 0 by the template 'total and deterministic' (their statements: YtcldcgnfeegaeaaTotals.lean).
  GIVEN WITH THE SEED: the statements are not yours to turn. If you find one false, say at which input.
  Laid BY PROGRAM, IN A SANDBOX (cutbox-rows.mjs): the forced cells as the released guide's own fill.sh prints them over the translation f9f75d03e51422f3… (all of the seat's roots in one cut). By AI agents, Wed Nov 11 2026. No macro, syntax, notation, axiom, sorry.
-/
import Derived.Test.YtcldcgnfeegaeaaChecked
import GoSem.Claim
import GoSem.ClaimJoined
import GoSem.ClaimMapViews
import Derived.JoinedTies
import Derived.KernelRfl
namespace Go.Proofs.Ytcldcgnfeegaeaa
/- THE CELL 'sum', in the pinned program and in every row, IS THE sha256 OF THE DUMP (.gsa) THAT YtcldcgnfeegaeaaProg.lean LOADS. Nothing in Lean hashes anything: it is a label: what it is worth is what the hold of that sum in a sandbox is worth. -/
noncomputable def Try.pinned : Pinned := { name := "ytcldcgnfeegaeaa", sum := "f9f75d03e51422f3362f81d9962ec2be27b6224ccc08cfbfb00d19667cb0afdc", checked := Try.checked }
namespace Rows
def none {H : Type} : Left H := { results := [], args := [] }

/-- 'laws.FnExactConstants': WHATEVER THE INPUT: true; the input reads as it did. -/
def fnExactConstantsSpec : ChangeSpec := { name := "fnExactConstants", fn := fun _ => fun
  | [] => { results := [.lit (.bool true)], args := [] }
  | _ => none }
def fnExactConstantsRow : OpenClaim := { program := "ytcldcgnfeegaeaa", sum := "f9f75d03e51422f3362f81d9962ec2be27b6224ccc08cfbfb00d19667cb0afdc", func := "loop.example/depositary/laws.FnExactConstants", spec := "fnExactConstants", apart := false }
def FnExactConstantsSaid : Prop := fnExactConstantsRow.holds Try.pinned (OpenSpec.ofChange fnExactConstantsSpec)

/-- ITS FALSE NEIGHBOUR: 'it returns false'. Refute it at one input. -/
def fnExactConstantsWrong : ChangeSpec := { name := "fnExactConstants", fn := fun _ => fun
  | [] => { results := [.lit (.bool false)], args := [] }
  | _ => none }
def FnExactConstantsWrongFalsely : Prop := fnExactConstantsRow.holds Try.pinned (OpenSpec.ofChange fnExactConstantsWrong)

/-- 'laws.FnExactClassOf': WHATEVER THE INPUT: true; the input reads as it did. -/
def fnExactClassOfSpec : ChangeSpec := { name := "fnExactClassOf", fn := fun _ => fun
  | [d] => { results := [.lit (.bool true)], args := [d] }
  | _ => none }
def fnExactClassOfRow : OpenClaim := { program := "ytcldcgnfeegaeaa", sum := "f9f75d03e51422f3362f81d9962ec2be27b6224ccc08cfbfb00d19667cb0afdc", func := "loop.example/depositary/laws.FnExactClassOf", spec := "fnExactClassOf", apart := false }
def FnExactClassOfSaid : Prop := fnExactClassOfRow.holds Try.pinned (OpenSpec.ofChange fnExactClassOfSpec)

/-- ITS FALSE NEIGHBOUR: 'it returns false'. Refute it at one input. -/
def fnExactClassOfWrong : ChangeSpec := { name := "fnExactClassOf", fn := fun _ => fun
  | [d] => { results := [.lit (.bool false)], args := [d] }
  | _ => none }
def FnExactClassOfWrongFalsely : Prop := fnExactClassOfRow.holds Try.pinned (OpenSpec.ofChange fnExactClassOfWrong)

/-- 'laws.FnExactTextOk': WHATEVER THE INPUT: true; the input reads as it did. -/
def fnExactTextOkSpec : ChangeSpec := { name := "fnExactTextOk", fn := fun _ => fun
  | [d] => { results := [.lit (.bool true)], args := [d] }
  | _ => none }
def fnExactTextOkRow : OpenClaim := { program := "ytcldcgnfeegaeaa", sum := "f9f75d03e51422f3362f81d9962ec2be27b6224ccc08cfbfb00d19667cb0afdc", func := "loop.example/depositary/laws.FnExactTextOk", spec := "fnExactTextOk", apart := false }
def FnExactTextOkSaid : Prop := fnExactTextOkRow.holds Try.pinned (OpenSpec.ofChange fnExactTextOkSpec)

/-- ITS FALSE NEIGHBOUR: 'it returns false'. Refute it at one input. -/
def fnExactTextOkWrong : ChangeSpec := { name := "fnExactTextOk", fn := fun _ => fun
  | [d] => { results := [.lit (.bool false)], args := [d] }
  | _ => none }
def FnExactTextOkWrongFalsely : Prop := fnExactTextOkRow.holds Try.pinned (OpenSpec.ofChange fnExactTextOkWrong)

/-- 'laws.FnExactPieceOk': WHATEVER THE INPUT: true; the input reads as it did. -/
def fnExactPieceOkSpec : ChangeSpec := { name := "fnExactPieceOk", fn := fun _ => fun
  | [d] => { results := [.lit (.bool true)], args := [d] }
  | _ => none }
def fnExactPieceOkRow : OpenClaim := { program := "ytcldcgnfeegaeaa", sum := "f9f75d03e51422f3362f81d9962ec2be27b6224ccc08cfbfb00d19667cb0afdc", func := "loop.example/depositary/laws.FnExactPieceOk", spec := "fnExactPieceOk", apart := false }
def FnExactPieceOkSaid : Prop := fnExactPieceOkRow.holds Try.pinned (OpenSpec.ofChange fnExactPieceOkSpec)

/-- ITS FALSE NEIGHBOUR: 'it returns false'. Refute it at one input. -/
def fnExactPieceOkWrong : ChangeSpec := { name := "fnExactPieceOk", fn := fun _ => fun
  | [d] => { results := [.lit (.bool false)], args := [d] }
  | _ => none }
def FnExactPieceOkWrongFalsely : Prop := fnExactPieceOkRow.holds Try.pinned (OpenSpec.ofChange fnExactPieceOkWrong)

/-- 'laws.FnClass': WHATEVER THE INPUT: true; the input reads as it did. -/
def fnClassSpec : ChangeSpec := { name := "fnClass", fn := fun _ => fun
  | [d] => { results := [.lit (.bool true)], args := [d] }
  | _ => none }
def fnClassRow : OpenClaim := { program := "ytcldcgnfeegaeaa", sum := "f9f75d03e51422f3362f81d9962ec2be27b6224ccc08cfbfb00d19667cb0afdc", func := "loop.example/depositary/laws.FnClass", spec := "fnClass", apart := false }
def FnClassSaid : Prop := fnClassRow.holds Try.pinned (OpenSpec.ofChange fnClassSpec)

/-- ITS FALSE NEIGHBOUR: 'it returns false'. Refute it at one input. -/
def fnClassWrong : ChangeSpec := { name := "fnClass", fn := fun _ => fun
  | [d] => { results := [.lit (.bool false)], args := [d] }
  | _ => none }
def FnClassWrongFalsely : Prop := fnClassRow.holds Try.pinned (OpenSpec.ofChange fnClassWrong)

/-- 'laws.FnExactCutAt': WHATEVER THE INPUT: true; the input reads as it did. -/
def fnExactCutAtSpec : ChangeSpec := { name := "fnExactCutAt", fn := fun _ => fun
  | [d1, d2] => { results := [.lit (.bool true)], args := [d1, d2] }
  | _ => none }
def fnExactCutAtRow : OpenClaim := { program := "ytcldcgnfeegaeaa", sum := "f9f75d03e51422f3362f81d9962ec2be27b6224ccc08cfbfb00d19667cb0afdc", func := "loop.example/depositary/laws.FnExactCutAt", spec := "fnExactCutAt", apart := false }
def FnExactCutAtSaid : Prop := fnExactCutAtRow.holds Try.pinned (OpenSpec.ofChange fnExactCutAtSpec)

/-- ITS FALSE NEIGHBOUR: 'it returns false'. Refute it at one input. -/
def fnExactCutAtWrong : ChangeSpec := { name := "fnExactCutAt", fn := fun _ => fun
  | [d1, d2] => { results := [.lit (.bool false)], args := [d1, d2] }
  | _ => none }
def FnExactCutAtWrongFalsely : Prop := fnExactCutAtRow.holds Try.pinned (OpenSpec.ofChange fnExactCutAtWrong)

/- THE SECOND FORM. 'bulk': how many values and letters a reading holds, each counted each time it is reached (what is shared counts as often as it is met; a slice's spare places count too). A statement '..UptoSaid' is the law's where the arguments, and the package variables that the reading takes, are together of bulk at most 1048576: NARROWER than '..Said'. Prove '..Said' where nothing that the law and all that it calls make is longer than what came in: it says more and counts as full. Else prove '..UptoSaid'. A law counts once. -/
mutual
def uptoBulk {H : Type} : DataW H → Nat
  | .lit (.string bytes) => bytes.length + 1
  | .lit _ => 1
  | .nil => 1
  | .ptr d => uptoBulk d + 1
  | .slice elems spare => uptoBulkAll elems + uptoBulkAll spare + 1
  | .agg parts => uptoBulkAll parts + 1
  | .iface _ d => uptoBulk d + 1
  | .map entries => uptoBulkEntries entries + 1
  | .held _ => 1
def uptoBulkAll {H : Type} : List (DataW H) → Nat
  | [] => 0
  | d :: r => uptoBulk d + uptoBulkAll r
def uptoBulkEntries {H : Type} : List (Lit × DataW H) → Nat
  | [] => 0
  | x :: r => uptoBulkEntry x + uptoBulkEntries r
def uptoBulkEntry {H : Type} : Lit × DataW H → Nat
  | (.string bytes, d) => bytes.length + uptoBulk d + 1
  | (_, d) => uptoBulk d + 1
 end
def uptoSmall : (H : Type) → List (DataW H) → Bool := fun _ ds => decide (uptoBulkAll ds ≤ 1048576)
def OpenSpec.upto (s : _root_.Go.ChangeSpec) : _root_.Go.OpenSpec := { _root_.Go.OpenSpec.ofChange s with cond := some uptoSmall }

/-- 'laws.FnExactConstants', WHERE WHAT IT READS IS OF BULK AT MOST 1048576: true; the input reads as it did. -/
def fnExactConstantsUptoRow : OpenClaim := { program := "ytcldcgnfeegaeaa", sum := "f9f75d03e51422f3362f81d9962ec2be27b6224ccc08cfbfb00d19667cb0afdc", func := "loop.example/depositary/laws.FnExactConstants", spec := "fnExactConstants", apart := false, narrowed := true }
def FnExactConstantsUptoSaid : Prop := fnExactConstantsUptoRow.holds Try.pinned (OpenSpec.upto fnExactConstantsSpec)

/-- 'laws.FnExactClassOf', WHERE WHAT IT READS IS OF BULK AT MOST 1048576: true; the input reads as it did. -/
def fnExactClassOfUptoRow : OpenClaim := { program := "ytcldcgnfeegaeaa", sum := "f9f75d03e51422f3362f81d9962ec2be27b6224ccc08cfbfb00d19667cb0afdc", func := "loop.example/depositary/laws.FnExactClassOf", spec := "fnExactClassOf", apart := false, narrowed := true }
def FnExactClassOfUptoSaid : Prop := fnExactClassOfUptoRow.holds Try.pinned (OpenSpec.upto fnExactClassOfSpec)

/-- 'laws.FnExactTextOk', WHERE WHAT IT READS IS OF BULK AT MOST 1048576: true; the input reads as it did. -/
def fnExactTextOkUptoRow : OpenClaim := { program := "ytcldcgnfeegaeaa", sum := "f9f75d03e51422f3362f81d9962ec2be27b6224ccc08cfbfb00d19667cb0afdc", func := "loop.example/depositary/laws.FnExactTextOk", spec := "fnExactTextOk", apart := false, narrowed := true }
def FnExactTextOkUptoSaid : Prop := fnExactTextOkUptoRow.holds Try.pinned (OpenSpec.upto fnExactTextOkSpec)

/-- 'laws.FnExactPieceOk', WHERE WHAT IT READS IS OF BULK AT MOST 1048576: true; the input reads as it did. -/
def fnExactPieceOkUptoRow : OpenClaim := { program := "ytcldcgnfeegaeaa", sum := "f9f75d03e51422f3362f81d9962ec2be27b6224ccc08cfbfb00d19667cb0afdc", func := "loop.example/depositary/laws.FnExactPieceOk", spec := "fnExactPieceOk", apart := false, narrowed := true }
def FnExactPieceOkUptoSaid : Prop := fnExactPieceOkUptoRow.holds Try.pinned (OpenSpec.upto fnExactPieceOkSpec)

/-- 'laws.FnClass', WHERE WHAT IT READS IS OF BULK AT MOST 1048576: true; the input reads as it did. -/
def fnClassUptoRow : OpenClaim := { program := "ytcldcgnfeegaeaa", sum := "f9f75d03e51422f3362f81d9962ec2be27b6224ccc08cfbfb00d19667cb0afdc", func := "loop.example/depositary/laws.FnClass", spec := "fnClass", apart := false, narrowed := true }
def FnClassUptoSaid : Prop := fnClassUptoRow.holds Try.pinned (OpenSpec.upto fnClassSpec)

/-- 'laws.FnExactCutAt', WHERE WHAT IT READS IS OF BULK AT MOST 1048576: true; the input reads as it did. -/
def fnExactCutAtUptoRow : OpenClaim := { program := "ytcldcgnfeegaeaa", sum := "f9f75d03e51422f3362f81d9962ec2be27b6224ccc08cfbfb00d19667cb0afdc", func := "loop.example/depositary/laws.FnExactCutAt", spec := "fnExactCutAt", apart := false, narrowed := true }
def FnExactCutAtUptoSaid : Prop := fnExactCutAtUptoRow.holds Try.pinned (OpenSpec.upto fnExactCutAtSpec)

end Rows
end Go.Proofs.Ytcldcgnfeegaeaa
