/-
  No cell of these rows narrows 'for every input' (looked for: loops, veiled, ifaces, maps, wideKeys, modest, calm, conditions, laid).
  DERIVED. THE GIVEN ROWS OF THIS SEAT. 6 by the template 'for every input the law returns true; each argument reads behind the call as it read before'; 0 by the template 'total and deterministic' (their statements: YtndiofhinlogmaaTotals.lean).
  GIVEN WITH THE SEED: the statements are not yours to turn. If you find one false, say at which input.
  Laid BY PROGRAM, IN A SANDBOX (cutbox-rows.mjs): the forced cells as the released guide's own fill.sh prints them over the translation 6bfe07e91565f743… (all of the seat's roots in one cut). By AI agents, Wed Nov 11 2026. No macro, syntax, notation, axiom, sorry.
-/
import Derived.Test.YtndiofhinlogmaaChecked
import GoSem.Claim
import GoSem.ClaimJoined
import GoSem.ClaimMapViews
import Derived.JoinedTies
import Derived.KernelRfl
namespace Go.Proofs.Ytndiofhinlogmaa
/- THE CELL 'sum', in the pinned program and in every row, IS THE sha256 OF THE DUMP (.gsa) THAT YtndiofhinlogmaaProg.lean LOADS. Nothing in Lean hashes anything: it is a label: what it is worth is what the hold of that sum in a sandbox is worth. -/
noncomputable def Try.pinned : Pinned := { name := "ytndiofhinlogmaa", sum := "6bfe07e91565f7437e5ace3212bb0689354ae94010252bbde0182c5955095a5e", checked := Try.checked }
namespace Rows
def none {H : Type} : Left H := { results := [], args := [] }

/-- 'laws.FnExactPathOk': WHATEVER THE INPUT: true; the input reads as it did. -/
def fnExactPathOkSpec : ChangeSpec := { name := "fnExactPathOk", fn := fun _ => fun
  | [d] => { results := [.lit (.bool true)], args := [d] }
  | _ => none }
def fnExactPathOkRow : OpenClaim := { program := "ytndiofhinlogmaa", sum := "6bfe07e91565f7437e5ace3212bb0689354ae94010252bbde0182c5955095a5e", func := "loop.example/depositary/laws.FnExactPathOk", spec := "fnExactPathOk", inPlace := ["internal/bytealg.IndexByteString", "internal/bytealg.IndexString"], named := ["internal/bytealg.MaxLen"], apart := false }
def FnExactPathOkSaid : Prop := fnExactPathOkRow.holds Try.pinned (OpenSpec.ofChange fnExactPathOkSpec)

/-- ITS FALSE NEIGHBOUR: 'it returns false'. Refute it at one input. -/
def fnExactPathOkWrong : ChangeSpec := { name := "fnExactPathOk", fn := fun _ => fun
  | [d] => { results := [.lit (.bool false)], args := [d] }
  | _ => none }
def FnExactPathOkWrongFalsely : Prop := fnExactPathOkRow.holds Try.pinned (OpenSpec.ofChange fnExactPathOkWrong)

/-- 'laws.FnPath': WHATEVER THE INPUT: true; the input reads as it did. -/
def fnPathSpec : ChangeSpec := { name := "fnPath", fn := fun _ => fun
  | [d] => { results := [.lit (.bool true)], args := [d] }
  | _ => none }
def fnPathRow : OpenClaim := { program := "ytndiofhinlogmaa", sum := "6bfe07e91565f7437e5ace3212bb0689354ae94010252bbde0182c5955095a5e", func := "loop.example/depositary/laws.FnPath", spec := "fnPath", inPlace := ["internal/bytealg.IndexByteString", "internal/bytealg.IndexString"], named := ["internal/bytealg.MaxLen"], apart := false }
def FnPathSaid : Prop := fnPathRow.holds Try.pinned (OpenSpec.ofChange fnPathSpec)

/-- ITS FALSE NEIGHBOUR: 'it returns false'. Refute it at one input. -/
def fnPathWrong : ChangeSpec := { name := "fnPath", fn := fun _ => fun
  | [d] => { results := [.lit (.bool false)], args := [d] }
  | _ => none }
def FnPathWrongFalsely : Prop := fnPathRow.holds Try.pinned (OpenSpec.ofChange fnPathWrong)

/-- 'laws.FnExactTreeOk': WHATEVER THE INPUT: true; the input reads as it did. -/
def fnExactTreeOkSpec : ChangeSpec := { name := "fnExactTreeOk", fn := fun _ => fun
  | [d] => { results := [.lit (.bool true)], args := [d] }
  | _ => none }
def fnExactTreeOkRow : OpenClaim := { program := "ytndiofhinlogmaa", sum := "6bfe07e91565f7437e5ace3212bb0689354ae94010252bbde0182c5955095a5e", func := "loop.example/depositary/laws.FnExactTreeOk", spec := "fnExactTreeOk", inPlace := ["internal/bytealg.IndexByteString", "internal/bytealg.IndexString"], unfollowed := true, recurses := true, named := ["internal/bytealg.MaxLen"], apart := false }
def FnExactTreeOkSaid : Prop := fnExactTreeOkRow.holds Try.pinned (OpenSpec.ofChange fnExactTreeOkSpec)

/-- ITS FALSE NEIGHBOUR: 'it returns false'. Refute it at one input. -/
def fnExactTreeOkWrong : ChangeSpec := { name := "fnExactTreeOk", fn := fun _ => fun
  | [d] => { results := [.lit (.bool false)], args := [d] }
  | _ => none }
def FnExactTreeOkWrongFalsely : Prop := fnExactTreeOkRow.holds Try.pinned (OpenSpec.ofChange fnExactTreeOkWrong)

/-- 'laws.FnExactTreeGet': WHATEVER THE INPUT: true; the input reads as it did. -/
def fnExactTreeGetSpec : ChangeSpec := { name := "fnExactTreeGet", fn := fun _ => fun
  | [d1, d2] => { results := [.lit (.bool true)], args := [d1, d2] }
  | _ => none }
def fnExactTreeGetRow : OpenClaim := { program := "ytndiofhinlogmaa", sum := "6bfe07e91565f7437e5ace3212bb0689354ae94010252bbde0182c5955095a5e", func := "loop.example/depositary/laws.FnExactTreeGet", spec := "fnExactTreeGet", inPlace := ["internal/bytealg.IndexByteString", "internal/bytealg.IndexString"], unfollowed := true, recurses := true, named := ["internal/bytealg.MaxLen"], apart := false }
def FnExactTreeGetSaid : Prop := fnExactTreeGetRow.holds Try.pinned (OpenSpec.ofChange fnExactTreeGetSpec)

/-- ITS FALSE NEIGHBOUR: 'it returns false'. Refute it at one input. -/
def fnExactTreeGetWrong : ChangeSpec := { name := "fnExactTreeGet", fn := fun _ => fun
  | [d1, d2] => { results := [.lit (.bool false)], args := [d1, d2] }
  | _ => none }
def FnExactTreeGetWrongFalsely : Prop := fnExactTreeGetRow.holds Try.pinned (OpenSpec.ofChange fnExactTreeGetWrong)

/-- 'laws.FnTreeForm': WHATEVER THE INPUT: true; the input reads as it did. -/
def fnTreeFormSpec : ChangeSpec := { name := "fnTreeForm", fn := fun _ => fun
  | [d1, d2] => { results := [.lit (.bool true)], args := [d1, d2] }
  | _ => none }
def fnTreeFormRow : OpenClaim := { program := "ytndiofhinlogmaa", sum := "6bfe07e91565f7437e5ace3212bb0689354ae94010252bbde0182c5955095a5e", func := "loop.example/depositary/laws.FnTreeForm", spec := "fnTreeForm", inPlace := ["internal/bytealg.IndexByteString", "internal/bytealg.IndexString"], unfollowed := true, recurses := true, named := ["internal/bytealg.MaxLen"], apart := false }
def FnTreeFormSaid : Prop := fnTreeFormRow.holds Try.pinned (OpenSpec.ofChange fnTreeFormSpec)

/-- ITS FALSE NEIGHBOUR: 'it returns false'. Refute it at one input. -/
def fnTreeFormWrong : ChangeSpec := { name := "fnTreeForm", fn := fun _ => fun
  | [d1, d2] => { results := [.lit (.bool false)], args := [d1, d2] }
  | _ => none }
def FnTreeFormWrongFalsely : Prop := fnTreeFormRow.holds Try.pinned (OpenSpec.ofChange fnTreeFormWrong)

/-- 'laws.FnTreeGet': WHATEVER THE INPUT: true; the input reads as it did. -/
def fnTreeGetSpec : ChangeSpec := { name := "fnTreeGet", fn := fun _ => fun
  | [d] => { results := [.lit (.bool true)], args := [d] }
  | _ => none }
def fnTreeGetRow : OpenClaim := { program := "ytndiofhinlogmaa", sum := "6bfe07e91565f7437e5ace3212bb0689354ae94010252bbde0182c5955095a5e", func := "loop.example/depositary/laws.FnTreeGet", spec := "fnTreeGet", inPlace := ["internal/bytealg.IndexByteString", "internal/bytealg.IndexString"], unfollowed := true, recurses := true, named := ["internal/bytealg.MaxLen"], apart := false }
def FnTreeGetSaid : Prop := fnTreeGetRow.holds Try.pinned (OpenSpec.ofChange fnTreeGetSpec)

/-- ITS FALSE NEIGHBOUR: 'it returns false'. Refute it at one input. -/
def fnTreeGetWrong : ChangeSpec := { name := "fnTreeGet", fn := fun _ => fun
  | [d] => { results := [.lit (.bool false)], args := [d] }
  | _ => none }
def FnTreeGetWrongFalsely : Prop := fnTreeGetRow.holds Try.pinned (OpenSpec.ofChange fnTreeGetWrong)

/- THE SECOND FORM. 'bulk': how many values and letters a reading holds, each counted each time it is reached (what is shared counts as often as it is met; a slice's spare places count too). A statement '..UptoSaid' is the law's where the arguments, and the package variables that the reading takes, are together of bulk at most 1048576: NARROWER than '..Said'. Prove '..Said' where nothing that the law and all that it calls make is longer than what came in: it says more and counts as full. Else prove '..UptoSaid'. A law counts once. -/
mutual
def uptoBulk {H : Type} : DataW H → Nat
  | .lit (.string bytes) => bytes.length + 1
  | .lit _ => 1
  | .nil => 1
  | .ptr d => uptoBulk d + 1
  | .slice elems spare => uptoBulkAll elems + uptoBulkAll spare + 1
  | .agg parts => uptoBulkAll parts + 1
  | .iface _ d => uptoBulk d + 1
  | .map entries => uptoBulkEntries entries + 1
  | .held _ => 1
def uptoBulkAll {H : Type} : List (DataW H) → Nat
  | [] => 0
  | d :: r => uptoBulk d + uptoBulkAll r
def uptoBulkEntries {H : Type} : List (Lit × DataW H) → Nat
  | [] => 0
  | x :: r => uptoBulkEntry x + uptoBulkEntries r
def uptoBulkEntry {H : Type} : Lit × DataW H → Nat
  | (.string bytes, d) => bytes.length + uptoBulk d + 1
  | (_, d) => uptoBulk d + 1
 end
def uptoSmall : (H : Type) → List (DataW H) → Bool := fun _ ds => decide (uptoBulkAll ds ≤ 1048576)
def OpenSpec.upto (s : _root_.Go.ChangeSpec) : _root_.Go.OpenSpec := { _root_.Go.OpenSpec.ofChange s with cond := some uptoSmall }

/-- 'laws.FnExactPathOk', WHERE WHAT IT READS IS OF BULK AT MOST 1048576: true; the input reads as it did. -/
def fnExactPathOkUptoRow : OpenClaim := { program := "ytndiofhinlogmaa", sum := "6bfe07e91565f7437e5ace3212bb0689354ae94010252bbde0182c5955095a5e", func := "loop.example/depositary/laws.FnExactPathOk", spec := "fnExactPathOk", inPlace := ["internal/bytealg.IndexByteString", "internal/bytealg.IndexString"], named := ["internal/bytealg.MaxLen"], apart := false, narrowed := true }
def FnExactPathOkUptoSaid : Prop := fnExactPathOkUptoRow.holds Try.pinned (OpenSpec.upto fnExactPathOkSpec)

/-- 'laws.FnPath', WHERE WHAT IT READS IS OF BULK AT MOST 1048576: true; the input reads as it did. -/
def fnPathUptoRow : OpenClaim := { program := "ytndiofhinlogmaa", sum := "6bfe07e91565f7437e5ace3212bb0689354ae94010252bbde0182c5955095a5e", func := "loop.example/depositary/laws.FnPath", spec := "fnPath", inPlace := ["internal/bytealg.IndexByteString", "internal/bytealg.IndexString"], named := ["internal/bytealg.MaxLen"], apart := false, narrowed := true }
def FnPathUptoSaid : Prop := fnPathUptoRow.holds Try.pinned (OpenSpec.upto fnPathSpec)

/-- 'laws.FnExactTreeOk', WHERE WHAT IT READS IS OF BULK AT MOST 1048576: true; the input reads as it did. -/
def fnExactTreeOkUptoRow : OpenClaim := { program := "ytndiofhinlogmaa", sum := "6bfe07e91565f7437e5ace3212bb0689354ae94010252bbde0182c5955095a5e", func := "loop.example/depositary/laws.FnExactTreeOk", spec := "fnExactTreeOk", inPlace := ["internal/bytealg.IndexByteString", "internal/bytealg.IndexString"], unfollowed := true, recurses := true, named := ["internal/bytealg.MaxLen"], apart := false, narrowed := true }
def FnExactTreeOkUptoSaid : Prop := fnExactTreeOkUptoRow.holds Try.pinned (OpenSpec.upto fnExactTreeOkSpec)

/-- 'laws.FnExactTreeGet', WHERE WHAT IT READS IS OF BULK AT MOST 1048576: true; the input reads as it did. -/
def fnExactTreeGetUptoRow : OpenClaim := { program := "ytndiofhinlogmaa", sum := "6bfe07e91565f7437e5ace3212bb0689354ae94010252bbde0182c5955095a5e", func := "loop.example/depositary/laws.FnExactTreeGet", spec := "fnExactTreeGet", inPlace := ["internal/bytealg.IndexByteString", "internal/bytealg.IndexString"], unfollowed := true, recurses := true, named := ["internal/bytealg.MaxLen"], apart := false, narrowed := true }
def FnExactTreeGetUptoSaid : Prop := fnExactTreeGetUptoRow.holds Try.pinned (OpenSpec.upto fnExactTreeGetSpec)

/-- 'laws.FnTreeForm', WHERE WHAT IT READS IS OF BULK AT MOST 1048576: true; the input reads as it did. -/
def fnTreeFormUptoRow : OpenClaim := { program := "ytndiofhinlogmaa", sum := "6bfe07e91565f7437e5ace3212bb0689354ae94010252bbde0182c5955095a5e", func := "loop.example/depositary/laws.FnTreeForm", spec := "fnTreeForm", inPlace := ["internal/bytealg.IndexByteString", "internal/bytealg.IndexString"], unfollowed := true, recurses := true, named := ["internal/bytealg.MaxLen"], apart := false, narrowed := true }
def FnTreeFormUptoSaid : Prop := fnTreeFormUptoRow.holds Try.pinned (OpenSpec.upto fnTreeFormSpec)

/-- 'laws.FnTreeGet', WHERE WHAT IT READS IS OF BULK AT MOST 1048576: true; the input reads as it did. -/
def fnTreeGetUptoRow : OpenClaim := { program := "ytndiofhinlogmaa", sum := "6bfe07e91565f7437e5ace3212bb0689354ae94010252bbde0182c5955095a5e", func := "loop.example/depositary/laws.FnTreeGet", spec := "fnTreeGet", inPlace := ["internal/bytealg.IndexByteString", "internal/bytealg.IndexString"], unfollowed := true, recurses := true, named := ["internal/bytealg.MaxLen"], apart := false, narrowed := true }
def FnTreeGetUptoSaid : Prop := fnTreeGetUptoRow.holds Try.pinned (OpenSpec.upto fnTreeGetSpec)

end Rows
end Go.Proofs.Ytndiofhinlogmaa
