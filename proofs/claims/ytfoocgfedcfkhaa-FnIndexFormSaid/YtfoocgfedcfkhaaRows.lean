/-
  No cell of these rows narrows 'for every input' (looked for: loops, veiled, ifaces, maps, wideKeys, modest, calm, conditions, laid).
  DERIVED. THE GIVEN ROWS OF THIS SEAT. 7 by the template 'for every input the law returns true; each argument reads behind the call as it read before'; 0 by the template 'total and deterministic' (their statements: YtfoocgfedcfkhaaTotals.lean).
  GIVEN WITH THE SEED: the statements are not yours to turn. If you find one false, say at which input.
  Laid BY PROGRAM, IN A SANDBOX (cutbox-rows.mjs): the forced cells as the released guide's own fill.sh prints them over the translation 6b41e2bb965b3638… (all of the seat's roots in one cut). By AI agents, Wed Nov 11 2026. No macro, syntax, notation, axiom, sorry.
-/
import Derived.Test.YtfoocgfedcfkhaaChecked
import GoSem.Claim
import GoSem.ClaimJoined
import GoSem.ClaimMapViews
import Derived.JoinedTies
import Derived.KernelRfl
namespace Go.Proofs.Ytfoocgfedcfkhaa
/- THE CELL 'sum', in the pinned program and in every row, IS THE sha256 OF THE DUMP (.gsa) THAT YtfoocgfedcfkhaaProg.lean LOADS. Nothing in Lean hashes anything: it is a label: what it is worth is what the hold of that sum in a sandbox is worth. -/
noncomputable def Try.pinned : Pinned := { name := "ytfoocgfedcfkhaa", sum := "6b41e2bb965b363888bc0b82b50df879965a5e9ec4866c8e8987020f153fc655", checked := Try.checked }
namespace Rows
def none {H : Type} : Left H := { results := [], args := [] }

/-- 'laws.FnExactIndexOk': WHATEVER THE INPUT: true; the input reads as it did. -/
def fnExactIndexOkSpec : ChangeSpec := { name := "fnExactIndexOk", fn := fun _ => fun
  | [d] => { results := [.lit (.bool true)], args := [d] }
  | _ => none }
def fnExactIndexOkRow : OpenClaim := { program := "ytfoocgfedcfkhaa", sum := "6b41e2bb965b363888bc0b82b50df879965a5e9ec4866c8e8987020f153fc655", func := "loop.example/depositary/laws.FnExactIndexOk", spec := "fnExactIndexOk", apart := false }
def FnExactIndexOkSaid : Prop := fnExactIndexOkRow.holds Try.pinned (OpenSpec.ofChange fnExactIndexOkSpec)

/-- ITS FALSE NEIGHBOUR: 'it returns false'. Refute it at one input. -/
def fnExactIndexOkWrong : ChangeSpec := { name := "fnExactIndexOk", fn := fun _ => fun
  | [d] => { results := [.lit (.bool false)], args := [d] }
  | _ => none }
def FnExactIndexOkWrongFalsely : Prop := fnExactIndexOkRow.holds Try.pinned (OpenSpec.ofChange fnExactIndexOkWrong)

/-- 'laws.FnIndexForm': WHATEVER THE INPUT: true; the input reads as it did. -/
def fnIndexFormSpec : ChangeSpec := { name := "fnIndexForm", fn := fun _ => fun
  | [d1, d2] => { results := [.lit (.bool true)], args := [d1, d2] }
  | _ => none }
def fnIndexFormRow : OpenClaim := { program := "ytfoocgfedcfkhaa", sum := "6b41e2bb965b363888bc0b82b50df879965a5e9ec4866c8e8987020f153fc655", func := "loop.example/depositary/laws.FnIndexForm", spec := "fnIndexForm", apart := false }
def FnIndexFormSaid : Prop := fnIndexFormRow.holds Try.pinned (OpenSpec.ofChange fnIndexFormSpec)

/-- ITS FALSE NEIGHBOUR: 'it returns false'. Refute it at one input. -/
def fnIndexFormWrong : ChangeSpec := { name := "fnIndexForm", fn := fun _ => fun
  | [d1, d2] => { results := [.lit (.bool false)], args := [d1, d2] }
  | _ => none }
def FnIndexFormWrongFalsely : Prop := fnIndexFormRow.holds Try.pinned (OpenSpec.ofChange fnIndexFormWrong)

/-- 'laws.FnIndexNone': WHATEVER THE INPUT: true; the input reads as it did. -/
def fnIndexNoneSpec : ChangeSpec := { name := "fnIndexNone", fn := fun _ => fun
  | [d] => { results := [.lit (.bool true)], args := [d] }
  | _ => none }
def fnIndexNoneRow : OpenClaim := { program := "ytfoocgfedcfkhaa", sum := "6b41e2bb965b363888bc0b82b50df879965a5e9ec4866c8e8987020f153fc655", func := "loop.example/depositary/laws.FnIndexNone", spec := "fnIndexNone", apart := false }
def FnIndexNoneSaid : Prop := fnIndexNoneRow.holds Try.pinned (OpenSpec.ofChange fnIndexNoneSpec)

/-- ITS FALSE NEIGHBOUR: 'it returns false'. Refute it at one input. -/
def fnIndexNoneWrong : ChangeSpec := { name := "fnIndexNone", fn := fun _ => fun
  | [d] => { results := [.lit (.bool false)], args := [d] }
  | _ => none }
def FnIndexNoneWrongFalsely : Prop := fnIndexNoneRow.holds Try.pinned (OpenSpec.ofChange fnIndexNoneWrong)

/-- 'laws.FnExactIndexLess': WHATEVER THE INPUT: true; the input reads as it did. -/
def fnExactIndexLessSpec : ChangeSpec := { name := "fnExactIndexLess", fn := fun _ => fun
  | [d1, d2] => { results := [.lit (.bool true)], args := [d1, d2] }
  | _ => none }
def fnExactIndexLessRow : OpenClaim := { program := "ytfoocgfedcfkhaa", sum := "6b41e2bb965b363888bc0b82b50df879965a5e9ec4866c8e8987020f153fc655", func := "loop.example/depositary/laws.FnExactIndexLess", spec := "fnExactIndexLess", apart := false }
def FnExactIndexLessSaid : Prop := fnExactIndexLessRow.holds Try.pinned (OpenSpec.ofChange fnExactIndexLessSpec)

/-- ITS FALSE NEIGHBOUR: 'it returns false'. Refute it at one input. -/
def fnExactIndexLessWrong : ChangeSpec := { name := "fnExactIndexLess", fn := fun _ => fun
  | [d1, d2] => { results := [.lit (.bool false)], args := [d1, d2] }
  | _ => none }
def FnExactIndexLessWrongFalsely : Prop := fnExactIndexLessRow.holds Try.pinned (OpenSpec.ofChange fnExactIndexLessWrong)

/-- 'laws.FnExactIndexFind': WHATEVER THE INPUT: true; the input reads as it did. -/
def fnExactIndexFindSpec : ChangeSpec := { name := "fnExactIndexFind", fn := fun _ => fun
  | [d1, d2] => { results := [.lit (.bool true)], args := [d1, d2] }
  | _ => none }
def fnExactIndexFindRow : OpenClaim := { program := "ytfoocgfedcfkhaa", sum := "6b41e2bb965b363888bc0b82b50df879965a5e9ec4866c8e8987020f153fc655", func := "loop.example/depositary/laws.FnExactIndexFind", spec := "fnExactIndexFind", recurses := true, apart := false }
def FnExactIndexFindSaid : Prop := fnExactIndexFindRow.holds Try.pinned (OpenSpec.ofChange fnExactIndexFindSpec)

/-- ITS FALSE NEIGHBOUR: 'it returns false'. Refute it at one input. -/
def fnExactIndexFindWrong : ChangeSpec := { name := "fnExactIndexFind", fn := fun _ => fun
  | [d1, d2] => { results := [.lit (.bool false)], args := [d1, d2] }
  | _ => none }
def FnExactIndexFindWrongFalsely : Prop := fnExactIndexFindRow.holds Try.pinned (OpenSpec.ofChange fnExactIndexFindWrong)

/-- 'laws.FnIndexFind': WHATEVER THE INPUT: true; the input reads as it did. -/
def fnIndexFindSpec : ChangeSpec := { name := "fnIndexFind", fn := fun _ => fun
  | [d] => { results := [.lit (.bool true)], args := [d] }
  | _ => none }
def fnIndexFindRow : OpenClaim := { program := "ytfoocgfedcfkhaa", sum := "6b41e2bb965b363888bc0b82b50df879965a5e9ec4866c8e8987020f153fc655", func := "loop.example/depositary/laws.FnIndexFind", spec := "fnIndexFind", recurses := true, apart := false }
def FnIndexFindSaid : Prop := fnIndexFindRow.holds Try.pinned (OpenSpec.ofChange fnIndexFindSpec)

/-- ITS FALSE NEIGHBOUR: 'it returns false'. Refute it at one input. -/
def fnIndexFindWrong : ChangeSpec := { name := "fnIndexFind", fn := fun _ => fun
  | [d] => { results := [.lit (.bool false)], args := [d] }
  | _ => none }
def FnIndexFindWrongFalsely : Prop := fnIndexFindRow.holds Try.pinned (OpenSpec.ofChange fnIndexFindWrong)

/-- 'laws.FnIndexLess': WHATEVER THE INPUT: true; the input reads as it did. -/
def fnIndexLessSpec : ChangeSpec := { name := "fnIndexLess", fn := fun _ => fun
  | [d] => { results := [.lit (.bool true)], args := [d] }
  | _ => none }
def fnIndexLessRow : OpenClaim := { program := "ytfoocgfedcfkhaa", sum := "6b41e2bb965b363888bc0b82b50df879965a5e9ec4866c8e8987020f153fc655", func := "loop.example/depositary/laws.FnIndexLess", spec := "fnIndexLess", recurses := true, apart := false }
def FnIndexLessSaid : Prop := fnIndexLessRow.holds Try.pinned (OpenSpec.ofChange fnIndexLessSpec)

/-- ITS FALSE NEIGHBOUR: 'it returns false'. Refute it at one input. -/
def fnIndexLessWrong : ChangeSpec := { name := "fnIndexLess", fn := fun _ => fun
  | [d] => { results := [.lit (.bool false)], args := [d] }
  | _ => none }
def FnIndexLessWrongFalsely : Prop := fnIndexLessRow.holds Try.pinned (OpenSpec.ofChange fnIndexLessWrong)

/- THE SECOND FORM. 'bulk': how many values and letters a reading holds, each counted each time it is reached (what is shared counts as often as it is met; a slice's spare places count too). A statement '..UptoSaid' is the law's where the arguments, and the package variables that the reading takes, are together of bulk at most 1048576: NARROWER than '..Said'. Prove '..Said' where nothing that the law and all that it calls make is longer than what came in: it says more and counts as full. Else prove '..UptoSaid'. A law counts once. -/
mutual
def uptoBulk {H : Type} : DataW H → Nat
  | .lit (.string bytes) => bytes.length + 1
  | .lit _ => 1
  | .nil => 1
  | .ptr d => uptoBulk d + 1
  | .slice elems spare => uptoBulkAll elems + uptoBulkAll spare + 1
  | .agg parts => uptoBulkAll parts + 1
  | .iface _ d => uptoBulk d + 1
  | .map entries => uptoBulkEntries entries + 1
  | .held _ => 1
def uptoBulkAll {H : Type} : List (DataW H) → Nat
  | [] => 0
  | d :: r => uptoBulk d + uptoBulkAll r
def uptoBulkEntries {H : Type} : List (Lit × DataW H) → Nat
  | [] => 0
  | x :: r => uptoBulkEntry x + uptoBulkEntries r
def uptoBulkEntry {H : Type} : Lit × DataW H → Nat
  | (.string bytes, d) => bytes.length + uptoBulk d + 1
  | (_, d) => uptoBulk d + 1
 end
def uptoSmall : (H : Type) → List (DataW H) → Bool := fun _ ds => decide (uptoBulkAll ds ≤ 1048576)
def OpenSpec.upto (s : _root_.Go.ChangeSpec) : _root_.Go.OpenSpec := { _root_.Go.OpenSpec.ofChange s with cond := some uptoSmall }

/-- 'laws.FnExactIndexOk', WHERE WHAT IT READS IS OF BULK AT MOST 1048576: true; the input reads as it did. -/
def fnExactIndexOkUptoRow : OpenClaim := { program := "ytfoocgfedcfkhaa", sum := "6b41e2bb965b363888bc0b82b50df879965a5e9ec4866c8e8987020f153fc655", func := "loop.example/depositary/laws.FnExactIndexOk", spec := "fnExactIndexOk", apart := false, narrowed := true }
def FnExactIndexOkUptoSaid : Prop := fnExactIndexOkUptoRow.holds Try.pinned (OpenSpec.upto fnExactIndexOkSpec)

/-- 'laws.FnIndexForm', WHERE WHAT IT READS IS OF BULK AT MOST 1048576: true; the input reads as it did. -/
def fnIndexFormUptoRow : OpenClaim := { program := "ytfoocgfedcfkhaa", sum := "6b41e2bb965b363888bc0b82b50df879965a5e9ec4866c8e8987020f153fc655", func := "loop.example/depositary/laws.FnIndexForm", spec := "fnIndexForm", apart := false, narrowed := true }
def FnIndexFormUptoSaid : Prop := fnIndexFormUptoRow.holds Try.pinned (OpenSpec.upto fnIndexFormSpec)

/-- 'laws.FnIndexNone', WHERE WHAT IT READS IS OF BULK AT MOST 1048576: true; the input reads as it did. -/
def fnIndexNoneUptoRow : OpenClaim := { program := "ytfoocgfedcfkhaa", sum := "6b41e2bb965b363888bc0b82b50df879965a5e9ec4866c8e8987020f153fc655", func := "loop.example/depositary/laws.FnIndexNone", spec := "fnIndexNone", apart := false, narrowed := true }
def FnIndexNoneUptoSaid : Prop := fnIndexNoneUptoRow.holds Try.pinned (OpenSpec.upto fnIndexNoneSpec)

/-- 'laws.FnExactIndexLess', WHERE WHAT IT READS IS OF BULK AT MOST 1048576: true; the input reads as it did. -/
def fnExactIndexLessUptoRow : OpenClaim := { program := "ytfoocgfedcfkhaa", sum := "6b41e2bb965b363888bc0b82b50df879965a5e9ec4866c8e8987020f153fc655", func := "loop.example/depositary/laws.FnExactIndexLess", spec := "fnExactIndexLess", apart := false, narrowed := true }
def FnExactIndexLessUptoSaid : Prop := fnExactIndexLessUptoRow.holds Try.pinned (OpenSpec.upto fnExactIndexLessSpec)

/-- 'laws.FnExactIndexFind', WHERE WHAT IT READS IS OF BULK AT MOST 1048576: true; the input reads as it did. -/
def fnExactIndexFindUptoRow : OpenClaim := { program := "ytfoocgfedcfkhaa", sum := "6b41e2bb965b363888bc0b82b50df879965a5e9ec4866c8e8987020f153fc655", func := "loop.example/depositary/laws.FnExactIndexFind", spec := "fnExactIndexFind", recurses := true, apart := false, narrowed := true }
def FnExactIndexFindUptoSaid : Prop := fnExactIndexFindUptoRow.holds Try.pinned (OpenSpec.upto fnExactIndexFindSpec)

/-- 'laws.FnIndexFind', WHERE WHAT IT READS IS OF BULK AT MOST 1048576: true; the input reads as it did. -/
def fnIndexFindUptoRow : OpenClaim := { program := "ytfoocgfedcfkhaa", sum := "6b41e2bb965b363888bc0b82b50df879965a5e9ec4866c8e8987020f153fc655", func := "loop.example/depositary/laws.FnIndexFind", spec := "fnIndexFind", recurses := true, apart := false, narrowed := true }
def FnIndexFindUptoSaid : Prop := fnIndexFindUptoRow.holds Try.pinned (OpenSpec.upto fnIndexFindSpec)

/-- 'laws.FnIndexLess', WHERE WHAT IT READS IS OF BULK AT MOST 1048576: true; the input reads as it did. -/
def fnIndexLessUptoRow : OpenClaim := { program := "ytfoocgfedcfkhaa", sum := "6b41e2bb965b363888bc0b82b50df879965a5e9ec4866c8e8987020f153fc655", func := "loop.example/depositary/laws.FnIndexLess", spec := "fnIndexLess", recurses := true, apart := false, narrowed := true }
def FnIndexLessUptoSaid : Prop := fnIndexLessUptoRow.holds Try.pinned (OpenSpec.upto fnIndexLessSpec)

end Rows
end Go.Proofs.Ytfoocgfedcfkhaa
