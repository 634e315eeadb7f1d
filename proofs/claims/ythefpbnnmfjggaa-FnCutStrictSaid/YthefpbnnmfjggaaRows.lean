/-
  No cell of these rows narrows 'for every input' (looked for: loops, veiled, ifaces, maps, wideKeys, modest, calm, conditions, laid).
  DERIVED. THE GIVEN ROWS OF THIS SEAT. 4 by the template 'for every input the law returns true; each argument reads behind the call as it read before'; 0 by the template 'total and deterministic' (their statements: YthefpbnnmfjggaaTotals.lean).
  GIVEN WITH THE SEED: the statements are not yours to turn. If you find one false, say at which input.
  Laid BY PROGRAM, IN A SANDBOX (cutbox-rows.mjs): the forced cells as the released guide's own fill.sh prints them over the translation d18710fcd24c1517… (all of the seat's roots in one cut). By AI agents, Wed Nov 11 2026. No macro, syntax, notation, axiom, sorry.
-/
import Derived.Test.YthefpbnnmfjggaaChecked
import GoSem.Claim
import GoSem.ClaimJoined
import GoSem.ClaimMapViews
import Derived.JoinedTies
import Derived.KernelRfl
namespace Go.Proofs.Ythefpbnnmfjggaa
/- THE CELL 'sum', in the pinned program and in every row, IS THE sha256 OF THE DUMP (.gsa) THAT YthefpbnnmfjggaaProg.lean LOADS. Nothing in Lean hashes anything: it is a label: what it is worth is what the hold of that sum in a sandbox is worth. -/
noncomputable def Try.pinned : Pinned := { name := "ythefpbnnmfjggaa", sum := "d18710fcd24c15170223b7034db45da438750f68cb87011206c8f594a4e80102", checked := Try.checked }
namespace Rows
def none {H : Type} : Left H := { results := [], args := [] }

/-- 'laws.FnExactCutJoin': WHATEVER THE INPUT: true; the input reads as it did. -/
def fnExactCutJoinSpec : ChangeSpec := { name := "fnExactCutJoin", fn := fun _ => fun
  | [d] => { results := [.lit (.bool true)], args := [d] }
  | _ => none }
def fnExactCutJoinRow : OpenClaim := { program := "ythefpbnnmfjggaa", sum := "d18710fcd24c15170223b7034db45da438750f68cb87011206c8f594a4e80102", func := "loop.example/depositary/laws.FnExactCutJoin", spec := "fnExactCutJoin", inPlace := ["internal/abi.NoEscape", "internal/bytealg.MakeNoZero"], unfollowed := true, recurses := true, apart := false }
def FnExactCutJoinSaid : Prop := fnExactCutJoinRow.holds Try.pinned (OpenSpec.ofChange fnExactCutJoinSpec)

/-- ITS FALSE NEIGHBOUR: 'it returns false'. Refute it at one input. -/
def fnExactCutJoinWrong : ChangeSpec := { name := "fnExactCutJoin", fn := fun _ => fun
  | [d] => { results := [.lit (.bool false)], args := [d] }
  | _ => none }
def FnExactCutJoinWrongFalsely : Prop := fnExactCutJoinRow.holds Try.pinned (OpenSpec.ofChange fnExactCutJoinWrong)

/-- 'laws.FnExactCutOk': WHATEVER THE INPUT: true; the input reads as it did. -/
def fnExactCutOkSpec : ChangeSpec := { name := "fnExactCutOk", fn := fun _ => fun
  | [d] => { results := [.lit (.bool true)], args := [d] }
  | _ => none }
def fnExactCutOkRow : OpenClaim := { program := "ythefpbnnmfjggaa", sum := "d18710fcd24c15170223b7034db45da438750f68cb87011206c8f594a4e80102", func := "loop.example/depositary/laws.FnExactCutOk", spec := "fnExactCutOk", inPlace := ["internal/abi.NoEscape", "internal/bytealg.MakeNoZero"], unfollowed := true, recurses := true, apart := false }
def FnExactCutOkSaid : Prop := fnExactCutOkRow.holds Try.pinned (OpenSpec.ofChange fnExactCutOkSpec)

/-- ITS FALSE NEIGHBOUR: 'it returns false'. Refute it at one input. -/
def fnExactCutOkWrong : ChangeSpec := { name := "fnExactCutOk", fn := fun _ => fun
  | [d] => { results := [.lit (.bool false)], args := [d] }
  | _ => none }
def FnExactCutOkWrongFalsely : Prop := fnExactCutOkRow.holds Try.pinned (OpenSpec.ofChange fnExactCutOkWrong)

/-- 'laws.FnCutBack': WHATEVER THE INPUT: true; the input reads as it did. -/
def fnCutBackSpec : ChangeSpec := { name := "fnCutBack", fn := fun _ => fun
  | [d] => { results := [.lit (.bool true)], args := [d] }
  | _ => none }
def fnCutBackRow : OpenClaim := { program := "ythefpbnnmfjggaa", sum := "d18710fcd24c15170223b7034db45da438750f68cb87011206c8f594a4e80102", func := "loop.example/depositary/laws.FnCutBack", spec := "fnCutBack", inPlace := ["internal/abi.NoEscape", "internal/bytealg.MakeNoZero"], unfollowed := true, recurses := true, apart := false }
def FnCutBackSaid : Prop := fnCutBackRow.holds Try.pinned (OpenSpec.ofChange fnCutBackSpec)

/-- ITS FALSE NEIGHBOUR: 'it returns false'. Refute it at one input. -/
def fnCutBackWrong : ChangeSpec := { name := "fnCutBack", fn := fun _ => fun
  | [d] => { results := [.lit (.bool false)], args := [d] }
  | _ => none }
def FnCutBackWrongFalsely : Prop := fnCutBackRow.holds Try.pinned (OpenSpec.ofChange fnCutBackWrong)

/-- 'laws.FnCutStrict': WHATEVER THE INPUT: true; the input reads as it did. -/
def fnCutStrictSpec : ChangeSpec := { name := "fnCutStrict", fn := fun _ => fun
  | [d] => { results := [.lit (.bool true)], args := [d] }
  | _ => none }
def fnCutStrictRow : OpenClaim := { program := "ythefpbnnmfjggaa", sum := "d18710fcd24c15170223b7034db45da438750f68cb87011206c8f594a4e80102", func := "loop.example/depositary/laws.FnCutStrict", spec := "fnCutStrict", inPlace := ["internal/abi.NoEscape", "internal/bytealg.MakeNoZero"], unfollowed := true, recurses := true, apart := false }
def FnCutStrictSaid : Prop := fnCutStrictRow.holds Try.pinned (OpenSpec.ofChange fnCutStrictSpec)

/-- ITS FALSE NEIGHBOUR: 'it returns false'. Refute it at one input. -/
def fnCutStrictWrong : ChangeSpec := { name := "fnCutStrict", fn := fun _ => fun
  | [d] => { results := [.lit (.bool false)], args := [d] }
  | _ => none }
def FnCutStrictWrongFalsely : Prop := fnCutStrictRow.holds Try.pinned (OpenSpec.ofChange fnCutStrictWrong)

/- THE SECOND FORM. 'bulk': how many values and letters a reading holds, each counted each time it is reached (what is shared counts as often as it is met; a slice's spare places count too). A statement '..UptoSaid' is the law's where the arguments, and the package variables that the reading takes, are together of bulk at most 1048576: NARROWER than '..Said'. Prove '..Said' where nothing that the law and all that it calls make is longer than what came in: it says more and counts as full. Else prove '..UptoSaid'. A law counts once. -/
mutual
def uptoBulk {H : Type} : DataW H → Nat
  | .lit (.string bytes) => bytes.length + 1
  | .lit _ => 1
  | .nil => 1
  | .ptr d => uptoBulk d + 1
  | .slice elems spare => uptoBulkAll elems + uptoBulkAll spare + 1
  | .agg parts => uptoBulkAll parts + 1
  | .iface _ d => uptoBulk d + 1
  | .map entries => uptoBulkEntries entries + 1
  | .held _ => 1
def uptoBulkAll {H : Type} : List (DataW H) → Nat
  | [] => 0
  | d :: r => uptoBulk d + uptoBulkAll r
def uptoBulkEntries {H : Type} : List (Lit × DataW H) → Nat
  | [] => 0
  | x :: r => uptoBulkEntry x + uptoBulkEntries r
def uptoBulkEntry {H : Type} : Lit × DataW H → Nat
  | (.string bytes, d) => bytes.length + uptoBulk d + 1
  | (_, d) => uptoBulk d + 1
 end
def uptoSmall : (H : Type) → List (DataW H) → Bool := fun _ ds => decide (uptoBulkAll ds ≤ 1048576)
def OpenSpec.upto (s : _root_.Go.ChangeSpec) : _root_.Go.OpenSpec := { _root_.Go.OpenSpec.ofChange s with cond := some uptoSmall }

/-- 'laws.FnExactCutJoin', WHERE WHAT IT READS IS OF BULK AT MOST 1048576: true; the input reads as it did. -/
def fnExactCutJoinUptoRow : OpenClaim := { program := "ythefpbnnmfjggaa", sum := "d18710fcd24c15170223b7034db45da438750f68cb87011206c8f594a4e80102", func := "loop.example/depositary/laws.FnExactCutJoin", spec := "fnExactCutJoin", inPlace := ["internal/abi.NoEscape", "internal/bytealg.MakeNoZero"], unfollowed := true, recurses := true, apart := false, narrowed := true }
def FnExactCutJoinUptoSaid : Prop := fnExactCutJoinUptoRow.holds Try.pinned (OpenSpec.upto fnExactCutJoinSpec)

/-- 'laws.FnExactCutOk', WHERE WHAT IT READS IS OF BULK AT MOST 1048576: true; the input reads as it did. -/
def fnExactCutOkUptoRow : OpenClaim := { program := "ythefpbnnmfjggaa", sum := "d18710fcd24c15170223b7034db45da438750f68cb87011206c8f594a4e80102", func := "loop.example/depositary/laws.FnExactCutOk", spec := "fnExactCutOk", inPlace := ["internal/abi.NoEscape", "internal/bytealg.MakeNoZero"], unfollowed := true, recurses := true, apart := false, narrowed := true }
def FnExactCutOkUptoSaid : Prop := fnExactCutOkUptoRow.holds Try.pinned (OpenSpec.upto fnExactCutOkSpec)

/-- 'laws.FnCutBack', WHERE WHAT IT READS IS OF BULK AT MOST 1048576: true; the input reads as it did. -/
def fnCutBackUptoRow : OpenClaim := { program := "ythefpbnnmfjggaa", sum := "d18710fcd24c15170223b7034db45da438750f68cb87011206c8f594a4e80102", func := "loop.example/depositary/laws.FnCutBack", spec := "fnCutBack", inPlace := ["internal/abi.NoEscape", "internal/bytealg.MakeNoZero"], unfollowed := true, recurses := true, apart := false, narrowed := true }
def FnCutBackUptoSaid : Prop := fnCutBackUptoRow.holds Try.pinned (OpenSpec.upto fnCutBackSpec)

/-- 'laws.FnCutStrict', WHERE WHAT IT READS IS OF BULK AT MOST 1048576: true; the input reads as it did. -/
def fnCutStrictUptoRow : OpenClaim := { program := "ythefpbnnmfjggaa", sum := "d18710fcd24c15170223b7034db45da438750f68cb87011206c8f594a4e80102", func := "loop.example/depositary/laws.FnCutStrict", spec := "fnCutStrict", inPlace := ["internal/abi.NoEscape", "internal/bytealg.MakeNoZero"], unfollowed := true, recurses := true, apart := false, narrowed := true }
def FnCutStrictUptoSaid : Prop := fnCutStrictUptoRow.holds Try.pinned (OpenSpec.upto fnCutStrictSpec)

end Rows
end Go.Proofs.Ythefpbnnmfjggaa
