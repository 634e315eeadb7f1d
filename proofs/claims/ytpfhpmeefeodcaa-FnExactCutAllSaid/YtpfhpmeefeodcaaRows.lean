/-
  No cell of these rows narrows 'for every input' (looked for: loops, veiled, ifaces, maps, wideKeys, modest, calm, conditions, laid).
  DERIVED. THE GIVEN ROWS OF THIS SEAT. 17 by the template 'for every input the law returns true; each argument reads behind the call as it read before'; 0 by the template 'total and deterministic' (their statements: YtpfhpmeefeodcaaTotals.lean).
  GIVEN WITH THE SEED: the statements are not yours to turn. If you find one false, say at which input.
  Laid BY PROGRAM, IN A SANDBOX (cutbox-rows.mjs): the forced cells as the released guide's own fill.sh prints them over the translation ab58c3a3f930727e… (all of the seat's roots in one cut). By AI agents, Wed Nov 11 2026. No macro, syntax, notation, axiom, sorry.
-/
import Derived.Test.YtpfhpmeefeodcaaChecked
import GoSem.Claim
import GoSem.ClaimJoined
import GoSem.ClaimMapViews
import Derived.JoinedTies
import Derived.KernelRfl
namespace Go.Proofs.Ytpfhpmeefeodcaa
/- THE CELL 'sum', in the pinned program and in every row, IS THE sha256 OF THE DUMP (.gsa) THAT YtpfhpmeefeodcaaProg.lean LOADS. Nothing in Lean hashes anything: it is a label: what it is worth is what the hold of that sum in a sandbox is worth. -/
noncomputable def Try.pinned : Pinned := { name := "ytpfhpmeefeodcaa", sum := "ab58c3a3f930727ea0ab573d7206fde541b3712e3ff1802bf8e5a3f7f94e99a0", checked := Try.checked }
namespace Rows
def none {H : Type} : Left H := { results := [], args := [] }

/-- 'laws.FnPieceForm': WHATEVER THE INPUT: true; the input reads as it did. -/
def fnPieceFormSpec : ChangeSpec := { name := "fnPieceForm", fn := fun _ => fun
  | [d] => { results := [.lit (.bool true)], args := [d] }
  | _ => none }
def fnPieceFormRow : OpenClaim := { program := "ytpfhpmeefeodcaa", sum := "ab58c3a3f930727ea0ab573d7206fde541b3712e3ff1802bf8e5a3f7f94e99a0", func := "loop.example/depositary/laws.FnPieceForm", spec := "fnPieceForm", apart := false }
def FnPieceFormSaid : Prop := fnPieceFormRow.holds Try.pinned (OpenSpec.ofChange fnPieceFormSpec)

/-- ITS FALSE NEIGHBOUR: 'it returns false'. Refute it at one input. -/
def fnPieceFormWrong : ChangeSpec := { name := "fnPieceForm", fn := fun _ => fun
  | [d] => { results := [.lit (.bool false)], args := [d] }
  | _ => none }
def FnPieceFormWrongFalsely : Prop := fnPieceFormRow.holds Try.pinned (OpenSpec.ofChange fnPieceFormWrong)

/-- 'laws.FnTextForm': WHATEVER THE INPUT: true; the input reads as it did. -/
def fnTextFormSpec : ChangeSpec := { name := "fnTextForm", fn := fun _ => fun
  | [d] => { results := [.lit (.bool true)], args := [d] }
  | _ => none }
def fnTextFormRow : OpenClaim := { program := "ytpfhpmeefeodcaa", sum := "ab58c3a3f930727ea0ab573d7206fde541b3712e3ff1802bf8e5a3f7f94e99a0", func := "loop.example/depositary/laws.FnTextForm", spec := "fnTextForm", apart := false }
def FnTextFormSaid : Prop := fnTextFormRow.holds Try.pinned (OpenSpec.ofChange fnTextFormSpec)

/-- ITS FALSE NEIGHBOUR: 'it returns false'. Refute it at one input. -/
def fnTextFormWrong : ChangeSpec := { name := "fnTextForm", fn := fun _ => fun
  | [d] => { results := [.lit (.bool false)], args := [d] }
  | _ => none }
def FnTextFormWrongFalsely : Prop := fnTextFormRow.holds Try.pinned (OpenSpec.ofChange fnTextFormWrong)

/-- 'laws.FnExactCutEnds': WHATEVER THE INPUT: true; the input reads as it did. -/
def fnExactCutEndsSpec : ChangeSpec := { name := "fnExactCutEnds", fn := fun _ => fun
  | [d] => { results := [.lit (.bool true)], args := [d] }
  | _ => none }
def fnExactCutEndsRow : OpenClaim := { program := "ytpfhpmeefeodcaa", sum := "ab58c3a3f930727ea0ab573d7206fde541b3712e3ff1802bf8e5a3f7f94e99a0", func := "loop.example/depositary/laws.FnExactCutEnds", spec := "fnExactCutEnds", unfollowed := true, recurses := true, apart := false }
def FnExactCutEndsSaid : Prop := fnExactCutEndsRow.holds Try.pinned (OpenSpec.ofChange fnExactCutEndsSpec)

/-- ITS FALSE NEIGHBOUR: 'it returns false'. Refute it at one input. -/
def fnExactCutEndsWrong : ChangeSpec := { name := "fnExactCutEnds", fn := fun _ => fun
  | [d] => { results := [.lit (.bool false)], args := [d] }
  | _ => none }
def FnExactCutEndsWrongFalsely : Prop := fnExactCutEndsRow.holds Try.pinned (OpenSpec.ofChange fnExactCutEndsWrong)

/-- 'laws.FnCutAt': WHATEVER THE INPUT: true; the input reads as it did. -/
def fnCutAtSpec : ChangeSpec := { name := "fnCutAt", fn := fun _ => fun
  | [d] => { results := [.lit (.bool true)], args := [d] }
  | _ => none }
def fnCutAtRow : OpenClaim := { program := "ytpfhpmeefeodcaa", sum := "ab58c3a3f930727ea0ab573d7206fde541b3712e3ff1802bf8e5a3f7f94e99a0", func := "loop.example/depositary/laws.FnCutAt", spec := "fnCutAt", apart := false }
def FnCutAtSaid : Prop := fnCutAtRow.holds Try.pinned (OpenSpec.ofChange fnCutAtSpec)

/-- ITS FALSE NEIGHBOUR: 'it returns false'. Refute it at one input. -/
def fnCutAtWrong : ChangeSpec := { name := "fnCutAt", fn := fun _ => fun
  | [d] => { results := [.lit (.bool false)], args := [d] }
  | _ => none }
def FnCutAtWrongFalsely : Prop := fnCutAtRow.holds Try.pinned (OpenSpec.ofChange fnCutAtWrong)

/-- 'laws.FnExactCutAll': WHATEVER THE INPUT: true; the input reads as it did. -/
def fnExactCutAllSpec : ChangeSpec := { name := "fnExactCutAll", fn := fun _ => fun
  | [d] => { results := [.lit (.bool true)], args := [d] }
  | _ => none }
def fnExactCutAllRow : OpenClaim := { program := "ytpfhpmeefeodcaa", sum := "ab58c3a3f930727ea0ab573d7206fde541b3712e3ff1802bf8e5a3f7f94e99a0", func := "loop.example/depositary/laws.FnExactCutAll", spec := "fnExactCutAll", unfollowed := true, recurses := true, apart := false }
def FnExactCutAllSaid : Prop := fnExactCutAllRow.holds Try.pinned (OpenSpec.ofChange fnExactCutAllSpec)

/-- ITS FALSE NEIGHBOUR: 'it returns false'. Refute it at one input. -/
def fnExactCutAllWrong : ChangeSpec := { name := "fnExactCutAll", fn := fun _ => fun
  | [d] => { results := [.lit (.bool false)], args := [d] }
  | _ => none }
def FnExactCutAllWrongFalsely : Prop := fnExactCutAllRow.holds Try.pinned (OpenSpec.ofChange fnExactCutAllWrong)

/-- 'laws.FnTextNone': WHATEVER THE INPUT: true; the input reads as it did. -/
def fnTextNoneSpec : ChangeSpec := { name := "fnTextNone", fn := fun _ => fun
  | [d] => { results := [.lit (.bool true)], args := [d] }
  | _ => none }
def fnTextNoneRow : OpenClaim := { program := "ytpfhpmeefeodcaa", sum := "ab58c3a3f930727ea0ab573d7206fde541b3712e3ff1802bf8e5a3f7f94e99a0", func := "loop.example/depositary/laws.FnTextNone", spec := "fnTextNone", unfollowed := true, recurses := true, apart := false }
def FnTextNoneSaid : Prop := fnTextNoneRow.holds Try.pinned (OpenSpec.ofChange fnTextNoneSpec)

/-- ITS FALSE NEIGHBOUR: 'it returns false'. Refute it at one input. -/
def fnTextNoneWrong : ChangeSpec := { name := "fnTextNone", fn := fun _ => fun
  | [d] => { results := [.lit (.bool false)], args := [d] }
  | _ => none }
def FnTextNoneWrongFalsely : Prop := fnTextNoneRow.holds Try.pinned (OpenSpec.ofChange fnTextNoneWrong)

/-- 'laws.FnCutMany': WHATEVER THE INPUT: true; the input reads as it did. -/
def fnCutManySpec : ChangeSpec := { name := "fnCutMany", fn := fun _ => fun
  | [d] => { results := [.lit (.bool true)], args := [d] }
  | _ => none }
def fnCutManyRow : OpenClaim := { program := "ytpfhpmeefeodcaa", sum := "ab58c3a3f930727ea0ab573d7206fde541b3712e3ff1802bf8e5a3f7f94e99a0", func := "loop.example/depositary/laws.FnCutMany", spec := "fnCutMany", unfollowed := true, recurses := true, apart := false }
def FnCutManySaid : Prop := fnCutManyRow.holds Try.pinned (OpenSpec.ofChange fnCutManySpec)

/-- ITS FALSE NEIGHBOUR: 'it returns false'. Refute it at one input. -/
def fnCutManyWrong : ChangeSpec := { name := "fnCutMany", fn := fun _ => fun
  | [d] => { results := [.lit (.bool false)], args := [d] }
  | _ => none }
def FnCutManyWrongFalsely : Prop := fnCutManyRow.holds Try.pinned (OpenSpec.ofChange fnCutManyWrong)

/-- 'laws.FnCutSize': WHATEVER THE INPUT: true; the input reads as it did. -/
def fnCutSizeSpec : ChangeSpec := { name := "fnCutSize", fn := fun _ => fun
  | [d] => { results := [.lit (.bool true)], args := [d] }
  | _ => none }
def fnCutSizeRow : OpenClaim := { program := "ytpfhpmeefeodcaa", sum := "ab58c3a3f930727ea0ab573d7206fde541b3712e3ff1802bf8e5a3f7f94e99a0", func := "loop.example/depositary/laws.FnCutSize", spec := "fnCutSize", unfollowed := true, recurses := true, apart := false }
def FnCutSizeSaid : Prop := fnCutSizeRow.holds Try.pinned (OpenSpec.ofChange fnCutSizeSpec)

/-- ITS FALSE NEIGHBOUR: 'it returns false'. Refute it at one input. -/
def fnCutSizeWrong : ChangeSpec := { name := "fnCutSize", fn := fun _ => fun
  | [d] => { results := [.lit (.bool false)], args := [d] }
  | _ => none }
def FnCutSizeWrongFalsely : Prop := fnCutSizeRow.holds Try.pinned (OpenSpec.ofChange fnCutSizeWrong)

/-- 'laws.FnCutAhead': WHATEVER THE INPUT: true; the input reads as it did. -/
def fnCutAheadSpec : ChangeSpec := { name := "fnCutAhead", fn := fun _ => fun
  | [d1, d2] => { results := [.lit (.bool true)], args := [d1, d2] }
  | _ => none }
def fnCutAheadRow : OpenClaim := { program := "ytpfhpmeefeodcaa", sum := "ab58c3a3f930727ea0ab573d7206fde541b3712e3ff1802bf8e5a3f7f94e99a0", func := "loop.example/depositary/laws.FnCutAhead", spec := "fnCutAhead", unfollowed := true, recurses := true, apart := false }
def FnCutAheadSaid : Prop := fnCutAheadRow.holds Try.pinned (OpenSpec.ofChange fnCutAheadSpec)

/-- ITS FALSE NEIGHBOUR: 'it returns false'. Refute it at one input. -/
def fnCutAheadWrong : ChangeSpec := { name := "fnCutAhead", fn := fun _ => fun
  | [d1, d2] => { results := [.lit (.bool false)], args := [d1, d2] }
  | _ => none }
def FnCutAheadWrongFalsely : Prop := fnCutAheadRow.holds Try.pinned (OpenSpec.ofChange fnCutAheadWrong)

/-- 'laws.FnCutEnds': WHATEVER THE INPUT: true; the input reads as it did. -/
def fnCutEndsSpec : ChangeSpec := { name := "fnCutEnds", fn := fun _ => fun
  | [d] => { results := [.lit (.bool true)], args := [d] }
  | _ => none }
def fnCutEndsRow : OpenClaim := { program := "ytpfhpmeefeodcaa", sum := "ab58c3a3f930727ea0ab573d7206fde541b3712e3ff1802bf8e5a3f7f94e99a0", func := "loop.example/depositary/laws.FnCutEnds", spec := "fnCutEnds", unfollowed := true, recurses := true, apart := false }
def FnCutEndsSaid : Prop := fnCutEndsRow.holds Try.pinned (OpenSpec.ofChange fnCutEndsSpec)

/-- ITS FALSE NEIGHBOUR: 'it returns false'. Refute it at one input. -/
def fnCutEndsWrong : ChangeSpec := { name := "fnCutEnds", fn := fun _ => fun
  | [d] => { results := [.lit (.bool false)], args := [d] }
  | _ => none }
def FnCutEndsWrongFalsely : Prop := fnCutEndsRow.holds Try.pinned (OpenSpec.ofChange fnCutEndsWrong)

/-- 'laws.FnCutOne': WHATEVER THE INPUT: true; the input reads as it did. -/
def fnCutOneSpec : ChangeSpec := { name := "fnCutOne", fn := fun _ => fun
  | [d1, d2] => { results := [.lit (.bool true)], args := [d1, d2] }
  | _ => none }
def fnCutOneRow : OpenClaim := { program := "ytpfhpmeefeodcaa", sum := "ab58c3a3f930727ea0ab573d7206fde541b3712e3ff1802bf8e5a3f7f94e99a0", func := "loop.example/depositary/laws.FnCutOne", spec := "fnCutOne", unfollowed := true, recurses := true, apart := false }
def FnCutOneSaid : Prop := fnCutOneRow.holds Try.pinned (OpenSpec.ofChange fnCutOneSpec)

/-- ITS FALSE NEIGHBOUR: 'it returns false'. Refute it at one input. -/
def fnCutOneWrong : ChangeSpec := { name := "fnCutOne", fn := fun _ => fun
  | [d1, d2] => { results := [.lit (.bool false)], args := [d1, d2] }
  | _ => none }
def FnCutOneWrongFalsely : Prop := fnCutOneRow.holds Try.pinned (OpenSpec.ofChange fnCutOneWrong)

/-- 'laws.FnCutRest': WHATEVER THE INPUT: true; the input reads as it did. -/
def fnCutRestSpec : ChangeSpec := { name := "fnCutRest", fn := fun _ => fun
  | [d1, d2] => { results := [.lit (.bool true)], args := [d1, d2] }
  | _ => none }
def fnCutRestRow : OpenClaim := { program := "ytpfhpmeefeodcaa", sum := "ab58c3a3f930727ea0ab573d7206fde541b3712e3ff1802bf8e5a3f7f94e99a0", func := "loop.example/depositary/laws.FnCutRest", spec := "fnCutRest", unfollowed := true, recurses := true, apart := false }
def FnCutRestSaid : Prop := fnCutRestRow.holds Try.pinned (OpenSpec.ofChange fnCutRestSpec)

/-- ITS FALSE NEIGHBOUR: 'it returns false'. Refute it at one input. -/
def fnCutRestWrong : ChangeSpec := { name := "fnCutRest", fn := fun _ => fun
  | [d1, d2] => { results := [.lit (.bool false)], args := [d1, d2] }
  | _ => none }
def FnCutRestWrongFalsely : Prop := fnCutRestRow.holds Try.pinned (OpenSpec.ofChange fnCutRestWrong)

/-- 'laws.FnCutMeet': WHATEVER THE INPUT: true; the input reads as it did. -/
def fnCutMeetSpec : ChangeSpec := { name := "fnCutMeet", fn := fun _ => fun
  | [d1, d2] => { results := [.lit (.bool true)], args := [d1, d2] }
  | _ => none }
def fnCutMeetRow : OpenClaim := { program := "ytpfhpmeefeodcaa", sum := "ab58c3a3f930727ea0ab573d7206fde541b3712e3ff1802bf8e5a3f7f94e99a0", func := "loop.example/depositary/laws.FnCutMeet", spec := "fnCutMeet", unfollowed := true, recurses := true, apart := false }
def FnCutMeetSaid : Prop := fnCutMeetRow.holds Try.pinned (OpenSpec.ofChange fnCutMeetSpec)

/-- ITS FALSE NEIGHBOUR: 'it returns false'. Refute it at one input. -/
def fnCutMeetWrong : ChangeSpec := { name := "fnCutMeet", fn := fun _ => fun
  | [d1, d2] => { results := [.lit (.bool false)], args := [d1, d2] }
  | _ => none }
def FnCutMeetWrongFalsely : Prop := fnCutMeetRow.holds Try.pinned (OpenSpec.ofChange fnCutMeetWrong)

/-- 'laws.FnExactCutJoin': WHATEVER THE INPUT: true; the input reads as it did. -/
def fnExactCutJoinSpec : ChangeSpec := { name := "fnExactCutJoin", fn := fun _ => fun
  | [d] => { results := [.lit (.bool true)], args := [d] }
  | _ => none }
def fnExactCutJoinRow : OpenClaim := { program := "ytpfhpmeefeodcaa", sum := "ab58c3a3f930727ea0ab573d7206fde541b3712e3ff1802bf8e5a3f7f94e99a0", func := "loop.example/depositary/laws.FnExactCutJoin", spec := "fnExactCutJoin", inPlace := ["internal/abi.NoEscape", "internal/bytealg.MakeNoZero"], unfollowed := true, recurses := true, apart := false }
def FnExactCutJoinSaid : Prop := fnExactCutJoinRow.holds Try.pinned (OpenSpec.ofChange fnExactCutJoinSpec)

/-- ITS FALSE NEIGHBOUR: 'it returns false'. Refute it at one input. -/
def fnExactCutJoinWrong : ChangeSpec := { name := "fnExactCutJoin", fn := fun _ => fun
  | [d] => { results := [.lit (.bool false)], args := [d] }
  | _ => none }
def FnExactCutJoinWrongFalsely : Prop := fnExactCutJoinRow.holds Try.pinned (OpenSpec.ofChange fnExactCutJoinWrong)

/-- 'laws.FnExactCutOk': WHATEVER THE INPUT: true; the input reads as it did. -/
def fnExactCutOkSpec : ChangeSpec := { name := "fnExactCutOk", fn := fun _ => fun
  | [d] => { results := [.lit (.bool true)], args := [d] }
  | _ => none }
def fnExactCutOkRow : OpenClaim := { program := "ytpfhpmeefeodcaa", sum := "ab58c3a3f930727ea0ab573d7206fde541b3712e3ff1802bf8e5a3f7f94e99a0", func := "loop.example/depositary/laws.FnExactCutOk", spec := "fnExactCutOk", inPlace := ["internal/abi.NoEscape", "internal/bytealg.MakeNoZero"], unfollowed := true, recurses := true, apart := false }
def FnExactCutOkSaid : Prop := fnExactCutOkRow.holds Try.pinned (OpenSpec.ofChange fnExactCutOkSpec)

/-- ITS FALSE NEIGHBOUR: 'it returns false'. Refute it at one input. -/
def fnExactCutOkWrong : ChangeSpec := { name := "fnExactCutOk", fn := fun _ => fun
  | [d] => { results := [.lit (.bool false)], args := [d] }
  | _ => none }
def FnExactCutOkWrongFalsely : Prop := fnExactCutOkRow.holds Try.pinned (OpenSpec.ofChange fnExactCutOkWrong)

/-- 'laws.FnCutBack': WHATEVER THE INPUT: true; the input reads as it did. -/
def fnCutBackSpec : ChangeSpec := { name := "fnCutBack", fn := fun _ => fun
  | [d] => { results := [.lit (.bool true)], args := [d] }
  | _ => none }
def fnCutBackRow : OpenClaim := { program := "ytpfhpmeefeodcaa", sum := "ab58c3a3f930727ea0ab573d7206fde541b3712e3ff1802bf8e5a3f7f94e99a0", func := "loop.example/depositary/laws.FnCutBack", spec := "fnCutBack", inPlace := ["internal/abi.NoEscape", "internal/bytealg.MakeNoZero"], unfollowed := true, recurses := true, apart := false }
def FnCutBackSaid : Prop := fnCutBackRow.holds Try.pinned (OpenSpec.ofChange fnCutBackSpec)

/-- ITS FALSE NEIGHBOUR: 'it returns false'. Refute it at one input. -/
def fnCutBackWrong : ChangeSpec := { name := "fnCutBack", fn := fun _ => fun
  | [d] => { results := [.lit (.bool false)], args := [d] }
  | _ => none }
def FnCutBackWrongFalsely : Prop := fnCutBackRow.holds Try.pinned (OpenSpec.ofChange fnCutBackWrong)

/-- 'laws.FnCutStrict': WHATEVER THE INPUT: true; the input reads as it did. -/
def fnCutStrictSpec : ChangeSpec := { name := "fnCutStrict", fn := fun _ => fun
  | [d] => { results := [.lit (.bool true)], args := [d] }
  | _ => none }
def fnCutStrictRow : OpenClaim := { program := "ytpfhpmeefeodcaa", sum := "ab58c3a3f930727ea0ab573d7206fde541b3712e3ff1802bf8e5a3f7f94e99a0", func := "loop.example/depositary/laws.FnCutStrict", spec := "fnCutStrict", inPlace := ["internal/abi.NoEscape", "internal/bytealg.MakeNoZero"], unfollowed := true, recurses := true, apart := false }
def FnCutStrictSaid : Prop := fnCutStrictRow.holds Try.pinned (OpenSpec.ofChange fnCutStrictSpec)

/-- ITS FALSE NEIGHBOUR: 'it returns false'. Refute it at one input. -/
def fnCutStrictWrong : ChangeSpec := { name := "fnCutStrict", fn := fun _ => fun
  | [d] => { results := [.lit (.bool false)], args := [d] }
  | _ => none }
def FnCutStrictWrongFalsely : Prop := fnCutStrictRow.holds Try.pinned (OpenSpec.ofChange fnCutStrictWrong)

/- THE SECOND FORM. 'bulk': how many values and letters a reading holds, each counted each time it is reached (what is shared counts as often as it is met; a slice's spare places count too). A statement '..UptoSaid' is the law's where the arguments, and the package variables that the reading takes, are together of bulk at most 1048576: NARROWER than '..Said'. Prove '..Said' where nothing that the law and all that it calls make is longer than what came in: it says more and counts as full. Else prove '..UptoSaid'. A law counts once. -/
mutual
def uptoBulk {H : Type} : DataW H → Nat
  | .lit (.string bytes) => bytes.length + 1
  | .lit _ => 1
  | .nil => 1
  | .ptr d => uptoBulk d + 1
  | .slice elems spare => uptoBulkAll elems + uptoBulkAll spare + 1
  | .agg parts => uptoBulkAll parts + 1
  | .iface _ d => uptoBulk d + 1
  | .map entries => uptoBulkEntries entries + 1
  | .held _ => 1
def uptoBulkAll {H : Type} : List (DataW H) → Nat
  | [] => 0
  | d :: r => uptoBulk d + uptoBulkAll r
def uptoBulkEntries {H : Type} : List (Lit × DataW H) → Nat
  | [] => 0
  | x :: r => uptoBulkEntry x + uptoBulkEntries r
def uptoBulkEntry {H : Type} : Lit × DataW H → Nat
  | (.string bytes, d) => bytes.length + uptoBulk d + 1
  | (_, d) => uptoBulk d + 1
 end
def uptoSmall : (H : Type) → List (DataW H) → Bool := fun _ ds => decide (uptoBulkAll ds ≤ 1048576)
def OpenSpec.upto (s : _root_.Go.ChangeSpec) : _root_.Go.OpenSpec := { _root_.Go.OpenSpec.ofChange s with cond := some uptoSmall }

/-- 'laws.FnPieceForm', WHERE WHAT IT READS IS OF BULK AT MOST 1048576: true; the input reads as it did. -/
def fnPieceFormUptoRow : OpenClaim := { program := "ytpfhpmeefeodcaa", sum := "ab58c3a3f930727ea0ab573d7206fde541b3712e3ff1802bf8e5a3f7f94e99a0", func := "loop.example/depositary/laws.FnPieceForm", spec := "fnPieceForm", apart := false, narrowed := true }
def FnPieceFormUptoSaid : Prop := fnPieceFormUptoRow.holds Try.pinned (OpenSpec.upto fnPieceFormSpec)

/-- 'laws.FnTextForm', WHERE WHAT IT READS IS OF BULK AT MOST 1048576: true; the input reads as it did. -/
def fnTextFormUptoRow : OpenClaim := { program := "ytpfhpmeefeodcaa", sum := "ab58c3a3f930727ea0ab573d7206fde541b3712e3ff1802bf8e5a3f7f94e99a0", func := "loop.example/depositary/laws.FnTextForm", spec := "fnTextForm", apart := false, narrowed := true }
def FnTextFormUptoSaid : Prop := fnTextFormUptoRow.holds Try.pinned (OpenSpec.upto fnTextFormSpec)

/-- 'laws.FnExactCutEnds', WHERE WHAT IT READS IS OF BULK AT MOST 1048576: true; the input reads as it did. -/
def fnExactCutEndsUptoRow : OpenClaim := { program := "ytpfhpmeefeodcaa", sum := "ab58c3a3f930727ea0ab573d7206fde541b3712e3ff1802bf8e5a3f7f94e99a0", func := "loop.example/depositary/laws.FnExactCutEnds", spec := "fnExactCutEnds", unfollowed := true, recurses := true, apart := false, narrowed := true }
def FnExactCutEndsUptoSaid : Prop := fnExactCutEndsUptoRow.holds Try.pinned (OpenSpec.upto fnExactCutEndsSpec)

/-- 'laws.FnCutAt', WHERE WHAT IT READS IS OF BULK AT MOST 1048576: true; the input reads as it did. -/
def fnCutAtUptoRow : OpenClaim := { program := "ytpfhpmeefeodcaa", sum := "ab58c3a3f930727ea0ab573d7206fde541b3712e3ff1802bf8e5a3f7f94e99a0", func := "loop.example/depositary/laws.FnCutAt", spec := "fnCutAt", apart := false, narrowed := true }
def FnCutAtUptoSaid : Prop := fnCutAtUptoRow.holds Try.pinned (OpenSpec.upto fnCutAtSpec)

/-- 'laws.FnExactCutAll', WHERE WHAT IT READS IS OF BULK AT MOST 1048576: true; the input reads as it did. -/
def fnExactCutAllUptoRow : OpenClaim := { program := "ytpfhpmeefeodcaa", sum := "ab58c3a3f930727ea0ab573d7206fde541b3712e3ff1802bf8e5a3f7f94e99a0", func := "loop.example/depositary/laws.FnExactCutAll", spec := "fnExactCutAll", unfollowed := true, recurses := true, apart := false, narrowed := true }
def FnExactCutAllUptoSaid : Prop := fnExactCutAllUptoRow.holds Try.pinned (OpenSpec.upto fnExactCutAllSpec)

/-- 'laws.FnTextNone', WHERE WHAT IT READS IS OF BULK AT MOST 1048576: true; the input reads as it did. -/
def fnTextNoneUptoRow : OpenClaim := { program := "ytpfhpmeefeodcaa", sum := "ab58c3a3f930727ea0ab573d7206fde541b3712e3ff1802bf8e5a3f7f94e99a0", func := "loop.example/depositary/laws.FnTextNone", spec := "fnTextNone", unfollowed := true, recurses := true, apart := false, narrowed := true }
def FnTextNoneUptoSaid : Prop := fnTextNoneUptoRow.holds Try.pinned (OpenSpec.upto fnTextNoneSpec)

/-- 'laws.FnCutMany', WHERE WHAT IT READS IS OF BULK AT MOST 1048576: true; the input reads as it did. -/
def fnCutManyUptoRow : OpenClaim := { program := "ytpfhpmeefeodcaa", sum := "ab58c3a3f930727ea0ab573d7206fde541b3712e3ff1802bf8e5a3f7f94e99a0", func := "loop.example/depositary/laws.FnCutMany", spec := "fnCutMany", unfollowed := true, recurses := true, apart := false, narrowed := true }
def FnCutManyUptoSaid : Prop := fnCutManyUptoRow.holds Try.pinned (OpenSpec.upto fnCutManySpec)

/-- 'laws.FnCutSize', WHERE WHAT IT READS IS OF BULK AT MOST 1048576: true; the input reads as it did. -/
def fnCutSizeUptoRow : OpenClaim := { program := "ytpfhpmeefeodcaa", sum := "ab58c3a3f930727ea0ab573d7206fde541b3712e3ff1802bf8e5a3f7f94e99a0", func := "loop.example/depositary/laws.FnCutSize", spec := "fnCutSize", unfollowed := true, recurses := true, apart := false, narrowed := true }
def FnCutSizeUptoSaid : Prop := fnCutSizeUptoRow.holds Try.pinned (OpenSpec.upto fnCutSizeSpec)

/-- 'laws.FnCutAhead', WHERE WHAT IT READS IS OF BULK AT MOST 1048576: true; the input reads as it did. -/
def fnCutAheadUptoRow : OpenClaim := { program := "ytpfhpmeefeodcaa", sum := "ab58c3a3f930727ea0ab573d7206fde541b3712e3ff1802bf8e5a3f7f94e99a0", func := "loop.example/depositary/laws.FnCutAhead", spec := "fnCutAhead", unfollowed := true, recurses := true, apart := false, narrowed := true }
def FnCutAheadUptoSaid : Prop := fnCutAheadUptoRow.holds Try.pinned (OpenSpec.upto fnCutAheadSpec)

/-- 'laws.FnCutEnds', WHERE WHAT IT READS IS OF BULK AT MOST 1048576: true; the input reads as it did. -/
def fnCutEndsUptoRow : OpenClaim := { program := "ytpfhpmeefeodcaa", sum := "ab58c3a3f930727ea0ab573d7206fde541b3712e3ff1802bf8e5a3f7f94e99a0", func := "loop.example/depositary/laws.FnCutEnds", spec := "fnCutEnds", unfollowed := true, recurses := true, apart := false, narrowed := true }
def FnCutEndsUptoSaid : Prop := fnCutEndsUptoRow.holds Try.pinned (OpenSpec.upto fnCutEndsSpec)

/-- 'laws.FnCutOne', WHERE WHAT IT READS IS OF BULK AT MOST 1048576: true; the input reads as it did. -/
def fnCutOneUptoRow : OpenClaim := { program := "ytpfhpmeefeodcaa", sum := "ab58c3a3f930727ea0ab573d7206fde541b3712e3ff1802bf8e5a3f7f94e99a0", func := "loop.example/depositary/laws.FnCutOne", spec := "fnCutOne", unfollowed := true, recurses := true, apart := false, narrowed := true }
def FnCutOneUptoSaid : Prop := fnCutOneUptoRow.holds Try.pinned (OpenSpec.upto fnCutOneSpec)

/-- 'laws.FnCutRest', WHERE WHAT IT READS IS OF BULK AT MOST 1048576: true; the input reads as it did. -/
def fnCutRestUptoRow : OpenClaim := { program := "ytpfhpmeefeodcaa", sum := "ab58c3a3f930727ea0ab573d7206fde541b3712e3ff1802bf8e5a3f7f94e99a0", func := "loop.example/depositary/laws.FnCutRest", spec := "fnCutRest", unfollowed := true, recurses := true, apart := false, narrowed := true }
def FnCutRestUptoSaid : Prop := fnCutRestUptoRow.holds Try.pinned (OpenSpec.upto fnCutRestSpec)

/-- 'laws.FnCutMeet', WHERE WHAT IT READS IS OF BULK AT MOST 1048576: true; the input reads as it did. -/
def fnCutMeetUptoRow : OpenClaim := { program := "ytpfhpmeefeodcaa", sum := "ab58c3a3f930727ea0ab573d7206fde541b3712e3ff1802bf8e5a3f7f94e99a0", func := "loop.example/depositary/laws.FnCutMeet", spec := "fnCutMeet", unfollowed := true, recurses := true, apart := false, narrowed := true }
def FnCutMeetUptoSaid : Prop := fnCutMeetUptoRow.holds Try.pinned (OpenSpec.upto fnCutMeetSpec)

/-- 'laws.FnExactCutJoin', WHERE WHAT IT READS IS OF BULK AT MOST 1048576: true; the input reads as it did. -/
def fnExactCutJoinUptoRow : OpenClaim := { program := "ytpfhpmeefeodcaa", sum := "ab58c3a3f930727ea0ab573d7206fde541b3712e3ff1802bf8e5a3f7f94e99a0", func := "loop.example/depositary/laws.FnExactCutJoin", spec := "fnExactCutJoin", inPlace := ["internal/abi.NoEscape", "internal/bytealg.MakeNoZero"], unfollowed := true, recurses := true, apart := false, narrowed := true }
def FnExactCutJoinUptoSaid : Prop := fnExactCutJoinUptoRow.holds Try.pinned (OpenSpec.upto fnExactCutJoinSpec)

/-- 'laws.FnExactCutOk', WHERE WHAT IT READS IS OF BULK AT MOST 1048576: true; the input reads as it did. -/
def fnExactCutOkUptoRow : OpenClaim := { program := "ytpfhpmeefeodcaa", sum := "ab58c3a3f930727ea0ab573d7206fde541b3712e3ff1802bf8e5a3f7f94e99a0", func := "loop.example/depositary/laws.FnExactCutOk", spec := "fnExactCutOk", inPlace := ["internal/abi.NoEscape", "internal/bytealg.MakeNoZero"], unfollowed := true, recurses := true, apart := false, narrowed := true }
def FnExactCutOkUptoSaid : Prop := fnExactCutOkUptoRow.holds Try.pinned (OpenSpec.upto fnExactCutOkSpec)

/-- 'laws.FnCutBack', WHERE WHAT IT READS IS OF BULK AT MOST 1048576: true; the input reads as it did. -/
def fnCutBackUptoRow : OpenClaim := { program := "ytpfhpmeefeodcaa", sum := "ab58c3a3f930727ea0ab573d7206fde541b3712e3ff1802bf8e5a3f7f94e99a0", func := "loop.example/depositary/laws.FnCutBack", spec := "fnCutBack", inPlace := ["internal/abi.NoEscape", "internal/bytealg.MakeNoZero"], unfollowed := true, recurses := true, apart := false, narrowed := true }
def FnCutBackUptoSaid : Prop := fnCutBackUptoRow.holds Try.pinned (OpenSpec.upto fnCutBackSpec)

/-- 'laws.FnCutStrict', WHERE WHAT IT READS IS OF BULK AT MOST 1048576: true; the input reads as it did. -/
def fnCutStrictUptoRow : OpenClaim := { program := "ytpfhpmeefeodcaa", sum := "ab58c3a3f930727ea0ab573d7206fde541b3712e3ff1802bf8e5a3f7f94e99a0", func := "loop.example/depositary/laws.FnCutStrict", spec := "fnCutStrict", inPlace := ["internal/abi.NoEscape", "internal/bytealg.MakeNoZero"], unfollowed := true, recurses := true, apart := false, narrowed := true }
def FnCutStrictUptoSaid : Prop := fnCutStrictUptoRow.holds Try.pinned (OpenSpec.upto fnCutStrictSpec)

end Rows
end Go.Proofs.Ytpfhpmeefeodcaa
