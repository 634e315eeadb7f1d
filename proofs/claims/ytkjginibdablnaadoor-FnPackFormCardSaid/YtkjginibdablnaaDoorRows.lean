/-
  NARROWER THAN 'FOR EVERY INPUT', by the rows' own cells (each row's printed sentence says how): FnExactPackOk: ifaces, laid · FnExactPackGet: ifaces, laid · FnPackForm: ifaces, laid · FnPackNames: ifaces, laid · FnPackGet: ifaces, laid · FnPackOne: ifaces, laid · FnPackOrder: ifaces, laid.
  DERIVED. THE GIVEN ROWS OF THIS SEAT. 7 by the template 'for every input the law returns true; each argument reads behind the call as it read before'; 0 by the template 'total and deterministic' (their statements: YtkjginibdablnaaDoorTotals.lean).
  GIVEN WITH THE SEED: the statements are not yours to turn. If you find one false, say at which input.
  Laid BY PROGRAM, IN A SANDBOX (cutbox-rows.mjs): the forced cells as the released guide's own fill.sh prints them over the translation 6bce7fc86742aa4e… (all of the seat's roots in one cut). By AI agents, Wed Nov 11 2026. No macro, syntax, notation, axiom, sorry.
-/
import Derived.Test.YtkjginibdablnaaDoorChecked
import GoSem.PinnedTables
import GoSem.Claim
import GoSem.ClaimJoined
import GoSem.ClaimMapViews
import Derived.JoinedTies
import Derived.KernelRfl
namespace Go.Proofs.YtkjginibdablnaaDoor
/- THE CELL 'sum', in the pinned program and in every row, IS THE sha256 OF THE DUMP (.gsa) THAT YtkjginibdablnaaDoorProg.lean LOADS. Nothing in Lean hashes anything: it is a label: what it is worth is what the hold of that sum in a sandbox is worth. -/
noncomputable def Tryd.pinned : Pinned := { name := "ytkjginibdablnaadoor", sum := "6bce7fc86742aa4e681e08c4fef88e898bb02d116b5cb6515e79de9fd83b0721", checked := Tryd.checked }
namespace Rows
def none {H : Type} : Left H := { results := [], args := [] }

/- WHAT THE LISTED PACKAGE-LEVEL VARIABLES READ AS WHEN THE CALL BEGINS. Each datum BY PROGRAM (the guide's laid-datum.mjs) off the statement by which the dump's own 'gosem.cut.vars' lays the variable. In a bare row this is a premise. The card (YtkjginibdablnaaDoorCards.lean) ties it to the program's text. -/
def laid_unicode_utf8_acceptRanges {H : Type} : DataW H := .agg [.agg [.lit (.int .u8 128), .lit (.int .u8 191)], .agg [.lit (.int .u8 160), .lit (.int .u8 191)], .agg [.lit (.int .u8 128), .lit (.int .u8 159)], .agg [.lit (.int .u8 144), .lit (.int .u8 191)], .agg [.lit (.int .u8 128), .lit (.int .u8 143)], .agg [.lit (.int .u8 0), .lit (.int .u8 0)], .agg [.lit (.int .u8 0), .lit (.int .u8 0)], .agg [.lit (.int .u8 0), .lit (.int .u8 0)], .agg [.lit (.int .u8 0), .lit (.int .u8 0)], .agg [.lit (.int .u8 0), .lit (.int .u8 0)], .agg [.lit (.int .u8 0), .lit (.int .u8 0)], .agg [.lit (.int .u8 0), .lit (.int .u8 0)], .agg [.lit (.int .u8 0), .lit (.int .u8 0)], .agg [.lit (.int .u8 0), .lit (.int .u8 0)], .agg [.lit (.int .u8 0), .lit (.int .u8 0)], .agg [.lit (.int .u8 0), .lit (.int .u8 0)]]
def laid_loop_example_depositary_impl_errPiece {H : Type} : DataW H := .iface "*errors.errorString" (.ptr (.agg [.lit (.string [110, 111, 116, 32, 97, 32, 99, 104, 117, 110, 107])]))
def laid_loop_example_depositary_impl_errKey {H : Type} : DataW H := .iface "*errors.errorString" (.ptr (.agg [.lit (.string [110, 111, 116, 32, 97, 32, 107, 101, 121])]))
/-- One of Go's own tables, pinned by name: the form's constant. -/
def laid_unicode_utf8_first : DataW Unit := Go.Pinned.utf8First

/-- 'laws.FnExactPackOk': WHATEVER THE INPUT: true; the input reads as it did. -/
def fnExactPackOkSpec : ChangeSpec := { name := "fnExactPackOk", vars := ["loop.example/depositary/impl.errKey", "loop.example/depositary/impl.errPiece"], fn := fun _ => fun
  | [d1, d2, g1, g2] => { results := [.lit (.bool true)], args := [d1, d2], vars := [g1, g2] }
  | _ => none }
def fnExactPackOkRow : OpenClaim := { program := "ytkjginibdablnaadoor", sum := "6bce7fc86742aa4e681e08c4fef88e898bb02d116b5cb6515e79de9fd83b0721", func := "loop.example/depositary/laws.FnExactPackOk", spec := "fnExactPackOk", inPlace := ["internal/bytealg.IndexByteString", "internal/bytealg.IndexString", "internal/abi.NoEscape", "internal/bytealg.MakeNoZero"], named := ["unicode/utf8.first", "unicode/utf8.acceptRanges", "loop.example/depositary/impl.errKey", "loop.example/depositary/impl.errPiece", "internal/bytealg.MaxLen"], ifaces := true, apart := false, laid := [("unicode/utf8.acceptRanges", laid_unicode_utf8_acceptRanges), ("loop.example/depositary/impl.errPiece", laid_loop_example_depositary_impl_errPiece), ("loop.example/depositary/impl.errKey", laid_loop_example_depositary_impl_errKey), ("unicode/utf8.first", laid_unicode_utf8_first)] }
def FnExactPackOkSaid : Prop := fnExactPackOkRow.holds Tryd.pinned (OpenSpec.ofChange fnExactPackOkSpec)

/-- ITS FALSE NEIGHBOUR: 'it returns false'. Refute it at one input. -/
def fnExactPackOkWrong : ChangeSpec := { name := "fnExactPackOk", vars := ["loop.example/depositary/impl.errKey", "loop.example/depositary/impl.errPiece"], fn := fun _ => fun
  | [d1, d2, g1, g2] => { results := [.lit (.bool false)], args := [d1, d2], vars := [g1, g2] }
  | _ => none }
def FnExactPackOkWrongFalsely : Prop := fnExactPackOkRow.holds Tryd.pinned (OpenSpec.ofChange fnExactPackOkWrong)

/-- 'laws.FnExactPackGet': WHATEVER THE INPUT: true; the input reads as it did. -/
def fnExactPackGetSpec : ChangeSpec := { name := "fnExactPackGet", vars := ["loop.example/depositary/impl.errKey", "loop.example/depositary/impl.errPiece"], fn := fun _ => fun
  | [d1, d2, d3, g1, g2] => { results := [.lit (.bool true)], args := [d1, d2, d3], vars := [g1, g2] }
  | _ => none }
def fnExactPackGetRow : OpenClaim := { program := "ytkjginibdablnaadoor", sum := "6bce7fc86742aa4e681e08c4fef88e898bb02d116b5cb6515e79de9fd83b0721", func := "loop.example/depositary/laws.FnExactPackGet", spec := "fnExactPackGet", inPlace := ["internal/bytealg.IndexByteString", "internal/bytealg.IndexString", "internal/abi.NoEscape", "internal/bytealg.MakeNoZero"], unfollowed := true, recurses := true, named := ["unicode/utf8.first", "unicode/utf8.acceptRanges", "loop.example/depositary/impl.errKey", "loop.example/depositary/impl.errPiece", "internal/bytealg.MaxLen"], ifaces := true, apart := false, laid := [("unicode/utf8.acceptRanges", laid_unicode_utf8_acceptRanges), ("loop.example/depositary/impl.errPiece", laid_loop_example_depositary_impl_errPiece), ("loop.example/depositary/impl.errKey", laid_loop_example_depositary_impl_errKey), ("unicode/utf8.first", laid_unicode_utf8_first)] }
def FnExactPackGetSaid : Prop := fnExactPackGetRow.holds Tryd.pinned (OpenSpec.ofChange fnExactPackGetSpec)

/-- ITS FALSE NEIGHBOUR: 'it returns false'. Refute it at one input. -/
def fnExactPackGetWrong : ChangeSpec := { name := "fnExactPackGet", vars := ["loop.example/depositary/impl.errKey", "loop.example/depositary/impl.errPiece"], fn := fun _ => fun
  | [d1, d2, d3, g1, g2] => { results := [.lit (.bool false)], args := [d1, d2, d3], vars := [g1, g2] }
  | _ => none }
def FnExactPackGetWrongFalsely : Prop := fnExactPackGetRow.holds Tryd.pinned (OpenSpec.ofChange fnExactPackGetWrong)

/-- 'laws.FnPackForm': WHATEVER THE INPUT: true; the input reads as it did. -/
def fnPackFormSpec : ChangeSpec := { name := "fnPackForm", vars := ["loop.example/depositary/impl.errKey", "loop.example/depositary/impl.errPiece"], fn := fun _ => fun
  | [d, g1, g2] => { results := [.lit (.bool true)], args := [d], vars := [g1, g2] }
  | _ => none }
def fnPackFormRow : OpenClaim := { program := "ytkjginibdablnaadoor", sum := "6bce7fc86742aa4e681e08c4fef88e898bb02d116b5cb6515e79de9fd83b0721", func := "loop.example/depositary/laws.FnPackForm", spec := "fnPackForm", inPlace := ["internal/bytealg.IndexByteString", "internal/bytealg.IndexString", "internal/abi.NoEscape", "internal/bytealg.MakeNoZero"], named := ["unicode/utf8.first", "unicode/utf8.acceptRanges", "loop.example/depositary/impl.errKey", "loop.example/depositary/impl.errPiece", "internal/bytealg.MaxLen"], ifaces := true, apart := false, laid := [("unicode/utf8.acceptRanges", laid_unicode_utf8_acceptRanges), ("loop.example/depositary/impl.errPiece", laid_loop_example_depositary_impl_errPiece), ("loop.example/depositary/impl.errKey", laid_loop_example_depositary_impl_errKey), ("unicode/utf8.first", laid_unicode_utf8_first)] }
def FnPackFormSaid : Prop := fnPackFormRow.holds Tryd.pinned (OpenSpec.ofChange fnPackFormSpec)

/-- ITS FALSE NEIGHBOUR: 'it returns false'. Refute it at one input. -/
def fnPackFormWrong : ChangeSpec := { name := "fnPackForm", vars := ["loop.example/depositary/impl.errKey", "loop.example/depositary/impl.errPiece"], fn := fun _ => fun
  | [d, g1, g2] => { results := [.lit (.bool false)], args := [d], vars := [g1, g2] }
  | _ => none }
def FnPackFormWrongFalsely : Prop := fnPackFormRow.holds Tryd.pinned (OpenSpec.ofChange fnPackFormWrong)

/-- 'laws.FnPackNames': WHATEVER THE INPUT: true; the input reads as it did. -/
def fnPackNamesSpec : ChangeSpec := { name := "fnPackNames", vars := ["loop.example/depositary/impl.errKey", "loop.example/depositary/impl.errPiece"], fn := fun _ => fun
  | [d, g1, g2] => { results := [.lit (.bool true)], args := [d], vars := [g1, g2] }
  | _ => none }
def fnPackNamesRow : OpenClaim := { program := "ytkjginibdablnaadoor", sum := "6bce7fc86742aa4e681e08c4fef88e898bb02d116b5cb6515e79de9fd83b0721", func := "loop.example/depositary/laws.FnPackNames", spec := "fnPackNames", inPlace := ["internal/bytealg.IndexByteString", "internal/bytealg.IndexString", "internal/abi.NoEscape", "internal/bytealg.MakeNoZero"], named := ["unicode/utf8.first", "unicode/utf8.acceptRanges", "loop.example/depositary/impl.errKey", "loop.example/depositary/impl.errPiece", "internal/bytealg.MaxLen"], ifaces := true, apart := false, laid := [("unicode/utf8.acceptRanges", laid_unicode_utf8_acceptRanges), ("loop.example/depositary/impl.errPiece", laid_loop_example_depositary_impl_errPiece), ("loop.example/depositary/impl.errKey", laid_loop_example_depositary_impl_errKey), ("unicode/utf8.first", laid_unicode_utf8_first)] }
def FnPackNamesSaid : Prop := fnPackNamesRow.holds Tryd.pinned (OpenSpec.ofChange fnPackNamesSpec)

/-- ITS FALSE NEIGHBOUR: 'it returns false'. Refute it at one input. -/
def fnPackNamesWrong : ChangeSpec := { name := "fnPackNames", vars := ["loop.example/depositary/impl.errKey", "loop.example/depositary/impl.errPiece"], fn := fun _ => fun
  | [d, g1, g2] => { results := [.lit (.bool false)], args := [d], vars := [g1, g2] }
  | _ => none }
def FnPackNamesWrongFalsely : Prop := fnPackNamesRow.holds Tryd.pinned (OpenSpec.ofChange fnPackNamesWrong)

/-- 'laws.FnPackGet': WHATEVER THE INPUT: true; the input reads as it did. -/
def fnPackGetSpec : ChangeSpec := { name := "fnPackGet", vars := ["loop.example/depositary/impl.errKey", "loop.example/depositary/impl.errPiece"], fn := fun _ => fun
  | [d, g1, g2] => { results := [.lit (.bool true)], args := [d], vars := [g1, g2] }
  | _ => none }
def fnPackGetRow : OpenClaim := { program := "ytkjginibdablnaadoor", sum := "6bce7fc86742aa4e681e08c4fef88e898bb02d116b5cb6515e79de9fd83b0721", func := "loop.example/depositary/laws.FnPackGet", spec := "fnPackGet", inPlace := ["internal/bytealg.IndexByteString", "internal/bytealg.IndexString", "internal/abi.NoEscape", "internal/bytealg.MakeNoZero"], unfollowed := true, recurses := true, named := ["unicode/utf8.first", "unicode/utf8.acceptRanges", "loop.example/depositary/impl.errKey", "loop.example/depositary/impl.errPiece", "internal/bytealg.MaxLen"], ifaces := true, apart := false, laid := [("unicode/utf8.acceptRanges", laid_unicode_utf8_acceptRanges), ("loop.example/depositary/impl.errPiece", laid_loop_example_depositary_impl_errPiece), ("loop.example/depositary/impl.errKey", laid_loop_example_depositary_impl_errKey), ("unicode/utf8.first", laid_unicode_utf8_first)] }
def FnPackGetSaid : Prop := fnPackGetRow.holds Tryd.pinned (OpenSpec.ofChange fnPackGetSpec)

/-- ITS FALSE NEIGHBOUR: 'it returns false'. Refute it at one input. -/
def fnPackGetWrong : ChangeSpec := { name := "fnPackGet", vars := ["loop.example/depositary/impl.errKey", "loop.example/depositary/impl.errPiece"], fn := fun _ => fun
  | [d, g1, g2] => { results := [.lit (.bool false)], args := [d], vars := [g1, g2] }
  | _ => none }
def FnPackGetWrongFalsely : Prop := fnPackGetRow.holds Tryd.pinned (OpenSpec.ofChange fnPackGetWrong)

/-- 'laws.FnPackOne': WHATEVER THE INPUT: true; the input reads as it did. -/
def fnPackOneSpec : ChangeSpec := { name := "fnPackOne", vars := ["loop.example/depositary/impl.errKey", "loop.example/depositary/impl.errPiece"], fn := fun _ => fun
  | [d1, d2, g1, g2] => { results := [.lit (.bool true)], args := [d1, d2], vars := [g1, g2] }
  | _ => none }
def fnPackOneRow : OpenClaim := { program := "ytkjginibdablnaadoor", sum := "6bce7fc86742aa4e681e08c4fef88e898bb02d116b5cb6515e79de9fd83b0721", func := "loop.example/depositary/laws.FnPackOne", spec := "fnPackOne", inPlace := ["internal/reflectlite.TypeOf", "internal/abi.NoEscape", "internal/bytealg.MakeNoZero", "internal/bytealg.IndexByteString", "internal/bytealg.IndexString"], unfollowed := true, recurses := true, named := ["loop.example/depositary/impl.errKey", "loop.example/depositary/impl.errPiece", "unicode/utf8.first", "unicode/utf8.acceptRanges", "internal/bytealg.MaxLen"], ifaces := true, apart := false, laid := [("unicode/utf8.acceptRanges", laid_unicode_utf8_acceptRanges), ("loop.example/depositary/impl.errPiece", laid_loop_example_depositary_impl_errPiece), ("loop.example/depositary/impl.errKey", laid_loop_example_depositary_impl_errKey), ("unicode/utf8.first", laid_unicode_utf8_first)] }
def FnPackOneSaid : Prop := fnPackOneRow.holds Tryd.pinned (OpenSpec.ofChange fnPackOneSpec)

/-- ITS FALSE NEIGHBOUR: 'it returns false'. Refute it at one input. -/
def fnPackOneWrong : ChangeSpec := { name := "fnPackOne", vars := ["loop.example/depositary/impl.errKey", "loop.example/depositary/impl.errPiece"], fn := fun _ => fun
  | [d1, d2, g1, g2] => { results := [.lit (.bool false)], args := [d1, d2], vars := [g1, g2] }
  | _ => none }
def FnPackOneWrongFalsely : Prop := fnPackOneRow.holds Tryd.pinned (OpenSpec.ofChange fnPackOneWrong)

/-- 'laws.FnPackOrder': WHATEVER THE INPUT: true; the input reads as it did. -/
def fnPackOrderSpec : ChangeSpec := { name := "fnPackOrder", vars := ["loop.example/depositary/impl.errKey", "loop.example/depositary/impl.errPiece"], fn := fun _ => fun
  | [d, g1, g2] => { results := [.lit (.bool true)], args := [d], vars := [g1, g2] }
  | _ => none }
def fnPackOrderRow : OpenClaim := { program := "ytkjginibdablnaadoor", sum := "6bce7fc86742aa4e681e08c4fef88e898bb02d116b5cb6515e79de9fd83b0721", func := "loop.example/depositary/laws.FnPackOrder", spec := "fnPackOrder", inPlace := ["internal/reflectlite.TypeOf", "internal/abi.NoEscape", "internal/bytealg.MakeNoZero", "internal/bytealg.IndexByteString", "internal/bytealg.IndexString"], unfollowed := true, recurses := true, named := ["loop.example/depositary/impl.errKey", "loop.example/depositary/impl.errPiece", "unicode/utf8.first", "unicode/utf8.acceptRanges", "internal/bytealg.MaxLen"], ifaces := true, apart := false, laid := [("unicode/utf8.acceptRanges", laid_unicode_utf8_acceptRanges), ("loop.example/depositary/impl.errPiece", laid_loop_example_depositary_impl_errPiece), ("loop.example/depositary/impl.errKey", laid_loop_example_depositary_impl_errKey), ("unicode/utf8.first", laid_unicode_utf8_first)] }
def FnPackOrderSaid : Prop := fnPackOrderRow.holds Tryd.pinned (OpenSpec.ofChange fnPackOrderSpec)

/-- ITS FALSE NEIGHBOUR: 'it returns false'. Refute it at one input. -/
def fnPackOrderWrong : ChangeSpec := { name := "fnPackOrder", vars := ["loop.example/depositary/impl.errKey", "loop.example/depositary/impl.errPiece"], fn := fun _ => fun
  | [d, g1, g2] => { results := [.lit (.bool false)], args := [d], vars := [g1, g2] }
  | _ => none }
def FnPackOrderWrongFalsely : Prop := fnPackOrderRow.holds Tryd.pinned (OpenSpec.ofChange fnPackOrderWrong)

/- THE SECOND FORM. 'bulk': how many values and letters a reading holds, each counted each time it is reached (what is shared counts as often as it is met; a slice's spare places count too). A statement '..UptoSaid' is the law's where the arguments, and the package variables that the reading takes, are together of bulk at most 1048576: NARROWER than '..Said'. Prove '..Said' where nothing that the law and all that it calls make is longer than what came in: it says more and counts as full. Else prove '..UptoSaid'. A law counts once. -/
mutual
def uptoBulk {H : Type} : DataW H → Nat
  | .lit (.string bytes) => bytes.length + 1
  | .lit _ => 1
  | .nil => 1
  | .ptr d => uptoBulk d + 1
  | .slice elems spare => uptoBulkAll elems + uptoBulkAll spare + 1
  | .agg parts => uptoBulkAll parts + 1
  | .iface _ d => uptoBulk d + 1
  | .map entries => uptoBulkEntries entries + 1
  | .held _ => 1
def uptoBulkAll {H : Type} : List (DataW H) → Nat
  | [] => 0
  | d :: r => uptoBulk d + uptoBulkAll r
def uptoBulkEntries {H : Type} : List (Lit × DataW H) → Nat
  | [] => 0
  | x :: r => uptoBulkEntry x + uptoBulkEntries r
def uptoBulkEntry {H : Type} : Lit × DataW H → Nat
  | (.string bytes, d) => bytes.length + uptoBulk d + 1
  | (_, d) => uptoBulk d + 1
 end
def uptoSmall : (H : Type) → List (DataW H) → Bool := fun _ ds => decide (uptoBulkAll ds ≤ 1048576)
def OpenSpec.upto (s : _root_.Go.ChangeSpec) : _root_.Go.OpenSpec := { _root_.Go.OpenSpec.ofChange s with cond := some uptoSmall }

/-- 'laws.FnExactPackOk', WHERE WHAT IT READS IS OF BULK AT MOST 1048576: true; the input reads as it did. -/
def fnExactPackOkUptoRow : OpenClaim := { program := "ytkjginibdablnaadoor", sum := "6bce7fc86742aa4e681e08c4fef88e898bb02d116b5cb6515e79de9fd83b0721", func := "loop.example/depositary/laws.FnExactPackOk", spec := "fnExactPackOk", inPlace := ["internal/bytealg.IndexByteString", "internal/bytealg.IndexString", "internal/abi.NoEscape", "internal/bytealg.MakeNoZero"], named := ["unicode/utf8.first", "unicode/utf8.acceptRanges", "loop.example/depositary/impl.errKey", "loop.example/depositary/impl.errPiece", "internal/bytealg.MaxLen"], ifaces := true, apart := false, laid := [("unicode/utf8.acceptRanges", laid_unicode_utf8_acceptRanges), ("loop.example/depositary/impl.errPiece", laid_loop_example_depositary_impl_errPiece), ("loop.example/depositary/impl.errKey", laid_loop_example_depositary_impl_errKey), ("unicode/utf8.first", laid_unicode_utf8_first)], narrowed := true }
def FnExactPackOkUptoSaid : Prop := fnExactPackOkUptoRow.holds Tryd.pinned (OpenSpec.upto fnExactPackOkSpec)

/-- 'laws.FnExactPackGet', WHERE WHAT IT READS IS OF BULK AT MOST 1048576: true; the input reads as it did. -/
def fnExactPackGetUptoRow : OpenClaim := { program := "ytkjginibdablnaadoor", sum := "6bce7fc86742aa4e681e08c4fef88e898bb02d116b5cb6515e79de9fd83b0721", func := "loop.example/depositary/laws.FnExactPackGet", spec := "fnExactPackGet", inPlace := ["internal/bytealg.IndexByteString", "internal/bytealg.IndexString", "internal/abi.NoEscape", "internal/bytealg.MakeNoZero"], unfollowed := true, recurses := true, named := ["unicode/utf8.first", "unicode/utf8.acceptRanges", "loop.example/depositary/impl.errKey", "loop.example/depositary/impl.errPiece", "internal/bytealg.MaxLen"], ifaces := true, apart := false, laid := [("unicode/utf8.acceptRanges", laid_unicode_utf8_acceptRanges), ("loop.example/depositary/impl.errPiece", laid_loop_example_depositary_impl_errPiece), ("loop.example/depositary/impl.errKey", laid_loop_example_depositary_impl_errKey), ("unicode/utf8.first", laid_unicode_utf8_first)], narrowed := true }
def FnExactPackGetUptoSaid : Prop := fnExactPackGetUptoRow.holds Tryd.pinned (OpenSpec.upto fnExactPackGetSpec)

/-- 'laws.FnPackForm', WHERE WHAT IT READS IS OF BULK AT MOST 1048576: true; the input reads as it did. -/
def fnPackFormUptoRow : OpenClaim := { program := "ytkjginibdablnaadoor", sum := "6bce7fc86742aa4e681e08c4fef88e898bb02d116b5cb6515e79de9fd83b0721", func := "loop.example/depositary/laws.FnPackForm", spec := "fnPackForm", inPlace := ["internal/bytealg.IndexByteString", "internal/bytealg.IndexString", "internal/abi.NoEscape", "internal/bytealg.MakeNoZero"], named := ["unicode/utf8.first", "unicode/utf8.acceptRanges", "loop.example/depositary/impl.errKey", "loop.example/depositary/impl.errPiece", "internal/bytealg.MaxLen"], ifaces := true, apart := false, laid := [("unicode/utf8.acceptRanges", laid_unicode_utf8_acceptRanges), ("loop.example/depositary/impl.errPiece", laid_loop_example_depositary_impl_errPiece), ("loop.example/depositary/impl.errKey", laid_loop_example_depositary_impl_errKey), ("unicode/utf8.first", laid_unicode_utf8_first)], narrowed := true }
def FnPackFormUptoSaid : Prop := fnPackFormUptoRow.holds Tryd.pinned (OpenSpec.upto fnPackFormSpec)

/-- 'laws.FnPackNames', WHERE WHAT IT READS IS OF BULK AT MOST 1048576: true; the input reads as it did. -/
def fnPackNamesUptoRow : OpenClaim := { program := "ytkjginibdablnaadoor", sum := "6bce7fc86742aa4e681e08c4fef88e898bb02d116b5cb6515e79de9fd83b0721", func := "loop.example/depositary/laws.FnPackNames", spec := "fnPackNames", inPlace := ["internal/bytealg.IndexByteString", "internal/bytealg.IndexString", "internal/abi.NoEscape", "internal/bytealg.MakeNoZero"], named := ["unicode/utf8.first", "unicode/utf8.acceptRanges", "loop.example/depositary/impl.errKey", "loop.example/depositary/impl.errPiece", "internal/bytealg.MaxLen"], ifaces := true, apart := false, laid := [("unicode/utf8.acceptRanges", laid_unicode_utf8_acceptRanges), ("loop.example/depositary/impl.errPiece", laid_loop_example_depositary_impl_errPiece), ("loop.example/depositary/impl.errKey", laid_loop_example_depositary_impl_errKey), ("unicode/utf8.first", laid_unicode_utf8_first)], narrowed := true }
def FnPackNamesUptoSaid : Prop := fnPackNamesUptoRow.holds Tryd.pinned (OpenSpec.upto fnPackNamesSpec)

/-- 'laws.FnPackGet', WHERE WHAT IT READS IS OF BULK AT MOST 1048576: true; the input reads as it did. -/
def fnPackGetUptoRow : OpenClaim := { program := "ytkjginibdablnaadoor", sum := "6bce7fc86742aa4e681e08c4fef88e898bb02d116b5cb6515e79de9fd83b0721", func := "loop.example/depositary/laws.FnPackGet", spec := "fnPackGet", inPlace := ["internal/bytealg.IndexByteString", "internal/bytealg.IndexString", "internal/abi.NoEscape", "internal/bytealg.MakeNoZero"], unfollowed := true, recurses := true, named := ["unicode/utf8.first", "unicode/utf8.acceptRanges", "loop.example/depositary/impl.errKey", "loop.example/depositary/impl.errPiece", "internal/bytealg.MaxLen"], ifaces := true, apart := false, laid := [("unicode/utf8.acceptRanges", laid_unicode_utf8_acceptRanges), ("loop.example/depositary/impl.errPiece", laid_loop_example_depositary_impl_errPiece), ("loop.example/depositary/impl.errKey", laid_loop_example_depositary_impl_errKey), ("unicode/utf8.first", laid_unicode_utf8_first)], narrowed := true }
def FnPackGetUptoSaid : Prop := fnPackGetUptoRow.holds Tryd.pinned (OpenSpec.upto fnPackGetSpec)

/-- 'laws.FnPackOne', WHERE WHAT IT READS IS OF BULK AT MOST 1048576: true; the input reads as it did. -/
def fnPackOneUptoRow : OpenClaim := { program := "ytkjginibdablnaadoor", sum := "6bce7fc86742aa4e681e08c4fef88e898bb02d116b5cb6515e79de9fd83b0721", func := "loop.example/depositary/laws.FnPackOne", spec := "fnPackOne", inPlace := ["internal/reflectlite.TypeOf", "internal/abi.NoEscape", "internal/bytealg.MakeNoZero", "internal/bytealg.IndexByteString", "internal/bytealg.IndexString"], unfollowed := true, recurses := true, named := ["loop.example/depositary/impl.errKey", "loop.example/depositary/impl.errPiece", "unicode/utf8.first", "unicode/utf8.acceptRanges", "internal/bytealg.MaxLen"], ifaces := true, apart := false, laid := [("unicode/utf8.acceptRanges", laid_unicode_utf8_acceptRanges), ("loop.example/depositary/impl.errPiece", laid_loop_example_depositary_impl_errPiece), ("loop.example/depositary/impl.errKey", laid_loop_example_depositary_impl_errKey), ("unicode/utf8.first", laid_unicode_utf8_first)], narrowed := true }
def FnPackOneUptoSaid : Prop := fnPackOneUptoRow.holds Tryd.pinned (OpenSpec.upto fnPackOneSpec)

/-- 'laws.FnPackOrder', WHERE WHAT IT READS IS OF BULK AT MOST 1048576: true; the input reads as it did. -/
def fnPackOrderUptoRow : OpenClaim := { program := "ytkjginibdablnaadoor", sum := "6bce7fc86742aa4e681e08c4fef88e898bb02d116b5cb6515e79de9fd83b0721", func := "loop.example/depositary/laws.FnPackOrder", spec := "fnPackOrder", inPlace := ["internal/reflectlite.TypeOf", "internal/abi.NoEscape", "internal/bytealg.MakeNoZero", "internal/bytealg.IndexByteString", "internal/bytealg.IndexString"], unfollowed := true, recurses := true, named := ["loop.example/depositary/impl.errKey", "loop.example/depositary/impl.errPiece", "unicode/utf8.first", "unicode/utf8.acceptRanges", "internal/bytealg.MaxLen"], ifaces := true, apart := false, laid := [("unicode/utf8.acceptRanges", laid_unicode_utf8_acceptRanges), ("loop.example/depositary/impl.errPiece", laid_loop_example_depositary_impl_errPiece), ("loop.example/depositary/impl.errKey", laid_loop_example_depositary_impl_errKey), ("unicode/utf8.first", laid_unicode_utf8_first)], narrowed := true }
def FnPackOrderUptoSaid : Prop := fnPackOrderUptoRow.holds Tryd.pinned (OpenSpec.upto fnPackOrderSpec)

end Rows
end Go.Proofs.YtkjginibdablnaaDoor
