/-
  NARROWER THAN 'FOR EVERY INPUT', by the rows' own cells (each row's printed sentence says how): FnPackMake: ifaces, laid · FnPackSpoilt: ifaces, laid · FnExactPackMake: ifaces, laid · FnPackKey: ifaces, laid.
  DERIVED. THE GIVEN ROWS OF THIS SEAT. 4 by the template 'for every input the law returns true; each argument reads behind the call as it read before'; 0 by the template 'total and deterministic' (their statements: YtkjginibdablnaaGreatDoorTotals.lean).
  GIVEN WITH THE SEED: the statements are not yours to turn. If you find one false, say at which input.
  Laid BY PROGRAM, IN A SANDBOX (cutbox-rows.mjs): the forced cells as the released guide's own fill.sh prints them over the translation 70953355ae7a48ef… (all of the seat's roots in one cut). By AI agents, Wed Nov 11 2026. No macro, syntax, notation, axiom, sorry.
-/
import Derived.Test.YtkjginibdablnaaGreatDoorChecked
import GoSem.PinnedTables
import GoSem.Claim
import GoSem.ClaimJoined
import GoSem.ClaimMapViews
import Derived.JoinedTies
import Derived.KernelRfl
namespace Go.Proofs.YtkjginibdablnaaGreatDoor
/- THE CELL 'sum', in the pinned program and in every row, IS THE sha256 OF THE DUMP (.gsa) THAT YtkjginibdablnaaGreatDoorProg.lean LOADS. Nothing in Lean hashes anything: it is a label: what it is worth is what the hold of that sum in a sandbox is worth. -/
noncomputable def Tryz.pinned : Pinned := { name := "ytkjginibdablnaagreatdoor", sum := "70953355ae7a48efc10f4ced19710542fde7ee5570d83d8064593a2d3baae3b0", checked := Tryz.checked }
namespace Rows
def none {H : Type} : Left H := { results := [], args := [] }

/- WHAT THE LISTED PACKAGE-LEVEL VARIABLES READ AS WHEN THE CALL BEGINS. Each datum BY PROGRAM (the guide's laid-datum.mjs) off the statement by which the dump's own 'gosem.cut.vars' lays the variable. In a bare row this is a premise. The card (YtkjginibdablnaaGreatDoorCards.lean) ties it to the program's text. -/
def laid_unicode_utf8_acceptRanges {H : Type} : DataW H := .agg [.agg [.lit (.int .u8 128), .lit (.int .u8 191)], .agg [.lit (.int .u8 160), .lit (.int .u8 191)], .agg [.lit (.int .u8 128), .lit (.int .u8 159)], .agg [.lit (.int .u8 144), .lit (.int .u8 191)], .agg [.lit (.int .u8 128), .lit (.int .u8 143)], .agg [.lit (.int .u8 0), .lit (.int .u8 0)], .agg [.lit (.int .u8 0), .lit (.int .u8 0)], .agg [.lit (.int .u8 0), .lit (.int .u8 0)], .agg [.lit (.int .u8 0), .lit (.int .u8 0)], .agg [.lit (.int .u8 0), .lit (.int .u8 0)], .agg [.lit (.int .u8 0), .lit (.int .u8 0)], .agg [.lit (.int .u8 0), .lit (.int .u8 0)], .agg [.lit (.int .u8 0), .lit (.int .u8 0)], .agg [.lit (.int .u8 0), .lit (.int .u8 0)], .agg [.lit (.int .u8 0), .lit (.int .u8 0)], .agg [.lit (.int .u8 0), .lit (.int .u8 0)]]
def laid_loop_example_depositary_impl_errPiece {H : Type} : DataW H := .iface "*errors.errorString" (.ptr (.agg [.lit (.string [110, 111, 116, 32, 97, 32, 99, 104, 117, 110, 107])]))
def laid_loop_example_depositary_impl_errKey {H : Type} : DataW H := .iface "*errors.errorString" (.ptr (.agg [.lit (.string [110, 111, 116, 32, 97, 32, 107, 101, 121])]))
/-- One of Go's own tables, pinned by name: the form's constant. -/
def laid_unicode_utf8_first : DataW Unit := Go.Pinned.utf8First

/-- 'laws.FnPackMake': WHATEVER THE INPUT: true; the input reads as it did. -/
def fnPackMakeSpec : ChangeSpec := { name := "fnPackMake", vars := ["loop.example/depositary/impl.errKey", "loop.example/depositary/impl.errPiece"], fn := fun _ => fun
  | [d, g1, g2] => { results := [.lit (.bool true)], args := [d], vars := [g1, g2] }
  | _ => none }
def fnPackMakeRow : OpenClaim := { program := "ytkjginibdablnaagreatdoor", sum := "70953355ae7a48efc10f4ced19710542fde7ee5570d83d8064593a2d3baae3b0", func := "loop.example/depositary/laws.FnPackMake", spec := "fnPackMake", inPlace := ["internal/reflectlite.TypeOf", "internal/abi.NoEscape", "internal/bytealg.MakeNoZero", "internal/bytealg.IndexByteString", "internal/bytealg.IndexString"], unfollowed := true, recurses := true, named := ["loop.example/depositary/impl.errKey", "loop.example/depositary/impl.errPiece", "unicode/utf8.first", "unicode/utf8.acceptRanges", "internal/bytealg.MaxLen"], ifaces := true, apart := false, laid := [("unicode/utf8.acceptRanges", laid_unicode_utf8_acceptRanges), ("loop.example/depositary/impl.errPiece", laid_loop_example_depositary_impl_errPiece), ("loop.example/depositary/impl.errKey", laid_loop_example_depositary_impl_errKey), ("unicode/utf8.first", laid_unicode_utf8_first)] }
def FnPackMakeSaid : Prop := fnPackMakeRow.holds Tryz.pinned (OpenSpec.ofChange fnPackMakeSpec)

/-- ITS FALSE NEIGHBOUR: 'it returns false'. Refute it at one input. -/
def fnPackMakeWrong : ChangeSpec := { name := "fnPackMake", vars := ["loop.example/depositary/impl.errKey", "loop.example/depositary/impl.errPiece"], fn := fun _ => fun
  | [d, g1, g2] => { results := [.lit (.bool false)], args := [d], vars := [g1, g2] }
  | _ => none }
def FnPackMakeWrongFalsely : Prop := fnPackMakeRow.holds Tryz.pinned (OpenSpec.ofChange fnPackMakeWrong)

/-- 'laws.FnPackSpoilt': WHATEVER THE INPUT: true; the input reads as it did. -/
def fnPackSpoiltSpec : ChangeSpec := { name := "fnPackSpoilt", vars := ["loop.example/depositary/impl.errKey", "loop.example/depositary/impl.errPiece"], fn := fun _ => fun
  | [d1, d2, g1, g2] => { results := [.lit (.bool true)], args := [d1, d2], vars := [g1, g2] }
  | _ => none }
def fnPackSpoiltRow : OpenClaim := { program := "ytkjginibdablnaagreatdoor", sum := "70953355ae7a48efc10f4ced19710542fde7ee5570d83d8064593a2d3baae3b0", func := "loop.example/depositary/laws.FnPackSpoilt", spec := "fnPackSpoilt", inPlace := ["internal/reflectlite.TypeOf", "internal/abi.NoEscape", "internal/bytealg.MakeNoZero", "internal/bytealg.IndexByteString", "internal/bytealg.IndexString"], unfollowed := true, recurses := true, named := ["loop.example/depositary/impl.errKey", "loop.example/depositary/impl.errPiece", "unicode/utf8.first", "unicode/utf8.acceptRanges", "internal/bytealg.MaxLen"], ifaces := true, apart := false, laid := [("unicode/utf8.acceptRanges", laid_unicode_utf8_acceptRanges), ("loop.example/depositary/impl.errPiece", laid_loop_example_depositary_impl_errPiece), ("loop.example/depositary/impl.errKey", laid_loop_example_depositary_impl_errKey), ("unicode/utf8.first", laid_unicode_utf8_first)] }
def FnPackSpoiltSaid : Prop := fnPackSpoiltRow.holds Tryz.pinned (OpenSpec.ofChange fnPackSpoiltSpec)

/-- ITS FALSE NEIGHBOUR: 'it returns false'. Refute it at one input. -/
def fnPackSpoiltWrong : ChangeSpec := { name := "fnPackSpoilt", vars := ["loop.example/depositary/impl.errKey", "loop.example/depositary/impl.errPiece"], fn := fun _ => fun
  | [d1, d2, g1, g2] => { results := [.lit (.bool false)], args := [d1, d2], vars := [g1, g2] }
  | _ => none }
def FnPackSpoiltWrongFalsely : Prop := fnPackSpoiltRow.holds Tryz.pinned (OpenSpec.ofChange fnPackSpoiltWrong)

/-- 'laws.FnExactPackMake': WHATEVER THE INPUT: true; the input reads as it did. -/
def fnExactPackMakeSpec : ChangeSpec := { name := "fnExactPackMake", vars := ["loop.example/depositary/impl.errKey", "loop.example/depositary/impl.errPiece"], fn := fun _ => fun
  | [d1, d2, d3, g1, g2] => { results := [.lit (.bool true)], args := [d1, d2, d3], vars := [g1, g2] }
  | _ => none }
def fnExactPackMakeRow : OpenClaim := { program := "ytkjginibdablnaagreatdoor", sum := "70953355ae7a48efc10f4ced19710542fde7ee5570d83d8064593a2d3baae3b0", func := "loop.example/depositary/laws.FnExactPackMake", spec := "fnExactPackMake", inPlace := ["internal/reflectlite.TypeOf", "internal/abi.NoEscape", "internal/bytealg.MakeNoZero", "internal/bytealg.IndexByteString", "internal/bytealg.IndexString"], unfollowed := true, recurses := true, named := ["loop.example/depositary/impl.errKey", "loop.example/depositary/impl.errPiece", "unicode/utf8.first", "unicode/utf8.acceptRanges", "internal/bytealg.MaxLen"], ifaces := true, apart := false, laid := [("unicode/utf8.acceptRanges", laid_unicode_utf8_acceptRanges), ("loop.example/depositary/impl.errPiece", laid_loop_example_depositary_impl_errPiece), ("loop.example/depositary/impl.errKey", laid_loop_example_depositary_impl_errKey), ("unicode/utf8.first", laid_unicode_utf8_first)] }
def FnExactPackMakeSaid : Prop := fnExactPackMakeRow.holds Tryz.pinned (OpenSpec.ofChange fnExactPackMakeSpec)

/-- ITS FALSE NEIGHBOUR: 'it returns false'. Refute it at one input. -/
def fnExactPackMakeWrong : ChangeSpec := { name := "fnExactPackMake", vars := ["loop.example/depositary/impl.errKey", "loop.example/depositary/impl.errPiece"], fn := fun _ => fun
  | [d1, d2, d3, g1, g2] => { results := [.lit (.bool false)], args := [d1, d2, d3], vars := [g1, g2] }
  | _ => none }
def FnExactPackMakeWrongFalsely : Prop := fnExactPackMakeRow.holds Tryz.pinned (OpenSpec.ofChange fnExactPackMakeWrong)

/-- 'laws.FnPackKey': WHATEVER THE INPUT: true; the input reads as it did. -/
def fnPackKeySpec : ChangeSpec := { name := "fnPackKey", vars := ["loop.example/depositary/impl.errKey", "loop.example/depositary/impl.errPiece"], fn := fun _ => fun
  | [d1, d2, g1, g2] => { results := [.lit (.bool true)], args := [d1, d2], vars := [g1, g2] }
  | _ => none }
def fnPackKeyRow : OpenClaim := { program := "ytkjginibdablnaagreatdoor", sum := "70953355ae7a48efc10f4ced19710542fde7ee5570d83d8064593a2d3baae3b0", func := "loop.example/depositary/laws.FnPackKey", spec := "fnPackKey", inPlace := ["internal/reflectlite.TypeOf", "internal/abi.NoEscape", "internal/bytealg.MakeNoZero", "internal/bytealg.IndexByteString", "internal/bytealg.IndexString"], unfollowed := true, recurses := true, named := ["loop.example/depositary/impl.errKey", "loop.example/depositary/impl.errPiece", "unicode/utf8.first", "unicode/utf8.acceptRanges", "internal/bytealg.MaxLen"], ifaces := true, apart := false, laid := [("unicode/utf8.acceptRanges", laid_unicode_utf8_acceptRanges), ("loop.example/depositary/impl.errPiece", laid_loop_example_depositary_impl_errPiece), ("loop.example/depositary/impl.errKey", laid_loop_example_depositary_impl_errKey), ("unicode/utf8.first", laid_unicode_utf8_first)] }
def FnPackKeySaid : Prop := fnPackKeyRow.holds Tryz.pinned (OpenSpec.ofChange fnPackKeySpec)

/-- ITS FALSE NEIGHBOUR: 'it returns false'. Refute it at one input. -/
def fnPackKeyWrong : ChangeSpec := { name := "fnPackKey", vars := ["loop.example/depositary/impl.errKey", "loop.example/depositary/impl.errPiece"], fn := fun _ => fun
  | [d1, d2, g1, g2] => { results := [.lit (.bool false)], args := [d1, d2], vars := [g1, g2] }
  | _ => none }
def FnPackKeyWrongFalsely : Prop := fnPackKeyRow.holds Tryz.pinned (OpenSpec.ofChange fnPackKeyWrong)

/- THE SECOND FORM. 'bulk': how many values and letters a reading holds, each counted each time it is reached (what is shared counts as often as it is met; a slice's spare places count too). A statement '..UptoSaid' is the law's where the arguments, and the package variables that the reading takes, are together of bulk at most 1048576: NARROWER than '..Said'. Prove '..Said' where nothing that the law and all that it calls make is longer than what came in: it says more and counts as full. Else prove '..UptoSaid'. A law counts once. -/
mutual
def uptoBulk {H : Type} : DataW H → Nat
  | .lit (.string bytes) => bytes.length + 1
  | .lit _ => 1
  | .nil => 1
  | .ptr d => uptoBulk d + 1
  | .slice elems spare => uptoBulkAll elems + uptoBulkAll spare + 1
  | .agg parts => uptoBulkAll parts + 1
  | .iface _ d => uptoBulk d + 1
  | .map entries => uptoBulkEntries entries + 1
  | .held _ => 1
def uptoBulkAll {H : Type} : List (DataW H) → Nat
  | [] => 0
  | d :: r => uptoBulk d + uptoBulkAll r
def uptoBulkEntries {H : Type} : List (Lit × DataW H) → Nat
  | [] => 0
  | x :: r => uptoBulkEntry x + uptoBulkEntries r
def uptoBulkEntry {H : Type} : Lit × DataW H → Nat
  | (.string bytes, d) => bytes.length + uptoBulk d + 1
  | (_, d) => uptoBulk d + 1
 end
def uptoSmall : (H : Type) → List (DataW H) → Bool := fun _ ds => decide (uptoBulkAll ds ≤ 1048576)
def OpenSpec.upto (s : _root_.Go.ChangeSpec) : _root_.Go.OpenSpec := { _root_.Go.OpenSpec.ofChange s with cond := some uptoSmall }

/-- 'laws.FnPackMake', WHERE WHAT IT READS IS OF BULK AT MOST 1048576: true; the input reads as it did. -/
def fnPackMakeUptoRow : OpenClaim := { program := "ytkjginibdablnaagreatdoor", sum := "70953355ae7a48efc10f4ced19710542fde7ee5570d83d8064593a2d3baae3b0", func := "loop.example/depositary/laws.FnPackMake", spec := "fnPackMake", inPlace := ["internal/reflectlite.TypeOf", "internal/abi.NoEscape", "internal/bytealg.MakeNoZero", "internal/bytealg.IndexByteString", "internal/bytealg.IndexString"], unfollowed := true, recurses := true, named := ["loop.example/depositary/impl.errKey", "loop.example/depositary/impl.errPiece", "unicode/utf8.first", "unicode/utf8.acceptRanges", "internal/bytealg.MaxLen"], ifaces := true, apart := false, laid := [("unicode/utf8.acceptRanges", laid_unicode_utf8_acceptRanges), ("loop.example/depositary/impl.errPiece", laid_loop_example_depositary_impl_errPiece), ("loop.example/depositary/impl.errKey", laid_loop_example_depositary_impl_errKey), ("unicode/utf8.first", laid_unicode_utf8_first)], narrowed := true }
def FnPackMakeUptoSaid : Prop := fnPackMakeUptoRow.holds Tryz.pinned (OpenSpec.upto fnPackMakeSpec)

/-- 'laws.FnPackSpoilt', WHERE WHAT IT READS IS OF BULK AT MOST 1048576: true; the input reads as it did. -/
def fnPackSpoiltUptoRow : OpenClaim := { program := "ytkjginibdablnaagreatdoor", sum := "70953355ae7a48efc10f4ced19710542fde7ee5570d83d8064593a2d3baae3b0", func := "loop.example/depositary/laws.FnPackSpoilt", spec := "fnPackSpoilt", inPlace := ["internal/reflectlite.TypeOf", "internal/abi.NoEscape", "internal/bytealg.MakeNoZero", "internal/bytealg.IndexByteString", "internal/bytealg.IndexString"], unfollowed := true, recurses := true, named := ["loop.example/depositary/impl.errKey", "loop.example/depositary/impl.errPiece", "unicode/utf8.first", "unicode/utf8.acceptRanges", "internal/bytealg.MaxLen"], ifaces := true, apart := false, laid := [("unicode/utf8.acceptRanges", laid_unicode_utf8_acceptRanges), ("loop.example/depositary/impl.errPiece", laid_loop_example_depositary_impl_errPiece), ("loop.example/depositary/impl.errKey", laid_loop_example_depositary_impl_errKey), ("unicode/utf8.first", laid_unicode_utf8_first)], narrowed := true }
def FnPackSpoiltUptoSaid : Prop := fnPackSpoiltUptoRow.holds Tryz.pinned (OpenSpec.upto fnPackSpoiltSpec)

/-- 'laws.FnExactPackMake', WHERE WHAT IT READS IS OF BULK AT MOST 1048576: true; the input reads as it did. -/
def fnExactPackMakeUptoRow : OpenClaim := { program := "ytkjginibdablnaagreatdoor", sum := "70953355ae7a48efc10f4ced19710542fde7ee5570d83d8064593a2d3baae3b0", func := "loop.example/depositary/laws.FnExactPackMake", spec := "fnExactPackMake", inPlace := ["internal/reflectlite.TypeOf", "internal/abi.NoEscape", "internal/bytealg.MakeNoZero", "internal/bytealg.IndexByteString", "internal/bytealg.IndexString"], unfollowed := true, recurses := true, named := ["loop.example/depositary/impl.errKey", "loop.example/depositary/impl.errPiece", "unicode/utf8.first", "unicode/utf8.acceptRanges", "internal/bytealg.MaxLen"], ifaces := true, apart := false, laid := [("unicode/utf8.acceptRanges", laid_unicode_utf8_acceptRanges), ("loop.example/depositary/impl.errPiece", laid_loop_example_depositary_impl_errPiece), ("loop.example/depositary/impl.errKey", laid_loop_example_depositary_impl_errKey), ("unicode/utf8.first", laid_unicode_utf8_first)], narrowed := true }
def FnExactPackMakeUptoSaid : Prop := fnExactPackMakeUptoRow.holds Tryz.pinned (OpenSpec.upto fnExactPackMakeSpec)

/-- 'laws.FnPackKey', WHERE WHAT IT READS IS OF BULK AT MOST 1048576: true; the input reads as it did. -/
def fnPackKeyUptoRow : OpenClaim := { program := "ytkjginibdablnaagreatdoor", sum := "70953355ae7a48efc10f4ced19710542fde7ee5570d83d8064593a2d3baae3b0", func := "loop.example/depositary/laws.FnPackKey", spec := "fnPackKey", inPlace := ["internal/reflectlite.TypeOf", "internal/abi.NoEscape", "internal/bytealg.MakeNoZero", "internal/bytealg.IndexByteString", "internal/bytealg.IndexString"], unfollowed := true, recurses := true, named := ["loop.example/depositary/impl.errKey", "loop.example/depositary/impl.errPiece", "unicode/utf8.first", "unicode/utf8.acceptRanges", "internal/bytealg.MaxLen"], ifaces := true, apart := false, laid := [("unicode/utf8.acceptRanges", laid_unicode_utf8_acceptRanges), ("loop.example/depositary/impl.errPiece", laid_loop_example_depositary_impl_errPiece), ("loop.example/depositary/impl.errKey", laid_loop_example_depositary_impl_errKey), ("unicode/utf8.first", laid_unicode_utf8_first)], narrowed := true }
def FnPackKeyUptoSaid : Prop := fnPackKeyUptoRow.holds Tryz.pinned (OpenSpec.upto fnPackKeySpec)

end Rows
end Go.Proofs.YtkjginibdablnaaGreatDoor
