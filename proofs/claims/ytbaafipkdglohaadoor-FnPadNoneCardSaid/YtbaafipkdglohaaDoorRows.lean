/-
  NARROWER THAN 'FOR EVERY INPUT', by the rows' own cells (each row's printed sentence says how): FnExactNameIs: ifaces, laid · FnExactNameOf: ifaces, laid · FnNameKey: ifaces, laid · FnName: ifaces, laid · FnNameIs: ifaces, laid · FnNameSpread: ifaces, laid · FnExactPadBack: laid · FnPadBack: laid · FnPadNone: laid · FnPadStrict: laid.
  DERIVED. THE GIVEN ROWS OF THIS SEAT. 10 by the template 'for every input the law returns true; each argument reads behind the call as it read before'; 0 by the template 'total and deterministic' (their statements: YtbaafipkdglohaaDoorTotals.lean).
  GIVEN WITH THE SEED: the statements are not yours to turn. If you find one false, say at which input.
  Laid BY PROGRAM, IN A SANDBOX (cutbox-rows.mjs): the forced cells as the released guide's own fill.sh prints them over the translation 0b8d14d815be0919… (all of the seat's roots in one cut). By AI agents, Wed Nov 11 2026. No macro, syntax, notation, axiom, sorry.
-/
import Derived.Test.YtbaafipkdglohaaDoorChecked
import GoSem.PinnedTables
import GoSem.Claim
import GoSem.ClaimJoined
import GoSem.ClaimMapViews
import Derived.JoinedTies
import Derived.KernelRfl
namespace Go.Proofs.YtbaafipkdglohaaDoor
/- THE CELL 'sum', in the pinned program and in every row, IS THE sha256 OF THE DUMP (.gsa) THAT YtbaafipkdglohaaDoorProg.lean LOADS. Nothing in Lean hashes anything: it is a label: what it is worth is what the hold of that sum in a sandbox is worth. -/
noncomputable def Tryd.pinned : Pinned := { name := "ytbaafipkdglohaadoor", sum := "0b8d14d815be09193cb57499e4ff9df28f2d3d99e8f27f6d79b2c02af9c5007b", checked := Tryd.checked }
namespace Rows
def none {H : Type} : Left H := { results := [], args := [] }

/- WHAT THE LISTED PACKAGE-LEVEL VARIABLES READ AS WHEN THE CALL BEGINS. Each datum BY PROGRAM (the guide's laid-datum.mjs) off the statement by which the dump's own 'gosem.cut.vars' lays the variable. In a bare row this is a premise. The card (YtbaafipkdglohaaDoorCards.lean) ties it to the program's text. -/
def laid_loop_example_depositary_impl_errPiece {H : Type} : DataW H := .iface "*errors.errorString" (.ptr (.agg [.lit (.string [110, 111, 116, 32, 97, 32, 99, 104, 117, 110, 107])]))
def laid_loop_example_depositary_impl_errKey {H : Type} : DataW H := .iface "*errors.errorString" (.ptr (.agg [.lit (.string [110, 111, 116, 32, 97, 32, 107, 101, 121])]))
def laid_unicode_utf8_acceptRanges {H : Type} : DataW H := .agg [.agg [.lit (.int .u8 128), .lit (.int .u8 191)], .agg [.lit (.int .u8 160), .lit (.int .u8 191)], .agg [.lit (.int .u8 128), .lit (.int .u8 159)], .agg [.lit (.int .u8 144), .lit (.int .u8 191)], .agg [.lit (.int .u8 128), .lit (.int .u8 143)], .agg [.lit (.int .u8 0), .lit (.int .u8 0)], .agg [.lit (.int .u8 0), .lit (.int .u8 0)], .agg [.lit (.int .u8 0), .lit (.int .u8 0)], .agg [.lit (.int .u8 0), .lit (.int .u8 0)], .agg [.lit (.int .u8 0), .lit (.int .u8 0)], .agg [.lit (.int .u8 0), .lit (.int .u8 0)], .agg [.lit (.int .u8 0), .lit (.int .u8 0)], .agg [.lit (.int .u8 0), .lit (.int .u8 0)], .agg [.lit (.int .u8 0), .lit (.int .u8 0)], .agg [.lit (.int .u8 0), .lit (.int .u8 0)], .agg [.lit (.int .u8 0), .lit (.int .u8 0)]]
/-- One of Go's own tables, pinned by name: the form's constant. -/
def laid_unicode_utf8_first : DataW Unit := Go.Pinned.utf8First

/-- 'laws.FnExactNameIs': WHATEVER THE INPUT: true; the input reads as it did. -/
def fnExactNameIsSpec : ChangeSpec := { name := "fnExactNameIs", vars := ["loop.example/depositary/impl.errKey", "loop.example/depositary/impl.errPiece"], fn := fun _ => fun
  | [d1, d2, d3, g1, g2] => { results := [.lit (.bool true)], args := [d1, d2, d3], vars := [g1, g2] }
  | _ => none }
def fnExactNameIsRow : OpenClaim := { program := "ytbaafipkdglohaadoor", sum := "0b8d14d815be09193cb57499e4ff9df28f2d3d99e8f27f6d79b2c02af9c5007b", func := "loop.example/depositary/laws.FnExactNameIs", spec := "fnExactNameIs", named := ["loop.example/depositary/impl.errKey", "loop.example/depositary/impl.errPiece"], ifaces := true, apart := false, laid := [("loop.example/depositary/impl.errPiece", laid_loop_example_depositary_impl_errPiece), ("loop.example/depositary/impl.errKey", laid_loop_example_depositary_impl_errKey)] }
def FnExactNameIsSaid : Prop := fnExactNameIsRow.holds Tryd.pinned (OpenSpec.ofChange fnExactNameIsSpec)

/-- ITS FALSE NEIGHBOUR: 'it returns false'. Refute it at one input. -/
def fnExactNameIsWrong : ChangeSpec := { name := "fnExactNameIs", vars := ["loop.example/depositary/impl.errKey", "loop.example/depositary/impl.errPiece"], fn := fun _ => fun
  | [d1, d2, d3, g1, g2] => { results := [.lit (.bool false)], args := [d1, d2, d3], vars := [g1, g2] }
  | _ => none }
def FnExactNameIsWrongFalsely : Prop := fnExactNameIsRow.holds Tryd.pinned (OpenSpec.ofChange fnExactNameIsWrong)

/-- 'laws.FnExactNameOf': WHATEVER THE INPUT: true; the input reads as it did. -/
def fnExactNameOfSpec : ChangeSpec := { name := "fnExactNameOf", vars := ["loop.example/depositary/impl.errKey", "loop.example/depositary/impl.errPiece"], fn := fun _ => fun
  | [d1, d2, g1, g2] => { results := [.lit (.bool true)], args := [d1, d2], vars := [g1, g2] }
  | _ => none }
def fnExactNameOfRow : OpenClaim := { program := "ytbaafipkdglohaadoor", sum := "0b8d14d815be09193cb57499e4ff9df28f2d3d99e8f27f6d79b2c02af9c5007b", func := "loop.example/depositary/laws.FnExactNameOf", spec := "fnExactNameOf", inPlace := ["internal/reflectlite.TypeOf"], unfollowed := true, recurses := true, named := ["loop.example/depositary/impl.errKey", "loop.example/depositary/impl.errPiece"], ifaces := true, apart := false, laid := [("loop.example/depositary/impl.errPiece", laid_loop_example_depositary_impl_errPiece), ("loop.example/depositary/impl.errKey", laid_loop_example_depositary_impl_errKey)] }
def FnExactNameOfSaid : Prop := fnExactNameOfRow.holds Tryd.pinned (OpenSpec.ofChange fnExactNameOfSpec)

/-- ITS FALSE NEIGHBOUR: 'it returns false'. Refute it at one input. -/
def fnExactNameOfWrong : ChangeSpec := { name := "fnExactNameOf", vars := ["loop.example/depositary/impl.errKey", "loop.example/depositary/impl.errPiece"], fn := fun _ => fun
  | [d1, d2, g1, g2] => { results := [.lit (.bool false)], args := [d1, d2], vars := [g1, g2] }
  | _ => none }
def FnExactNameOfWrongFalsely : Prop := fnExactNameOfRow.holds Tryd.pinned (OpenSpec.ofChange fnExactNameOfWrong)

/-- 'laws.FnNameKey': WHATEVER THE INPUT: true; the input reads as it did. -/
def fnNameKeySpec : ChangeSpec := { name := "fnNameKey", vars := ["loop.example/depositary/impl.errKey", "loop.example/depositary/impl.errPiece"], fn := fun _ => fun
  | [d1, d2, g1, g2] => { results := [.lit (.bool true)], args := [d1, d2], vars := [g1, g2] }
  | _ => none }
def fnNameKeyRow : OpenClaim := { program := "ytbaafipkdglohaadoor", sum := "0b8d14d815be09193cb57499e4ff9df28f2d3d99e8f27f6d79b2c02af9c5007b", func := "loop.example/depositary/laws.FnNameKey", spec := "fnNameKey", inPlace := ["internal/reflectlite.TypeOf"], unfollowed := true, recurses := true, named := ["loop.example/depositary/impl.errKey", "loop.example/depositary/impl.errPiece"], ifaces := true, apart := false, laid := [("loop.example/depositary/impl.errPiece", laid_loop_example_depositary_impl_errPiece), ("loop.example/depositary/impl.errKey", laid_loop_example_depositary_impl_errKey)] }
def FnNameKeySaid : Prop := fnNameKeyRow.holds Tryd.pinned (OpenSpec.ofChange fnNameKeySpec)

/-- ITS FALSE NEIGHBOUR: 'it returns false'. Refute it at one input. -/
def fnNameKeyWrong : ChangeSpec := { name := "fnNameKey", vars := ["loop.example/depositary/impl.errKey", "loop.example/depositary/impl.errPiece"], fn := fun _ => fun
  | [d1, d2, g1, g2] => { results := [.lit (.bool false)], args := [d1, d2], vars := [g1, g2] }
  | _ => none }
def FnNameKeyWrongFalsely : Prop := fnNameKeyRow.holds Tryd.pinned (OpenSpec.ofChange fnNameKeyWrong)

/-- 'laws.FnName': WHATEVER THE INPUT: true; the input reads as it did. -/
def fnNameSpec : ChangeSpec := { name := "fnName", vars := ["loop.example/depositary/impl.errKey", "loop.example/depositary/impl.errPiece"], fn := fun _ => fun
  | [d1, d2, g1, g2] => { results := [.lit (.bool true)], args := [d1, d2], vars := [g1, g2] }
  | _ => none }
def fnNameRow : OpenClaim := { program := "ytbaafipkdglohaadoor", sum := "0b8d14d815be09193cb57499e4ff9df28f2d3d99e8f27f6d79b2c02af9c5007b", func := "loop.example/depositary/laws.FnName", spec := "fnName", inPlace := ["internal/reflectlite.TypeOf"], unfollowed := true, recurses := true, named := ["loop.example/depositary/impl.errKey", "loop.example/depositary/impl.errPiece"], ifaces := true, apart := false, laid := [("loop.example/depositary/impl.errPiece", laid_loop_example_depositary_impl_errPiece), ("loop.example/depositary/impl.errKey", laid_loop_example_depositary_impl_errKey)] }
def FnNameSaid : Prop := fnNameRow.holds Tryd.pinned (OpenSpec.ofChange fnNameSpec)

/-- ITS FALSE NEIGHBOUR: 'it returns false'. Refute it at one input. -/
def fnNameWrong : ChangeSpec := { name := "fnName", vars := ["loop.example/depositary/impl.errKey", "loop.example/depositary/impl.errPiece"], fn := fun _ => fun
  | [d1, d2, g1, g2] => { results := [.lit (.bool false)], args := [d1, d2], vars := [g1, g2] }
  | _ => none }
def FnNameWrongFalsely : Prop := fnNameRow.holds Tryd.pinned (OpenSpec.ofChange fnNameWrong)

/-- 'laws.FnNameIs': WHATEVER THE INPUT: true; the input reads as it did. -/
def fnNameIsSpec : ChangeSpec := { name := "fnNameIs", vars := ["loop.example/depositary/impl.errKey", "loop.example/depositary/impl.errPiece"], fn := fun _ => fun
  | [d, g1, g2] => { results := [.lit (.bool true)], args := [d], vars := [g1, g2] }
  | _ => none }
def fnNameIsRow : OpenClaim := { program := "ytbaafipkdglohaadoor", sum := "0b8d14d815be09193cb57499e4ff9df28f2d3d99e8f27f6d79b2c02af9c5007b", func := "loop.example/depositary/laws.FnNameIs", spec := "fnNameIs", inPlace := ["internal/reflectlite.TypeOf"], unfollowed := true, recurses := true, named := ["loop.example/depositary/impl.errKey", "loop.example/depositary/impl.errPiece"], ifaces := true, apart := false, laid := [("loop.example/depositary/impl.errPiece", laid_loop_example_depositary_impl_errPiece), ("loop.example/depositary/impl.errKey", laid_loop_example_depositary_impl_errKey)] }
def FnNameIsSaid : Prop := fnNameIsRow.holds Tryd.pinned (OpenSpec.ofChange fnNameIsSpec)

/-- ITS FALSE NEIGHBOUR: 'it returns false'. Refute it at one input. -/
def fnNameIsWrong : ChangeSpec := { name := "fnNameIs", vars := ["loop.example/depositary/impl.errKey", "loop.example/depositary/impl.errPiece"], fn := fun _ => fun
  | [d, g1, g2] => { results := [.lit (.bool false)], args := [d], vars := [g1, g2] }
  | _ => none }
def FnNameIsWrongFalsely : Prop := fnNameIsRow.holds Tryd.pinned (OpenSpec.ofChange fnNameIsWrong)

/-- 'laws.FnNameSpread': WHATEVER THE INPUT: true; the input reads as it did. -/
def fnNameSpreadSpec : ChangeSpec := { name := "fnNameSpread", vars := ["loop.example/depositary/impl.errKey", "loop.example/depositary/impl.errPiece"], fn := fun _ => fun
  | [d, g1, g2] => { results := [.lit (.bool true)], args := [d], vars := [g1, g2] }
  | _ => none }
def fnNameSpreadRow : OpenClaim := { program := "ytbaafipkdglohaadoor", sum := "0b8d14d815be09193cb57499e4ff9df28f2d3d99e8f27f6d79b2c02af9c5007b", func := "loop.example/depositary/laws.FnNameSpread", spec := "fnNameSpread", inPlace := ["internal/reflectlite.TypeOf"], unfollowed := true, recurses := true, named := ["loop.example/depositary/impl.errKey", "loop.example/depositary/impl.errPiece"], ifaces := true, apart := false, laid := [("loop.example/depositary/impl.errPiece", laid_loop_example_depositary_impl_errPiece), ("loop.example/depositary/impl.errKey", laid_loop_example_depositary_impl_errKey)] }
def FnNameSpreadSaid : Prop := fnNameSpreadRow.holds Tryd.pinned (OpenSpec.ofChange fnNameSpreadSpec)

/-- ITS FALSE NEIGHBOUR: 'it returns false'. Refute it at one input. -/
def fnNameSpreadWrong : ChangeSpec := { name := "fnNameSpread", vars := ["loop.example/depositary/impl.errKey", "loop.example/depositary/impl.errPiece"], fn := fun _ => fun
  | [d, g1, g2] => { results := [.lit (.bool false)], args := [d], vars := [g1, g2] }
  | _ => none }
def FnNameSpreadWrongFalsely : Prop := fnNameSpreadRow.holds Tryd.pinned (OpenSpec.ofChange fnNameSpreadWrong)

/-- 'laws.FnExactPadBack': WHATEVER THE INPUT: true; the input reads as it did. -/
def fnExactPadBackSpec : ChangeSpec := { name := "fnExactPadBack", fn := fun _ => fun
  | [d] => { results := [.lit (.bool true)], args := [d] }
  | _ => none }
def fnExactPadBackRow : OpenClaim := { program := "ytbaafipkdglohaadoor", sum := "0b8d14d815be09193cb57499e4ff9df28f2d3d99e8f27f6d79b2c02af9c5007b", func := "loop.example/depositary/laws.FnExactPadBack", spec := "fnExactPadBack", inPlace := ["internal/bytealg.IndexByteString", "internal/bytealg.IndexString", "internal/abi.NoEscape", "internal/bytealg.MakeNoZero"], named := ["unicode/utf8.first", "unicode/utf8.acceptRanges", "internal/bytealg.MaxLen"], apart := false, laid := [("unicode/utf8.acceptRanges", laid_unicode_utf8_acceptRanges), ("unicode/utf8.first", laid_unicode_utf8_first)] }
def FnExactPadBackSaid : Prop := fnExactPadBackRow.holds Tryd.pinned (OpenSpec.ofChange fnExactPadBackSpec)

/-- ITS FALSE NEIGHBOUR: 'it returns false'. Refute it at one input. -/
def fnExactPadBackWrong : ChangeSpec := { name := "fnExactPadBack", fn := fun _ => fun
  | [d] => { results := [.lit (.bool false)], args := [d] }
  | _ => none }
def FnExactPadBackWrongFalsely : Prop := fnExactPadBackRow.holds Tryd.pinned (OpenSpec.ofChange fnExactPadBackWrong)

/-- 'laws.FnPadBack': WHATEVER THE INPUT: true; the input reads as it did. -/
def fnPadBackSpec : ChangeSpec := { name := "fnPadBack", fn := fun _ => fun
  | [d] => { results := [.lit (.bool true)], args := [d] }
  | _ => none }
def fnPadBackRow : OpenClaim := { program := "ytbaafipkdglohaadoor", sum := "0b8d14d815be09193cb57499e4ff9df28f2d3d99e8f27f6d79b2c02af9c5007b", func := "loop.example/depositary/laws.FnPadBack", spec := "fnPadBack", inPlace := ["internal/abi.NoEscape", "internal/bytealg.MakeNoZero", "internal/bytealg.IndexByteString", "internal/bytealg.IndexString"], named := ["unicode/utf8.first", "unicode/utf8.acceptRanges", "internal/bytealg.MaxLen"], apart := false, laid := [("unicode/utf8.acceptRanges", laid_unicode_utf8_acceptRanges), ("unicode/utf8.first", laid_unicode_utf8_first)] }
def FnPadBackSaid : Prop := fnPadBackRow.holds Tryd.pinned (OpenSpec.ofChange fnPadBackSpec)

/-- ITS FALSE NEIGHBOUR: 'it returns false'. Refute it at one input. -/
def fnPadBackWrong : ChangeSpec := { name := "fnPadBack", fn := fun _ => fun
  | [d] => { results := [.lit (.bool false)], args := [d] }
  | _ => none }
def FnPadBackWrongFalsely : Prop := fnPadBackRow.holds Tryd.pinned (OpenSpec.ofChange fnPadBackWrong)

/-- 'laws.FnPadNone': WHATEVER THE INPUT: true; the input reads as it did. -/
def fnPadNoneSpec : ChangeSpec := { name := "fnPadNone", fn := fun _ => fun
  | [d] => { results := [.lit (.bool true)], args := [d] }
  | _ => none }
def fnPadNoneRow : OpenClaim := { program := "ytbaafipkdglohaadoor", sum := "0b8d14d815be09193cb57499e4ff9df28f2d3d99e8f27f6d79b2c02af9c5007b", func := "loop.example/depositary/laws.FnPadNone", spec := "fnPadNone", inPlace := ["internal/abi.NoEscape", "internal/bytealg.MakeNoZero", "internal/bytealg.IndexByteString", "internal/bytealg.IndexString"], named := ["unicode/utf8.first", "unicode/utf8.acceptRanges", "internal/bytealg.MaxLen"], apart := false, laid := [("unicode/utf8.acceptRanges", laid_unicode_utf8_acceptRanges), ("unicode/utf8.first", laid_unicode_utf8_first)] }
def FnPadNoneSaid : Prop := fnPadNoneRow.holds Tryd.pinned (OpenSpec.ofChange fnPadNoneSpec)

/-- ITS FALSE NEIGHBOUR: 'it returns false'. Refute it at one input. -/
def fnPadNoneWrong : ChangeSpec := { name := "fnPadNone", fn := fun _ => fun
  | [d] => { results := [.lit (.bool false)], args := [d] }
  | _ => none }
def FnPadNoneWrongFalsely : Prop := fnPadNoneRow.holds Tryd.pinned (OpenSpec.ofChange fnPadNoneWrong)

/-- 'laws.FnPadStrict': WHATEVER THE INPUT: true; the input reads as it did. -/
def fnPadStrictSpec : ChangeSpec := { name := "fnPadStrict", fn := fun _ => fun
  | [d] => { results := [.lit (.bool true)], args := [d] }
  | _ => none }
def fnPadStrictRow : OpenClaim := { program := "ytbaafipkdglohaadoor", sum := "0b8d14d815be09193cb57499e4ff9df28f2d3d99e8f27f6d79b2c02af9c5007b", func := "loop.example/depositary/laws.FnPadStrict", spec := "fnPadStrict", inPlace := ["internal/bytealg.IndexByteString", "internal/bytealg.IndexString", "internal/abi.NoEscape", "internal/bytealg.MakeNoZero"], named := ["unicode/utf8.first", "unicode/utf8.acceptRanges", "internal/bytealg.MaxLen"], apart := false, laid := [("unicode/utf8.acceptRanges", laid_unicode_utf8_acceptRanges), ("unicode/utf8.first", laid_unicode_utf8_first)] }
def FnPadStrictSaid : Prop := fnPadStrictRow.holds Tryd.pinned (OpenSpec.ofChange fnPadStrictSpec)

/-- ITS FALSE NEIGHBOUR: 'it returns false'. Refute it at one input. -/
def fnPadStrictWrong : ChangeSpec := { name := "fnPadStrict", fn := fun _ => fun
  | [d] => { results := [.lit (.bool false)], args := [d] }
  | _ => none }
def FnPadStrictWrongFalsely : Prop := fnPadStrictRow.holds Tryd.pinned (OpenSpec.ofChange fnPadStrictWrong)

/- THE SECOND FORM. 'bulk': how many values and letters a reading holds, each counted each time it is reached (what is shared counts as often as it is met; a slice's spare places count too). A statement '..UptoSaid' is the law's where the arguments, and the package variables that the reading takes, are together of bulk at most 1048576: NARROWER than '..Said'. Prove '..Said' where nothing that the law and all that it calls make is longer than what came in: it says more and counts as full. Else prove '..UptoSaid'. A law counts once. -/
mutual
def uptoBulk {H : Type} : DataW H → Nat
  | .lit (.string bytes) => bytes.length + 1
  | .lit _ => 1
  | .nil => 1
  | .ptr d => uptoBulk d + 1
  | .slice elems spare => uptoBulkAll elems + uptoBulkAll spare + 1
  | .agg parts => uptoBulkAll parts + 1
  | .iface _ d => uptoBulk d + 1
  | .map entries => uptoBulkEntries entries + 1
  | .held _ => 1
def uptoBulkAll {H : Type} : List (DataW H) → Nat
  | [] => 0
  | d :: r => uptoBulk d + uptoBulkAll r
def uptoBulkEntries {H : Type} : List (Lit × DataW H) → Nat
  | [] => 0
  | x :: r => uptoBulkEntry x + uptoBulkEntries r
def uptoBulkEntry {H : Type} : Lit × DataW H → Nat
  | (.string bytes, d) => bytes.length + uptoBulk d + 1
  | (_, d) => uptoBulk d + 1
 end
def uptoSmall : (H : Type) → List (DataW H) → Bool := fun _ ds => decide (uptoBulkAll ds ≤ 1048576)
def OpenSpec.upto (s : _root_.Go.ChangeSpec) : _root_.Go.OpenSpec := { _root_.Go.OpenSpec.ofChange s with cond := some uptoSmall }

/-- 'laws.FnExactNameIs', WHERE WHAT IT READS IS OF BULK AT MOST 1048576: true; the input reads as it did. -/
def fnExactNameIsUptoRow : OpenClaim := { program := "ytbaafipkdglohaadoor", sum := "0b8d14d815be09193cb57499e4ff9df28f2d3d99e8f27f6d79b2c02af9c5007b", func := "loop.example/depositary/laws.FnExactNameIs", spec := "fnExactNameIs", named := ["loop.example/depositary/impl.errKey", "loop.example/depositary/impl.errPiece"], ifaces := true, apart := false, laid := [("loop.example/depositary/impl.errPiece", laid_loop_example_depositary_impl_errPiece), ("loop.example/depositary/impl.errKey", laid_loop_example_depositary_impl_errKey)], narrowed := true }
def FnExactNameIsUptoSaid : Prop := fnExactNameIsUptoRow.holds Tryd.pinned (OpenSpec.upto fnExactNameIsSpec)

/-- 'laws.FnExactNameOf', WHERE WHAT IT READS IS OF BULK AT MOST 1048576: true; the input reads as it did. -/
def fnExactNameOfUptoRow : OpenClaim := { program := "ytbaafipkdglohaadoor", sum := "0b8d14d815be09193cb57499e4ff9df28f2d3d99e8f27f6d79b2c02af9c5007b", func := "loop.example/depositary/laws.FnExactNameOf", spec := "fnExactNameOf", inPlace := ["internal/reflectlite.TypeOf"], unfollowed := true, recurses := true, named := ["loop.example/depositary/impl.errKey", "loop.example/depositary/impl.errPiece"], ifaces := true, apart := false, laid := [("loop.example/depositary/impl.errPiece", laid_loop_example_depositary_impl_errPiece), ("loop.example/depositary/impl.errKey", laid_loop_example_depositary_impl_errKey)], narrowed := true }
def FnExactNameOfUptoSaid : Prop := fnExactNameOfUptoRow.holds Tryd.pinned (OpenSpec.upto fnExactNameOfSpec)

/-- 'laws.FnNameKey', WHERE WHAT IT READS IS OF BULK AT MOST 1048576: true; the input reads as it did. -/
def fnNameKeyUptoRow : OpenClaim := { program := "ytbaafipkdglohaadoor", sum := "0b8d14d815be09193cb57499e4ff9df28f2d3d99e8f27f6d79b2c02af9c5007b", func := "loop.example/depositary/laws.FnNameKey", spec := "fnNameKey", inPlace := ["internal/reflectlite.TypeOf"], unfollowed := true, recurses := true, named := ["loop.example/depositary/impl.errKey", "loop.example/depositary/impl.errPiece"], ifaces := true, apart := false, laid := [("loop.example/depositary/impl.errPiece", laid_loop_example_depositary_impl_errPiece), ("loop.example/depositary/impl.errKey", laid_loop_example_depositary_impl_errKey)], narrowed := true }
def FnNameKeyUptoSaid : Prop := fnNameKeyUptoRow.holds Tryd.pinned (OpenSpec.upto fnNameKeySpec)

/-- 'laws.FnName', WHERE WHAT IT READS IS OF BULK AT MOST 1048576: true; the input reads as it did. -/
def fnNameUptoRow : OpenClaim := { program := "ytbaafipkdglohaadoor", sum := "0b8d14d815be09193cb57499e4ff9df28f2d3d99e8f27f6d79b2c02af9c5007b", func := "loop.example/depositary/laws.FnName", spec := "fnName", inPlace := ["internal/reflectlite.TypeOf"], unfollowed := true, recurses := true, named := ["loop.example/depositary/impl.errKey", "loop.example/depositary/impl.errPiece"], ifaces := true, apart := false, laid := [("loop.example/depositary/impl.errPiece", laid_loop_example_depositary_impl_errPiece), ("loop.example/depositary/impl.errKey", laid_loop_example_depositary_impl_errKey)], narrowed := true }
def FnNameUptoSaid : Prop := fnNameUptoRow.holds Tryd.pinned (OpenSpec.upto fnNameSpec)

/-- 'laws.FnNameIs', WHERE WHAT IT READS IS OF BULK AT MOST 1048576: true; the input reads as it did. -/
def fnNameIsUptoRow : OpenClaim := { program := "ytbaafipkdglohaadoor", sum := "0b8d14d815be09193cb57499e4ff9df28f2d3d99e8f27f6d79b2c02af9c5007b", func := "loop.example/depositary/laws.FnNameIs", spec := "fnNameIs", inPlace := ["internal/reflectlite.TypeOf"], unfollowed := true, recurses := true, named := ["loop.example/depositary/impl.errKey", "loop.example/depositary/impl.errPiece"], ifaces := true, apart := false, laid := [("loop.example/depositary/impl.errPiece", laid_loop_example_depositary_impl_errPiece), ("loop.example/depositary/impl.errKey", laid_loop_example_depositary_impl_errKey)], narrowed := true }
def FnNameIsUptoSaid : Prop := fnNameIsUptoRow.holds Tryd.pinned (OpenSpec.upto fnNameIsSpec)

/-- 'laws.FnNameSpread', WHERE WHAT IT READS IS OF BULK AT MOST 1048576: true; the input reads as it did. -/
def fnNameSpreadUptoRow : OpenClaim := { program := "ytbaafipkdglohaadoor", sum := "0b8d14d815be09193cb57499e4ff9df28f2d3d99e8f27f6d79b2c02af9c5007b", func := "loop.example/depositary/laws.FnNameSpread", spec := "fnNameSpread", inPlace := ["internal/reflectlite.TypeOf"], unfollowed := true, recurses := true, named := ["loop.example/depositary/impl.errKey", "loop.example/depositary/impl.errPiece"], ifaces := true, apart := false, laid := [("loop.example/depositary/impl.errPiece", laid_loop_example_depositary_impl_errPiece), ("loop.example/depositary/impl.errKey", laid_loop_example_depositary_impl_errKey)], narrowed := true }
def FnNameSpreadUptoSaid : Prop := fnNameSpreadUptoRow.holds Tryd.pinned (OpenSpec.upto fnNameSpreadSpec)

/-- 'laws.FnExactPadBack', WHERE WHAT IT READS IS OF BULK AT MOST 1048576: true; the input reads as it did. -/
def fnExactPadBackUptoRow : OpenClaim := { program := "ytbaafipkdglohaadoor", sum := "0b8d14d815be09193cb57499e4ff9df28f2d3d99e8f27f6d79b2c02af9c5007b", func := "loop.example/depositary/laws.FnExactPadBack", spec := "fnExactPadBack", inPlace := ["internal/bytealg.IndexByteString", "internal/bytealg.IndexString", "internal/abi.NoEscape", "internal/bytealg.MakeNoZero"], named := ["unicode/utf8.first", "unicode/utf8.acceptRanges", "internal/bytealg.MaxLen"], apart := false, laid := [("unicode/utf8.acceptRanges", laid_unicode_utf8_acceptRanges), ("unicode/utf8.first", laid_unicode_utf8_first)], narrowed := true }
def FnExactPadBackUptoSaid : Prop := fnExactPadBackUptoRow.holds Tryd.pinned (OpenSpec.upto fnExactPadBackSpec)

/-- 'laws.FnPadBack', WHERE WHAT IT READS IS OF BULK AT MOST 1048576: true; the input reads as it did. -/
def fnPadBackUptoRow : OpenClaim := { program := "ytbaafipkdglohaadoor", sum := "0b8d14d815be09193cb57499e4ff9df28f2d3d99e8f27f6d79b2c02af9c5007b", func := "loop.example/depositary/laws.FnPadBack", spec := "fnPadBack", inPlace := ["internal/abi.NoEscape", "internal/bytealg.MakeNoZero", "internal/bytealg.IndexByteString", "internal/bytealg.IndexString"], named := ["unicode/utf8.first", "unicode/utf8.acceptRanges", "internal/bytealg.MaxLen"], apart := false, laid := [("unicode/utf8.acceptRanges", laid_unicode_utf8_acceptRanges), ("unicode/utf8.first", laid_unicode_utf8_first)], narrowed := true }
def FnPadBackUptoSaid : Prop := fnPadBackUptoRow.holds Tryd.pinned (OpenSpec.upto fnPadBackSpec)

/-- 'laws.FnPadNone', WHERE WHAT IT READS IS OF BULK AT MOST 1048576: true; the input reads as it did. -/
def fnPadNoneUptoRow : OpenClaim := { program := "ytbaafipkdglohaadoor", sum := "0b8d14d815be09193cb57499e4ff9df28f2d3d99e8f27f6d79b2c02af9c5007b", func := "loop.example/depositary/laws.FnPadNone", spec := "fnPadNone", inPlace := ["internal/abi.NoEscape", "internal/bytealg.MakeNoZero", "internal/bytealg.IndexByteString", "internal/bytealg.IndexString"], named := ["unicode/utf8.first", "unicode/utf8.acceptRanges", "internal/bytealg.MaxLen"], apart := false, laid := [("unicode/utf8.acceptRanges", laid_unicode_utf8_acceptRanges), ("unicode/utf8.first", laid_unicode_utf8_first)], narrowed := true }
def FnPadNoneUptoSaid : Prop := fnPadNoneUptoRow.holds Tryd.pinned (OpenSpec.upto fnPadNoneSpec)

/-- 'laws.FnPadStrict', WHERE WHAT IT READS IS OF BULK AT MOST 1048576: true; the input reads as it did. -/
def fnPadStrictUptoRow : OpenClaim := { program := "ytbaafipkdglohaadoor", sum := "0b8d14d815be09193cb57499e4ff9df28f2d3d99e8f27f6d79b2c02af9c5007b", func := "loop.example/depositary/laws.FnPadStrict", spec := "fnPadStrict", inPlace := ["internal/bytealg.IndexByteString", "internal/bytealg.IndexString", "internal/abi.NoEscape", "internal/bytealg.MakeNoZero"], named := ["unicode/utf8.first", "unicode/utf8.acceptRanges", "internal/bytealg.MaxLen"], apart := false, laid := [("unicode/utf8.acceptRanges", laid_unicode_utf8_acceptRanges), ("unicode/utf8.first", laid_unicode_utf8_first)], narrowed := true }
def FnPadStrictUptoSaid : Prop := fnPadStrictUptoRow.holds Tryd.pinned (OpenSpec.upto fnPadStrictSpec)

end Rows
end Go.Proofs.YtbaafipkdglohaaDoor
