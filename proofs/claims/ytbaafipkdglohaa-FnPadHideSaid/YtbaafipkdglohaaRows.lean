/-
  No cell of these rows narrows 'for every input' (looked for: loops, veiled, ifaces, maps, wideKeys, modest, calm, conditions, laid).
  DERIVED. THE GIVEN ROWS OF THIS SEAT. 2 by the template 'for every input the law returns true; each argument reads behind the call as it read before'; 0 by the template 'total and deterministic' (their statements: YtbaafipkdglohaaTotals.lean).
  GIVEN WITH THE SEED: the statements are not yours to turn. If you find one false, say at which input.
  Laid BY PROGRAM, IN A SANDBOX (cutbox-rows.mjs): the forced cells as the released guide's own fill.sh prints them over the translation b8489dc773851150… (all of the seat's roots in one cut). By AI agents, Wed Nov 11 2026. No macro, syntax, notation, axiom, sorry.
-/
import Derived.Test.YtbaafipkdglohaaChecked
import GoSem.Claim
import GoSem.ClaimJoined
import GoSem.ClaimMapViews
import Derived.JoinedTies
import Derived.KernelRfl
namespace Go.Proofs.Ytbaafipkdglohaa
/- THE CELL 'sum', in the pinned program and in every row, IS THE sha256 OF THE DUMP (.gsa) THAT YtbaafipkdglohaaProg.lean LOADS. Nothing in Lean hashes anything: it is a label: what it is worth is what the hold of that sum in a sandbox is worth. -/
noncomputable def Try.pinned : Pinned := { name := "ytbaafipkdglohaa", sum := "b8489dc773851150f35038b535fd104b6073630af0da786fc327b1f42fccec76", checked := Try.checked }
namespace Rows
def none {H : Type} : Left H := { results := [], args := [] }

/-- 'laws.FnExactPadOf': WHATEVER THE INPUT: true; the input reads as it did. -/
def fnExactPadOfSpec : ChangeSpec := { name := "fnExactPadOf", fn := fun _ => fun
  | [d] => { results := [.lit (.bool true)], args := [d] }
  | _ => none }
def fnExactPadOfRow : OpenClaim := { program := "ytbaafipkdglohaa", sum := "b8489dc773851150f35038b535fd104b6073630af0da786fc327b1f42fccec76", func := "loop.example/depositary/laws.FnExactPadOf", spec := "fnExactPadOf", inPlace := ["internal/abi.NoEscape", "internal/bytealg.MakeNoZero"], apart := false }
def FnExactPadOfSaid : Prop := fnExactPadOfRow.holds Try.pinned (OpenSpec.ofChange fnExactPadOfSpec)

/-- ITS FALSE NEIGHBOUR: 'it returns false'. Refute it at one input. -/
def fnExactPadOfWrong : ChangeSpec := { name := "fnExactPadOf", fn := fun _ => fun
  | [d] => { results := [.lit (.bool false)], args := [d] }
  | _ => none }
def FnExactPadOfWrongFalsely : Prop := fnExactPadOfRow.holds Try.pinned (OpenSpec.ofChange fnExactPadOfWrong)

/-- 'laws.FnPadHide': WHATEVER THE INPUT: true; the input reads as it did. -/
def fnPadHideSpec : ChangeSpec := { name := "fnPadHide", fn := fun _ => fun
  | [d1, d2] => { results := [.lit (.bool true)], args := [d1, d2] }
  | _ => none }
def fnPadHideRow : OpenClaim := { program := "ytbaafipkdglohaa", sum := "b8489dc773851150f35038b535fd104b6073630af0da786fc327b1f42fccec76", func := "loop.example/depositary/laws.FnPadHide", spec := "fnPadHide", inPlace := ["internal/abi.NoEscape", "internal/bytealg.MakeNoZero"], apart := false }
def FnPadHideSaid : Prop := fnPadHideRow.holds Try.pinned (OpenSpec.ofChange fnPadHideSpec)

/-- ITS FALSE NEIGHBOUR: 'it returns false'. Refute it at one input. -/
def fnPadHideWrong : ChangeSpec := { name := "fnPadHide", fn := fun _ => fun
  | [d1, d2] => { results := [.lit (.bool false)], args := [d1, d2] }
  | _ => none }
def FnPadHideWrongFalsely : Prop := fnPadHideRow.holds Try.pinned (OpenSpec.ofChange fnPadHideWrong)

/- THE SECOND FORM. 'bulk': how many values and letters a reading holds, each counted each time it is reached (what is shared counts as often as it is met; a slice's spare places count too). A statement '..UptoSaid' is the law's where the arguments, and the package variables that the reading takes, are together of bulk at most 1048576: NARROWER than '..Said'. Prove '..Said' where nothing that the law and all that it calls make is longer than what came in: it says more and counts as full. Else prove '..UptoSaid'. A law counts once. -/
mutual
def uptoBulk {H : Type} : DataW H → Nat
  | .lit (.string bytes) => bytes.length + 1
  | .lit _ => 1
  | .nil => 1
  | .ptr d => uptoBulk d + 1
  | .slice elems spare => uptoBulkAll elems + uptoBulkAll spare + 1
  | .agg parts => uptoBulkAll parts + 1
  | .iface _ d => uptoBulk d + 1
  | .map entries => uptoBulkEntries entries + 1
  | .held _ => 1
def uptoBulkAll {H : Type} : List (DataW H) → Nat
  | [] => 0
  | d :: r => uptoBulk d + uptoBulkAll r
def uptoBulkEntries {H : Type} : List (Lit × DataW H) → Nat
  | [] => 0
  | x :: r => uptoBulkEntry x + uptoBulkEntries r
def uptoBulkEntry {H : Type} : Lit × DataW H → Nat
  | (.string bytes, d) => bytes.length + uptoBulk d + 1
  | (_, d) => uptoBulk d + 1
 end
def uptoSmall : (H : Type) → List (DataW H) → Bool := fun _ ds => decide (uptoBulkAll ds ≤ 1048576)
def OpenSpec.upto (s : _root_.Go.ChangeSpec) : _root_.Go.OpenSpec := { _root_.Go.OpenSpec.ofChange s with cond := some uptoSmall }

/-- 'laws.FnExactPadOf', WHERE WHAT IT READS IS OF BULK AT MOST 1048576: true; the input reads as it did. -/
def fnExactPadOfUptoRow : OpenClaim := { program := "ytbaafipkdglohaa", sum := "b8489dc773851150f35038b535fd104b6073630af0da786fc327b1f42fccec76", func := "loop.example/depositary/laws.FnExactPadOf", spec := "fnExactPadOf", inPlace := ["internal/abi.NoEscape", "internal/bytealg.MakeNoZero"], apart := false, narrowed := true }
def FnExactPadOfUptoSaid : Prop := fnExactPadOfUptoRow.holds Try.pinned (OpenSpec.upto fnExactPadOfSpec)

/-- 'laws.FnPadHide', WHERE WHAT IT READS IS OF BULK AT MOST 1048576: true; the input reads as it did. -/
def fnPadHideUptoRow : OpenClaim := { program := "ytbaafipkdglohaa", sum := "b8489dc773851150f35038b535fd104b6073630af0da786fc327b1f42fccec76", func := "loop.example/depositary/laws.FnPadHide", spec := "fnPadHide", inPlace := ["internal/abi.NoEscape", "internal/bytealg.MakeNoZero"], apart := false, narrowed := true }
def FnPadHideUptoSaid : Prop := fnPadHideUptoRow.holds Try.pinned (OpenSpec.upto fnPadHideSpec)

end Rows
end Go.Proofs.Ytbaafipkdglohaa
