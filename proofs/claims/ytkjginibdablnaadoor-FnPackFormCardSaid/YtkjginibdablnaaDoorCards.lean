/-
  DERIVED. GIVEN WITH THE SEED: THE CARDS: each row of YtkjginibdablnaaDoorRows.lean that lists a variable, with what it lists TIED to the program's text (the seventh form; the later family's looks); each row that meets fmt, with fmt's text TOLD by the authors' own Lean function (tested against real Go, not proved from fmt's source: count such statements apart). THE CARD IS WHAT COUNTS. Prove the row's statement (the work); the ties are given (YtkjginibdablnaaDoorTie.lean); close each card by the builder's one call (the guide's Derived/Test/ToyasCard.lean, 'card_holds'). Laid BY PROGRAM, IN A SANDBOX (cutbox-door.mjs). By AI agents, Wed Nov 11 2026. No macro, syntax, notation, axiom, sorry.
-/
import Derived.Test.YtkjginibdablnaaDoorRows
import GoSem.ClaimSeven
namespace Go.Proofs.YtkjginibdablnaaDoor
namespace Rows

/-- THE TIED CARD OF 'laws.FnExactPackOk'. -/
def fnExactPackOkCard : Claim7 := { stood := { row := fnExactPackOkRow, standIns := [], harness := (true, "d860c6f7453be45ff431a26e1a37bab80ff341b5f6289fc442973f33b454c6c1"), looks := true }, kinds := [], alts := [], laidByText := true, laidKinds := [.data, .sentinel, .sentinel, .pinned], laidTests := true, laidLooks := .later }
def FnExactPackOkCardSaid : Prop := Claim7.holds Tryd.pinned (.plain (OpenSpec.ofChange fnExactPackOkSpec)) fnExactPackOkCard

/-- THE TIED CARD OF 'laws.FnExactPackGet'. -/
def fnExactPackGetCard : Claim7 := { stood := { row := fnExactPackGetRow, standIns := [], harness := (true, "d860c6f7453be45ff431a26e1a37bab80ff341b5f6289fc442973f33b454c6c1"), looks := true }, kinds := [], alts := [], laidByText := true, laidKinds := [.data, .sentinel, .sentinel, .pinned], laidTests := true, laidLooks := .later }
def FnExactPackGetCardSaid : Prop := Claim7.holds Tryd.pinned (.plain (OpenSpec.ofChange fnExactPackGetSpec)) fnExactPackGetCard

/-- THE TIED CARD OF 'laws.FnPackForm'. -/
def fnPackFormCard : Claim7 := { stood := { row := fnPackFormRow, standIns := [], harness := (true, "d860c6f7453be45ff431a26e1a37bab80ff341b5f6289fc442973f33b454c6c1"), looks := true }, kinds := [], alts := [], laidByText := true, laidKinds := [.data, .sentinel, .sentinel, .pinned], laidTests := true, laidLooks := .later }
def FnPackFormCardSaid : Prop := Claim7.holds Tryd.pinned (.plain (OpenSpec.ofChange fnPackFormSpec)) fnPackFormCard

/-- THE TIED CARD OF 'laws.FnPackNames'. -/
def fnPackNamesCard : Claim7 := { stood := { row := fnPackNamesRow, standIns := [], harness := (true, "d860c6f7453be45ff431a26e1a37bab80ff341b5f6289fc442973f33b454c6c1"), looks := true }, kinds := [], alts := [], laidByText := true, laidKinds := [.data, .sentinel, .sentinel, .pinned], laidTests := true, laidLooks := .later }
def FnPackNamesCardSaid : Prop := Claim7.holds Tryd.pinned (.plain (OpenSpec.ofChange fnPackNamesSpec)) fnPackNamesCard

/-- THE TIED CARD OF 'laws.FnPackGet'. -/
def fnPackGetCard : Claim7 := { stood := { row := fnPackGetRow, standIns := [], harness := (true, "d860c6f7453be45ff431a26e1a37bab80ff341b5f6289fc442973f33b454c6c1"), looks := true }, kinds := [], alts := [], laidByText := true, laidKinds := [.data, .sentinel, .sentinel, .pinned], laidTests := true, laidLooks := .later }
def FnPackGetCardSaid : Prop := Claim7.holds Tryd.pinned (.plain (OpenSpec.ofChange fnPackGetSpec)) fnPackGetCard

/-- THE TIED CARD OF 'laws.FnPackOne'. -/
def fnPackOneCard : Claim7 := { stood := { row := fnPackOneRow, standIns := [], harness := (true, "d860c6f7453be45ff431a26e1a37bab80ff341b5f6289fc442973f33b454c6c1"), looks := true }, kinds := [], alts := [], laidByText := true, laidKinds := [.data, .sentinel, .sentinel, .pinned], laidTests := true, laidLooks := .later }
def FnPackOneCardSaid : Prop := Claim7.holds Tryd.pinned (.plain (OpenSpec.ofChange fnPackOneSpec)) fnPackOneCard

/-- THE TIED CARD OF 'laws.FnPackOrder'. -/
def fnPackOrderCard : Claim7 := { stood := { row := fnPackOrderRow, standIns := [], harness := (true, "d860c6f7453be45ff431a26e1a37bab80ff341b5f6289fc442973f33b454c6c1"), looks := true }, kinds := [], alts := [], laidByText := true, laidKinds := [.data, .sentinel, .sentinel, .pinned], laidTests := true, laidLooks := .later }
def FnPackOrderCardSaid : Prop := Claim7.holds Tryd.pinned (.plain (OpenSpec.ofChange fnPackOrderSpec)) fnPackOrderCard

/-- THE SECOND FORM's CARD OF 'laws.FnExactPackOk'. -/
def fnExactPackOkUptoCard : Claim7 := { stood := { row := fnExactPackOkUptoRow, standIns := [], harness := (true, "d860c6f7453be45ff431a26e1a37bab80ff341b5f6289fc442973f33b454c6c1"), looks := true }, kinds := [], alts := [], laidByText := true, laidKinds := [.data, .sentinel, .sentinel, .pinned], laidTests := true, laidLooks := .later }
def FnExactPackOkUptoCardSaid : Prop := Claim7.holds Tryd.pinned (.plain (OpenSpec.upto fnExactPackOkSpec)) fnExactPackOkUptoCard

/-- THE SECOND FORM's CARD OF 'laws.FnExactPackGet'. -/
def fnExactPackGetUptoCard : Claim7 := { stood := { row := fnExactPackGetUptoRow, standIns := [], harness := (true, "d860c6f7453be45ff431a26e1a37bab80ff341b5f6289fc442973f33b454c6c1"), looks := true }, kinds := [], alts := [], laidByText := true, laidKinds := [.data, .sentinel, .sentinel, .pinned], laidTests := true, laidLooks := .later }
def FnExactPackGetUptoCardSaid : Prop := Claim7.holds Tryd.pinned (.plain (OpenSpec.upto fnExactPackGetSpec)) fnExactPackGetUptoCard

/-- THE SECOND FORM's CARD OF 'laws.FnPackForm'. -/
def fnPackFormUptoCard : Claim7 := { stood := { row := fnPackFormUptoRow, standIns := [], harness := (true, "d860c6f7453be45ff431a26e1a37bab80ff341b5f6289fc442973f33b454c6c1"), looks := true }, kinds := [], alts := [], laidByText := true, laidKinds := [.data, .sentinel, .sentinel, .pinned], laidTests := true, laidLooks := .later }
def FnPackFormUptoCardSaid : Prop := Claim7.holds Tryd.pinned (.plain (OpenSpec.upto fnPackFormSpec)) fnPackFormUptoCard

/-- THE SECOND FORM's CARD OF 'laws.FnPackNames'. -/
def fnPackNamesUptoCard : Claim7 := { stood := { row := fnPackNamesUptoRow, standIns := [], harness := (true, "d860c6f7453be45ff431a26e1a37bab80ff341b5f6289fc442973f33b454c6c1"), looks := true }, kinds := [], alts := [], laidByText := true, laidKinds := [.data, .sentinel, .sentinel, .pinned], laidTests := true, laidLooks := .later }
def FnPackNamesUptoCardSaid : Prop := Claim7.holds Tryd.pinned (.plain (OpenSpec.upto fnPackNamesSpec)) fnPackNamesUptoCard

/-- THE SECOND FORM's CARD OF 'laws.FnPackGet'. -/
def fnPackGetUptoCard : Claim7 := { stood := { row := fnPackGetUptoRow, standIns := [], harness := (true, "d860c6f7453be45ff431a26e1a37bab80ff341b5f6289fc442973f33b454c6c1"), looks := true }, kinds := [], alts := [], laidByText := true, laidKinds := [.data, .sentinel, .sentinel, .pinned], laidTests := true, laidLooks := .later }
def FnPackGetUptoCardSaid : Prop := Claim7.holds Tryd.pinned (.plain (OpenSpec.upto fnPackGetSpec)) fnPackGetUptoCard

/-- THE SECOND FORM's CARD OF 'laws.FnPackOne'. -/
def fnPackOneUptoCard : Claim7 := { stood := { row := fnPackOneUptoRow, standIns := [], harness := (true, "d860c6f7453be45ff431a26e1a37bab80ff341b5f6289fc442973f33b454c6c1"), looks := true }, kinds := [], alts := [], laidByText := true, laidKinds := [.data, .sentinel, .sentinel, .pinned], laidTests := true, laidLooks := .later }
def FnPackOneUptoCardSaid : Prop := Claim7.holds Tryd.pinned (.plain (OpenSpec.upto fnPackOneSpec)) fnPackOneUptoCard

/-- THE SECOND FORM's CARD OF 'laws.FnPackOrder'. -/
def fnPackOrderUptoCard : Claim7 := { stood := { row := fnPackOrderUptoRow, standIns := [], harness := (true, "d860c6f7453be45ff431a26e1a37bab80ff341b5f6289fc442973f33b454c6c1"), looks := true }, kinds := [], alts := [], laidByText := true, laidKinds := [.data, .sentinel, .sentinel, .pinned], laidTests := true, laidLooks := .later }
def FnPackOrderUptoCardSaid : Prop := Claim7.holds Tryd.pinned (.plain (OpenSpec.upto fnPackOrderSpec)) fnPackOrderUptoCard
end Rows
end Go.Proofs.YtkjginibdablnaaDoor
