/-
  DERIVED. GIVEN WITH THE SEED: THE CARDS: each row of YtkjginibdablnaaGreatDoorRows.lean that lists a variable, with what it lists TIED to the program's text (the seventh form; the later family's looks); each row that meets fmt, with fmt's text TOLD by the authors' own Lean function (tested against real Go, not proved from fmt's source: count such statements apart). THE CARD IS WHAT COUNTS. Prove the row's statement (the work); the ties are given (YtkjginibdablnaaGreatDoorTie.lean); close each card by the builder's one call (the guide's Derived/Test/ToyasCard.lean, 'card_holds'). Laid BY PROGRAM, IN A SANDBOX (cutbox-door.mjs). By AI agents, Wed Nov 11 2026. No macro, syntax, notation, axiom, sorry.
-/
import Derived.Test.YtkjginibdablnaaGreatDoorRows
import GoSem.ClaimSeven
namespace Go.Proofs.YtkjginibdablnaaGreatDoor
namespace Rows

/-- THE TIED CARD OF 'laws.FnPackMake'. -/
def fnPackMakeCard : Claim7 := { stood := { row := fnPackMakeRow, standIns := [], harness := (true, "a3c8353c2a47bb666f0df0aa0d8a76c3dc892165c04a8cb1750a2b3759dc8cb7"), looks := true }, kinds := [], alts := [], laidByText := true, laidKinds := [.data, .sentinel, .sentinel, .pinned], laidTests := true, laidLooks := .later }
def FnPackMakeCardSaid : Prop := Claim7.holds Tryz.pinned (.plain (OpenSpec.ofChange fnPackMakeSpec)) fnPackMakeCard

/-- THE TIED CARD OF 'laws.FnPackSpoilt'. -/
def fnPackSpoiltCard : Claim7 := { stood := { row := fnPackSpoiltRow, standIns := [], harness := (true, "a3c8353c2a47bb666f0df0aa0d8a76c3dc892165c04a8cb1750a2b3759dc8cb7"), looks := true }, kinds := [], alts := [], laidByText := true, laidKinds := [.data, .sentinel, .sentinel, .pinned], laidTests := true, laidLooks := .later }
def FnPackSpoiltCardSaid : Prop := Claim7.holds Tryz.pinned (.plain (OpenSpec.ofChange fnPackSpoiltSpec)) fnPackSpoiltCard

/-- THE TIED CARD OF 'laws.FnExactPackMake'. -/
def fnExactPackMakeCard : Claim7 := { stood := { row := fnExactPackMakeRow, standIns := [], harness := (true, "a3c8353c2a47bb666f0df0aa0d8a76c3dc892165c04a8cb1750a2b3759dc8cb7"), looks := true }, kinds := [], alts := [], laidByText := true, laidKinds := [.data, .sentinel, .sentinel, .pinned], laidTests := true, laidLooks := .later }
def FnExactPackMakeCardSaid : Prop := Claim7.holds Tryz.pinned (.plain (OpenSpec.ofChange fnExactPackMakeSpec)) fnExactPackMakeCard

/-- THE TIED CARD OF 'laws.FnPackKey'. -/
def fnPackKeyCard : Claim7 := { stood := { row := fnPackKeyRow, standIns := [], harness := (true, "a3c8353c2a47bb666f0df0aa0d8a76c3dc892165c04a8cb1750a2b3759dc8cb7"), looks := true }, kinds := [], alts := [], laidByText := true, laidKinds := [.data, .sentinel, .sentinel, .pinned], laidTests := true, laidLooks := .later }
def FnPackKeyCardSaid : Prop := Claim7.holds Tryz.pinned (.plain (OpenSpec.ofChange fnPackKeySpec)) fnPackKeyCard

/-- THE SECOND FORM's CARD OF 'laws.FnPackMake'. -/
def fnPackMakeUptoCard : Claim7 := { stood := { row := fnPackMakeUptoRow, standIns := [], harness := (true, "a3c8353c2a47bb666f0df0aa0d8a76c3dc892165c04a8cb1750a2b3759dc8cb7"), looks := true }, kinds := [], alts := [], laidByText := true, laidKinds := [.data, .sentinel, .sentinel, .pinned], laidTests := true, laidLooks := .later }
def FnPackMakeUptoCardSaid : Prop := Claim7.holds Tryz.pinned (.plain (OpenSpec.upto fnPackMakeSpec)) fnPackMakeUptoCard

/-- THE SECOND FORM's CARD OF 'laws.FnPackSpoilt'. -/
def fnPackSpoiltUptoCard : Claim7 := { stood := { row := fnPackSpoiltUptoRow, standIns := [], harness := (true, "a3c8353c2a47bb666f0df0aa0d8a76c3dc892165c04a8cb1750a2b3759dc8cb7"), looks := true }, kinds := [], alts := [], laidByText := true, laidKinds := [.data, .sentinel, .sentinel, .pinned], laidTests := true, laidLooks := .later }
def FnPackSpoiltUptoCardSaid : Prop := Claim7.holds Tryz.pinned (.plain (OpenSpec.upto fnPackSpoiltSpec)) fnPackSpoiltUptoCard

/-- THE SECOND FORM's CARD OF 'laws.FnExactPackMake'. -/
def fnExactPackMakeUptoCard : Claim7 := { stood := { row := fnExactPackMakeUptoRow, standIns := [], harness := (true, "a3c8353c2a47bb666f0df0aa0d8a76c3dc892165c04a8cb1750a2b3759dc8cb7"), looks := true }, kinds := [], alts := [], laidByText := true, laidKinds := [.data, .sentinel, .sentinel, .pinned], laidTests := true, laidLooks := .later }
def FnExactPackMakeUptoCardSaid : Prop := Claim7.holds Tryz.pinned (.plain (OpenSpec.upto fnExactPackMakeSpec)) fnExactPackMakeUptoCard

/-- THE SECOND FORM's CARD OF 'laws.FnPackKey'. -/
def fnPackKeyUptoCard : Claim7 := { stood := { row := fnPackKeyUptoRow, standIns := [], harness := (true, "a3c8353c2a47bb666f0df0aa0d8a76c3dc892165c04a8cb1750a2b3759dc8cb7"), looks := true }, kinds := [], alts := [], laidByText := true, laidKinds := [.data, .sentinel, .sentinel, .pinned], laidTests := true, laidLooks := .later }
def FnPackKeyUptoCardSaid : Prop := Claim7.holds Tryz.pinned (.plain (OpenSpec.upto fnPackKeySpec)) fnPackKeyUptoCard
end Rows
end Go.Proofs.YtkjginibdablnaaGreatDoor
