/-
  DERIVED. GIVEN WITH THE SEED: THE CARDS: each row of YtbaafipkdglohaaDoorRows.lean that lists a variable, with what it lists TIED to the program's text (the seventh form; the later family's looks); each row that meets fmt, with fmt's text TOLD by the authors' own Lean function (tested against real Go, not proved from fmt's source: count such statements apart). THE CARD IS WHAT COUNTS. Prove the row's statement (the work); the ties are given (YtbaafipkdglohaaDoorTie.lean); close each card by the builder's one call (the guide's Derived/Test/ToyasCard.lean, 'card_holds'). Laid BY PROGRAM, IN A SANDBOX (cutbox-door.mjs). By AI agents, Wed Nov 11 2026. No macro, syntax, notation, axiom, sorry.
-/
import Derived.Test.YtbaafipkdglohaaDoorRows
import GoSem.ClaimSeven
namespace Go.Proofs.YtbaafipkdglohaaDoor
namespace Rows

/-- THE TIED CARD OF 'laws.FnExactNameIs'. -/
def fnExactNameIsCard : Claim7 := { stood := { row := fnExactNameIsRow, standIns := [], harness := (true, "db106c25d381299594f4866d86fffd4183691126560d360d6ce9d2ed8b0d5a42"), looks := true }, kinds := [], alts := [], laidByText := true, laidKinds := [.sentinel, .sentinel], laidTests := true, laidLooks := .later }
def FnExactNameIsCardSaid : Prop := Claim7.holds Tryd.pinned (.plain (OpenSpec.ofChange fnExactNameIsSpec)) fnExactNameIsCard

/-- THE TIED CARD OF 'laws.FnExactNameOf'. -/
def fnExactNameOfCard : Claim7 := { stood := { row := fnExactNameOfRow, standIns := [], harness := (true, "db106c25d381299594f4866d86fffd4183691126560d360d6ce9d2ed8b0d5a42"), looks := true }, kinds := [], alts := [], laidByText := true, laidKinds := [.sentinel, .sentinel], laidTests := true, laidLooks := .later }
def FnExactNameOfCardSaid : Prop := Claim7.holds Tryd.pinned (.plain (OpenSpec.ofChange fnExactNameOfSpec)) fnExactNameOfCard

/-- THE TIED CARD OF 'laws.FnNameKey'. -/
def fnNameKeyCard : Claim7 := { stood := { row := fnNameKeyRow, standIns := [], harness := (true, "db106c25d381299594f4866d86fffd4183691126560d360d6ce9d2ed8b0d5a42"), looks := true }, kinds := [], alts := [], laidByText := true, laidKinds := [.sentinel, .sentinel], laidTests := true, laidLooks := .later }
def FnNameKeyCardSaid : Prop := Claim7.holds Tryd.pinned (.plain (OpenSpec.ofChange fnNameKeySpec)) fnNameKeyCard

/-- THE TIED CARD OF 'laws.FnName'. -/
def fnNameCard : Claim7 := { stood := { row := fnNameRow, standIns := [], harness := (true, "db106c25d381299594f4866d86fffd4183691126560d360d6ce9d2ed8b0d5a42"), looks := true }, kinds := [], alts := [], laidByText := true, laidKinds := [.sentinel, .sentinel], laidTests := true, laidLooks := .later }
def FnNameCardSaid : Prop := Claim7.holds Tryd.pinned (.plain (OpenSpec.ofChange fnNameSpec)) fnNameCard

/-- THE TIED CARD OF 'laws.FnNameIs'. -/
def fnNameIsCard : Claim7 := { stood := { row := fnNameIsRow, standIns := [], harness := (true, "db106c25d381299594f4866d86fffd4183691126560d360d6ce9d2ed8b0d5a42"), looks := true }, kinds := [], alts := [], laidByText := true, laidKinds := [.sentinel, .sentinel], laidTests := true, laidLooks := .later }
def FnNameIsCardSaid : Prop := Claim7.holds Tryd.pinned (.plain (OpenSpec.ofChange fnNameIsSpec)) fnNameIsCard

/-- THE TIED CARD OF 'laws.FnNameSpread'. -/
def fnNameSpreadCard : Claim7 := { stood := { row := fnNameSpreadRow, standIns := [], harness := (true, "db106c25d381299594f4866d86fffd4183691126560d360d6ce9d2ed8b0d5a42"), looks := true }, kinds := [], alts := [], laidByText := true, laidKinds := [.sentinel, .sentinel], laidTests := true, laidLooks := .later }
def FnNameSpreadCardSaid : Prop := Claim7.holds Tryd.pinned (.plain (OpenSpec.ofChange fnNameSpreadSpec)) fnNameSpreadCard

/-- THE TIED CARD OF 'laws.FnExactPadBack'. -/
def fnExactPadBackCard : Claim7 := { stood := { row := fnExactPadBackRow, standIns := [], harness := (true, "db106c25d381299594f4866d86fffd4183691126560d360d6ce9d2ed8b0d5a42"), looks := true }, kinds := [], alts := [], laidByText := true, laidKinds := [.data, .pinned], laidTests := true, laidLooks := .later }
def FnExactPadBackCardSaid : Prop := Claim7.holds Tryd.pinned (.plain (OpenSpec.ofChange fnExactPadBackSpec)) fnExactPadBackCard

/-- THE TIED CARD OF 'laws.FnPadBack'. -/
def fnPadBackCard : Claim7 := { stood := { row := fnPadBackRow, standIns := [], harness := (true, "db106c25d381299594f4866d86fffd4183691126560d360d6ce9d2ed8b0d5a42"), looks := true }, kinds := [], alts := [], laidByText := true, laidKinds := [.data, .pinned], laidTests := true, laidLooks := .later }
def FnPadBackCardSaid : Prop := Claim7.holds Tryd.pinned (.plain (OpenSpec.ofChange fnPadBackSpec)) fnPadBackCard

/-- THE TIED CARD OF 'laws.FnPadNone'. -/
def fnPadNoneCard : Claim7 := { stood := { row := fnPadNoneRow, standIns := [], harness := (true, "db106c25d381299594f4866d86fffd4183691126560d360d6ce9d2ed8b0d5a42"), looks := true }, kinds := [], alts := [], laidByText := true, laidKinds := [.data, .pinned], laidTests := true, laidLooks := .later }
def FnPadNoneCardSaid : Prop := Claim7.holds Tryd.pinned (.plain (OpenSpec.ofChange fnPadNoneSpec)) fnPadNoneCard

/-- THE TIED CARD OF 'laws.FnPadStrict'. -/
def fnPadStrictCard : Claim7 := { stood := { row := fnPadStrictRow, standIns := [], harness := (true, "db106c25d381299594f4866d86fffd4183691126560d360d6ce9d2ed8b0d5a42"), looks := true }, kinds := [], alts := [], laidByText := true, laidKinds := [.data, .pinned], laidTests := true, laidLooks := .later }
def FnPadStrictCardSaid : Prop := Claim7.holds Tryd.pinned (.plain (OpenSpec.ofChange fnPadStrictSpec)) fnPadStrictCard

/-- THE SECOND FORM's CARD OF 'laws.FnExactNameIs'. -/
def fnExactNameIsUptoCard : Claim7 := { stood := { row := fnExactNameIsUptoRow, standIns := [], harness := (true, "db106c25d381299594f4866d86fffd4183691126560d360d6ce9d2ed8b0d5a42"), looks := true }, kinds := [], alts := [], laidByText := true, laidKinds := [.sentinel, .sentinel], laidTests := true, laidLooks := .later }
def FnExactNameIsUptoCardSaid : Prop := Claim7.holds Tryd.pinned (.plain (OpenSpec.upto fnExactNameIsSpec)) fnExactNameIsUptoCard

/-- THE SECOND FORM's CARD OF 'laws.FnExactNameOf'. -/
def fnExactNameOfUptoCard : Claim7 := { stood := { row := fnExactNameOfUptoRow, standIns := [], harness := (true, "db106c25d381299594f4866d86fffd4183691126560d360d6ce9d2ed8b0d5a42"), looks := true }, kinds := [], alts := [], laidByText := true, laidKinds := [.sentinel, .sentinel], laidTests := true, laidLooks := .later }
def FnExactNameOfUptoCardSaid : Prop := Claim7.holds Tryd.pinned (.plain (OpenSpec.upto fnExactNameOfSpec)) fnExactNameOfUptoCard

/-- THE SECOND FORM's CARD OF 'laws.FnNameKey'. -/
def fnNameKeyUptoCard : Claim7 := { stood := { row := fnNameKeyUptoRow, standIns := [], harness := (true, "db106c25d381299594f4866d86fffd4183691126560d360d6ce9d2ed8b0d5a42"), looks := true }, kinds := [], alts := [], laidByText := true, laidKinds := [.sentinel, .sentinel], laidTests := true, laidLooks := .later }
def FnNameKeyUptoCardSaid : Prop := Claim7.holds Tryd.pinned (.plain (OpenSpec.upto fnNameKeySpec)) fnNameKeyUptoCard

/-- THE SECOND FORM's CARD OF 'laws.FnName'. -/
def fnNameUptoCard : Claim7 := { stood := { row := fnNameUptoRow, standIns := [], harness := (true, "db106c25d381299594f4866d86fffd4183691126560d360d6ce9d2ed8b0d5a42"), looks := true }, kinds := [], alts := [], laidByText := true, laidKinds := [.sentinel, .sentinel], laidTests := true, laidLooks := .later }
def FnNameUptoCardSaid : Prop := Claim7.holds Tryd.pinned (.plain (OpenSpec.upto fnNameSpec)) fnNameUptoCard

/-- THE SECOND FORM's CARD OF 'laws.FnNameIs'. -/
def fnNameIsUptoCard : Claim7 := { stood := { row := fnNameIsUptoRow, standIns := [], harness := (true, "db106c25d381299594f4866d86fffd4183691126560d360d6ce9d2ed8b0d5a42"), looks := true }, kinds := [], alts := [], laidByText := true, laidKinds := [.sentinel, .sentinel], laidTests := true, laidLooks := .later }
def FnNameIsUptoCardSaid : Prop := Claim7.holds Tryd.pinned (.plain (OpenSpec.upto fnNameIsSpec)) fnNameIsUptoCard

/-- THE SECOND FORM's CARD OF 'laws.FnNameSpread'. -/
def fnNameSpreadUptoCard : Claim7 := { stood := { row := fnNameSpreadUptoRow, standIns := [], harness := (true, "db106c25d381299594f4866d86fffd4183691126560d360d6ce9d2ed8b0d5a42"), looks := true }, kinds := [], alts := [], laidByText := true, laidKinds := [.sentinel, .sentinel], laidTests := true, laidLooks := .later }
def FnNameSpreadUptoCardSaid : Prop := Claim7.holds Tryd.pinned (.plain (OpenSpec.upto fnNameSpreadSpec)) fnNameSpreadUptoCard

/-- THE SECOND FORM's CARD OF 'laws.FnExactPadBack'. -/
def fnExactPadBackUptoCard : Claim7 := { stood := { row := fnExactPadBackUptoRow, standIns := [], harness := (true, "db106c25d381299594f4866d86fffd4183691126560d360d6ce9d2ed8b0d5a42"), looks := true }, kinds := [], alts := [], laidByText := true, laidKinds := [.data, .pinned], laidTests := true, laidLooks := .later }
def FnExactPadBackUptoCardSaid : Prop := Claim7.holds Tryd.pinned (.plain (OpenSpec.upto fnExactPadBackSpec)) fnExactPadBackUptoCard

/-- THE SECOND FORM's CARD OF 'laws.FnPadBack'. -/
def fnPadBackUptoCard : Claim7 := { stood := { row := fnPadBackUptoRow, standIns := [], harness := (true, "db106c25d381299594f4866d86fffd4183691126560d360d6ce9d2ed8b0d5a42"), looks := true }, kinds := [], alts := [], laidByText := true, laidKinds := [.data, .pinned], laidTests := true, laidLooks := .later }
def FnPadBackUptoCardSaid : Prop := Claim7.holds Tryd.pinned (.plain (OpenSpec.upto fnPadBackSpec)) fnPadBackUptoCard

/-- THE SECOND FORM's CARD OF 'laws.FnPadNone'. -/
def fnPadNoneUptoCard : Claim7 := { stood := { row := fnPadNoneUptoRow, standIns := [], harness := (true, "db106c25d381299594f4866d86fffd4183691126560d360d6ce9d2ed8b0d5a42"), looks := true }, kinds := [], alts := [], laidByText := true, laidKinds := [.data, .pinned], laidTests := true, laidLooks := .later }
def FnPadNoneUptoCardSaid : Prop := Claim7.holds Tryd.pinned (.plain (OpenSpec.upto fnPadNoneSpec)) fnPadNoneUptoCard

/-- THE SECOND FORM's CARD OF 'laws.FnPadStrict'. -/
def fnPadStrictUptoCard : Claim7 := { stood := { row := fnPadStrictUptoRow, standIns := [], harness := (true, "db106c25d381299594f4866d86fffd4183691126560d360d6ce9d2ed8b0d5a42"), looks := true }, kinds := [], alts := [], laidByText := true, laidKinds := [.data, .pinned], laidTests := true, laidLooks := .later }
def FnPadStrictUptoCardSaid : Prop := Claim7.holds Tryd.pinned (.plain (OpenSpec.upto fnPadStrictSpec)) fnPadStrictUptoCard
end Rows
end Go.Proofs.YtbaafipkdglohaaDoor
