/-
  DERIVED. GIVEN WITH THE SEED: THE CARDS: each row of YtfbodageccednaaDoorRows.lean that lists a variable, with what it lists TIED to the program's text (the seventh form; the later family's looks); each row that meets fmt, with fmt's text TOLD by the authors' own Lean function (tested against real Go, not proved from fmt's source: count such statements apart). THE CARD IS WHAT COUNTS. Prove the row's statement (the work); the ties are given (YtfbodageccednaaDoorTie.lean); close each card by the builder's one call (the guide's Derived/Test/ToyasCard.lean, 'card_holds'). Laid BY PROGRAM, IN A SANDBOX (cutbox-door.mjs). By AI agents, Wed Nov 11 2026. No macro, syntax, notation, axiom, sorry.
-/
import Derived.Test.YtfbodageccednaaDoorRows
import GoSem.ClaimSeven
namespace Go.Proofs.YtfbodageccednaaDoor
namespace Rows

/-- THE TIED CARD OF 'postmarklaw15.HourRises'. -/
def hourRisesCard : Claim7 := { stood := { row := hourRisesRow, standIns := [], harness := (true, "0fd052bd8d0f4fe34bdd9b2490d958f690b69942da336df2a6a69d17f1aed430"), looks := true }, kinds := [], alts := [], laidByText := true, laidKinds := [.data, .data, .data, .data, .sentinel, .sentinel, .pinned], laidTests := true, laidLooks := .later }
def HourRisesCardSaid : Prop := Claim7.holds Tryd.pinned (.plain (OpenSpec.ofChange hourRisesSpec)) hourRisesCard

/-- THE TIED CARD OF 'postmarklaw15.HourDays'. -/
def hourDaysCard : Claim7 := { stood := { row := hourDaysRow, standIns := [], harness := (true, "0fd052bd8d0f4fe34bdd9b2490d958f690b69942da336df2a6a69d17f1aed430"), looks := true }, kinds := [], alts := [], laidByText := true, laidKinds := [.data, .data, .data, .data, .sentinel, .sentinel, .pinned], laidTests := true, laidLooks := .later }
def HourDaysCardSaid : Prop := Claim7.holds Tryd.pinned (.plain (OpenSpec.ofChange hourDaysSpec)) hourDaysCard

/-- THE TIED CARD OF 'postmarklaw15.HourTexts'. -/
def hourTextsCard : Claim7 := { stood := { row := hourTextsRow, standIns := [], harness := (true, "0fd052bd8d0f4fe34bdd9b2490d958f690b69942da336df2a6a69d17f1aed430"), looks := true }, kinds := [], alts := [], laidByText := true, laidKinds := [.data, .data, .data, .data, .sentinel, .sentinel, .pinned], laidTests := true, laidLooks := .later }
def HourTextsCardSaid : Prop := Claim7.holds Tryd.pinned (.plain (OpenSpec.ofChange hourTextsSpec)) hourTextsCard

/-- THE TIED CARD OF 'postmarklaw15.HourBack'. -/
def hourBackCard : Claim7 := { stood := { row := hourBackRow, standIns := [], harness := (true, "0fd052bd8d0f4fe34bdd9b2490d958f690b69942da336df2a6a69d17f1aed430"), looks := true }, kinds := [], alts := [], laidByText := true, laidKinds := [.data, .data, .data, .data, .sentinel, .sentinel, .pinned], laidTests := true, laidLooks := .later }
def HourBackCardSaid : Prop := Claim7.holds Tryd.pinned (.plain (OpenSpec.ofChange hourBackSpec)) hourBackCard

/-- THE TIED CARD OF 'postmarklaw15.HourSure'. -/
def hourSureCard : Claim7 := { stood := { row := hourSureRow, standIns := [], harness := (true, "0fd052bd8d0f4fe34bdd9b2490d958f690b69942da336df2a6a69d17f1aed430"), looks := true }, kinds := [], alts := [], laidByText := true, laidKinds := [.data, .data, .data, .data, .sentinel, .sentinel, .pinned], laidTests := true, laidLooks := .later }
def HourSureCardSaid : Prop := Claim7.holds Tryd.pinned (.plain (OpenSpec.ofChange hourSureSpec)) hourSureCard

/-- THE TIED CARD OF 'postmarklaw15.HourNames'. -/
def hourNamesCard : Claim7 := { stood := { row := hourNamesRow, standIns := [], harness := (true, "0fd052bd8d0f4fe34bdd9b2490d958f690b69942da336df2a6a69d17f1aed430"), looks := true }, kinds := [], alts := [], laidByText := true, laidKinds := [.data, .data, .data, .data, .sentinel, .sentinel, .pinned], laidTests := true, laidLooks := .later }
def HourNamesCardSaid : Prop := Claim7.holds Tryd.pinned (.plain (OpenSpec.ofChange hourNamesSpec)) hourNamesCard

/-- THE SECOND FORM's CARD OF 'postmarklaw15.HourRises'. -/
def hourRisesUptoCard : Claim7 := { stood := { row := hourRisesUptoRow, standIns := [], harness := (true, "0fd052bd8d0f4fe34bdd9b2490d958f690b69942da336df2a6a69d17f1aed430"), looks := true }, kinds := [], alts := [], laidByText := true, laidKinds := [.data, .data, .data, .data, .sentinel, .sentinel, .pinned], laidTests := true, laidLooks := .later }
def HourRisesUptoCardSaid : Prop := Claim7.holds Tryd.pinned (.plain (OpenSpec.upto hourRisesSpec)) hourRisesUptoCard

/-- THE SECOND FORM's CARD OF 'postmarklaw15.HourDays'. -/
def hourDaysUptoCard : Claim7 := { stood := { row := hourDaysUptoRow, standIns := [], harness := (true, "0fd052bd8d0f4fe34bdd9b2490d958f690b69942da336df2a6a69d17f1aed430"), looks := true }, kinds := [], alts := [], laidByText := true, laidKinds := [.data, .data, .data, .data, .sentinel, .sentinel, .pinned], laidTests := true, laidLooks := .later }
def HourDaysUptoCardSaid : Prop := Claim7.holds Tryd.pinned (.plain (OpenSpec.upto hourDaysSpec)) hourDaysUptoCard

/-- THE SECOND FORM's CARD OF 'postmarklaw15.HourTexts'. -/
def hourTextsUptoCard : Claim7 := { stood := { row := hourTextsUptoRow, standIns := [], harness := (true, "0fd052bd8d0f4fe34bdd9b2490d958f690b69942da336df2a6a69d17f1aed430"), looks := true }, kinds := [], alts := [], laidByText := true, laidKinds := [.data, .data, .data, .data, .sentinel, .sentinel, .pinned], laidTests := true, laidLooks := .later }
def HourTextsUptoCardSaid : Prop := Claim7.holds Tryd.pinned (.plain (OpenSpec.upto hourTextsSpec)) hourTextsUptoCard

/-- THE SECOND FORM's CARD OF 'postmarklaw15.HourBack'. -/
def hourBackUptoCard : Claim7 := { stood := { row := hourBackUptoRow, standIns := [], harness := (true, "0fd052bd8d0f4fe34bdd9b2490d958f690b69942da336df2a6a69d17f1aed430"), looks := true }, kinds := [], alts := [], laidByText := true, laidKinds := [.data, .data, .data, .data, .sentinel, .sentinel, .pinned], laidTests := true, laidLooks := .later }
def HourBackUptoCardSaid : Prop := Claim7.holds Tryd.pinned (.plain (OpenSpec.upto hourBackSpec)) hourBackUptoCard

/-- THE SECOND FORM's CARD OF 'postmarklaw15.HourSure'. -/
def hourSureUptoCard : Claim7 := { stood := { row := hourSureUptoRow, standIns := [], harness := (true, "0fd052bd8d0f4fe34bdd9b2490d958f690b69942da336df2a6a69d17f1aed430"), looks := true }, kinds := [], alts := [], laidByText := true, laidKinds := [.data, .data, .data, .data, .sentinel, .sentinel, .pinned], laidTests := true, laidLooks := .later }
def HourSureUptoCardSaid : Prop := Claim7.holds Tryd.pinned (.plain (OpenSpec.upto hourSureSpec)) hourSureUptoCard

/-- THE SECOND FORM's CARD OF 'postmarklaw15.HourNames'. -/
def hourNamesUptoCard : Claim7 := { stood := { row := hourNamesUptoRow, standIns := [], harness := (true, "0fd052bd8d0f4fe34bdd9b2490d958f690b69942da336df2a6a69d17f1aed430"), looks := true }, kinds := [], alts := [], laidByText := true, laidKinds := [.data, .data, .data, .data, .sentinel, .sentinel, .pinned], laidTests := true, laidLooks := .later }
def HourNamesUptoCardSaid : Prop := Claim7.holds Tryd.pinned (.plain (OpenSpec.upto hourNamesSpec)) hourNamesUptoCard
end Rows
end Go.Proofs.YtfbodageccednaaDoor
