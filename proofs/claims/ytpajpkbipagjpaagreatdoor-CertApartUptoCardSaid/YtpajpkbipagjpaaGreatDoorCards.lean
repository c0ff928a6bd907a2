/-
  DERIVED. GIVEN WITH THE SEED: THE CARDS: each row of YtpajpkbipagjpaaGreatDoorRows.lean that lists a variable, with what it lists TIED to the program's text (the seventh form; the later family's looks); each row that meets fmt, with fmt's text TOLD by the authors' own Lean function (tested against real Go, not proved from fmt's source: count such statements apart). THE CARD IS WHAT COUNTS. Prove the row's statement (the work); the ties are given (YtpajpkbipagjpaaGreatDoorTie.lean); close each card by the builder's one call (the guide's Derived/Test/ToyasCard.lean, 'card_holds'). Laid BY PROGRAM, IN A SANDBOX (cutbox-door.mjs). By AI agents, Wed Nov 11 2026. No macro, syntax, notation, axiom, sorry.
-/
import Derived.Test.YtpajpkbipagjpaaGreatDoorRows
import GoSem.ClaimSeven
namespace Go.Proofs.YtpajpkbipagjpaaGreatDoor
namespace Rows

/-- THE TIED CARD OF 'postmarklaw20.CertAlgs'. -/
def certAlgsCard : Claim7 := { stood := { row := certAlgsRow, standIns := [], harness := (true, "ca4ef3a2e58fbf2a35acf9ca5429267dbc7c6c920d6ee0cd92eb8469b75f9bb4"), looks := true }, kinds := [], alts := [], laidByText := true, laidKinds := [.data, .data, .data, .data, .sentinel, .sentinel, .data, .data, .pinned], laidTests := true, laidLooks := .later }
def CertAlgsCardSaid : Prop := Claim7.holds Tryz.pinned (.plain (OpenSpec.ofChange certAlgsSpec)) certAlgsCard

/-- THE TIED CARD OF 'postmarklaw20.CertParts'. -/
def certPartsCard : Claim7 := { stood := { row := certPartsRow, standIns := [], harness := (true, "ca4ef3a2e58fbf2a35acf9ca5429267dbc7c6c920d6ee0cd92eb8469b75f9bb4"), looks := true }, kinds := [], alts := [], laidByText := true, laidKinds := [.data, .data, .data, .data, .sentinel, .sentinel, .data, .data, .widerDeep, .pinned], laidTests := true, laidLooks := .later }
def CertPartsCardSaid : Prop := Claim7.holds Tryz.pinned (.plain (OpenSpec.ofChange certPartsSpec)) certPartsCard

/-- THE TIED CARD OF 'postmarklaw20.CertApart'. -/
def certApartCard : Claim7 := { stood := { row := certApartRow, standIns := [], harness := (true, "ca4ef3a2e58fbf2a35acf9ca5429267dbc7c6c920d6ee0cd92eb8469b75f9bb4"), looks := true }, kinds := [], alts := [], laidByText := true, laidKinds := [.data, .data, .data, .data, .sentinel, .sentinel, .data, .data, .widerDeep, .pinned], laidTests := true, laidLooks := .later }
def CertApartCardSaid : Prop := Claim7.holds Tryz.pinned (.plain (OpenSpec.ofChange certApartSpec)) certApartCard

/-- THE TIED CARD OF 'postmarklaw20.CertSmall'. -/
def certSmallCard : Claim7 := { stood := { row := certSmallRow, standIns := [], harness := (true, "ca4ef3a2e58fbf2a35acf9ca5429267dbc7c6c920d6ee0cd92eb8469b75f9bb4"), looks := true }, kinds := [], alts := [], laidByText := true, laidKinds := [.data, .data, .data, .data, .sentinel, .sentinel, .data, .data, .widerDeep, .pinned], laidTests := true, laidLooks := .later }
def CertSmallCardSaid : Prop := Claim7.holds Tryz.pinned (.plain (OpenSpec.ofChange certSmallSpec)) certSmallCard

/-- THE TIED CARD OF 'postmarklaw20.CertReads'. -/
def certReadsCard : Claim7 := { stood := { row := certReadsRow, standIns := [], harness := (true, "ca4ef3a2e58fbf2a35acf9ca5429267dbc7c6c920d6ee0cd92eb8469b75f9bb4"), looks := true }, kinds := [], alts := [], laidByText := true, laidKinds := [.data, .data, .data, .data, .sentinel, .sentinel, .data, .data, .widerDeep, .pinned], laidTests := true, laidLooks := .later }
def CertReadsCardSaid : Prop := Claim7.holds Tryz.pinned (.plain (OpenSpec.ofChange certReadsSpec)) certReadsCard

/-- THE TIED CARD OF 'postmarklaw20.CertBack'. -/
def certBackCard : Claim7 := { stood := { row := certBackRow, standIns := [], harness := (true, "ca4ef3a2e58fbf2a35acf9ca5429267dbc7c6c920d6ee0cd92eb8469b75f9bb4"), looks := true }, kinds := [], alts := [], laidByText := true, laidKinds := [.data, .data, .data, .data, .sentinel, .sentinel, .data, .data, .widerDeep, .pinned], laidTests := true, laidLooks := .later }
def CertBackCardSaid : Prop := Claim7.holds Tryz.pinned (.plain (OpenSpec.ofChange certBackSpec)) certBackCard

/-- THE TIED CARD OF 'postmarklaw20.CertNames'. -/
def certNamesCard : Claim7 := { stood := { row := certNamesRow, standIns := [], harness := (true, "ca4ef3a2e58fbf2a35acf9ca5429267dbc7c6c920d6ee0cd92eb8469b75f9bb4"), looks := true }, kinds := [], alts := [], laidByText := true, laidKinds := [.data, .data, .data, .data, .sentinel, .sentinel, .data, .data, .widerDeep, .pinned], laidTests := true, laidLooks := .later }
def CertNamesCardSaid : Prop := Claim7.holds Tryz.pinned (.plain (OpenSpec.ofChange certNamesSpec)) certNamesCard

/-- THE SECOND FORM's CARD OF 'postmarklaw20.CertAlgs'. -/
def certAlgsUptoCard : Claim7 := { stood := { row := certAlgsUptoRow, standIns := [], harness := (true, "ca4ef3a2e58fbf2a35acf9ca5429267dbc7c6c920d6ee0cd92eb8469b75f9bb4"), looks := true }, kinds := [], alts := [], laidByText := true, laidKinds := [.data, .data, .data, .data, .sentinel, .sentinel, .data, .data, .pinned], laidTests := true, laidLooks := .later }
def CertAlgsUptoCardSaid : Prop := Claim7.holds Tryz.pinned (.plain (OpenSpec.upto certAlgsSpec)) certAlgsUptoCard

/-- THE SECOND FORM's CARD OF 'postmarklaw20.CertParts'. -/
def certPartsUptoCard : Claim7 := { stood := { row := certPartsUptoRow, standIns := [], harness := (true, "ca4ef3a2e58fbf2a35acf9ca5429267dbc7c6c920d6ee0cd92eb8469b75f9bb4"), looks := true }, kinds := [], alts := [], laidByText := true, laidKinds := [.data, .data, .data, .data, .sentinel, .sentinel, .data, .data, .widerDeep, .pinned], laidTests := true, laidLooks := .later }
def CertPartsUptoCardSaid : Prop := Claim7.holds Tryz.pinned (.plain (OpenSpec.upto certPartsSpec)) certPartsUptoCard

/-- THE SECOND FORM's CARD OF 'postmarklaw20.CertApart'. -/
def certApartUptoCard : Claim7 := { stood := { row := certApartUptoRow, standIns := [], harness := (true, "ca4ef3a2e58fbf2a35acf9ca5429267dbc7c6c920d6ee0cd92eb8469b75f9bb4"), looks := true }, kinds := [], alts := [], laidByText := true, laidKinds := [.data, .data, .data, .data, .sentinel, .sentinel, .data, .data, .widerDeep, .pinned], laidTests := true, laidLooks := .later }
def CertApartUptoCardSaid : Prop := Claim7.holds Tryz.pinned (.plain (OpenSpec.upto certApartSpec)) certApartUptoCard

/-- THE SECOND FORM's CARD OF 'postmarklaw20.CertSmall'. -/
def certSmallUptoCard : Claim7 := { stood := { row := certSmallUptoRow, standIns := [], harness := (true, "ca4ef3a2e58fbf2a35acf9ca5429267dbc7c6c920d6ee0cd92eb8469b75f9bb4"), looks := true }, kinds := [], alts := [], laidByText := true, laidKinds := [.data, .data, .data, .data, .sentinel, .sentinel, .data, .data, .widerDeep, .pinned], laidTests := true, laidLooks := .later }
def CertSmallUptoCardSaid : Prop := Claim7.holds Tryz.pinned (.plain (OpenSpec.upto certSmallSpec)) certSmallUptoCard

/-- THE SECOND FORM's CARD OF 'postmarklaw20.CertReads'. -/
def certReadsUptoCard : Claim7 := { stood := { row := certReadsUptoRow, standIns := [], harness := (true, "ca4ef3a2e58fbf2a35acf9ca5429267dbc7c6c920d6ee0cd92eb8469b75f9bb4"), looks := true }, kinds := [], alts := [], laidByText := true, laidKinds := [.data, .data, .data, .data, .sentinel, .sentinel, .data, .data, .widerDeep, .pinned], laidTests := true, laidLooks := .later }
def CertReadsUptoCardSaid : Prop := Claim7.holds Tryz.pinned (.plain (OpenSpec.upto certReadsSpec)) certReadsUptoCard

/-- THE SECOND FORM's CARD OF 'postmarklaw20.CertBack'. -/
def certBackUptoCard : Claim7 := { stood := { row := certBackUptoRow, standIns := [], harness := (true, "ca4ef3a2e58fbf2a35acf9ca5429267dbc7c6c920d6ee0cd92eb8469b75f9bb4"), looks := true }, kinds := [], alts := [], laidByText := true, laidKinds := [.data, .data, .data, .data, .sentinel, .sentinel, .data, .data, .widerDeep, .pinned], laidTests := true, laidLooks := .later }
def CertBackUptoCardSaid : Prop := Claim7.holds Tryz.pinned (.plain (OpenSpec.upto certBackSpec)) certBackUptoCard

/-- THE SECOND FORM's CARD OF 'postmarklaw20.CertNames'. -/
def certNamesUptoCard : Claim7 := { stood := { row := certNamesUptoRow, standIns := [], harness := (true, "ca4ef3a2e58fbf2a35acf9ca5429267dbc7c6c920d6ee0cd92eb8469b75f9bb4"), looks := true }, kinds := [], alts := [], laidByText := true, laidKinds := [.data, .data, .data, .data, .sentinel, .sentinel, .data, .data, .widerDeep, .pinned], laidTests := true, laidLooks := .later }
def CertNamesUptoCardSaid : Prop := Claim7.holds Tryz.pinned (.plain (OpenSpec.upto certNamesSpec)) certNamesUptoCard
end Rows
end Go.Proofs.YtpajpkbipagjpaaGreatDoor
