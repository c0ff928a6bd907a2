/-
  DERIVED. GIVEN WITH THE SEED: THE CARDS: each row of YtgfadocohpinmaaDoorRows.lean that lists a variable, with what it lists TIED to the program's text (the seventh form; the later family's looks); each row that meets fmt, with fmt's text TOLD by the authors' own Lean function (tested against real Go, not proved from fmt's source: count such statements apart). THE CARD IS WHAT COUNTS. Prove the row's statement (the work); the ties are given (YtgfadocohpinmaaDoorTie.lean); close each card by the builder's one call (the guide's Derived/Test/ToyasCard.lean, 'card_holds'). Laid BY PROGRAM, IN A SANDBOX (cutbox-door.mjs). By AI agents, Wed Nov 11 2026. No macro, syntax, notation, axiom, sorry.
-/
import Derived.Test.YtgfadocohpinmaaDoorRows
import GoSem.ClaimSeven
namespace Go.Proofs.YtgfadocohpinmaaDoor
namespace Rows

/-- THE TIED CARD OF 'postmarklaw14.OidTexts'. -/
def oidTextsCard : Claim7 := { stood := { row := oidTextsRow, standIns := [], harness := (true, "d52c236acdd925ac7c657b39964abf63ad4e5595c07a2899e3d5f3c9ce037382"), looks := true }, kinds := [], alts := [], laidByText := true, laidKinds := [.data, .data, .data, .data, .sentinel, .sentinel, .pinned], laidTests := true, laidLooks := .later }
def OidTextsCardSaid : Prop := Claim7.holds Tryd.pinned (.plain (OpenSpec.ofChange oidTextsSpec)) oidTextsCard

/-- THE TIED CARD OF 'postmarklaw14.OidBack'. -/
def oidBackCard : Claim7 := { stood := { row := oidBackRow, standIns := [], harness := (true, "d52c236acdd925ac7c657b39964abf63ad4e5595c07a2899e3d5f3c9ce037382"), looks := true }, kinds := [], alts := [], laidByText := true, laidKinds := [.data, .data, .data, .data, .sentinel, .sentinel, .pinned], laidTests := true, laidLooks := .later }
def OidBackCardSaid : Prop := Claim7.holds Tryd.pinned (.plain (OpenSpec.ofChange oidBackSpec)) oidBackCard

/-- THE TIED CARD OF 'postmarklaw14.OidForms'. -/
def oidFormsCard : Claim7 := { stood := { row := oidFormsRow, standIns := [], harness := (true, "d52c236acdd925ac7c657b39964abf63ad4e5595c07a2899e3d5f3c9ce037382"), looks := true }, kinds := [], alts := [], laidByText := true, laidKinds := [.data, .data, .data, .data, .sentinel, .sentinel, .data, .pinned], laidTests := true, laidLooks := .later }
def OidFormsCardSaid : Prop := Claim7.holds Tryd.pinned (.plain (OpenSpec.ofChange oidFormsSpec)) oidFormsCard

/-- THE TIED CARD OF 'postmarklaw14.OidNames'. -/
def oidNamesCard : Claim7 := { stood := { row := oidNamesRow, standIns := [], harness := (true, "d52c236acdd925ac7c657b39964abf63ad4e5595c07a2899e3d5f3c9ce037382"), looks := true }, kinds := [], alts := [], laidByText := true, laidKinds := [.data, .data, .data, .data, .sentinel, .sentinel, .data, .pinned], laidTests := true, laidLooks := .later }
def OidNamesCardSaid : Prop := Claim7.holds Tryd.pinned (.plain (OpenSpec.ofChange oidNamesSpec)) oidNamesCard

/-- THE SECOND FORM's CARD OF 'postmarklaw14.OidTexts'. -/
def oidTextsUptoCard : Claim7 := { stood := { row := oidTextsUptoRow, standIns := [], harness := (true, "d52c236acdd925ac7c657b39964abf63ad4e5595c07a2899e3d5f3c9ce037382"), looks := true }, kinds := [], alts := [], laidByText := true, laidKinds := [.data, .data, .data, .data, .sentinel, .sentinel, .pinned], laidTests := true, laidLooks := .later }
def OidTextsUptoCardSaid : Prop := Claim7.holds Tryd.pinned (.plain (OpenSpec.upto oidTextsSpec)) oidTextsUptoCard

/-- THE SECOND FORM's CARD OF 'postmarklaw14.OidBack'. -/
def oidBackUptoCard : Claim7 := { stood := { row := oidBackUptoRow, standIns := [], harness := (true, "d52c236acdd925ac7c657b39964abf63ad4e5595c07a2899e3d5f3c9ce037382"), looks := true }, kinds := [], alts := [], laidByText := true, laidKinds := [.data, .data, .data, .data, .sentinel, .sentinel, .pinned], laidTests := true, laidLooks := .later }
def OidBackUptoCardSaid : Prop := Claim7.holds Tryd.pinned (.plain (OpenSpec.upto oidBackSpec)) oidBackUptoCard

/-- THE SECOND FORM's CARD OF 'postmarklaw14.OidForms'. -/
def oidFormsUptoCard : Claim7 := { stood := { row := oidFormsUptoRow, standIns := [], harness := (true, "d52c236acdd925ac7c657b39964abf63ad4e5595c07a2899e3d5f3c9ce037382"), looks := true }, kinds := [], alts := [], laidByText := true, laidKinds := [.data, .data, .data, .data, .sentinel, .sentinel, .data, .pinned], laidTests := true, laidLooks := .later }
def OidFormsUptoCardSaid : Prop := Claim7.holds Tryd.pinned (.plain (OpenSpec.upto oidFormsSpec)) oidFormsUptoCard

/-- THE SECOND FORM's CARD OF 'postmarklaw14.OidNames'. -/
def oidNamesUptoCard : Claim7 := { stood := { row := oidNamesUptoRow, standIns := [], harness := (true, "d52c236acdd925ac7c657b39964abf63ad4e5595c07a2899e3d5f3c9ce037382"), looks := true }, kinds := [], alts := [], laidByText := true, laidKinds := [.data, .data, .data, .data, .sentinel, .sentinel, .data, .pinned], laidTests := true, laidLooks := .later }
def OidNamesUptoCardSaid : Prop := Claim7.holds Tryd.pinned (.plain (OpenSpec.upto oidNamesSpec)) oidNamesUptoCard
end Rows
end Go.Proofs.YtgfadocohpinmaaDoor
