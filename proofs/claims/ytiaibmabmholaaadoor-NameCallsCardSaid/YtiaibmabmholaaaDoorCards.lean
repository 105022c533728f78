/-
  DERIVED. GIVEN WITH THE SEED: THE CARDS: each row of YtiaibmabmholaaaDoorRows.lean that lists a variable, with what it lists TIED to the program's text (the seventh form; the later family's looks); each row that meets fmt, with fmt's text TOLD by the authors' own Lean function (tested against real Go, not proved from fmt's source: count such statements apart). THE CARD IS WHAT COUNTS. Prove the row's statement (the work); the ties are given (YtiaibmabmholaaaDoorTie.lean); close each card by the builder's one call (the guide's Derived/Test/ToyasCard.lean, 'card_holds'). Laid BY PROGRAM, IN A SANDBOX (cutbox-door.mjs). By AI agents, Wed Nov 11 2026. No macro, syntax, notation, axiom, sorry.
-/
import Derived.Test.YtiaibmabmholaaaDoorRows
import GoSem.ClaimSeven
namespace Go.Proofs.YtiaibmabmholaaaDoor
namespace Rows

/-- THE TIED CARD OF 'latchstringlaw02.NameUnder'. -/
def nameUnderCard : Claim7 := { stood := { row := nameUnderRow, standIns := [], harness := (true, "7b08d021071a6facc6e118607b11f1b232a7b0447bf87fcda806c0110b75d7f7"), looks := true }, kinds := [], alts := [], laidByText := true, laidKinds := [.data, .data, .data], laidTests := true, laidLooks := .later }
def NameUnderCardSaid : Prop := Claim7.holds Tryd.pinned (.plain (OpenSpec.ofChange nameUnderSpec)) nameUnderCard

/-- THE TIED CARD OF 'latchstringlaw02.NameOrder'. -/
def nameOrderCard : Claim7 := { stood := { row := nameOrderRow, standIns := [], harness := (true, "7b08d021071a6facc6e118607b11f1b232a7b0447bf87fcda806c0110b75d7f7"), looks := true }, kinds := [], alts := [], laidByText := true, laidKinds := [.data, .data, .data], laidTests := true, laidLooks := .later }
def NameOrderCardSaid : Prop := Claim7.holds Tryd.pinned (.plain (OpenSpec.ofChange nameOrderSpec)) nameOrderCard

/-- THE TIED CARD OF 'latchstringlaw02.NameAbove'. -/
def nameAboveCard : Claim7 := { stood := { row := nameAboveRow, standIns := [], harness := (true, "7b08d021071a6facc6e118607b11f1b232a7b0447bf87fcda806c0110b75d7f7"), looks := true }, kinds := [], alts := [], laidByText := true, laidKinds := [.data, .data, .data], laidTests := true, laidLooks := .later }
def NameAboveCardSaid : Prop := Claim7.holds Tryd.pinned (.plain (OpenSpec.ofChange nameAboveSpec)) nameAboveCard

/-- THE TIED CARD OF 'latchstringlaw02.NameBack'. -/
def nameBackCard : Claim7 := { stood := { row := nameBackRow, standIns := [], harness := (true, "7b08d021071a6facc6e118607b11f1b232a7b0447bf87fcda806c0110b75d7f7"), looks := true }, kinds := [], alts := [], laidByText := true, laidKinds := [.data, .data, .data, .sentinel, .sentinel], laidTests := true, laidLooks := .later }
def NameBackCardSaid : Prop := Claim7.holds Tryd.pinned (.plain (OpenSpec.ofChange nameBackSpec)) nameBackCard

/-- THE TIED CARD OF 'latchstringlaw02.NameNames'. -/
def nameNamesCard : Claim7 := { stood := { row := nameNamesRow, standIns := [], harness := (true, "7b08d021071a6facc6e118607b11f1b232a7b0447bf87fcda806c0110b75d7f7"), looks := true }, kinds := [], alts := [], laidByText := true, laidKinds := [.data, .data, .data, .sentinel, .sentinel], laidTests := true, laidLooks := .later }
def NameNamesCardSaid : Prop := Claim7.holds Tryd.pinned (.plain (OpenSpec.ofChange nameNamesSpec)) nameNamesCard

/-- THE TIED CARD OF 'latchstringlaw02.NameCalls'. -/
def nameCallsCard : Claim7 := { stood := { row := nameCallsRow, standIns := [], harness := (true, "7b08d021071a6facc6e118607b11f1b232a7b0447bf87fcda806c0110b75d7f7"), looks := true }, kinds := [], alts := [], laidByText := true, laidKinds := [.data, .data, .data, .sentinel, .sentinel], laidTests := true, laidLooks := .later }
def NameCallsCardSaid : Prop := Claim7.holds Tryd.pinned (.plain (OpenSpec.ofChange nameCallsSpec)) nameCallsCard

/-- THE SECOND FORM's CARD OF 'latchstringlaw02.NameUnder'. -/
def nameUnderUptoCard : Claim7 := { stood := { row := nameUnderUptoRow, standIns := [], harness := (true, "7b08d021071a6facc6e118607b11f1b232a7b0447bf87fcda806c0110b75d7f7"), looks := true }, kinds := [], alts := [], laidByText := true, laidKinds := [.data, .data, .data], laidTests := true, laidLooks := .later }
def NameUnderUptoCardSaid : Prop := Claim7.holds Tryd.pinned (.plain (OpenSpec.upto nameUnderSpec)) nameUnderUptoCard

/-- THE SECOND FORM's CARD OF 'latchstringlaw02.NameOrder'. -/
def nameOrderUptoCard : Claim7 := { stood := { row := nameOrderUptoRow, standIns := [], harness := (true, "7b08d021071a6facc6e118607b11f1b232a7b0447bf87fcda806c0110b75d7f7"), looks := true }, kinds := [], alts := [], laidByText := true, laidKinds := [.data, .data, .data], laidTests := true, laidLooks := .later }
def NameOrderUptoCardSaid : Prop := Claim7.holds Tryd.pinned (.plain (OpenSpec.upto nameOrderSpec)) nameOrderUptoCard

/-- THE SECOND FORM's CARD OF 'latchstringlaw02.NameAbove'. -/
def nameAboveUptoCard : Claim7 := { stood := { row := nameAboveUptoRow, standIns := [], harness := (true, "7b08d021071a6facc6e118607b11f1b232a7b0447bf87fcda806c0110b75d7f7"), looks := true }, kinds := [], alts := [], laidByText := true, laidKinds := [.data, .data, .data], laidTests := true, laidLooks := .later }
def NameAboveUptoCardSaid : Prop := Claim7.holds Tryd.pinned (.plain (OpenSpec.upto nameAboveSpec)) nameAboveUptoCard

/-- THE SECOND FORM's CARD OF 'latchstringlaw02.NameBack'. -/
def nameBackUptoCard : Claim7 := { stood := { row := nameBackUptoRow, standIns := [], harness := (true, "7b08d021071a6facc6e118607b11f1b232a7b0447bf87fcda806c0110b75d7f7"), looks := true }, kinds := [], alts := [], laidByText := true, laidKinds := [.data, .data, .data, .sentinel, .sentinel], laidTests := true, laidLooks := .later }
def NameBackUptoCardSaid : Prop := Claim7.holds Tryd.pinned (.plain (OpenSpec.upto nameBackSpec)) nameBackUptoCard

/-- THE SECOND FORM's CARD OF 'latchstringlaw02.NameNames'. -/
def nameNamesUptoCard : Claim7 := { stood := { row := nameNamesUptoRow, standIns := [], harness := (true, "7b08d021071a6facc6e118607b11f1b232a7b0447bf87fcda806c0110b75d7f7"), looks := true }, kinds := [], alts := [], laidByText := true, laidKinds := [.data, .data, .data, .sentinel, .sentinel], laidTests := true, laidLooks := .later }
def NameNamesUptoCardSaid : Prop := Claim7.holds Tryd.pinned (.plain (OpenSpec.upto nameNamesSpec)) nameNamesUptoCard

/-- THE SECOND FORM's CARD OF 'latchstringlaw02.NameCalls'. -/
def nameCallsUptoCard : Claim7 := { stood := { row := nameCallsUptoRow, standIns := [], harness := (true, "7b08d021071a6facc6e118607b11f1b232a7b0447bf87fcda806c0110b75d7f7"), looks := true }, kinds := [], alts := [], laidByText := true, laidKinds := [.data, .data, .data, .sentinel, .sentinel], laidTests := true, laidLooks := .later }
def NameCallsUptoCardSaid : Prop := Claim7.holds Tryd.pinned (.plain (OpenSpec.upto nameCallsSpec)) nameCallsUptoCard
end Rows
end Go.Proofs.YtiaibmabmholaaaDoor
