/-
  DERIVED. GIVEN WITH THE SEED: THE CARDS: each row of YtgbffkjfjkfiaaaDoorRows.lean that lists a variable, with what it lists TIED to the program's text (the seventh form; the later family's looks); each row that meets fmt, with fmt's text TOLD by the authors' own Lean function (tested against real Go, not proved from fmt's source: count such statements apart). THE CARD IS WHAT COUNTS. Prove the row's statement (the work); the ties are given (YtgbffkjfjkfiaaaDoorTie.lean); close each card by the builder's one call (the guide's Derived/Test/ToyasCard.lean, 'card_holds'). Laid BY PROGRAM, IN A SANDBOX (cutbox-door.mjs). By AI agents, Wed Nov 11 2026. No macro, syntax, notation, axiom, sorry.
-/
import Derived.Test.YtgbffkjfjkfiaaaDoorRows
import GoSem.ClaimSeven
namespace Go.Proofs.YtgbffkjfjkfiaaaDoor
namespace Rows

/-- THE TIED CARD OF 'latchstringlaw03.StripeAll'. -/
def stripeAllCard : Claim7 := { stood := { row := stripeAllRow, standIns := [], harness := (true, "d7d3e0f30a28b3f5eed7aa3c77179fcd4e47b22bd5fa04965aac36998826edd4"), looks := false }, kinds := [], alts := [], laidByText := true, laidKinds := [.data, .data, .data], laidTests := true, laidLooks := .later }
def StripeAllCardSaid : Prop := Claim7.holds Tryd.pinned (.plain (OpenSpec.ofChange stripeAllSpec)) stripeAllCard

/-- THE TIED CARD OF 'latchstringlaw03.StripeNames'. -/
def stripeNamesCard : Claim7 := { stood := { row := stripeNamesRow, standIns := [], harness := (true, "d7d3e0f30a28b3f5eed7aa3c77179fcd4e47b22bd5fa04965aac36998826edd4"), looks := false }, kinds := [], alts := [], laidByText := true, laidKinds := [.data, .data, .data], laidTests := true, laidLooks := .later }
def StripeNamesCardSaid : Prop := Claim7.holds Tryd.pinned (.plain (OpenSpec.ofChange stripeNamesSpec)) stripeNamesCard

/-- THE TIED CARD OF 'latchstringlaw03.StripeCalls'. -/
def stripeCallsCard : Claim7 := { stood := { row := stripeCallsRow, standIns := [], harness := (true, "d7d3e0f30a28b3f5eed7aa3c77179fcd4e47b22bd5fa04965aac36998826edd4"), looks := false }, kinds := [], alts := [], laidByText := true, laidKinds := [.data, .data, .data], laidTests := true, laidLooks := .later }
def StripeCallsCardSaid : Prop := Claim7.holds Tryd.pinned (.plain (OpenSpec.ofChange stripeCallsSpec)) stripeCallsCard

/-- THE TIED CARD OF 'latchstringlaw03.StripeTurns'. -/
def stripeTurnsCard : Claim7 := { stood := { row := stripeTurnsRow, standIns := [], harness := (true, "d7d3e0f30a28b3f5eed7aa3c77179fcd4e47b22bd5fa04965aac36998826edd4"), looks := false }, kinds := [], alts := [], laidByText := true, laidKinds := [.data, .data, .data], laidTests := true, laidLooks := .later }
def StripeTurnsCardSaid : Prop := Claim7.holds Tryd.pinned (.plain (OpenSpec.ofChange stripeTurnsSpec)) stripeTurnsCard

/-- THE SECOND FORM's CARD OF 'latchstringlaw03.StripeAll'. -/
def stripeAllUptoCard : Claim7 := { stood := { row := stripeAllUptoRow, standIns := [], harness := (true, "d7d3e0f30a28b3f5eed7aa3c77179fcd4e47b22bd5fa04965aac36998826edd4"), looks := false }, kinds := [], alts := [], laidByText := true, laidKinds := [.data, .data, .data], laidTests := true, laidLooks := .later }
def StripeAllUptoCardSaid : Prop := Claim7.holds Tryd.pinned (.plain (OpenSpec.upto stripeAllSpec)) stripeAllUptoCard

/-- THE SECOND FORM's CARD OF 'latchstringlaw03.StripeNames'. -/
def stripeNamesUptoCard : Claim7 := { stood := { row := stripeNamesUptoRow, standIns := [], harness := (true, "d7d3e0f30a28b3f5eed7aa3c77179fcd4e47b22bd5fa04965aac36998826edd4"), looks := false }, kinds := [], alts := [], laidByText := true, laidKinds := [.data, .data, .data], laidTests := true, laidLooks := .later }
def StripeNamesUptoCardSaid : Prop := Claim7.holds Tryd.pinned (.plain (OpenSpec.upto stripeNamesSpec)) stripeNamesUptoCard

/-- THE SECOND FORM's CARD OF 'latchstringlaw03.StripeCalls'. -/
def stripeCallsUptoCard : Claim7 := { stood := { row := stripeCallsUptoRow, standIns := [], harness := (true, "d7d3e0f30a28b3f5eed7aa3c77179fcd4e47b22bd5fa04965aac36998826edd4"), looks := false }, kinds := [], alts := [], laidByText := true, laidKinds := [.data, .data, .data], laidTests := true, laidLooks := .later }
def StripeCallsUptoCardSaid : Prop := Claim7.holds Tryd.pinned (.plain (OpenSpec.upto stripeCallsSpec)) stripeCallsUptoCard

/-- THE SECOND FORM's CARD OF 'latchstringlaw03.StripeTurns'. -/
def stripeTurnsUptoCard : Claim7 := { stood := { row := stripeTurnsUptoRow, standIns := [], harness := (true, "d7d3e0f30a28b3f5eed7aa3c77179fcd4e47b22bd5fa04965aac36998826edd4"), looks := false }, kinds := [], alts := [], laidByText := true, laidKinds := [.data, .data, .data], laidTests := true, laidLooks := .later }
def StripeTurnsUptoCardSaid : Prop := Claim7.holds Tryd.pinned (.plain (OpenSpec.upto stripeTurnsSpec)) stripeTurnsUptoCard
end Rows
end Go.Proofs.YtgbffkjfjkfiaaaDoor
