/-
  DERIVED. GIVEN WITH THE SEED: THE CARDS: each row of YtechagciefhpbaaDoorRows.lean that lists a variable, with what it lists TIED to the program's text (the seventh form; the later family's looks); each row that meets fmt, with fmt's text TOLD by the authors' own Lean function (tested against real Go, not proved from fmt's source: count such statements apart). THE CARD IS WHAT COUNTS. Prove the row's statement (the work); the ties are given (YtechagciefhpbaaDoorTie.lean); close each card by the builder's one call (the guide's Derived/Test/ToyasCard.lean, 'card_holds'). Laid BY PROGRAM, IN A SANDBOX (cutbox-door.mjs). By AI agents, Wed Nov 11 2026. No macro, syntax, notation, axiom, sorry.
-/
import Derived.Test.YtechagciefhpbaaDoorRows
import GoSem.ClaimSeven
namespace Go.Proofs.YtechagciefhpbaaDoor
namespace Rows

/-- THE TIED CARD OF 'latchstringlaw08.HistoryNames'. -/
def historyNamesCard : Claim7 := { stood := { row := historyNamesRow, standIns := [], harness := (true, "658cb8a8629d59ca37645fc62c29d95055669e055ca96220d6767c6ad931b64a"), looks := false }, kinds := [], alts := [], laidByText := true, laidKinds := [.data, .data, .data, .listed, .data], laidTests := true, laidLooks := .later }
def HistoryNamesCardSaid : Prop := Claim7.holds Tryd.pinned (.plain (OpenSpec.ofChange historyNamesSpec)) historyNamesCard

/-- THE SECOND FORM's CARD OF 'latchstringlaw08.HistoryNames'. -/
def historyNamesUptoCard : Claim7 := { stood := { row := historyNamesUptoRow, standIns := [], harness := (true, "658cb8a8629d59ca37645fc62c29d95055669e055ca96220d6767c6ad931b64a"), looks := false }, kinds := [], alts := [], laidByText := true, laidKinds := [.data, .data, .data, .listed, .data], laidTests := true, laidLooks := .later }
def HistoryNamesUptoCardSaid : Prop := Claim7.holds Tryd.pinned (.plain (OpenSpec.upto historyNamesSpec)) historyNamesUptoCard
end Rows
end Go.Proofs.YtechagciefhpbaaDoor
