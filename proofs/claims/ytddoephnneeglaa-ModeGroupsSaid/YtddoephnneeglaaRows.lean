/-
  No cell of these rows narrows 'for every input' (looked for: loops, veiled, ifaces, maps, wideKeys, modest, calm, conditions, laid).
  DERIVED. THE GIVEN ROWS OF THIS SEAT. 5 by the template 'for every input the law returns true; each argument reads behind the call as it read before'; 0 by the template 'total and deterministic' (their statements: YtddoephnneeglaaTotals.lean).
  GIVEN WITH THE SEED: the statements are not yours to turn. If you find one false, say at which input.
  Laid BY PROGRAM, IN A SANDBOX (cutbox-rows.mjs): the forced cells as the released guide's own fill.sh prints them over the translation 55ceb4d64e88b111… (all of the seat's roots in one cut). By AI agents, Wed Nov 11 2026. No macro, syntax, notation, axiom, sorry.
-/
import Derived.Test.YtddoephnneeglaaChecked
import GoSem.Claim
import GoSem.ClaimJoined
import GoSem.ClaimMapViews
import Derived.JoinedTies
import Derived.KernelRfl
namespace Go.Proofs.Ytddoephnneeglaa
/- THE CELL 'sum', in the pinned program and in every row, IS THE sha256 OF THE DUMP (.gsa) THAT YtddoephnneeglaaProg.lean LOADS. Nothing in Lean hashes anything: it is a label: what it is worth is what the hold of that sum in a sandbox is worth. -/
noncomputable def Try.pinned : Pinned := { name := "ytddoephnneeglaa", sum := "55ceb4d64e88b11112ab137e69e36072f6ada64b33494af5053d1387776512b8", checked := Try.checked }
namespace Rows
def none {H : Type} : Left H := { results := [], args := [] }

/-- 'latchstringlaw01.ModeOrder': WHATEVER THE INPUT: true; the input reads as it did. -/
def modeOrderSpec : ChangeSpec := { name := "modeOrder", fn := fun _ => fun
  | [d1, d2, d3] => { results := [.lit (.bool true)], args := [d1, d2, d3] }
  | _ => none }
def modeOrderRow : OpenClaim := { program := "ytddoephnneeglaa", sum := "55ceb4d64e88b11112ab137e69e36072f6ada64b33494af5053d1387776512b8", func := "latchstring/latchstringlaw01.ModeOrder", spec := "modeOrder", apart := false }
def ModeOrderSaid : Prop := modeOrderRow.holds Try.pinned (OpenSpec.ofChange modeOrderSpec)

/-- ITS FALSE NEIGHBOUR: 'it returns false'. Refute it at one input. -/
def modeOrderWrong : ChangeSpec := { name := "modeOrder", fn := fun _ => fun
  | [d1, d2, d3] => { results := [.lit (.bool false)], args := [d1, d2, d3] }
  | _ => none }
def ModeOrderWrongFalsely : Prop := modeOrderRow.holds Try.pinned (OpenSpec.ofChange modeOrderWrong)

/-- 'latchstringlaw01.ModeWeaker': WHATEVER THE INPUT: true; the input reads as it did. -/
def modeWeakerSpec : ChangeSpec := { name := "modeWeaker", fn := fun _ => fun
  | [d1, d2, d3] => { results := [.lit (.bool true)], args := [d1, d2, d3] }
  | _ => none }
def modeWeakerRow : OpenClaim := { program := "ytddoephnneeglaa", sum := "55ceb4d64e88b11112ab137e69e36072f6ada64b33494af5053d1387776512b8", func := "latchstring/latchstringlaw01.ModeWeaker", spec := "modeWeaker", apart := false }
def ModeWeakerSaid : Prop := modeWeakerRow.holds Try.pinned (OpenSpec.ofChange modeWeakerSpec)

/-- ITS FALSE NEIGHBOUR: 'it returns false'. Refute it at one input. -/
def modeWeakerWrong : ChangeSpec := { name := "modeWeaker", fn := fun _ => fun
  | [d1, d2, d3] => { results := [.lit (.bool false)], args := [d1, d2, d3] }
  | _ => none }
def ModeWeakerWrongFalsely : Prop := modeWeakerRow.holds Try.pinned (OpenSpec.ofChange modeWeakerWrong)

/-- 'latchstringlaw01.ModeGroups': WHATEVER THE INPUT: true; the input reads as it did. -/
def modeGroupsSpec : ChangeSpec := { name := "modeGroups", fn := fun _ => fun
  | [d1, d2, d3] => { results := [.lit (.bool true)], args := [d1, d2, d3] }
  | _ => none }
def modeGroupsRow : OpenClaim := { program := "ytddoephnneeglaa", sum := "55ceb4d64e88b11112ab137e69e36072f6ada64b33494af5053d1387776512b8", func := "latchstring/latchstringlaw01.ModeGroups", spec := "modeGroups", apart := false }
def ModeGroupsSaid : Prop := modeGroupsRow.holds Try.pinned (OpenSpec.ofChange modeGroupsSpec)

/-- ITS FALSE NEIGHBOUR: 'it returns false'. Refute it at one input. -/
def modeGroupsWrong : ChangeSpec := { name := "modeGroups", fn := fun _ => fun
  | [d1, d2, d3] => { results := [.lit (.bool false)], args := [d1, d2, d3] }
  | _ => none }
def ModeGroupsWrongFalsely : Prop := modeGroupsRow.holds Try.pinned (OpenSpec.ofChange modeGroupsWrong)

/-- 'latchstringlaw01.ModeTexts': WHATEVER THE INPUT: true; the input reads as it did. -/
def modeTextsSpec : ChangeSpec := { name := "modeTexts", fn := fun _ => fun
  | [d1, d2, d3] => { results := [.lit (.bool true)], args := [d1, d2, d3] }
  | _ => none }
def modeTextsRow : OpenClaim := { program := "ytddoephnneeglaa", sum := "55ceb4d64e88b11112ab137e69e36072f6ada64b33494af5053d1387776512b8", func := "latchstring/latchstringlaw01.ModeTexts", spec := "modeTexts", apart := false }
def ModeTextsSaid : Prop := modeTextsRow.holds Try.pinned (OpenSpec.ofChange modeTextsSpec)

/-- ITS FALSE NEIGHBOUR: 'it returns false'. Refute it at one input. -/
def modeTextsWrong : ChangeSpec := { name := "modeTexts", fn := fun _ => fun
  | [d1, d2, d3] => { results := [.lit (.bool false)], args := [d1, d2, d3] }
  | _ => none }
def ModeTextsWrongFalsely : Prop := modeTextsRow.holds Try.pinned (OpenSpec.ofChange modeTextsWrong)

/-- 'latchstringlaw01.ModeNames': WHATEVER THE INPUT: true; the input reads as it did. -/
def modeNamesSpec : ChangeSpec := { name := "modeNames", fn := fun _ => fun
  | [] => { results := [.lit (.bool true)], args := [] }
  | _ => none }
def modeNamesRow : OpenClaim := { program := "ytddoephnneeglaa", sum := "55ceb4d64e88b11112ab137e69e36072f6ada64b33494af5053d1387776512b8", func := "latchstring/latchstringlaw01.ModeNames", spec := "modeNames", apart := false }
def ModeNamesSaid : Prop := modeNamesRow.holds Try.pinned (OpenSpec.ofChange modeNamesSpec)

/-- ITS FALSE NEIGHBOUR: 'it returns false'. Refute it at one input. -/
def modeNamesWrong : ChangeSpec := { name := "modeNames", fn := fun _ => fun
  | [] => { results := [.lit (.bool false)], args := [] }
  | _ => none }
def ModeNamesWrongFalsely : Prop := modeNamesRow.holds Try.pinned (OpenSpec.ofChange modeNamesWrong)

/- THE SECOND FORM. 'bulk': how many values and letters a reading holds, each counted each time it is reached (what is shared counts as often as it is met; a slice's spare places count too). A statement '..UptoSaid' is the law's where the arguments, and the package variables that the reading takes, are together of bulk at most 1048576: NARROWER than '..Said'. Prove '..Said' where nothing that the law and all that it calls make is longer than what came in: it says more and counts as full. Else prove '..UptoSaid'. A law counts once. -/
mutual
def uptoBulk {H : Type} : DataW H → Nat
  | .lit (.string bytes) => bytes.length + 1
  | .lit _ => 1
  | .nil => 1
  | .ptr d => uptoBulk d + 1
  | .slice elems spare => uptoBulkAll elems + uptoBulkAll spare + 1
  | .agg parts => uptoBulkAll parts + 1
  | .iface _ d => uptoBulk d + 1
  | .map entries => uptoBulkEntries entries + 1
  | .held _ => 1
def uptoBulkAll {H : Type} : List (DataW H) → Nat
  | [] => 0
  | d :: r => uptoBulk d + uptoBulkAll r
def uptoBulkEntries {H : Type} : List (Lit × DataW H) → Nat
  | [] => 0
  | x :: r => uptoBulkEntry x + uptoBulkEntries r
def uptoBulkEntry {H : Type} : Lit × DataW H → Nat
  | (.string bytes, d) => bytes.length + uptoBulk d + 1
  | (_, d) => uptoBulk d + 1
 end
def uptoSmall : (H : Type) → List (DataW H) → Bool := fun _ ds => decide (uptoBulkAll ds ≤ 1048576)
def OpenSpec.upto (s : _root_.Go.ChangeSpec) : _root_.Go.OpenSpec := { _root_.Go.OpenSpec.ofChange s with cond := some uptoSmall }

/-- 'latchstringlaw01.ModeOrder', WHERE WHAT IT READS IS OF BULK AT MOST 1048576: true; the input reads as it did. -/
def modeOrderUptoRow : OpenClaim := { program := "ytddoephnneeglaa", sum := "55ceb4d64e88b11112ab137e69e36072f6ada64b33494af5053d1387776512b8", func := "latchstring/latchstringlaw01.ModeOrder", spec := "modeOrder", apart := false, narrowed := true }
def ModeOrderUptoSaid : Prop := modeOrderUptoRow.holds Try.pinned (OpenSpec.upto modeOrderSpec)

/-- 'latchstringlaw01.ModeWeaker', WHERE WHAT IT READS IS OF BULK AT MOST 1048576: true; the input reads as it did. -/
def modeWeakerUptoRow : OpenClaim := { program := "ytddoephnneeglaa", sum := "55ceb4d64e88b11112ab137e69e36072f6ada64b33494af5053d1387776512b8", func := "latchstring/latchstringlaw01.ModeWeaker", spec := "modeWeaker", apart := false, narrowed := true }
def ModeWeakerUptoSaid : Prop := modeWeakerUptoRow.holds Try.pinned (OpenSpec.upto modeWeakerSpec)

/-- 'latchstringlaw01.ModeGroups', WHERE WHAT IT READS IS OF BULK AT MOST 1048576: true; the input reads as it did. -/
def modeGroupsUptoRow : OpenClaim := { program := "ytddoephnneeglaa", sum := "55ceb4d64e88b11112ab137e69e36072f6ada64b33494af5053d1387776512b8", func := "latchstring/latchstringlaw01.ModeGroups", spec := "modeGroups", apart := false, narrowed := true }
def ModeGroupsUptoSaid : Prop := modeGroupsUptoRow.holds Try.pinned (OpenSpec.upto modeGroupsSpec)

/-- 'latchstringlaw01.ModeTexts', WHERE WHAT IT READS IS OF BULK AT MOST 1048576: true; the input reads as it did. -/
def modeTextsUptoRow : OpenClaim := { program := "ytddoephnneeglaa", sum := "55ceb4d64e88b11112ab137e69e36072f6ada64b33494af5053d1387776512b8", func := "latchstring/latchstringlaw01.ModeTexts", spec := "modeTexts", apart := false, narrowed := true }
def ModeTextsUptoSaid : Prop := modeTextsUptoRow.holds Try.pinned (OpenSpec.upto modeTextsSpec)

/-- 'latchstringlaw01.ModeNames', WHERE WHAT IT READS IS OF BULK AT MOST 1048576: true; the input reads as it did. -/
def modeNamesUptoRow : OpenClaim := { program := "ytddoephnneeglaa", sum := "55ceb4d64e88b11112ab137e69e36072f6ada64b33494af5053d1387776512b8", func := "latchstring/latchstringlaw01.ModeNames", spec := "modeNames", apart := false, narrowed := true }
def ModeNamesUptoSaid : Prop := modeNamesUptoRow.holds Try.pinned (OpenSpec.upto modeNamesSpec)

end Rows
end Go.Proofs.Ytddoephnneeglaa
