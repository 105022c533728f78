/-
  No cell of these rows narrows 'for every input' (looked for: loops, veiled, ifaces, maps, wideKeys, modest, calm, conditions, laid).
  DERIVED. THE GIVEN ROWS OF THIS SEAT. 4 by the template 'for every input the law returns true; each argument reads behind the call as it read before'; 0 by the template 'total and deterministic' (their statements: YtidbidalalajbaaTotals.lean).
  GIVEN WITH THE SEED: the statements are not yours to turn. If you find one false, say at which input.
  Laid BY PROGRAM, IN A SANDBOX (cutbox-rows.mjs): the forced cells as the released guide's own fill.sh prints them over the translation 6086d4b8c219962e… (all of the seat's roots in one cut). By AI agents, Wed Nov 11 2026. No macro, syntax, notation, axiom, sorry.
-/
import Derived.Test.YtidbidalalajbaaChecked
import GoSem.Claim
import GoSem.ClaimJoined
import GoSem.ClaimMapViews
import Derived.JoinedTies
import Derived.KernelRfl
namespace Go.Proofs.Ytidbidalalajbaa
/- THE CELL 'sum', in the pinned program and in every row, IS THE sha256 OF THE DUMP (.gsa) THAT YtidbidalalajbaaProg.lean LOADS. Nothing in Lean hashes anything: it is a label: what it is worth is what the hold of that sum in a sandbox is worth. -/
noncomputable def Try.pinned : Pinned := { name := "ytidbidalalajbaa", sum := "6086d4b8c219962e9dd77a342149758a8ea40ab6fac090c842732b86791d162f", checked := Try.checked }
namespace Rows
def none {H : Type} : Left H := { results := [], args := [] }

/-- 'latchstringlaw24.UndoNames': WHATEVER THE INPUT: true; the input reads as it did. -/
def undoNamesSpec : ChangeSpec := { name := "undoNames", fn := fun _ => fun
  | [] => { results := [.lit (.bool true)], args := [] }
  | _ => none }
def undoNamesRow : OpenClaim := { program := "ytidbidalalajbaa", sum := "6086d4b8c219962e9dd77a342149758a8ea40ab6fac090c842732b86791d162f", func := "latchstring/latchstringlaw24.UndoNames", spec := "undoNames", unfollowed := true, recurses := true, plainKeys := false, apart := false }
def UndoNamesSaid : Prop := undoNamesRow.holds Try.pinned (OpenSpec.ofChange undoNamesSpec)

/-- ITS FALSE NEIGHBOUR: 'it returns false'. Refute it at one input. -/
def undoNamesWrong : ChangeSpec := { name := "undoNames", fn := fun _ => fun
  | [] => { results := [.lit (.bool false)], args := [] }
  | _ => none }
def UndoNamesWrongFalsely : Prop := undoNamesRow.holds Try.pinned (OpenSpec.ofChange undoNamesWrong)

/-- 'latchstringlaw24.UndoScript': WHATEVER THE INPUT: true; the input reads as it did. -/
def undoScriptSpec : ChangeSpec := { name := "undoScript", fn := fun _ => fun
  | [d] => { results := [.lit (.bool true)], args := [d] }
  | _ => none }
def undoScriptRow : OpenClaim := { program := "ytidbidalalajbaa", sum := "6086d4b8c219962e9dd77a342149758a8ea40ab6fac090c842732b86791d162f", func := "latchstring/latchstringlaw24.UndoScript", spec := "undoScript", unfollowed := true, recurses := true, plainKeys := false, apart := false }
def UndoScriptSaid : Prop := undoScriptRow.holds Try.pinned (OpenSpec.ofChange undoScriptSpec)

/-- ITS FALSE NEIGHBOUR: 'it returns false'. Refute it at one input. -/
def undoScriptWrong : ChangeSpec := { name := "undoScript", fn := fun _ => fun
  | [d] => { results := [.lit (.bool false)], args := [d] }
  | _ => none }
def UndoScriptWrongFalsely : Prop := undoScriptRow.holds Try.pinned (OpenSpec.ofChange undoScriptWrong)

/-- 'latchstringlaw24.UndoBack': WHATEVER THE INPUT: true; the input reads as it did. -/
def undoBackSpec : ChangeSpec := { name := "undoBack", fn := fun _ => fun
  | [d1, d2] => { results := [.lit (.bool true)], args := [d1, d2] }
  | _ => none }
def undoBackRow : OpenClaim := { program := "ytidbidalalajbaa", sum := "6086d4b8c219962e9dd77a342149758a8ea40ab6fac090c842732b86791d162f", func := "latchstring/latchstringlaw24.UndoBack", spec := "undoBack", inPlace := ["maps.clone"], unfollowed := true, recurses := true, plainKeys := false, apart := false }
def UndoBackSaid : Prop := undoBackRow.holds Try.pinned (OpenSpec.ofChange undoBackSpec)

/-- ITS FALSE NEIGHBOUR: 'it returns false'. Refute it at one input. -/
def undoBackWrong : ChangeSpec := { name := "undoBack", fn := fun _ => fun
  | [d1, d2] => { results := [.lit (.bool false)], args := [d1, d2] }
  | _ => none }
def UndoBackWrongFalsely : Prop := undoBackRow.holds Try.pinned (OpenSpec.ofChange undoBackWrong)

/-- 'latchstringlaw24.UndoParts': WHATEVER THE INPUT: true; the input reads as it did. -/
def undoPartsSpec : ChangeSpec := { name := "undoParts", fn := fun _ => fun
  | [d1, d2] => { results := [.lit (.bool true)], args := [d1, d2] }
  | _ => none }
def undoPartsRow : OpenClaim := { program := "ytidbidalalajbaa", sum := "6086d4b8c219962e9dd77a342149758a8ea40ab6fac090c842732b86791d162f", func := "latchstring/latchstringlaw24.UndoParts", spec := "undoParts", inPlace := ["maps.clone"], unfollowed := true, recurses := true, plainKeys := false, apart := false }
def UndoPartsSaid : Prop := undoPartsRow.holds Try.pinned (OpenSpec.ofChange undoPartsSpec)

/-- ITS FALSE NEIGHBOUR: 'it returns false'. Refute it at one input. -/
def undoPartsWrong : ChangeSpec := { name := "undoParts", fn := fun _ => fun
  | [d1, d2] => { results := [.lit (.bool false)], args := [d1, d2] }
  | _ => none }
def UndoPartsWrongFalsely : Prop := undoPartsRow.holds Try.pinned (OpenSpec.ofChange undoPartsWrong)

/- THE SECOND FORM. 'bulk': how many values and letters a reading holds, each counted each time it is reached (what is shared counts as often as it is met; a slice's spare places count too). A statement '..UptoSaid' is the law's where the arguments, and the package variables that the reading takes, are together of bulk at most 1048576: NARROWER than '..Said'. Prove '..Said' where nothing that the law and all that it calls make is longer than what came in: it says more and counts as full. Else prove '..UptoSaid'. A law counts once. -/
mutual
def uptoBulk {H : Type} : DataW H → Nat
  | .lit (.string bytes) => bytes.length + 1
  | .lit _ => 1
  | .nil => 1
  | .ptr d => uptoBulk d + 1
  | .slice elems spare => uptoBulkAll elems + uptoBulkAll spare + 1
  | .agg parts => uptoBulkAll parts + 1
  | .iface _ d => uptoBulk d + 1
  | .map entries => uptoBulkEntries entries + 1
  | .held _ => 1
def uptoBulkAll {H : Type} : List (DataW H) → Nat
  | [] => 0
  | d :: r => uptoBulk d + uptoBulkAll r
def uptoBulkEntries {H : Type} : List (Lit × DataW H) → Nat
  | [] => 0
  | x :: r => uptoBulkEntry x + uptoBulkEntries r
def uptoBulkEntry {H : Type} : Lit × DataW H → Nat
  | (.string bytes, d) => bytes.length + uptoBulk d + 1
  | (_, d) => uptoBulk d + 1
 end
def uptoSmall : (H : Type) → List (DataW H) → Bool := fun _ ds => decide (uptoBulkAll ds ≤ 1048576)
def OpenSpec.upto (s : _root_.Go.ChangeSpec) : _root_.Go.OpenSpec := { _root_.Go.OpenSpec.ofChange s with cond := some uptoSmall }

/-- 'latchstringlaw24.UndoNames', WHERE WHAT IT READS IS OF BULK AT MOST 1048576: true; the input reads as it did. -/
def undoNamesUptoRow : OpenClaim := { program := "ytidbidalalajbaa", sum := "6086d4b8c219962e9dd77a342149758a8ea40ab6fac090c842732b86791d162f", func := "latchstring/latchstringlaw24.UndoNames", spec := "undoNames", unfollowed := true, recurses := true, plainKeys := false, apart := false, narrowed := true }
def UndoNamesUptoSaid : Prop := undoNamesUptoRow.holds Try.pinned (OpenSpec.upto undoNamesSpec)

/-- 'latchstringlaw24.UndoScript', WHERE WHAT IT READS IS OF BULK AT MOST 1048576: true; the input reads as it did. -/
def undoScriptUptoRow : OpenClaim := { program := "ytidbidalalajbaa", sum := "6086d4b8c219962e9dd77a342149758a8ea40ab6fac090c842732b86791d162f", func := "latchstring/latchstringlaw24.UndoScript", spec := "undoScript", unfollowed := true, recurses := true, plainKeys := false, apart := false, narrowed := true }
def UndoScriptUptoSaid : Prop := undoScriptUptoRow.holds Try.pinned (OpenSpec.upto undoScriptSpec)

/-- 'latchstringlaw24.UndoBack', WHERE WHAT IT READS IS OF BULK AT MOST 1048576: true; the input reads as it did. -/
def undoBackUptoRow : OpenClaim := { program := "ytidbidalalajbaa", sum := "6086d4b8c219962e9dd77a342149758a8ea40ab6fac090c842732b86791d162f", func := "latchstring/latchstringlaw24.UndoBack", spec := "undoBack", inPlace := ["maps.clone"], unfollowed := true, recurses := true, plainKeys := false, apart := false, narrowed := true }
def UndoBackUptoSaid : Prop := undoBackUptoRow.holds Try.pinned (OpenSpec.upto undoBackSpec)

/-- 'latchstringlaw24.UndoParts', WHERE WHAT IT READS IS OF BULK AT MOST 1048576: true; the input reads as it did. -/
def undoPartsUptoRow : OpenClaim := { program := "ytidbidalalajbaa", sum := "6086d4b8c219962e9dd77a342149758a8ea40ab6fac090c842732b86791d162f", func := "latchstring/latchstringlaw24.UndoParts", spec := "undoParts", inPlace := ["maps.clone"], unfollowed := true, recurses := true, plainKeys := false, apart := false, narrowed := true }
def UndoPartsUptoSaid : Prop := undoPartsUptoRow.holds Try.pinned (OpenSpec.upto undoPartsSpec)

end Rows
end Go.Proofs.Ytidbidalalajbaa
