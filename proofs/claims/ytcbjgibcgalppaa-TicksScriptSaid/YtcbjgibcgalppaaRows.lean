/-
  No cell of these rows narrows 'for every input' (looked for: loops, veiled, ifaces, maps, wideKeys, modest, calm, conditions, laid).
  DERIVED. THE GIVEN ROWS OF THIS SEAT. 4 by the template 'for every input the law returns true; each argument reads behind the call as it read before'; 0 by the template 'total and deterministic' (their statements: YtcbjgibcgalppaaTotals.lean).
  GIVEN WITH THE SEED: the statements are not yours to turn. If you find one false, say at which input.
  Laid BY PROGRAM, IN A SANDBOX (cutbox-rows.mjs): the forced cells as the released guide's own fill.sh prints them over the translation 0b3e0f7f38b725cf… (all of the seat's roots in one cut). By AI agents, Wed Nov 11 2026. No macro, syntax, notation, axiom, sorry.
-/
import Derived.Test.YtcbjgibcgalppaaChecked
import GoSem.Claim
import GoSem.ClaimJoined
import GoSem.ClaimMapViews
import Derived.JoinedTies
import Derived.KernelRfl
namespace Go.Proofs.Ytcbjgibcgalppaa
/- THE CELL 'sum', in the pinned program and in every row, IS THE sha256 OF THE DUMP (.gsa) THAT YtcbjgibcgalppaaProg.lean LOADS. Nothing in Lean hashes anything: it is a label: what it is worth is what the hold of that sum in a sandbox is worth. -/
noncomputable def Try.pinned : Pinned := { name := "ytcbjgibcgalppaa", sum := "0b3e0f7f38b725cfb47c0a0c7bf34f6822e9133df78cf1d04e241f8325a005e6", checked := Try.checked }
namespace Rows
def none {H : Type} : Left H := { results := [], args := [] }

/-- 'latchstringlaw04.TicksOnce': WHATEVER THE INPUT: true; the input reads as it did. -/
def ticksOnceSpec : ChangeSpec := { name := "ticksOnce", fn := fun _ => fun
  | [d1, d2, d3] => { results := [.lit (.bool true)], args := [d1, d2, d3] }
  | _ => none }
def ticksOnceRow : OpenClaim := { program := "ytcbjgibcgalppaa", sum := "0b3e0f7f38b725cfb47c0a0c7bf34f6822e9133df78cf1d04e241f8325a005e6", func := "latchstring/latchstringlaw04.TicksOnce", spec := "ticksOnce", unfollowed := true, recurses := true, apart := false }
def TicksOnceSaid : Prop := ticksOnceRow.holds Try.pinned (OpenSpec.ofChange ticksOnceSpec)

/-- ITS FALSE NEIGHBOUR: 'it returns false'. Refute it at one input. -/
def ticksOnceWrong : ChangeSpec := { name := "ticksOnce", fn := fun _ => fun
  | [d1, d2, d3] => { results := [.lit (.bool false)], args := [d1, d2, d3] }
  | _ => none }
def TicksOnceWrongFalsely : Prop := ticksOnceRow.holds Try.pinned (OpenSpec.ofChange ticksOnceWrong)

/-- 'latchstringlaw04.TicksNames': WHATEVER THE INPUT: true; the input reads as it did. -/
def ticksNamesSpec : ChangeSpec := { name := "ticksNames", fn := fun _ => fun
  | [] => { results := [.lit (.bool true)], args := [] }
  | _ => none }
def ticksNamesRow : OpenClaim := { program := "ytcbjgibcgalppaa", sum := "0b3e0f7f38b725cfb47c0a0c7bf34f6822e9133df78cf1d04e241f8325a005e6", func := "latchstring/latchstringlaw04.TicksNames", spec := "ticksNames", unfollowed := true, recurses := true, apart := false }
def TicksNamesSaid : Prop := ticksNamesRow.holds Try.pinned (OpenSpec.ofChange ticksNamesSpec)

/-- ITS FALSE NEIGHBOUR: 'it returns false'. Refute it at one input. -/
def ticksNamesWrong : ChangeSpec := { name := "ticksNames", fn := fun _ => fun
  | [] => { results := [.lit (.bool false)], args := [] }
  | _ => none }
def TicksNamesWrongFalsely : Prop := ticksNamesRow.holds Try.pinned (OpenSpec.ofChange ticksNamesWrong)

/-- 'latchstringlaw04.TicksParts': WHATEVER THE INPUT: true; the input reads as it did. -/
def ticksPartsSpec : ChangeSpec := { name := "ticksParts", fn := fun _ => fun
  | [d1, d2, d3] => { results := [.lit (.bool true)], args := [d1, d2, d3] }
  | _ => none }
def ticksPartsRow : OpenClaim := { program := "ytcbjgibcgalppaa", sum := "0b3e0f7f38b725cfb47c0a0c7bf34f6822e9133df78cf1d04e241f8325a005e6", func := "latchstring/latchstringlaw04.TicksParts", spec := "ticksParts", unfollowed := true, recurses := true, apart := false }
def TicksPartsSaid : Prop := ticksPartsRow.holds Try.pinned (OpenSpec.ofChange ticksPartsSpec)

/-- ITS FALSE NEIGHBOUR: 'it returns false'. Refute it at one input. -/
def ticksPartsWrong : ChangeSpec := { name := "ticksParts", fn := fun _ => fun
  | [d1, d2, d3] => { results := [.lit (.bool false)], args := [d1, d2, d3] }
  | _ => none }
def TicksPartsWrongFalsely : Prop := ticksPartsRow.holds Try.pinned (OpenSpec.ofChange ticksPartsWrong)

/-- 'latchstringlaw04.TicksScript': WHATEVER THE INPUT: true; the input reads as it did. -/
def ticksScriptSpec : ChangeSpec := { name := "ticksScript", fn := fun _ => fun
  | [d] => { results := [.lit (.bool true)], args := [d] }
  | _ => none }
def ticksScriptRow : OpenClaim := { program := "ytcbjgibcgalppaa", sum := "0b3e0f7f38b725cfb47c0a0c7bf34f6822e9133df78cf1d04e241f8325a005e6", func := "latchstring/latchstringlaw04.TicksScript", spec := "ticksScript", unfollowed := true, recurses := true, apart := false }
def TicksScriptSaid : Prop := ticksScriptRow.holds Try.pinned (OpenSpec.ofChange ticksScriptSpec)

/-- ITS FALSE NEIGHBOUR: 'it returns false'. Refute it at one input. -/
def ticksScriptWrong : ChangeSpec := { name := "ticksScript", fn := fun _ => fun
  | [d] => { results := [.lit (.bool false)], args := [d] }
  | _ => none }
def TicksScriptWrongFalsely : Prop := ticksScriptRow.holds Try.pinned (OpenSpec.ofChange ticksScriptWrong)

/- THE SECOND FORM. 'bulk': how many values and letters a reading holds, each counted each time it is reached (what is shared counts as often as it is met; a slice's spare places count too). A statement '..UptoSaid' is the law's where the arguments, and the package variables that the reading takes, are together of bulk at most 1048576: NARROWER than '..Said'. Prove '..Said' where nothing that the law and all that it calls make is longer than what came in: it says more and counts as full. Else prove '..UptoSaid'. A law counts once. -/
mutual
def uptoBulk {H : Type} : DataW H → Nat
  | .lit (.string bytes) => bytes.length + 1
  | .lit _ => 1
  | .nil => 1
  | .ptr d => uptoBulk d + 1
  | .slice elems spare => uptoBulkAll elems + uptoBulkAll spare + 1
  | .agg parts => uptoBulkAll parts + 1
  | .iface _ d => uptoBulk d + 1
  | .map entries => uptoBulkEntries entries + 1
  | .held _ => 1
def uptoBulkAll {H : Type} : List (DataW H) → Nat
  | [] => 0
  | d :: r => uptoBulk d + uptoBulkAll r
def uptoBulkEntries {H : Type} : List (Lit × DataW H) → Nat
  | [] => 0
  | x :: r => uptoBulkEntry x + uptoBulkEntries r
def uptoBulkEntry {H : Type} : Lit × DataW H → Nat
  | (.string bytes, d) => bytes.length + uptoBulk d + 1
  | (_, d) => uptoBulk d + 1
 end
def uptoSmall : (H : Type) → List (DataW H) → Bool := fun _ ds => decide (uptoBulkAll ds ≤ 1048576)
def OpenSpec.upto (s : _root_.Go.ChangeSpec) : _root_.Go.OpenSpec := { _root_.Go.OpenSpec.ofChange s with cond := some uptoSmall }

/-- 'latchstringlaw04.TicksOnce', WHERE WHAT IT READS IS OF BULK AT MOST 1048576: true; the input reads as it did. -/
def ticksOnceUptoRow : OpenClaim := { program := "ytcbjgibcgalppaa", sum := "0b3e0f7f38b725cfb47c0a0c7bf34f6822e9133df78cf1d04e241f8325a005e6", func := "latchstring/latchstringlaw04.TicksOnce", spec := "ticksOnce", unfollowed := true, recurses := true, apart := false, narrowed := true }
def TicksOnceUptoSaid : Prop := ticksOnceUptoRow.holds Try.pinned (OpenSpec.upto ticksOnceSpec)

/-- 'latchstringlaw04.TicksNames', WHERE WHAT IT READS IS OF BULK AT MOST 1048576: true; the input reads as it did. -/
def ticksNamesUptoRow : OpenClaim := { program := "ytcbjgibcgalppaa", sum := "0b3e0f7f38b725cfb47c0a0c7bf34f6822e9133df78cf1d04e241f8325a005e6", func := "latchstring/latchstringlaw04.TicksNames", spec := "ticksNames", unfollowed := true, recurses := true, apart := false, narrowed := true }
def TicksNamesUptoSaid : Prop := ticksNamesUptoRow.holds Try.pinned (OpenSpec.upto ticksNamesSpec)

/-- 'latchstringlaw04.TicksParts', WHERE WHAT IT READS IS OF BULK AT MOST 1048576: true; the input reads as it did. -/
def ticksPartsUptoRow : OpenClaim := { program := "ytcbjgibcgalppaa", sum := "0b3e0f7f38b725cfb47c0a0c7bf34f6822e9133df78cf1d04e241f8325a005e6", func := "latchstring/latchstringlaw04.TicksParts", spec := "ticksParts", unfollowed := true, recurses := true, apart := false, narrowed := true }
def TicksPartsUptoSaid : Prop := ticksPartsUptoRow.holds Try.pinned (OpenSpec.upto ticksPartsSpec)

/-- 'latchstringlaw04.TicksScript', WHERE WHAT IT READS IS OF BULK AT MOST 1048576: true; the input reads as it did. -/
def ticksScriptUptoRow : OpenClaim := { program := "ytcbjgibcgalppaa", sum := "0b3e0f7f38b725cfb47c0a0c7bf34f6822e9133df78cf1d04e241f8325a005e6", func := "latchstring/latchstringlaw04.TicksScript", spec := "ticksScript", unfollowed := true, recurses := true, apart := false, narrowed := true }
def TicksScriptUptoSaid : Prop := ticksScriptUptoRow.holds Try.pinned (OpenSpec.upto ticksScriptSpec)

end Rows
end Go.Proofs.Ytcbjgibcgalppaa
