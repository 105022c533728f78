/-
  No cell of these rows narrows 'for every input' (looked for: loops, veiled, ifaces, maps, wideKeys, modest, calm, conditions, laid).
  DERIVED. THE GIVEN ROWS OF THIS SEAT. 3 by the template 'for every input the law returns true; each argument reads behind the call as it read before'; 0 by the template 'total and deterministic' (their statements: YtechagciefhpbaaTotals.lean).
  GIVEN WITH THE SEED: the statements are not yours to turn. If you find one false, say at which input.
  Laid BY PROGRAM, IN A SANDBOX (cutbox-rows.mjs): the forced cells as the released guide's own fill.sh prints them over the translation 1a8cf92137c1b1e1… (all of the seat's roots in one cut). By AI agents, Wed Nov 11 2026. No macro, syntax, notation, axiom, sorry.
-/
import Derived.Test.YtechagciefhpbaaChecked
import GoSem.Claim
import GoSem.ClaimJoined
import GoSem.ClaimMapViews
import Derived.JoinedTies
import Derived.KernelRfl
namespace Go.Proofs.Ytechagciefhpbaa
/- THE CELL 'sum', in the pinned program and in every row, IS THE sha256 OF THE DUMP (.gsa) THAT YtechagciefhpbaaProg.lean LOADS. Nothing in Lean hashes anything: it is a label: what it is worth is what the hold of that sum in a sandbox is worth. -/
noncomputable def Try.pinned : Pinned := { name := "ytechagciefhpbaa", sum := "1a8cf92137c1b1e1debca253310ac3f54af26cc901812daa9b8912e2d0ca35bc", checked := Try.checked }
namespace Rows
def none {H : Type} : Left H := { results := [], args := [] }

/-- 'latchstringlaw08.HistoryRespects': WHATEVER THE INPUT: true; the input reads as it did. -/
def historyRespectsSpec : ChangeSpec := { name := "historyRespects", fn := fun _ => fun
  | [d1, d2, d3] => { results := [.lit (.bool true)], args := [d1, d2, d3] }
  | _ => none }
def historyRespectsRow : OpenClaim := { program := "ytechagciefhpbaa", sum := "1a8cf92137c1b1e1debca253310ac3f54af26cc901812daa9b8912e2d0ca35bc", func := "latchstring/latchstringlaw08.HistoryRespects", spec := "historyRespects", unfollowed := true, recurses := true, apart := false }
def HistoryRespectsSaid : Prop := historyRespectsRow.holds Try.pinned (OpenSpec.ofChange historyRespectsSpec)

/-- ITS FALSE NEIGHBOUR: 'it returns false'. Refute it at one input. -/
def historyRespectsWrong : ChangeSpec := { name := "historyRespects", fn := fun _ => fun
  | [d1, d2, d3] => { results := [.lit (.bool false)], args := [d1, d2, d3] }
  | _ => none }
def HistoryRespectsWrongFalsely : Prop := historyRespectsRow.holds Try.pinned (OpenSpec.ofChange historyRespectsWrong)

/-- 'latchstringlaw08.HistorySpans': WHATEVER THE INPUT: true; the input reads as it did. -/
def historySpansSpec : ChangeSpec := { name := "historySpans", fn := fun _ => fun
  | [d] => { results := [.lit (.bool true)], args := [d] }
  | _ => none }
def historySpansRow : OpenClaim := { program := "ytechagciefhpbaa", sum := "1a8cf92137c1b1e1debca253310ac3f54af26cc901812daa9b8912e2d0ca35bc", func := "latchstring/latchstringlaw08.HistorySpans", spec := "historySpans", apart := false }
def HistorySpansSaid : Prop := historySpansRow.holds Try.pinned (OpenSpec.ofChange historySpansSpec)

/-- ITS FALSE NEIGHBOUR: 'it returns false'. Refute it at one input. -/
def historySpansWrong : ChangeSpec := { name := "historySpans", fn := fun _ => fun
  | [d] => { results := [.lit (.bool false)], args := [d] }
  | _ => none }
def HistorySpansWrongFalsely : Prop := historySpansRow.holds Try.pinned (OpenSpec.ofChange historySpansWrong)

/-- 'latchstringlaw08.HistoryThreads': WHATEVER THE INPUT: true; the input reads as it did. -/
def historyThreadsSpec : ChangeSpec := { name := "historyThreads", fn := fun _ => fun
  | [d] => { results := [.lit (.bool true)], args := [d] }
  | _ => none }
def historyThreadsRow : OpenClaim := { program := "ytechagciefhpbaa", sum := "1a8cf92137c1b1e1debca253310ac3f54af26cc901812daa9b8912e2d0ca35bc", func := "latchstring/latchstringlaw08.HistoryThreads", spec := "historyThreads", unfollowed := true, recurses := true, apart := false }
def HistoryThreadsSaid : Prop := historyThreadsRow.holds Try.pinned (OpenSpec.ofChange historyThreadsSpec)

/-- ITS FALSE NEIGHBOUR: 'it returns false'. Refute it at one input. -/
def historyThreadsWrong : ChangeSpec := { name := "historyThreads", fn := fun _ => fun
  | [d] => { results := [.lit (.bool false)], args := [d] }
  | _ => none }
def HistoryThreadsWrongFalsely : Prop := historyThreadsRow.holds Try.pinned (OpenSpec.ofChange historyThreadsWrong)

/- THE SECOND FORM. 'bulk': how many values and letters a reading holds, each counted each time it is reached (what is shared counts as often as it is met; a slice's spare places count too). A statement '..UptoSaid' is the law's where the arguments, and the package variables that the reading takes, are together of bulk at most 1048576: NARROWER than '..Said'. Prove '..Said' where nothing that the law and all that it calls make is longer than what came in: it says more and counts as full. Else prove '..UptoSaid'. A law counts once. -/
mutual
def uptoBulk {H : Type} : DataW H → Nat
  | .lit (.string bytes) => bytes.length + 1
  | .lit _ => 1
  | .nil => 1
  | .ptr d => uptoBulk d + 1
  | .slice elems spare => uptoBulkAll elems + uptoBulkAll spare + 1
  | .agg parts => uptoBulkAll parts + 1
  | .iface _ d => uptoBulk d + 1
  | .map entries => uptoBulkEntries entries + 1
  | .held _ => 1
def uptoBulkAll {H : Type} : List (DataW H) → Nat
  | [] => 0
  | d :: r => uptoBulk d + uptoBulkAll r
def uptoBulkEntries {H : Type} : List (Lit × DataW H) → Nat
  | [] => 0
  | x :: r => uptoBulkEntry x + uptoBulkEntries r
def uptoBulkEntry {H : Type} : Lit × DataW H → Nat
  | (.string bytes, d) => bytes.length + uptoBulk d + 1
  | (_, d) => uptoBulk d + 1
 end
def uptoSmall : (H : Type) → List (DataW H) → Bool := fun _ ds => decide (uptoBulkAll ds ≤ 1048576)
def OpenSpec.upto (s : _root_.Go.ChangeSpec) : _root_.Go.OpenSpec := { _root_.Go.OpenSpec.ofChange s with cond := some uptoSmall }

/-- 'latchstringlaw08.HistoryRespects', WHERE WHAT IT READS IS OF BULK AT MOST 1048576: true; the input reads as it did. -/
def historyRespectsUptoRow : OpenClaim := { program := "ytechagciefhpbaa", sum := "1a8cf92137c1b1e1debca253310ac3f54af26cc901812daa9b8912e2d0ca35bc", func := "latchstring/latchstringlaw08.HistoryRespects", spec := "historyRespects", unfollowed := true, recurses := true, apart := false, narrowed := true }
def HistoryRespectsUptoSaid : Prop := historyRespectsUptoRow.holds Try.pinned (OpenSpec.upto historyRespectsSpec)

/-- 'latchstringlaw08.HistorySpans', WHERE WHAT IT READS IS OF BULK AT MOST 1048576: true; the input reads as it did. -/
def historySpansUptoRow : OpenClaim := { program := "ytechagciefhpbaa", sum := "1a8cf92137c1b1e1debca253310ac3f54af26cc901812daa9b8912e2d0ca35bc", func := "latchstring/latchstringlaw08.HistorySpans", spec := "historySpans", apart := false, narrowed := true }
def HistorySpansUptoSaid : Prop := historySpansUptoRow.holds Try.pinned (OpenSpec.upto historySpansSpec)

/-- 'latchstringlaw08.HistoryThreads', WHERE WHAT IT READS IS OF BULK AT MOST 1048576: true; the input reads as it did. -/
def historyThreadsUptoRow : OpenClaim := { program := "ytechagciefhpbaa", sum := "1a8cf92137c1b1e1debca253310ac3f54af26cc901812daa9b8912e2d0ca35bc", func := "latchstring/latchstringlaw08.HistoryThreads", spec := "historyThreads", unfollowed := true, recurses := true, apart := false, narrowed := true }
def HistoryThreadsUptoSaid : Prop := historyThreadsUptoRow.holds Try.pinned (OpenSpec.upto historyThreadsSpec)

end Rows
end Go.Proofs.Ytechagciefhpbaa
