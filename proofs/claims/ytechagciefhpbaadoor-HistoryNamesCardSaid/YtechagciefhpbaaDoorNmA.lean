/-
  Contracts of the package name: Check, made, Table, Record, Ancestors. No condition.
-/
import Derived.Test.YtechagciefhpbaaDoorNmC
import Derived.Test.YtechagciefhpbaaDoorSeq
namespace Go.Proofs.YtechagciefhpbaaDoor
set_option linter.unusedSimpArgs false
set_option linter.unusedVariables false
set_option linter.unnecessarySimpa false
open Go.RowKit
/-- What Table and Record answer. -/
def MkV (t r l a b c : Int) : Prop := (lv t r = l ∧ a = t ∧ b = r ∧ c = 0) ∨ (lv t r ≠ l ∧ a = 0 ∧ b = 0 ∧ c = 2)
/-- How many ancestors there are. -/
def AncK (t r : Int) (k : Nat) : Prop := (k : Int) = if lv t r = -1 then 0 else lv t r
theorem AncK.lt {t r : Int} {k : Nat} (h : AncK t r k) : k ≤ 2 := by
  unfold AncK at h
  have := lv_spec t r
  split at h <;> omega
end Go.Proofs.YtechagciefhpbaaDoor
