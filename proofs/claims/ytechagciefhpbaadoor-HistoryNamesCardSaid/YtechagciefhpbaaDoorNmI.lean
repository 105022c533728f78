/-
  Slices of names: Index, Contains, Same. No condition.
-/
import Derived.Test.YtechagciefhpbaaDoorNmA
namespace Go.Proofs.YtechagciefhpbaaDoor
set_option linter.unusedSimpArgs false
set_option linter.unusedVariables false
set_option linter.unnecessarySimpa false
open Go.RowKit
/-- The value v is a slice of names that reads as l. -/
def RN (w : World) (v : Value) (l : List (Int × Int)) : Prop :=
  ∃ a c, v = .slice a l.length c ∧ (0 < l.length → ∃ b off, a = some ⟨b, off, none⟩ ∧ b < w.heap.size ∧ ∀ j, j < l.length →
    w.cell? ⟨b, off + j * 2, none⟩ = some (.int .i64 (l.getD j (0, 0)).1) ∧ w.cell? ⟨b, off + j * 2 + 1, none⟩ = some (.int .i64 (l.getD j (0, 0)).2))
theorem RN.below {w w' : World} {v : Value} {l : List (Int × Int)} (h : RN w v l) (hb : Below w.heap.size w w') : RN w' v l := by
  obtain ⟨a, c, hv, hr⟩ := h
  refine ⟨a, c, hv, fun h0 => ?_⟩
  obtain ⟨b, off, ha, hlt, hc⟩ := hr h0
  exact ⟨b, off, ha, Nat.lt_of_lt_of_le hlt hb.size, fun j hj => ⟨(hb.cell (p := ⟨b, off + j * 2, none⟩) hlt).trans (hc j hj).1, (hb.cell (p := ⟨b, off + j * 2 + 1, none⟩) hlt).trans (hc j hj).2⟩⟩
def idxN {α : Type} (p : α → Bool) : List α → Nat → Int
  | [], _ => -1
  | x :: l, k => if p x then (k : Int) else idxN p l (k + 1)
theorem idxN_any {α : Type} (p : α → Bool) : ∀ (l : List α) (k : Nat), decide (0 ≤ idxN p l k) = l.any p
  | [], k => by simp [idxN]
  | x :: l, k => by
    unfold idxN
    cases h : p x with
    | true => simp [h]
    | false => simp [h, idxN_any p l (k + 1)]
theorem drop_atN (l : List (Int × Int)) (k : Nat) (h : k < l.length) : l.drop k = l.getD k (0, 0) :: l.drop (k + 1) := by
  rw [List.drop_eq_getElem_cons h]
  simp [List.getD, h]
def isN (t r : Int) (x : Int × Int) : Bool := nmB t r x.1 x.2
theorem below_drewN' {B : Nat} {a w : World} (h : Below B a w) (n : Nat) : Below B a (w.drewN n) := ⟨h.os, h.tape, h.output, h.size, h.block⟩
theorem nmB_self (t r : Int) : nmB t r t r = true := by simp [nmB]
end Go.Proofs.YtechagciefhpbaaDoor
