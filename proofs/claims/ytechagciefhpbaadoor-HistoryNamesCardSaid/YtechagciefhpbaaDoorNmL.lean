/-
  Names in plain Lean: levels, being under, order. No condition.
-/
import Derived.Test.YtechagciefhpbaaDoorBase
import Derived.Test.YtechagciefhpbaaDoorSep
import Derived.Laws.StructEq
namespace Go.Proofs.YtechagciefhpbaaDoor
set_option linter.unusedSimpArgs false
set_option linter.unusedVariables false
set_option linter.unnecessarySimpa false
open Go.RowKit
/-- A name's level. -/
def lv (t r : Int) : Int := if t = -1 ∧ r = -1 then 0 else if 0 ≤ t ∧ t < 100 ∧ r = -1 then 1 else if 0 ≤ t ∧ t < 100 ∧ 0 ≤ r ∧ r < 100 then 2 else -1
theorem lv_spec (t r : Int) : (t = -1 ∧ r = -1 ∧ lv t r = 0) ∨ (0 ≤ t ∧ t < 100 ∧ r = -1 ∧ lv t r = 1) ∨ (0 ≤ t ∧ t < 100 ∧ 0 ≤ r ∧ r < 100 ∧ lv t r = 2) ∨
    (lv t r = -1 ∧ ¬(t = -1 ∧ r = -1) ∧ (t < 0 ∨ 100 ≤ t ∨ r < -1 ∨ 100 ≤ r)) := by
  unfold lv
  split
  · omega
  · split
    · omega
    · split <;> omega
/-- Is a name another one, or below it? -/
def undB (t r t' r' : Int) : Bool := decide (lv t r ≠ -1 ∧ ((t = t' ∧ r = r') ∨ (1 ≤ lv t r ∧ t' = -1 ∧ r' = -1) ∨ (lv t r = 2 ∧ t' = t ∧ r' = -1)))
theorem und_self (t r : Int) : undB t r t r = !(lv t r == -1) := by
  rw [Bool.eq_iff_iff]
  simp [undB]
theorem und_db (t r : Int) : undB t r (-1) (-1) = !(lv t r == -1) := by
  rw [Bool.eq_iff_iff]
  simp [undB]
  have := lv_spec t r
  omega
theorem und_trans {a a' b b' c c' : Int} (h : undB a a' b b' = true) (k : undB b b' c c' = true) : undB a a' c c' = true := by
  unfold undB at h k ⊢
  rw [decide_eq_true_eq] at h k ⊢
  have h1 := lv_spec a a'
  have h2 := lv_spec b b'
  generalize lv a a' = x at *
  obtain ⟨hx, h⟩ := h
  obtain ⟨hy, k⟩ := k
  refine ⟨hx, ?_⟩
  rcases h with ⟨rfl, rfl⟩ | ⟨hh, rfl, rfl⟩ | ⟨hh, rfl, rfl⟩
  · rcases k with ⟨rfl, rfl⟩ | ⟨kk, rfl, rfl⟩ | ⟨kk, rfl, rfl⟩ <;> omega
  · rcases k with ⟨rfl, rfl⟩ | ⟨kk, rfl, rfl⟩ | ⟨kk, rfl, rfl⟩ <;> omega
  · rcases k with ⟨rfl, rfl⟩ | ⟨kk, rfl, rfl⟩ | ⟨kk, rfl, rfl⟩ <;> omega
theorem und_anti {a a' b b' : Int} (h : undB a a' b b' = true) (k : undB b b' a a' = true) : a = b ∧ a' = b' := by
  unfold undB at h k
  rw [decide_eq_true_eq] at h k
  have h1 := lv_spec a a'
  have h2 := lv_spec b b'
  obtain ⟨hx, h⟩ := h
  obtain ⟨hy, k⟩ := k
  rcases h with ⟨rfl, rfl⟩ | ⟨hh, rfl, rfl⟩ | ⟨hh, rfl, rfl⟩
  · exact ⟨rfl, rfl⟩
  · rcases k with ⟨k1, k2⟩ | ⟨kk, k1, k2⟩ | ⟨kk, k1, k2⟩ <;> omega
  · rcases k with ⟨k1, k2⟩ | ⟨kk, k1, k2⟩ | ⟨kk, k1, k2⟩ <;> omega
theorem und_valid {a a' b b' : Int} (h : undB a a' b b' = true) : lv a a' ≠ -1 := by
  simp [undB] at h
  exact h.1
def cmpI (a b : Int) : Int := if a < b then -1 else if b < a then 1 else 0
/-- The order of names. -/
def cmpN (t r t' r' : Int) : Int := if cmpI t t' = 0 then cmpI r r' else cmpI t t'
theorem cmpN_spec (t r t' r' : Int) : (cmpN t r t' r' = -1 ∧ (t < t' ∨ t = t' ∧ r < r')) ∨ (cmpN t r t' r' = 0 ∧ t = t' ∧ r = r') ∨ (cmpN t r t' r' = 1 ∧ (t' < t ∨ t = t' ∧ r' < r)) := by
  unfold cmpN cmpI
  repeat' split
  all_goals omega
end Go.Proofs.YtechagciefhpbaaDoor
