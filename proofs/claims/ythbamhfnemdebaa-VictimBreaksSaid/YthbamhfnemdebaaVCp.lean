/-
  Plain: who is chosen hangs on whom there are alone. No condition.
-/
import Derived.Test.YthbamhfnemdebaaVLv
namespace Go.Proofs.Ythbamhfnemdebaa
open Go.RowKit
/-- Younger, or as old with no smaller number. -/
def yLe (A : List Ag) (x y : Int) : Prop := ageL A x < ageL A y ∨ ageL A x = ageL A y ∧ x ≤ y
theorem cmpY_gt (A : List Ag) (x y : Int) : cmpY A x y > 0 ↔ ¬ yLe A x y := by
  unfold cmpY yLe Lib.compareInt
  by_cases h1 : ageL A x < ageL A y
  · simp [h1]
  · by_cases h2 : ageL A y < ageL A x
    · simp [h1, h2]
      omega
    · have h3 : ageL A x = ageL A y := by omega
      by_cases h4 : x < y
      · simp [h1, h2, h4]
        omega
      · by_cases h5 : y < x
        · simp [h1, h2, h4, h5]
        · simp [h1, h2, h4, h5]
          omega
theorem yLe_refl (A : List Ag) (x : Int) : yLe A x x := .inr ⟨rfl, Int.le_refl _⟩
theorem yLe_trans {A : List Ag} {x y z : Int} (h1 : yLe A x y) (h2 : yLe A y z) : yLe A x z := by unfold yLe at *; omega
theorem yLe_total (A : List Ag) (x y : Int) : yLe A x y ∨ yLe A y x := by unfold yLe; omega
theorem yLe_anti {A : List Ag} {x y : Int} (h1 : yLe A x y) (h2 : yLe A y x) : x = y := by unfold yLe at *; omega
theorem maxL_top (A : List Ag) : ∀ (xs : List Int) (m : Int), yLe A m (maxL (cmpY A) xs m) ∧ ∀ x ∈ xs, yLe A x (maxL (cmpY A) xs m)
  | [], m => ⟨yLe_refl A m, by simp⟩
  | x :: xs, m => by
    have e : maxL (cmpY A) (x :: xs) m = maxL (cmpY A) xs (if cmpY A x m > 0 then x else m) := rfl
    rw [e]
    obtain ⟨h1, h2⟩ := maxL_top A xs (if cmpY A x m > 0 then x else m)
    by_cases hc : cmpY A x m > 0
    · rw [if_pos hc] at h1 h2 ⊢
      have h3 : yLe A m x := (yLe_total A m x).resolve_right ((cmpY_gt A x m).1 hc)
      refine ⟨yLe_trans h3 h1, fun y hy => ?_⟩
      rcases List.mem_cons.1 hy with rfl | hy
      · exact h1
      · exact h2 y hy
    · rw [if_neg hc] at h1 h2 ⊢
      have h3 : yLe A x m := Classical.not_not.1 fun h => hc ((cmpY_gt A x m).2 h)
      refine ⟨h1, fun y hy => ?_⟩
      rcases List.mem_cons.1 hy with rfl | hy
      · exact yLe_trans h3 h1
      · exact h2 y hy
theorem chL_top (A : List Ag) (xs : List Int) : ∀ x ∈ xs, yLe A x (chL A xs) := by
  cases xs with
  | nil => simp
  | cons x xs =>
    obtain ⟨h1, h2⟩ := maxL_top A xs x
    intro y hy
    rcases List.mem_cons.1 hy with rfl | hy
    · exact h1
    · exact h2 y hy
theorem chL_mem (A : List Ag) (xs : List Int) (h : 0 < xs.length) : chL A xs ∈ xs := gtL_mem _ xs h
theorem chL_uniq (A : List Ag) (xs : List Int) (m : Int) (hm : m ∈ xs) (ht : ∀ x ∈ xs, yLe A x m) : chL A xs = m :=
  yLe_anti (ht _ (chL_mem A xs (List.length_pos_of_mem hm))) (chL_top A xs m hm)
/-- Turned, it is the same one. -/
theorem chL_turn (A : List Ag) (xs : List Int) (k : Nat) (h : 0 < xs.length) : chL A (xs.drop k ++ xs.take k) = chL A xs := by
  have hp : ∀ x, x ∈ xs.drop k ++ xs.take k ↔ x ∈ xs := by
    intro x
    conv => rhs; rw [← List.take_append_drop k xs]
    rw [List.mem_append, List.mem_append, or_comm]
  exact chL_uniq A _ _ ((hp _).2 (chL_mem A xs h)) fun x hx => chL_top A xs x ((hp x).1 hx)
/-- One more. -/
theorem chL_more (A : List Ag) (xs : List Int) (m : Int) (h : 0 < xs.length) : chL A (xs ++ [m]) = if ageL A m > ageL A (chL A xs) ∨ ageL A m = ageL A (chL A xs) ∧ m > chL A xs then m else chL A xs := by
  split
  · rename_i hc
    refine chL_uniq A _ _ (by simp) fun x hx => ?_
    rcases List.mem_append.1 hx with hx | hx
    · have := chL_top A xs x hx
      unfold yLe at *
      omega
    · simp only [List.mem_singleton] at hx
      rw [hx]
      exact yLe_refl A m
  · rename_i hc
    refine chL_uniq A _ _ (List.mem_append_left _ (chL_mem A xs h)) fun x hx => ?_
    rcases List.mem_append.1 hx with hx | hx
    · exact chL_top A xs x hx
    · simp only [List.mem_singleton] at hx
      rw [hx]
      unfold yLe
      omega
end Go.Proofs.Ythbamhfnemdebaa
