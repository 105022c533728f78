/-
  What the reference's Check says of the requests: numbers are distinct, who waits wants something. No condition.
-/
import Derived.Test.YtmacpjnkmkaloaaQPair
namespace Go.Proofs.Ytmacpjnkmkaloaa
open Go.RowKit
theorem checkB_n (n : Int) (l : List Rq) (h : checkB n l = true) : 0 ≤ n ∧ n ≤ 4611686018427387904 := by
  unfold checkB at h
  simp only [Bool.and_eq_true, decide_eq_true_eq] at h
  exact ⟨h.1, h.2.1⟩
theorem checkB_ok (n : Int) (l : List Rq) (h : checkB n l = true) (i : Nat) (hi : i < l.length) : okB n l i = true := by
  unfold checkB at h
  simp only [Bool.and_eq_true, decide_eq_true_eq] at h
  exact List.all_eq_true.1 h.2.2 i (List.mem_range.2 hi)
theorem okB_right (n : Int) (l : List Rq) (i : Nat) (h : okB n l i = true) : rightB (l.getD i default) n = true := by
  unfold okB at h
  simp only [Bool.and_eq_true] at h
  exact h.1
theorem okB_pair (n : Int) (l : List Rq) (i : Nat) (h : okB n l i = true) (k : Nat) (hk : k < l.length) (hki : k < i) : pairB (l.getD k default) (l.getD i default) = false := by
  unfold okB at h
  simp only [Bool.and_eq_true, Bool.not_eq_true'] at h
  cases hp : pairB (l.getD k default) (l.getD i default) with
  | false => rfl
  | true =>
    have := any_take_true (fun a => pairB a (l.getD i default)) l k i hk hki hp
    rw [this] at h
    exact absurd h.2 (by simp)
theorem pairB_id (a b : Rq) (h : pairB a b = false) : a.id ≠ b.id ∧ a.txn ≠ b.txn := by
  unfold pairB at h
  simp only [Bool.or_eq_false_iff, beq_eq_false_iff_ne] at h
  exact ⟨h.1.1.1.1, h.1.1.1.2⟩
theorem checkB_ids (n : Int) (l : List Rq) (h : checkB n l = true) : IdsD l := by
  intro i j hi hj he
  rcases Nat.lt_trichotomy i j with hlt | heq | hgt
  · exact absurd he (pairB_id _ _ (okB_pair n l j (checkB_ok n l h j hj) i hi hlt)).1
  · exact heq
  · exact absurd he.symm (pairB_id _ _ (okB_pair n l i (checkB_ok n l h i hi) j hj hgt)).1
theorem covB_zero (a : Int) (h : knownB a = true) : covB a 0 = true := by
  unfold knownB at h
  rw [decide_eq_true_eq] at h
  obtain ⟨h1, h2⟩ := h
  have : a = 0 ∨ a = 1 ∨ a = 2 ∨ a = 3 ∨ a = 4 ∨ a = 5 ∨ a = 6 := by omega
  rcases this with rfl | rfl | rfl | rfl | rfl | rfl | rfl <;> rfl
theorem rightB_want (r : Rq) (n : Int) (h : rightB r n = true) : r.want ≠ 0 := by
  unfold rightB at h
  simp only [Bool.and_eq_true] at h
  obtain ⟨_, hm, _, _, _, h⟩ := h
  intro hw
  split at h
  · rw [hw, covB_zero _ hm] at h
    exact absurd h (by decide)
  · simp only [Bool.and_eq_true, bne_iff_ne, ne_eq, beq_iff_eq] at h
    exact h.1 (by rw [← h.2, hw])
theorem checkB_wants (n : Int) (l : List Rq) (h : checkB n l = true) : Wants l := by
  intro r hr _
  obtain ⟨i, hi, rfl⟩ := List.getElem_of_mem hr
  have := rightB_want _ n (okB_right n l i (checkB_ok n l h i hi))
  simpa [List.getD, hi] using this
end Go.Proofs.Ytmacpjnkmkaloaa
