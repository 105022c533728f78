/-
  The chapter's examples of pools hold (lives). No condition.
-/
import Derived.Test.YtbfkkghbkpbhlaaPlF
namespace Go.Proofs.Ytbfkkghbkpbhlaa
open Go.RowKit
/-- The least number that is free. -/
def leastB (l : List Bool) (k : Nat) : Bool := decide (k < l.length) && (!l.getD k false) && (List.range k).all fun j => l.getD j false
theorem least_uniq {l : List Bool} {k q : Nat} (h : leastB l q = true) (h1 : l.getD k false = false) (h2 : ∀ j, j < k → l.getD j false = true) : k = q := by
  unfold leastB at h
  rw [Bool.and_eq_true, Bool.and_eq_true, decide_eq_true_eq, Bool.not_eq_true', List.all_eq_true] at h
  obtain ⟨⟨_, h3⟩, h4⟩ := h
  rcases Nat.lt_trichotomy k q with h | h | h
  · have := h4 k (List.mem_range.2 h)
    rw [h1] at this
    cases this
  · exact h
  · have := h2 q h
    rw [h3] at this
    cases this
theorem take_at (p : Nat) (lent : List Bool) (q : Nat) (w : World) (rs : List Res) (hS : Sep w (poolR p lent :: rs)) (hf : lent.count true < lent.length) (hm : lent.length ≤ 128) (hq : leastB lent q = true) : Calls Try.prog 11 #[.pointer (some ⟨p, 0, none⟩)] w fun e w' => e = .returned (.tuple #[.int .i64 q, .int .i64 0]) ∧ Sep w' (poolR p (lent.set q true) :: rs) := by
  refine (take_some p lent w rs hS hf hm).mono ?_
  rintro e w1 ⟨k, rfl, _, h1, h2, h3⟩
  obtain rfl := least_uniq hq h1 h2
  exact ⟨rfl, h3⟩
theorem lives_any (w : World) : Calls Try.prog 8 #[] w fun e w' => e = .returned (.bool true) ∧ Below w.heap.size w w' := by
  have H1 := Lib.hid (new_any 3 (by omega) w)
  go_enter Try.func8, Try.ntmps8
  go_wp2_with fail
  refine H1.out.mono ?_
  rintro e w1 ⟨p, rfl, hS⟩
  have H2 := Lib.hid (take_at p [false, false, false] 0 w1 _ hS (by decide) (by decide) (by decide))
  clear H1 hS
  go_wp2_with fail
  refine H2.out.mono ?_
  rintro e w2 ⟨rfl, hS⟩
  have H3 := Lib.hid (take_at p [true, false, false] 1 w2 _ hS (by decide) (by decide) (by decide))
  clear H2 hS
  go_wp2_with fail
  refine H3.out.mono ?_
  rintro e w3 ⟨rfl, hS⟩
  have H4 := Lib.hid (give_yes p [true, true, false] 0 w3 _ hS (by decide) (by decide) (by decide))
  clear H3 hS
  go_wp2_with fail
  refine H4.out.mono ?_
  rintro e w4 ⟨rfl, hS⟩
  have H5 := Lib.hid (take_at p [false, true, false] 0 w4 _ hS (by decide) (by decide) (by decide))
  clear H4 hS
  go_wp2_with fail
  refine H5.out.mono ?_
  rintro e w5 ⟨rfl, hS⟩
  replace hS := Lib.hid hS
  clear H5
  go_wp2_with fail
  go_ret
  exact ⟨rfl, hS.out.tail.gold⟩
end Go.Proofs.Ytbfkkghbkpbhlaa
