/-
  The contracts of Sup, Parent, Pick and of the chapter's example over modes as numbers. No condition.
-/
import Derived.Test.YtddoephnneeglaaCalls
namespace Go.Proofs.Ytddoephnneeglaa
open Go.RowKit
theorem belT {w w1 w2 : World} (h : Below w.heap.size w w1) (h' : Below w1.heap.size w1 w2) : Below w.heap.size w w2 := h.trans (h'.mono h.size)
def supV (a b : Int) : Int := if knownB a = false ∨ knownB b = false then 0 else if covB a b = true then a else if covB b a = true then b else if covB 4 a = true ∧ covB 4 b = true then 4 else 6
def parV (m : Int) : Int := if m = 1 ∨ m = 3 then 1 else if m = 2 ∨ m = 4 ∨ m = 5 ∨ m = 6 then 2 else 0
theorem parent_any (m : Int) (w : World) : Calls Try.prog 13 #[.int .i64 m] w fun e w' => e = .returned (.int .i64 (parV m)) ∧ w = w' := by
  by_cases h : 0 ≤ m ∧ m ≤ 6
  · have : m = 0 ∨ m = 1 ∨ m = 2 ∨ m = 3 ∨ m = 4 ∨ m = 5 ∨ m = 6 := by omega
    rcases this with rfl | rfl | rfl | rfl | rfl | rfl | rfl
    all_goals
      go_enter Try.func13, Try.ntmps13
      go_wp2
      go_ret
      exact ⟨rfl, rfl⟩
  · have e : parV m = 0 := by unfold parV; rw [if_neg (by omega), if_neg (by omega)]
    have e1 : (m == 1) = false := by rw [beq_eq_false_iff_ne]; omega
    have e2 : (m == 2) = false := by rw [beq_eq_false_iff_ne]; omega
    have e3 : (m == 3) = false := by rw [beq_eq_false_iff_ne]; omega
    have e4 : (m == 4) = false := by rw [beq_eq_false_iff_ne]; omega
    have e5 : (m == 5) = false := by rw [beq_eq_false_iff_ne]; omega
    have e6 : (m == 6) = false := by rw [beq_eq_false_iff_ne]; omega
    rw [e]
    clear h e
    go_enter Try.func13, Try.ntmps13
    go_wp2
    go_ret
    exact ⟨rfl, rfl⟩
theorem sup_any (a b : Int) (w : World) : Calls Try.prog 10 #[.int .i64 a, .int .i64 b] w fun e w' => e = .returned (.int .i64 (supV a b)) ∧ Below w.heap.size w w' := by
  have bel := Lib.hid (Below.refl w.heap.size w)
  cases ha : knownB a with
  | false =>
    rw [show supV a b = 0 by simp [supV, ha]]
    go_enter Try.func10, Try.ntmps10
    go_wp2_with (go_at_call 17; refine (known_any _ _).mono ?_; rintro e w' ⟨rfl, rfl⟩)
    go_ret
    exact ⟨rfl, bel.out⟩
  | true =>
    cases hb : knownB b with
    | false =>
      rw [show supV a b = 0 by simp [supV, hb]]
      go_enter Try.func10, Try.ntmps10
      go_wp2_with (go_at_call 17; refine (known_any _ _).mono ?_; rintro e w' ⟨rfl, rfl⟩)
      go_ret
      exact ⟨rfl, bel.out⟩
    | true =>
      have es : supV a b = if covB a b = true then a else if covB b a = true then b else if covB 4 a = true ∧ covB 4 b = true then 4 else 6 := by simp [supV, ha, hb]
      rw [es]
      clear es
      cases h1 : covB a b with
      | true =>
        go_enter Try.func10, Try.ntmps10
        go_wp2_with (first | (go_at_call 17; refine (known_any _ _).mono ?_; rintro e w' ⟨rfl, rfl⟩) | (go_at_call 11; refine (covers_any _ _ _).mono ?_; rintro e w' ⟨rfl, b'⟩; replace bel := Lib.hid (belT bel.out b'); clear b'))
        go_ret
        exact ⟨rfl, bel.out⟩
      | false =>
        cases h2 : covB b a with
        | true =>
          go_enter Try.func10, Try.ntmps10
          go_wp2_with (first | (go_at_call 17; refine (known_any _ _).mono ?_; rintro e w' ⟨rfl, rfl⟩) | (go_at_call 11; refine (covers_any _ _ _).mono ?_; rintro e w' ⟨rfl, b'⟩; replace bel := Lib.hid (belT bel.out b'); clear b'))
          go_ret
          exact ⟨rfl, bel.out⟩
        | false =>
          cases h3 : covB 4 a with
          | false =>
            go_enter Try.func10, Try.ntmps10
            go_wp2_with (first | (go_at_call 17; refine (known_any _ _).mono ?_; rintro e w' ⟨rfl, rfl⟩) | (go_at_call 11; refine (covers_any _ _ _).mono ?_; rintro e w' ⟨rfl, b'⟩; replace bel := Lib.hid (belT bel.out b'); clear b'))
            go_ret
            exact ⟨rfl, bel.out⟩
          | true =>
            cases h4 : covB 4 b
            all_goals
              go_enter Try.func10, Try.ntmps10
              go_wp2_with (first | (go_at_call 17; refine (known_any _ _).mono ?_; rintro e w' ⟨rfl, rfl⟩) | (go_at_call 11; refine (covers_any _ _ _).mono ?_; rintro e w' ⟨rfl, b'⟩; replace bel := Lib.hid (belT bel.out b'); clear b'))
              go_ret
              exact ⟨rfl, bel.out⟩
theorem lives_any (w : World) : Calls Try.prog 8 #[] w fun e w' => e = .returned (.bool true) ∧ Below w.heap.size w w' := by
  have bel := Lib.hid (Below.refl w.heap.size w)
  have e1 : supV 2 3 = 4 := by decide +kernel
  have e2 : comB 5 3 = true := by decide +kernel
  have e3 : comB 5 5 = false := by decide +kernel
  have e4 : parV 5 = 2 := by decide +kernel
  go_enter Try.func8, Try.ntmps8
  go_wp2_with (first | (go_at_call 10; refine (sup_any _ _ _).mono ?_; rintro e w' ⟨rfl, b'⟩; replace bel := Lib.hid (belT bel.out b'); clear b') | (go_at_call 12; refine (compat_any _ _ _).mono ?_; rintro e w' ⟨rfl, b'⟩; replace bel := Lib.hid (belT bel.out b'); clear b') | (go_at_call 13; refine (parent_any _ _).mono ?_; rintro e w' ⟨rfl, rfl⟩))
  go_ret
  exact ⟨rfl, bel.out⟩
end Go.Proofs.Ytddoephnneeglaa
