/-
  Compatibility's laws at every three modes, and the walk of ModeWeaker. No condition.
-/
import Derived.Test.YtddoephnneeglaaCallsB
namespace Go.Proofs.Ytddoephnneeglaa
open Go.RowKit

def weakOK (a b c : Int) : Bool :=
  (comB a b == comB b a) && (!(covB a b && comB a c) || comB b c) && comB (parV a) (parV b)
  && (parV a == 0 || parV a == 1 || parV a == 2) && (!covB a b || covB (parV a) (parV b)) && comB a 0
theorem weak_all : ∀ a b c : Fin 7, weakOK (a.val : Int) (b.val : Int) (c.val : Int) = true := by decide +kernel

set_option maxHeartbeats 1000000 in
set_option maxRecDepth 100000 in
theorem weaker_walk (i j k : Int) (w : World) (_h0 : (Lit.int .i64 i).wf = true) (_h1 : (Lit.int .i64 j).wf = true) (_h2 : (Lit.int .i64 k).wf = true) :
    Calls Try.prog 4 #[.int .i64 i, .int .i64 j, .int .i64 k] w fun e w' => e = .returned (.bool true) ∧ Below w.heap.size w w' := by
  have bel := Lib.hid (Below.refl w.heap.size w)
  obtain ⟨a, PA⟩ := pick_nat i 7 (by omega) (by omega)
  obtain ⟨b, PB⟩ := pick_nat j 7 (by omega) (by omega)
  obtain ⟨c, PC⟩ := pick_nat k 7 (by omega) (by omega)
  have h := weak_all ⟨a, by have := PA.lt; omega⟩ ⟨b, by have := PB.lt; omega⟩ ⟨c, by have := PC.lt; omega⟩
  simp only [weakOK, Bool.and_eq_true, beq_iff_eq] at h
  obtain ⟨⟨⟨⟨⟨f1, f2⟩, f3⟩, f4⟩, f5⟩, f6⟩ := h
  cases h1 : covB a b with
  | false =>
    clear f2 f5
    have hp : parV a = 0 ∨ parV a = 1 ∨ parV a = 2 := by simpa [or_assoc] using f4
    clear f4
    rcases hp with hp | hp | hp
    all_goals
      rw [hp] at f3
      go_enter Try.func4, Try.ntmps4
      go_wp2_with (first | (go_at_call 8; refine (lives_any _).mono ?_; rintro e w' ⟨rfl, b'⟩; replace bel := Lib.hid (belT bel.out b'); clear b') | (go_at_call 9; with_reducible refine (PA.run.out _).mono ?_; rintro e w' ⟨rfl, rfl⟩) | (go_at_call 9; with_reducible refine (PB.run.out _).mono ?_; rintro e w' ⟨rfl, rfl⟩) | (go_at_call 9; with_reducible refine (PC.run.out _).mono ?_; rintro e w' ⟨rfl, rfl⟩) | (go_at_call 10; refine (sup_any _ _ _).mono ?_; rintro e w' ⟨rfl, b'⟩; replace bel := Lib.hid (belT bel.out b'); clear b') | (go_at_call 11; refine (covers_any _ _ _).mono ?_; rintro e w' ⟨rfl, b'⟩; replace bel := Lib.hid (belT bel.out b'); clear b') | (go_at_call 12; refine (compat_any _ _ _).mono ?_; rintro e w' ⟨rfl, b'⟩; replace bel := Lib.hid (belT bel.out b'); clear b') | (go_at_call 13; refine (parent_any _ _).mono ?_; rintro e w' ⟨rfl, rfl⟩))
      go_ret
      exact ⟨by first | rfl | (simp; done), bel.out⟩
  | true =>
    have f5' : covB (parV a) (parV b) = true := by simpa [h1] using f5
    clear f5
    cases h2 : comB a c with
    | false =>
      clear f2
      have hp : parV a = 0 ∨ parV a = 1 ∨ parV a = 2 := by simpa [or_assoc] using f4
      clear f4
      rcases hp with hp | hp | hp
      all_goals
        rw [hp] at f3 f5'
        go_enter Try.func4, Try.ntmps4
        go_wp2_with (first | (go_at_call 8; refine (lives_any _).mono ?_; rintro e w' ⟨rfl, b'⟩; replace bel := Lib.hid (belT bel.out b'); clear b') | (go_at_call 9; with_reducible refine (PA.run.out _).mono ?_; rintro e w' ⟨rfl, rfl⟩) | (go_at_call 9; with_reducible refine (PB.run.out _).mono ?_; rintro e w' ⟨rfl, rfl⟩) | (go_at_call 9; with_reducible refine (PC.run.out _).mono ?_; rintro e w' ⟨rfl, rfl⟩) | (go_at_call 10; refine (sup_any _ _ _).mono ?_; rintro e w' ⟨rfl, b'⟩; replace bel := Lib.hid (belT bel.out b'); clear b') | (go_at_call 11; refine (covers_any _ _ _).mono ?_; rintro e w' ⟨rfl, b'⟩; replace bel := Lib.hid (belT bel.out b'); clear b') | (go_at_call 12; refine (compat_any _ _ _).mono ?_; rintro e w' ⟨rfl, b'⟩; replace bel := Lib.hid (belT bel.out b'); clear b') | (go_at_call 13; refine (parent_any _ _).mono ?_; rintro e w' ⟨rfl, rfl⟩))
        go_ret
        exact ⟨by first | rfl | (simp; done), bel.out⟩
    | true =>
      have h3 : comB b c = true := by simpa [h1, h2] using f2
      clear f2
      have hp : parV a = 0 ∨ parV a = 1 ∨ parV a = 2 := by simpa [or_assoc] using f4
      clear f4
      rcases hp with hp | hp | hp
      all_goals
        rw [hp] at f3 f5'
        go_enter Try.func4, Try.ntmps4
        go_wp2_with (first | (go_at_call 8; refine (lives_any _).mono ?_; rintro e w' ⟨rfl, b'⟩; replace bel := Lib.hid (belT bel.out b'); clear b') | (go_at_call 9; with_reducible refine (PA.run.out _).mono ?_; rintro e w' ⟨rfl, rfl⟩) | (go_at_call 9; with_reducible refine (PB.run.out _).mono ?_; rintro e w' ⟨rfl, rfl⟩) | (go_at_call 9; with_reducible refine (PC.run.out _).mono ?_; rintro e w' ⟨rfl, rfl⟩) | (go_at_call 10; refine (sup_any _ _ _).mono ?_; rintro e w' ⟨rfl, b'⟩; replace bel := Lib.hid (belT bel.out b'); clear b') | (go_at_call 11; refine (covers_any _ _ _).mono ?_; rintro e w' ⟨rfl, b'⟩; replace bel := Lib.hid (belT bel.out b'); clear b') | (go_at_call 12; refine (compat_any _ _ _).mono ?_; rintro e w' ⟨rfl, b'⟩; replace bel := Lib.hid (belT bel.out b'); clear b') | (go_at_call 13; refine (parent_any _ _).mono ?_; rintro e w' ⟨rfl, rfl⟩))
        go_ret
        exact ⟨by first | rfl | (simp; done), bel.out⟩
end Go.Proofs.Ytddoephnneeglaa
