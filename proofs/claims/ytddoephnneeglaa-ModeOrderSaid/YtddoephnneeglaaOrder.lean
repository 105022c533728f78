/-
  The supremum's laws at every three modes, and the walk of ModeOrder. No condition.
-/
import Derived.Test.YtddoephnneeglaaCallsB
namespace Go.Proofs.Ytddoephnneeglaa
open Go.RowKit

def orderOK (a b c : Int) : Bool :=
  (supV a b != supV b a) == false && (supV (supV a b) c != supV a (supV b c)) == false && (supV a a != a) == false && (supV a 0 != a) == false
  && covB (supV a b) a && covB (supV a b) b && (!(covB c a && covB c b) || covB c (supV a b))
  && (covB a b == (supV a b == a)) && (!(covB a b && covB b c) || covB a c) && (!(covB a b && covB b a) || a == b)
theorem order_all : ∀ a b c : Fin 7, orderOK (a.val : Int) (b.val : Int) (c.val : Int) = true := by decide +kernel

set_option maxHeartbeats 1000000 in
set_option maxRecDepth 100000 in
theorem order_walk (i j k : Int) (w : World) (_h0 : (Lit.int .i64 i).wf = true) (_h1 : (Lit.int .i64 j).wf = true) (_h2 : (Lit.int .i64 k).wf = true) :
    Calls Try.prog 3 #[.int .i64 i, .int .i64 j, .int .i64 k] w fun e w' => e = .returned (.bool true) ∧ Below w.heap.size w w' := by
  have bel := Lib.hid (Below.refl w.heap.size w)
  obtain ⟨a, PA⟩ := pick_nat i 7 (by omega) (by omega)
  obtain ⟨b, PB⟩ := pick_nat j 7 (by omega) (by omega)
  obtain ⟨c, PC⟩ := pick_nat k 7 (by omega) (by omega)
  have h := order_all ⟨a, by have := PA.lt; omega⟩ ⟨b, by have := PB.lt; omega⟩ ⟨c, by have := PC.lt; omega⟩
  simp only [orderOK, Bool.and_eq_true, beq_iff_eq] at h
  obtain ⟨⟨⟨⟨⟨⟨⟨⟨⟨f1, f2⟩, f3⟩, f4⟩, f5⟩, f6⟩, f7⟩, f8⟩, f9⟩, f10⟩ := h
  cases h1 : covB c a with
  | false =>
    clear f7
    cases q1 : covB a b with
    | false =>
      rw [q1] at f8
      replace f8 := f8.symm
      clear f9 f10
      go_enter Try.func3, Try.ntmps3
      go_wp2_with (first | (go_at_call 8; refine (lives_any _).mono ?_; rintro e w' ⟨rfl, b'⟩; replace bel := Lib.hid (belT bel.out b'); clear b') | (go_at_call 9; with_reducible refine (PA.run.out _).mono ?_; rintro e w' ⟨rfl, rfl⟩) | (go_at_call 9; with_reducible refine (PB.run.out _).mono ?_; rintro e w' ⟨rfl, rfl⟩) | (go_at_call 9; with_reducible refine (PC.run.out _).mono ?_; rintro e w' ⟨rfl, rfl⟩) | (go_at_call 10; refine (sup_any _ _ _).mono ?_; rintro e w' ⟨rfl, b'⟩; replace bel := Lib.hid (belT bel.out b'); clear b') | (go_at_call 11; refine (covers_any _ _ _).mono ?_; rintro e w' ⟨rfl, b'⟩; replace bel := Lib.hid (belT bel.out b'); clear b') | (go_at_call 12; refine (compat_any _ _ _).mono ?_; rintro e w' ⟨rfl, b'⟩; replace bel := Lib.hid (belT bel.out b'); clear b') | (go_at_call 13; refine (parent_any _ _).mono ?_; rintro e w' ⟨rfl, rfl⟩))
      go_ret
      exact ⟨by first | rfl | (simp; done), bel.out⟩
    | true =>
      rw [q1] at f8
      replace f8 := f8.symm
      cases q2 : covB b c with
      | false =>
        clear f9
        cases q4 : covB b a with
        | false =>
          clear f10
          go_enter Try.func3, Try.ntmps3
          go_wp2_with (first | (go_at_call 8; refine (lives_any _).mono ?_; rintro e w' ⟨rfl, b'⟩; replace bel := Lib.hid (belT bel.out b'); clear b') | (go_at_call 9; with_reducible refine (PA.run.out _).mono ?_; rintro e w' ⟨rfl, rfl⟩) | (go_at_call 9; with_reducible refine (PB.run.out _).mono ?_; rintro e w' ⟨rfl, rfl⟩) | (go_at_call 9; with_reducible refine (PC.run.out _).mono ?_; rintro e w' ⟨rfl, rfl⟩) | (go_at_call 10; refine (sup_any _ _ _).mono ?_; rintro e w' ⟨rfl, b'⟩; replace bel := Lib.hid (belT bel.out b'); clear b') | (go_at_call 11; refine (covers_any _ _ _).mono ?_; rintro e w' ⟨rfl, b'⟩; replace bel := Lib.hid (belT bel.out b'); clear b') | (go_at_call 12; refine (compat_any _ _ _).mono ?_; rintro e w' ⟨rfl, b'⟩; replace bel := Lib.hid (belT bel.out b'); clear b') | (go_at_call 13; refine (parent_any _ _).mono ?_; rintro e w' ⟨rfl, rfl⟩))
          go_ret
          exact ⟨by first | rfl | (simp; done), bel.out⟩
        | true =>
          have q5 : ((a : Int) == (b : Int)) = true := by simpa [q1, q4] using f10
          clear f10
          go_enter Try.func3, Try.ntmps3
          go_wp2_with (first | (go_at_call 8; refine (lives_any _).mono ?_; rintro e w' ⟨rfl, b'⟩; replace bel := Lib.hid (belT bel.out b'); clear b') | (go_at_call 9; with_reducible refine (PA.run.out _).mono ?_; rintro e w' ⟨rfl, rfl⟩) | (go_at_call 9; with_reducible refine (PB.run.out _).mono ?_; rintro e w' ⟨rfl, rfl⟩) | (go_at_call 9; with_reducible refine (PC.run.out _).mono ?_; rintro e w' ⟨rfl, rfl⟩) | (go_at_call 10; refine (sup_any _ _ _).mono ?_; rintro e w' ⟨rfl, b'⟩; replace bel := Lib.hid (belT bel.out b'); clear b') | (go_at_call 11; refine (covers_any _ _ _).mono ?_; rintro e w' ⟨rfl, b'⟩; replace bel := Lib.hid (belT bel.out b'); clear b') | (go_at_call 12; refine (compat_any _ _ _).mono ?_; rintro e w' ⟨rfl, b'⟩; replace bel := Lib.hid (belT bel.out b'); clear b') | (go_at_call 13; refine (parent_any _ _).mono ?_; rintro e w' ⟨rfl, rfl⟩))
          go_ret
          exact ⟨by first | rfl | (simp; done), bel.out⟩
      | true =>
        have q3 : covB a c = true := by simpa [q1, q2] using f9
        clear f9
        cases q4 : covB b a with
        | false =>
          clear f10
          go_enter Try.func3, Try.ntmps3
          go_wp2_with (first | (go_at_call 8; refine (lives_any _).mono ?_; rintro e w' ⟨rfl, b'⟩; replace bel := Lib.hid (belT bel.out b'); clear b') | (go_at_call 9; with_reducible refine (PA.run.out _).mono ?_; rintro e w' ⟨rfl, rfl⟩) | (go_at_call 9; with_reducible refine (PB.run.out _).mono ?_; rintro e w' ⟨rfl, rfl⟩) | (go_at_call 9; with_reducible refine (PC.run.out _).mono ?_; rintro e w' ⟨rfl, rfl⟩) | (go_at_call 10; refine (sup_any _ _ _).mono ?_; rintro e w' ⟨rfl, b'⟩; replace bel := Lib.hid (belT bel.out b'); clear b') | (go_at_call 11; refine (covers_any _ _ _).mono ?_; rintro e w' ⟨rfl, b'⟩; replace bel := Lib.hid (belT bel.out b'); clear b') | (go_at_call 12; refine (compat_any _ _ _).mono ?_; rintro e w' ⟨rfl, b'⟩; replace bel := Lib.hid (belT bel.out b'); clear b') | (go_at_call 13; refine (parent_any _ _).mono ?_; rintro e w' ⟨rfl, rfl⟩))
          go_ret
          exact ⟨by first | rfl | (simp; done), bel.out⟩
        | true =>
          have q5 : ((a : Int) == (b : Int)) = true := by simpa [q1, q4] using f10
          clear f10
          go_enter Try.func3, Try.ntmps3
          go_wp2_with (first | (go_at_call 8; refine (lives_any _).mono ?_; rintro e w' ⟨rfl, b'⟩; replace bel := Lib.hid (belT bel.out b'); clear b') | (go_at_call 9; with_reducible refine (PA.run.out _).mono ?_; rintro e w' ⟨rfl, rfl⟩) | (go_at_call 9; with_reducible refine (PB.run.out _).mono ?_; rintro e w' ⟨rfl, rfl⟩) | (go_at_call 9; with_reducible refine (PC.run.out _).mono ?_; rintro e w' ⟨rfl, rfl⟩) | (go_at_call 10; refine (sup_any _ _ _).mono ?_; rintro e w' ⟨rfl, b'⟩; replace bel := Lib.hid (belT bel.out b'); clear b') | (go_at_call 11; refine (covers_any _ _ _).mono ?_; rintro e w' ⟨rfl, b'⟩; replace bel := Lib.hid (belT bel.out b'); clear b') | (go_at_call 12; refine (compat_any _ _ _).mono ?_; rintro e w' ⟨rfl, b'⟩; replace bel := Lib.hid (belT bel.out b'); clear b') | (go_at_call 13; refine (parent_any _ _).mono ?_; rintro e w' ⟨rfl, rfl⟩))
          go_ret
          exact ⟨by first | rfl | (simp; done), bel.out⟩
  | true =>
    cases h2 : covB c b with
    | false =>
      clear f7
      cases q1 : covB a b with
      | false =>
        rw [q1] at f8
        replace f8 := f8.symm
        clear f9 f10
        go_enter Try.func3, Try.ntmps3
        go_wp2_with (first | (go_at_call 8; refine (lives_any _).mono ?_; rintro e w' ⟨rfl, b'⟩; replace bel := Lib.hid (belT bel.out b'); clear b') | (go_at_call 9; with_reducible refine (PA.run.out _).mono ?_; rintro e w' ⟨rfl, rfl⟩) | (go_at_call 9; with_reducible refine (PB.run.out _).mono ?_; rintro e w' ⟨rfl, rfl⟩) | (go_at_call 9; with_reducible refine (PC.run.out _).mono ?_; rintro e w' ⟨rfl, rfl⟩) | (go_at_call 10; refine (sup_any _ _ _).mono ?_; rintro e w' ⟨rfl, b'⟩; replace bel := Lib.hid (belT bel.out b'); clear b') | (go_at_call 11; refine (covers_any _ _ _).mono ?_; rintro e w' ⟨rfl, b'⟩; replace bel := Lib.hid (belT bel.out b'); clear b') | (go_at_call 12; refine (compat_any _ _ _).mono ?_; rintro e w' ⟨rfl, b'⟩; replace bel := Lib.hid (belT bel.out b'); clear b') | (go_at_call 13; refine (parent_any _ _).mono ?_; rintro e w' ⟨rfl, rfl⟩))
        go_ret
        exact ⟨by first | rfl | (simp; done), bel.out⟩
      | true =>
        rw [q1] at f8
        replace f8 := f8.symm
        cases q2 : covB b c with
        | false =>
          clear f9
          cases q4 : covB b a with
          | false =>
            clear f10
            go_enter Try.func3, Try.ntmps3
            go_wp2_with (first | (go_at_call 8; refine (lives_any _).mono ?_; rintro e w' ⟨rfl, b'⟩; replace bel := Lib.hid (belT bel.out b'); clear b') | (go_at_call 9; with_reducible refine (PA.run.out _).mono ?_; rintro e w' ⟨rfl, rfl⟩) | (go_at_call 9; with_reducible refine (PB.run.out _).mono ?_; rintro e w' ⟨rfl, rfl⟩) | (go_at_call 9; with_reducible refine (PC.run.out _).mono ?_; rintro e w' ⟨rfl, rfl⟩) | (go_at_call 10; refine (sup_any _ _ _).mono ?_; rintro e w' ⟨rfl, b'⟩; replace bel := Lib.hid (belT bel.out b'); clear b') | (go_at_call 11; refine (covers_any _ _ _).mono ?_; rintro e w' ⟨rfl, b'⟩; replace bel := Lib.hid (belT bel.out b'); clear b') | (go_at_call 12; refine (compat_any _ _ _).mono ?_; rintro e w' ⟨rfl, b'⟩; replace bel := Lib.hid (belT bel.out b'); clear b') | (go_at_call 13; refine (parent_any _ _).mono ?_; rintro e w' ⟨rfl, rfl⟩))
            go_ret
            exact ⟨by first | rfl | (simp; done), bel.out⟩
          | true =>
            have q5 : ((a : Int) == (b : Int)) = true := by simpa [q1, q4] using f10
            clear f10
            go_enter Try.func3, Try.ntmps3
            go_wp2_with (first | (go_at_call 8; refine (lives_any _).mono ?_; rintro e w' ⟨rfl, b'⟩; replace bel := Lib.hid (belT bel.out b'); clear b') | (go_at_call 9; with_reducible refine (PA.run.out _).mono ?_; rintro e w' ⟨rfl, rfl⟩) | (go_at_call 9; with_reducible refine (PB.run.out _).mono ?_; rintro e w' ⟨rfl, rfl⟩) | (go_at_call 9; with_reducible refine (PC.run.out _).mono ?_; rintro e w' ⟨rfl, rfl⟩) | (go_at_call 10; refine (sup_any _ _ _).mono ?_; rintro e w' ⟨rfl, b'⟩; replace bel := Lib.hid (belT bel.out b'); clear b') | (go_at_call 11; refine (covers_any _ _ _).mono ?_; rintro e w' ⟨rfl, b'⟩; replace bel := Lib.hid (belT bel.out b'); clear b') | (go_at_call 12; refine (compat_any _ _ _).mono ?_; rintro e w' ⟨rfl, b'⟩; replace bel := Lib.hid (belT bel.out b'); clear b') | (go_at_call 13; refine (parent_any _ _).mono ?_; rintro e w' ⟨rfl, rfl⟩))
            go_ret
            exact ⟨by first | rfl | (simp; done), bel.out⟩
        | true =>
          have q3 : covB a c = true := by simpa [q1, q2] using f9
          clear f9
          cases q4 : covB b a with
          | false =>
            clear f10
            go_enter Try.func3, Try.ntmps3
            go_wp2_with (first | (go_at_call 8; refine (lives_any _).mono ?_; rintro e w' ⟨rfl, b'⟩; replace bel := Lib.hid (belT bel.out b'); clear b') | (go_at_call 9; with_reducible refine (PA.run.out _).mono ?_; rintro e w' ⟨rfl, rfl⟩) | (go_at_call 9; with_reducible refine (PB.run.out _).mono ?_; rintro e w' ⟨rfl, rfl⟩) | (go_at_call 9; with_reducible refine (PC.run.out _).mono ?_; rintro e w' ⟨rfl, rfl⟩) | (go_at_call 10; refine (sup_any _ _ _).mono ?_; rintro e w' ⟨rfl, b'⟩; replace bel := Lib.hid (belT bel.out b'); clear b') | (go_at_call 11; refine (covers_any _ _ _).mono ?_; rintro e w' ⟨rfl, b'⟩; replace bel := Lib.hid (belT bel.out b'); clear b') | (go_at_call 12; refine (compat_any _ _ _).mono ?_; rintro e w' ⟨rfl, b'⟩; replace bel := Lib.hid (belT bel.out b'); clear b') | (go_at_call 13; refine (parent_any _ _).mono ?_; rintro e w' ⟨rfl, rfl⟩))
            go_ret
            exact ⟨by first | rfl | (simp; done), bel.out⟩
          | true =>
            have q5 : ((a : Int) == (b : Int)) = true := by simpa [q1, q4] using f10
            clear f10
            go_enter Try.func3, Try.ntmps3
            go_wp2_with (first | (go_at_call 8; refine (lives_any _).mono ?_; rintro e w' ⟨rfl, b'⟩; replace bel := Lib.hid (belT bel.out b'); clear b') | (go_at_call 9; with_reducible refine (PA.run.out _).mono ?_; rintro e w' ⟨rfl, rfl⟩) | (go_at_call 9; with_reducible refine (PB.run.out _).mono ?_; rintro e w' ⟨rfl, rfl⟩) | (go_at_call 9; with_reducible refine (PC.run.out _).mono ?_; rintro e w' ⟨rfl, rfl⟩) | (go_at_call 10; refine (sup_any _ _ _).mono ?_; rintro e w' ⟨rfl, b'⟩; replace bel := Lib.hid (belT bel.out b'); clear b') | (go_at_call 11; refine (covers_any _ _ _).mono ?_; rintro e w' ⟨rfl, b'⟩; replace bel := Lib.hid (belT bel.out b'); clear b') | (go_at_call 12; refine (compat_any _ _ _).mono ?_; rintro e w' ⟨rfl, b'⟩; replace bel := Lib.hid (belT bel.out b'); clear b') | (go_at_call 13; refine (parent_any _ _).mono ?_; rintro e w' ⟨rfl, rfl⟩))
            go_ret
            exact ⟨by first | rfl | (simp; done), bel.out⟩
    | true =>
      have h3 : covB c (supV a b) = true := by simpa [h1, h2] using f7
      clear f7
      cases q1 : covB a b with
      | false =>
        rw [q1] at f8
        replace f8 := f8.symm
        clear f9 f10
        go_enter Try.func3, Try.ntmps3
        go_wp2_with (first | (go_at_call 8; refine (lives_any _).mono ?_; rintro e w' ⟨rfl, b'⟩; replace bel := Lib.hid (belT bel.out b'); clear b') | (go_at_call 9; with_reducible refine (PA.run.out _).mono ?_; rintro e w' ⟨rfl, rfl⟩) | (go_at_call 9; with_reducible refine (PB.run.out _).mono ?_; rintro e w' ⟨rfl, rfl⟩) | (go_at_call 9; with_reducible refine (PC.run.out _).mono ?_; rintro e w' ⟨rfl, rfl⟩) | (go_at_call 10; refine (sup_any _ _ _).mono ?_; rintro e w' ⟨rfl, b'⟩; replace bel := Lib.hid (belT bel.out b'); clear b') | (go_at_call 11; refine (covers_any _ _ _).mono ?_; rintro e w' ⟨rfl, b'⟩; replace bel := Lib.hid (belT bel.out b'); clear b') | (go_at_call 12; refine (compat_any _ _ _).mono ?_; rintro e w' ⟨rfl, b'⟩; replace bel := Lib.hid (belT bel.out b'); clear b') | (go_at_call 13; refine (parent_any _ _).mono ?_; rintro e w' ⟨rfl, rfl⟩))
        go_ret
        exact ⟨by first | rfl | (simp; done), bel.out⟩
      | true =>
        rw [q1] at f8
        replace f8 := f8.symm
        cases q2 : covB b c with
        | false =>
          clear f9
          cases q4 : covB b a with
          | false =>
            clear f10
            go_enter Try.func3, Try.ntmps3
            go_wp2_with (first | (go_at_call 8; refine (lives_any _).mono ?_; rintro e w' ⟨rfl, b'⟩; replace bel := Lib.hid (belT bel.out b'); clear b') | (go_at_call 9; with_reducible refine (PA.run.out _).mono ?_; rintro e w' ⟨rfl, rfl⟩) | (go_at_call 9; with_reducible refine (PB.run.out _).mono ?_; rintro e w' ⟨rfl, rfl⟩) | (go_at_call 9; with_reducible refine (PC.run.out _).mono ?_; rintro e w' ⟨rfl, rfl⟩) | (go_at_call 10; refine (sup_any _ _ _).mono ?_; rintro e w' ⟨rfl, b'⟩; replace bel := Lib.hid (belT bel.out b'); clear b') | (go_at_call 11; refine (covers_any _ _ _).mono ?_; rintro e w' ⟨rfl, b'⟩; replace bel := Lib.hid (belT bel.out b'); clear b') | (go_at_call 12; refine (compat_any _ _ _).mono ?_; rintro e w' ⟨rfl, b'⟩; replace bel := Lib.hid (belT bel.out b'); clear b') | (go_at_call 13; refine (parent_any _ _).mono ?_; rintro e w' ⟨rfl, rfl⟩))
            go_ret
            exact ⟨by first | rfl | (simp; done), bel.out⟩
          | true =>
            have q5 : ((a : Int) == (b : Int)) = true := by simpa [q1, q4] using f10
            clear f10
            go_enter Try.func3, Try.ntmps3
            go_wp2_with (first | (go_at_call 8; refine (lives_any _).mono ?_; rintro e w' ⟨rfl, b'⟩; replace bel := Lib.hid (belT bel.out b'); clear b') | (go_at_call 9; with_reducible refine (PA.run.out _).mono ?_; rintro e w' ⟨rfl, rfl⟩) | (go_at_call 9; with_reducible refine (PB.run.out _).mono ?_; rintro e w' ⟨rfl, rfl⟩) | (go_at_call 9; with_reducible refine (PC.run.out _).mono ?_; rintro e w' ⟨rfl, rfl⟩) | (go_at_call 10; refine (sup_any _ _ _).mono ?_; rintro e w' ⟨rfl, b'⟩; replace bel := Lib.hid (belT bel.out b'); clear b') | (go_at_call 11; refine (covers_any _ _ _).mono ?_; rintro e w' ⟨rfl, b'⟩; replace bel := Lib.hid (belT bel.out b'); clear b') | (go_at_call 12; refine (compat_any _ _ _).mono ?_; rintro e w' ⟨rfl, b'⟩; replace bel := Lib.hid (belT bel.out b'); clear b') | (go_at_call 13; refine (parent_any _ _).mono ?_; rintro e w' ⟨rfl, rfl⟩))
            go_ret
            exact ⟨by first | rfl | (simp; done), bel.out⟩
        | true =>
          have q3 : covB a c = true := by simpa [q1, q2] using f9
          clear f9
          cases q4 : covB b a with
          | false =>
            clear f10
            go_enter Try.func3, Try.ntmps3
            go_wp2_with (first | (go_at_call 8; refine (lives_any _).mono ?_; rintro e w' ⟨rfl, b'⟩; replace bel := Lib.hid (belT bel.out b'); clear b') | (go_at_call 9; with_reducible refine (PA.run.out _).mono ?_; rintro e w' ⟨rfl, rfl⟩) | (go_at_call 9; with_reducible refine (PB.run.out _).mono ?_; rintro e w' ⟨rfl, rfl⟩) | (go_at_call 9; with_reducible refine (PC.run.out _).mono ?_; rintro e w' ⟨rfl, rfl⟩) | (go_at_call 10; refine (sup_any _ _ _).mono ?_; rintro e w' ⟨rfl, b'⟩; replace bel := Lib.hid (belT bel.out b'); clear b') | (go_at_call 11; refine (covers_any _ _ _).mono ?_; rintro e w' ⟨rfl, b'⟩; replace bel := Lib.hid (belT bel.out b'); clear b') | (go_at_call 12; refine (compat_any _ _ _).mono ?_; rintro e w' ⟨rfl, b'⟩; replace bel := Lib.hid (belT bel.out b'); clear b') | (go_at_call 13; refine (parent_any _ _).mono ?_; rintro e w' ⟨rfl, rfl⟩))
            go_ret
            exact ⟨by first | rfl | (simp; done), bel.out⟩
          | true =>
            have q5 : ((a : Int) == (b : Int)) = true := by simpa [q1, q4] using f10
            clear f10
            go_enter Try.func3, Try.ntmps3
            go_wp2_with (first | (go_at_call 8; refine (lives_any _).mono ?_; rintro e w' ⟨rfl, b'⟩; replace bel := Lib.hid (belT bel.out b'); clear b') | (go_at_call 9; with_reducible refine (PA.run.out _).mono ?_; rintro e w' ⟨rfl, rfl⟩) | (go_at_call 9; with_reducible refine (PB.run.out _).mono ?_; rintro e w' ⟨rfl, rfl⟩) | (go_at_call 9; with_reducible refine (PC.run.out _).mono ?_; rintro e w' ⟨rfl, rfl⟩) | (go_at_call 10; refine (sup_any _ _ _).mono ?_; rintro e w' ⟨rfl, b'⟩; replace bel := Lib.hid (belT bel.out b'); clear b') | (go_at_call 11; refine (covers_any _ _ _).mono ?_; rintro e w' ⟨rfl, b'⟩; replace bel := Lib.hid (belT bel.out b'); clear b') | (go_at_call 12; refine (compat_any _ _ _).mono ?_; rintro e w' ⟨rfl, b'⟩; replace bel := Lib.hid (belT bel.out b'); clear b') | (go_at_call 13; refine (parent_any _ _).mono ?_; rintro e w' ⟨rfl, rfl⟩))
            go_ret
            exact ⟨by first | rfl | (simp; done), bel.out⟩
end Go.Proofs.Ytddoephnneeglaa
