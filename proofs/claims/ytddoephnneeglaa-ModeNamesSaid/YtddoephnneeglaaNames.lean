/-
  The examples of the chapter on modes: the walk of ModeNames. No condition.
-/
import Derived.Test.YtddoephnneeglaaTexts
import Derived.Test.YtddoephnneeglaaGroupC
import Derived.Test.YtddoephnneeglaaSame
namespace Go.Proofs.Ytddoephnneeglaa
open Go.RowKit
theorem RI.lit (w : World) (t : Nat) (xs : List Int) : RI (w.alloc (.cells ((xs.map (Value.int .i64)).toArray) t)) (.slice (some ⟨w.heap.size, 0, none⟩) xs.length xs.length) xs := by
  refine ⟨_, _, rfl, fun _ => ⟨w.heap.size, 0, rfl, by simp, fun j hj => ?_⟩⟩
  rw [Nat.zero_add, (Blk.new w t _).cell j]
  simp [List.getD, hj]
set_option maxHeartbeats 4000000 in
set_option maxRecDepth 100000 in
theorem names_walk (w : World) : Calls Try.prog 7 #[] w fun e w' => e = .returned (.bool true) ∧ Below w.heap.size w w' := by
  have bel := Lib.hid (Below.refl w.heap.size w)
  have k0 : knownB 7 = false := by decide +kernel
  have k1 : knownB (-1) = false := by decide +kernel
  have k2 : comB 0 6 = true := by decide +kernel
  have k3 : comB 6 1 = false := by decide +kernel
  have k4 : comB 7 0 = false := by decide +kernel
  have k5 : comB 4 1 = true := by decide +kernel
  have k6 : comB 4 2 = false := by decide +kernel
  have k7 : supV 4 5 = 6 := by decide +kernel
  have k8 : supV 2 5 = 6 := by decide +kernel
  have k9 : supV 1 5 = 5 := by decide +kernel
  have k10 : supV 6 9 = 0 := by decide +kernel
  have k11 : covB 5 3 = true := by decide +kernel
  have k12 : covB 3 2 = false := by decide +kernel
  have k13 : covB 9 9 = false := by decide +kernel
  have k14 : parV 3 = 1 := by decide +kernel
  have k15 : parV 0 = 0 := by decide +kernel
  have k16 : parV 9 = 0 := by decide +kernel
  have k17 : (readV ⟨#[83, 73, 88]⟩).1 = 4 := by decide +kernel
  have k18 : (readV ⟨#[83, 73, 88]⟩).2 = 0 := by decide +kernel
  have k19 : (readV ⟨#[115, 105, 120]⟩).2 = 3 := by decide +kernel
  have k20 : (readV ⟨#[63]⟩).2 = 3 := by decide +kernel
  have k21 : textV 0 = ⟨#[110, 111, 110, 101]⟩ := by decide +kernel
  have k22 : textV 9 = ⟨#[63]⟩ := by decide +kernel
  go_enter Try.func7, Try.ntmps7
  go_wp2_with (first | (go_at_call 8; refine (lives_any _).mono ?_; rintro e w' ⟨rfl, b'⟩; replace bel := Lib.hid (belT bel.out b'); clear b') | (go_at_call 10; refine (sup_any _ _ _).mono ?_; rintro e w' ⟨rfl, b'⟩; replace bel := Lib.hid (belT bel.out b'); clear b') | (go_at_call 11; refine (covers_any _ _ _).mono ?_; rintro e w' ⟨rfl, b'⟩; replace bel := Lib.hid (belT bel.out b'); clear b') | (go_at_call 12; refine (compat_any _ _ _).mono ?_; rintro e w' ⟨rfl, b'⟩; replace bel := Lib.hid (belT bel.out b'); clear b') | (go_at_call 13; refine (parent_any _ _).mono ?_; rintro e w' ⟨rfl, rfl⟩) | (go_at_call 16; refine (text_any _ _).mono ?_; rintro e w' ⟨rfl, b'⟩; replace bel := Lib.hid (belT bel.out b'); clear b') | (go_at_call 15; refine (read_any _ _).mono ?_; rintro e w' ⟨rfl, b'⟩; replace bel := Lib.hid (belT bel.out b'); clear b') | (go_at_call 17; refine (known_any _ _).mono ?_; rintro e w' ⟨rfl, rfl⟩))
  refine (all_any _).mono ?_
  rintro e w1 ⟨v1, rfl, r1, b1⟩
  replace bel := Lib.hid (belT bel.out b1)
  replace r1 := Lib.hid r1
  clear b1
  go_wp2_with (first | (go_at_call 8; refine (lives_any _).mono ?_; rintro e w' ⟨rfl, b'⟩; replace bel := Lib.hid (belT bel.out b'); clear b') | (go_at_call 10; refine (sup_any _ _ _).mono ?_; rintro e w' ⟨rfl, b'⟩; replace bel := Lib.hid (belT bel.out b'); clear b') | (go_at_call 11; refine (covers_any _ _ _).mono ?_; rintro e w' ⟨rfl, b'⟩; replace bel := Lib.hid (belT bel.out b'); clear b') | (go_at_call 12; refine (compat_any _ _ _).mono ?_; rintro e w' ⟨rfl, b'⟩; replace bel := Lib.hid (belT bel.out b'); clear b') | (go_at_call 13; refine (parent_any _ _).mono ?_; rintro e w' ⟨rfl, rfl⟩) | (go_at_call 16; refine (text_any _ _).mono ?_; rintro e w' ⟨rfl, b'⟩; replace bel := Lib.hid (belT bel.out b'); clear b') | (go_at_call 15; refine (read_any _ _).mono ?_; rintro e w' ⟨rfl, b'⟩; replace bel := Lib.hid (belT bel.out b'); clear b') | (go_at_call 17; refine (known_any _ _).mono ?_; rintro e w' ⟨rfl, rfl⟩))
  have Z := Lib.hid (same_true v1 (.slice (some ⟨w1.heap.size, 0, none⟩) 7 7) [0, 1, 2, 3, 4, 5, 6] _ (by decide) (r1.out.below (below_alloc w1 (.cells #[.int .i64 0, .int .i64 1, .int .i64 2, .int .i64 3, .int .i64 4, .int .i64 5, .int .i64 6] 23))) (RI.lit w1 23 [0, 1, 2, 3, 4, 5, 6]))
  replace bel := Lib.hid (belT bel.out (below_alloc w1 (.cells #[.int .i64 0, .int .i64 1, .int .i64 2, .int .i64 3, .int .i64 4, .int .i64 5, .int .i64 6] 23)))
  refine Z.out.mono ?_
  rintro e w2 ⟨rfl, nd, rfl⟩
  clear Z r1
  replace bel := Lib.hid (below_drewN bel.out nd)
  generalize World.drewN _ nd = w3 at *
  go_wp2_with (first | (go_at_call 8; refine (lives_any _).mono ?_; rintro e w' ⟨rfl, b'⟩; replace bel := Lib.hid (belT bel.out b'); clear b') | (go_at_call 10; refine (sup_any _ _ _).mono ?_; rintro e w' ⟨rfl, b'⟩; replace bel := Lib.hid (belT bel.out b'); clear b') | (go_at_call 11; refine (covers_any _ _ _).mono ?_; rintro e w' ⟨rfl, b'⟩; replace bel := Lib.hid (belT bel.out b'); clear b') | (go_at_call 12; refine (compat_any _ _ _).mono ?_; rintro e w' ⟨rfl, b'⟩; replace bel := Lib.hid (belT bel.out b'); clear b') | (go_at_call 13; refine (parent_any _ _).mono ?_; rintro e w' ⟨rfl, rfl⟩) | (go_at_call 16; refine (text_any _ _).mono ?_; rintro e w' ⟨rfl, b'⟩; replace bel := Lib.hid (belT bel.out b'); clear b') | (go_at_call 15; refine (read_any _ _).mono ?_; rintro e w' ⟨rfl, b'⟩; replace bel := Lib.hid (belT bel.out b'); clear b') | (go_at_call 17; refine (known_any _ _).mono ?_; rintro e w' ⟨rfl, rfl⟩))
  replace bel := Lib.hid (belT bel.out (below_alloc _ (.cells #[.int .i64 1, .int .i64 2, .int .i64 3] 23)))
  refine (group_any _ [1, 2, 3] _ (by decide) (RI.lit _ 23 [1, 2, 3])).mono ?_
  rintro e w4 ⟨rfl, b4⟩
  replace bel := Lib.hid (belT bel.out b4)
  clear b4
  rw [show groupV [1, 2, 3] = 4 by decide +kernel]
  go_wp2_with (first | (go_at_call 8; refine (lives_any _).mono ?_; rintro e w' ⟨rfl, b'⟩; replace bel := Lib.hid (belT bel.out b'); clear b') | (go_at_call 10; refine (sup_any _ _ _).mono ?_; rintro e w' ⟨rfl, b'⟩; replace bel := Lib.hid (belT bel.out b'); clear b') | (go_at_call 11; refine (covers_any _ _ _).mono ?_; rintro e w' ⟨rfl, b'⟩; replace bel := Lib.hid (belT bel.out b'); clear b') | (go_at_call 12; refine (compat_any _ _ _).mono ?_; rintro e w' ⟨rfl, b'⟩; replace bel := Lib.hid (belT bel.out b'); clear b') | (go_at_call 13; refine (parent_any _ _).mono ?_; rintro e w' ⟨rfl, rfl⟩) | (go_at_call 16; refine (text_any _ _).mono ?_; rintro e w' ⟨rfl, b'⟩; replace bel := Lib.hid (belT bel.out b'); clear b') | (go_at_call 15; refine (read_any _ _).mono ?_; rintro e w' ⟨rfl, b'⟩; replace bel := Lib.hid (belT bel.out b'); clear b') | (go_at_call 17; refine (known_any _ _).mono ?_; rintro e w' ⟨rfl, rfl⟩))
  refine (group_any _ [] _ (by decide) ⟨none, 0, rfl, fun h => absurd h (by decide)⟩).mono ?_
  rintro e w5 ⟨rfl, b5⟩
  replace bel := Lib.hid (belT bel.out b5)
  clear b5
  rw [show groupV [] = 0 from rfl]
  go_wp2_with (first | (go_at_call 8; refine (lives_any _).mono ?_; rintro e w' ⟨rfl, b'⟩; replace bel := Lib.hid (belT bel.out b'); clear b') | (go_at_call 10; refine (sup_any _ _ _).mono ?_; rintro e w' ⟨rfl, b'⟩; replace bel := Lib.hid (belT bel.out b'); clear b') | (go_at_call 11; refine (covers_any _ _ _).mono ?_; rintro e w' ⟨rfl, b'⟩; replace bel := Lib.hid (belT bel.out b'); clear b') | (go_at_call 12; refine (compat_any _ _ _).mono ?_; rintro e w' ⟨rfl, b'⟩; replace bel := Lib.hid (belT bel.out b'); clear b') | (go_at_call 13; refine (parent_any _ _).mono ?_; rintro e w' ⟨rfl, rfl⟩) | (go_at_call 16; refine (text_any _ _).mono ?_; rintro e w' ⟨rfl, b'⟩; replace bel := Lib.hid (belT bel.out b'); clear b') | (go_at_call 15; refine (read_any _ _).mono ?_; rintro e w' ⟨rfl, b'⟩; replace bel := Lib.hid (belT bel.out b'); clear b') | (go_at_call 17; refine (known_any _ _).mono ?_; rintro e w' ⟨rfl, rfl⟩))
  go_ret
  exact ⟨by first | rfl | (simp; done), bel.out⟩
end Go.Proofs.Ytddoephnneeglaa
