/-
  The example of the chapter on latches: the walk of LatchNames. No condition.
-/
import Derived.Test.YtidhhadelgdeiaaUndo
namespace Go.Proofs.Ytidhhadelgdeiaa
open Go.RowKit
theorem try_nil (k t : Int) (w : World) : Calls Try.prog 11 #[.pointer none, .int .i64 k, .int .i64 t] w fun e w' => e = .returned (.tuple #[.bool false, .int .i64 1]) ∧ w = w' := by
  have H := Lib.hid (wrong_nil k t w)
  go_enter Try.func11, Try.ntmps11
  go_wp2_with (go_at_call 25; refine H.out.mono ?_; rintro e w' ⟨rfl, rfl⟩)
  go_ret2
  exact ⟨rfl, rfl⟩
theorem free_nil (k t : Int) (w : World) : Calls Try.prog 12 #[.pointer none, .int .i64 k, .int .i64 t] w fun e w' => e = .returned (.int .i64 1) ∧ w = w' := by
  have H := Lib.hid (wrong_nil k t w)
  go_enter Try.func12, Try.ntmps12
  go_wp2_with (go_at_call 25; refine H.out.mono ?_; rintro e w' ⟨rfl, rfl⟩)
  go_ret
  exact ⟨rfl, rfl⟩
theorem holder_nil (k : Int) (w : World) : Calls Try.prog 15 #[.pointer none, .int .i64 k] w fun e w' => e = .returned (.tuple #[.int .i64 0, .bool false]) ∧ w = w' := by
  have H := Lib.hid (wrong_nil k 0 w)
  go_enter Try.func15, Try.ntmps15
  go_wp2_with (go_at_call 25; refine H.out.mono ?_; rintro e w' ⟨rfl, rfl⟩)
  go_ret2
  exact ⟨rfl, rfl⟩
theorem len_nil (w : World) : Calls Try.prog 16 #[.pointer none] w fun e w' => e = .returned (.int .i64 0) ∧ w = w' := by
  go_enter Try.func16, Try.ntmps16
  go_wp2
  go_ret
  exact ⟨rfl, rfl⟩
theorem taken_nil (w : World) : Calls Try.prog 14 #[.pointer none] w fun e w' => e = .returned (.int .i64 0) ∧ w = w' := by
  go_enter Try.func14, Try.ntmps14
  go_wp2
  go_ret
  exact ⟨rfl, rfl⟩
theorem held_nil (t : Int) (w : World) : Calls Try.prog 13 #[.pointer none, .int .i64 t] w fun e w' => e = .returned (.slice none 0 0) ∧ w = w' := by
  go_enter Try.func13, Try.ntmps13
  go_wp2
  go_ret
  exact ⟨rfl, rfl⟩
theorem lit2 (w : World) (x y : Int) : RI (w.alloc (.cells #[.int .i64 x, .int .i64 y] 3)) (.slice (some ⟨w.heap.size, 0, none⟩) 2 2) [x, y] := by
  refine ⟨_, _, rfl, fun _ => ⟨w.heap.size, 0, rfl, by simp, fun j hj => ?_⟩⟩
  have hj' : j < 2 := hj
  rw [Nat.zero_add, (Blk.new w 3 #[.int .i64 x, .int .i64 y]).cell j]
  match j, hj' with
  | 0, _ => rfl
  | 1, _ => rfl
theorem belT3 {w w1 w2 : World} (h : Below w.heap.size w w1) (h' : Below w1.heap.size w1 w2) : Below w.heap.size w w2 := h.trans (h'.mono h.size)

set_option maxHeartbeats 4000000 in
set_option maxRecDepth 100000 in
theorem names_walk (w : World) : Calls Try.prog 6 #[] w fun e w' => e = .returned (.bool true) ∧ Below w.heap.size w w' := by
  go_enter Try.func6, Try.ntmps6
  go_wp2_with fail
  refine (lives_any _).mono ?_
  rintro e w0 ⟨rfl, b0⟩
  go_wp2_with fail
  refine (new_bad 0 _ (by omega)).mono ?_
  rintro e w' ⟨rfl, rfl⟩
  go_wp2_with fail
  refine (new_bad 17 _ (by omega)).mono ?_
  rintro e w' ⟨rfl, rfl⟩
  go_wp2_with fail
  refine (new_ok 3 _ (by omega) (by omega)).mono ?_
  rintro e w1 ⟨rfl, h1, b1⟩
  have hg : w.heap.size ≤ w0.heap.size := b0.size
  replace b1 := Lib.hid (belT3 b0 b1)
  replace h1 : Hid (Lat w1 (w0.heap.size + 1) w0.heap.size [-1, -1, -1]) := h1
  clear b0
  generalize w0.heap.size = g at *
  generalize hp : g + 1 = p at *
  replace hp := Lib.hid hp
  go_wp2_with fail
  refine (try_any p g 3 0 [-1, -1, -1] _ h1.out).mono ?_
  rintro e w2 ⟨rfl, h2, g2⟩
  replace h2 : Hid (Lat w2 p g [-1, -1, -1]) := h2
  have b2 := Lib.hid (below_grown b1.out g2 b1.out.size hg)
  rw [show tryB [-1, -1, -1] 3 0 = false from rfl, show tryC [-1, -1, -1] 3 0 = 2 from rfl]
  clear h1 b1 g2
  go_wp2_with fail
  refine (try_any p g 0 8 [-1, -1, -1] _ h2.out).mono ?_
  rintro e w3 ⟨rfl, h3, g3⟩
  replace h3 : Hid (Lat w3 p g [-1, -1, -1]) := h3
  have b3 := Lib.hid (below_grown b2.out g3 b2.out.size hg)
  rw [show tryB [-1, -1, -1] 0 8 = false from rfl, show tryC [-1, -1, -1] 0 8 = 2 from rfl]
  clear h2 b2 g3
  go_wp2_with fail
  refine (try_any p g 2 5 [-1, -1, -1] _ h3.out).mono ?_
  rintro e w4 ⟨rfl, h4, g4⟩
  replace h4 : Hid (Lat w4 p g [-1, -1, 5]) := h4
  have b4 := Lib.hid (below_grown b3.out g4 b3.out.size hg)
  rw [show tryB [-1, -1, -1] 2 5 = true from rfl, show tryC [-1, -1, -1] 2 5 = 0 from rfl]
  clear h3 b3 g4
  go_wp2_with fail
  refine (try_any p g 0 5 [-1, -1, 5] _ h4.out).mono ?_
  rintro e w5 ⟨rfl, h5, g5⟩
  replace h5 : Hid (Lat w5 p g [5, -1, 5]) := h5
  have b5 := Lib.hid (below_grown b4.out g5 b4.out.size hg)
  rw [show tryB [-1, -1, 5] 0 5 = true from rfl, show tryC [-1, -1, 5] 0 5 = 0 from rfl]
  clear h4 b4 g5
  go_wp2_with fail
  refine (try_any p g 2 5 [5, -1, 5] _ h5.out).mono ?_
  rintro e w6 ⟨rfl, h6, g6⟩
  replace h6 : Hid (Lat w6 p g [5, -1, 5]) := h6
  have b6 := Lib.hid (below_grown b5.out g6 b5.out.size hg)
  rw [show tryB [5, -1, 5] 2 5 = false from rfl, show tryC [5, -1, 5] 2 5 = 4 from rfl]
  clear h5 b5 g6
  go_wp2_with fail
  refine (free_any p g 2 4 [5, -1, 5] _ h6.out).mono ?_
  rintro e w7 ⟨rfl, h7, g7⟩
  replace h7 : Hid (Lat w7 p g [5, -1, 5]) := h7
  have b7 := Lib.hid (below_grown b6.out g7 b6.out.size hg)
  rw [show freeC [5, -1, 5] 2 4 = 6 from rfl]
  clear h6 b6 g7
  go_wp2_with fail
  refine (free_any p g 1 4 [5, -1, 5] _ h7.out).mono ?_
  rintro e w8 ⟨rfl, h8, g8⟩
  replace h8 : Hid (Lat w8 p g [5, -1, 5]) := h8
  have b8 := Lib.hid (below_grown b7.out g8 b7.out.size hg)
  rw [show freeC [5, -1, 5] 1 4 = 6 from rfl]
  clear h7 b7 g8
  go_wp2_with fail
  refine (holder_any p g 2 [5, -1, 5] _ h8.out).mono ?_
  rintro e w' ⟨rfl, rfl⟩
  rw [show hasV [5, -1, 5] 2 = 5 from rfl, show hasB [5, -1, 5] 2 = true from rfl]
  go_wp2_with fail
  refine (holder_any p g 1 [5, -1, 5] _ h8.out).mono ?_
  rintro e w' ⟨rfl, rfl⟩
  rw [show hasV [5, -1, 5] 1 = 0 from rfl, show hasB [5, -1, 5] 1 = false from rfl]
  go_wp2_with fail
  refine (holder_any p g 9 [5, -1, 5] _ h8.out).mono ?_
  rintro e w' ⟨rfl, rfl⟩
  rw [show hasV [5, -1, 5] 9 = 0 from rfl, show hasB [5, -1, 5] 9 = false from rfl]
  go_wp2_with fail
  refine (try_nil 0 0 _).mono ?_
  rintro e w' ⟨rfl, rfl⟩
  go_wp2_with fail
  refine (holder_nil 0 _).mono ?_
  rintro e w' ⟨rfl, rfl⟩
  go_wp2_with fail
  refine (held_any p g 5 [5, -1, 5] _ h8.out).mono ?_
  rintro e w20 ⟨v20, rfl, o20, b20⟩
  have r20 : Hid (RI w20 v20 [0, 2]) := RI.of_own (xs := [0, 2]) o20
  have h20 := Lib.hid (h8.out.below b20)
  have bb20 := Lib.hid (b8.out.trans (b20.mono b8.out.size))
  clear o20 h8 b8
  go_wp2_with fail
  have rl : RI (w20.alloc (.cells #[.int .i64 0, .int .i64 2] 3)) (.slice (some ⟨w20.heap.size, 0, none⟩) 2 2) [0, 2] := lit2 w20 0 2
  have al := (Below.refl w20.heap.size w20).alloc (Nat.le_refl _) (.cells #[.int .i64 0, .int .i64 2] 3)
  have Z := Lib.hid (same_true _ _ _ _ (by decide) (r20.out.below al) rl)
  have h21 := Lib.hid (h20.out.below al)
  have b21 := Lib.hid (bb20.out.trans (al.mono bb20.out.size))
  clear al rl r20 h20 bb20 b20
  refine Z.out.mono ?_
  rintro e w' ⟨rfl, nd, rfl⟩
  replace h21 := Lib.hid (h21.out.grown_none (grown_drewN (grown_refl _ none) nd))
  replace b21 := Lib.hid (below_drewN b21.out nd)
  generalize World.drewN _ nd = w22 at *
  go_wp2_with fail
  refine (held_any p g 4 [5, -1, 5] _ h21.out).mono ?_
  rintro e w23 ⟨v23, rfl, o23, b23⟩
  obtain ⟨va, vc, rfl⟩ := own_slice o23
  rw [show (heldK [5, -1, 5] 4 [5, -1, 5].length).length = 0 from rfl]
  have h23 := Lib.hid (h21.out.below b23)
  replace b23 := Lib.hid (b21.out.trans (b23.mono b21.out.size))
  clear o23 h21 b21
  go_wp2_with fail
  refine (len_any p g _ _ h23.out).mono ?_
  rintro e w' ⟨rfl, rfl⟩
  go_wp2_with fail
  refine (taken_any p g _ _ h23.out).mono ?_
  rintro e w' ⟨rfl, rfl⟩
  rw [show cnt [5, -1, 5] [5, -1, 5].length = 2 from rfl]
  go_wp2_with fail
  refine (free_nil 0 0 _).mono ?_
  rintro e w' ⟨rfl, rfl⟩
  go_wp2_with fail
  refine (len_nil  _).mono ?_
  rintro e w' ⟨rfl, rfl⟩
  go_wp2_with fail
  refine (taken_nil  _).mono ?_
  rintro e w' ⟨rfl, rfl⟩
  go_wp2_with fail
  refine (held_nil 0 _).mono ?_
  rintro e w' ⟨rfl, rfl⟩
  go_wp2_with fail
  go_ret
  exact ⟨rfl, b23.out⟩
end Go.Proofs.Ytidhhadelgdeiaa
