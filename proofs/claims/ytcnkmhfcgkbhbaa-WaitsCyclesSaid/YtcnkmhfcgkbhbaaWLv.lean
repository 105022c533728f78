/-
  The chapter's example: lives. No condition.
-/
import Derived.Test.YtcnkmhfcgkbhbaaWLa
namespace Go.Proofs.Ytcnkmhfcgkbhbaa
open Go.RowKit
abbrev exL : List Ed := [⟨1, 2⟩, ⟨2, 3⟩, ⟨3, 1⟩, ⟨2, 1⟩]
theorem ex_sd : sdE exL = [⟨1, 2⟩, ⟨2, 1⟩, ⟨2, 3⟩, ⟨3, 1⟩] := by
  refine ltE_uniq _ _ (sdE_pw _) ?_ fun e => ?_
  · simp [ltE]
  · rw [sdE_mem]
    simp only [exL, List.mem_cons, List.not_mem_nil, or_false]
    constructor
    · rintro (h | h | h | h) <;> simp [h]
    · rintro (h | h | h | h) <;> simp [h]
theorem ex_cyc : cyc exL = ([1, 2], true) := by
  unfold cyc nxL
  rw [ex_sd]
  rfl
theorem ex_rl {w : World} {g : Nat} {rs : List Res} (h : Sep w (blk g 41 #[.int .i64 1, .int .i64 2, .int .i64 2, .int .i64 3, .int .i64 3, .int .i64 1, .int .i64 2, .int .i64 1] :: rs)) : RL w (.slice (some ⟨g, 0, none⟩) 4 4) 2 exL.length (exL.flatMap Ed.cells) :=
  (h.blk_vec (size := 2) (n := 4) (c := 4) (xs := exL.flatMap Ed.cells) rfl (Nat.le_refl _) (by decide) rfl rfl).vec_rl
theorem ri_two {w : World} {g : Nat} {x y : Int} {t : TypeId} {rs : List Res} (h : Sep w (blk g t #[.int .i64 x, .int .i64 y] :: rs)) : RI w (.slice (some ⟨g, 0, none⟩) 2 2) [x, y] :=
  ⟨_, 2, rfl, fun _ => ⟨g, 0, rfl, h.b2.1, fun j hj => by
    have h2 : j = 0 ∨ j = 1 := by simp at hj; omega
    rcases h2 with rfl | rfl
    · exact h.b2.2.1
    · exact h.b2.2.2.1⟩⟩
set_option maxHeartbeats 4000000 in
set_option maxRecDepth 100000 in
theorem lives_any (w : World) : Calls Try.prog 8 #[] w fun e w' => e = .returned (.bool true) ∧ Below w.heap.size w w' := by
  have hS := Lib.hid ((Sep.start w).alloc #[.int .i64 1, .int .i64 2, .int .i64 2, .int .i64 3, .int .i64 3, .int .i64 1, .int .i64 2, .int .i64 1] 41)
  have HC := Lib.hid (cycle_any _ exL _ (ex_rl hS.out) (by decide))
  rw [ex_cyc] at HC
  go_enter Try.func8, Try.ntmps8
  go_wp2_with fail
  refine HC.out.mono ?_
  rintro e w1 ⟨a, c, rfl, q⟩
  simp only [List.length_cons, List.length_nil] at q ⊢
  replace hS := Lib.hid (q.graft hS.out)
  clear q HC
  replace hS := Lib.hid (hS.out.alloc #[.int .i64 1, .int .i64 2] 3)
  go_wp2_with fail
  refine (same_true _ _ [1, 2] _ (by decide) hS.out.to1.vec_ri (ri_two hS.out)).mono ?_
  rintro e w2 ⟨rfl, m, rfl⟩
  replace hS := Lib.hid (hS.out.drewN m)
  go_wp2_with fail
  go_ret
  exact ⟨rfl, hS.out.tail.tail.tail.gold⟩
end Go.Proofs.Ytcnkmhfcgkbhbaa
