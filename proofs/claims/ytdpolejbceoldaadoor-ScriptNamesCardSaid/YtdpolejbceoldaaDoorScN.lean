/-
  The law's small script; the kit's names. No condition.
-/
import Derived.Test.YtdpolejbceoldaaDoorScZ
import Derived.Test.YtdpolejbceoldaaDoorScL
import Derived.Test.YtdpolejbceoldaaDoorScQ
namespace Go.Proofs.YtdpolejbceoldaaDoor
set_option linter.unusedSimpArgs false
set_option linter.unusedVariables false
set_option linter.unnecessarySimpa false
open Go.RowKit
theorem dbK_any (w : World) : Calls Tryd.prog 21 #[] w fun e w' => e = .returned (.agg #[.int .i64 (-1), .int .i64 (-1)]) ∧ Below w.heap.size w w' := by
  go_enter Tryd.func21, Tryd.ntmps21
  go_wp2
  refine bodyPost_ret (v := .agg #[.int .i64 (-1), .int .i64 (-1)]) (by simp [results, Tryd.results21, go_sem, *]) rfl ⟨rfl, ?_⟩
  exact (Below.refl _ _).alloc (Nat.le_refl _) _
theorem tK_any (t : Int) (w : World) : Calls Tryd.prog 22 #[.int .i64 t] w fun e w' => e = .returned (.agg #[.int .i64 t, .int .i64 (-1)]) ∧ Below w.heap.size w w' := by
  go_enter Tryd.func22, Tryd.ntmps22
  go_wp2
  refine bodyPost_ret (v := .agg #[.int .i64 t, .int .i64 (-1)]) (by simp [results, Tryd.results22, go_sem, *]) rfl ⟨rfl, ?_⟩
  exact (Below.refl _ _).alloc (Nat.le_refl _) _
theorem rK_any (t r : Int) (w : World) : Calls Tryd.prog 23 #[.int .i64 t, .int .i64 r] w fun e w' => e = .returned (.agg #[.int .i64 t, .int .i64 r]) ∧ Below w.heap.size w w' := by
  go_enter Tryd.func23, Tryd.ntmps23
  go_wp2
  refine bodyPost_ret (v := .agg #[.int .i64 t, .int .i64 r]) (by simp [results, Tryd.results23, go_sem, *]) rfl ⟨rfl, ?_⟩
  exact (Below.refl _ _).alloc (Nat.le_refl _) _
theorem rl_blk {w : World} {B : Nat} {t : TypeId} {cs : Array Value} {rs : List Res} (sz n : Nat) (h : Sep w (blk B t cs :: rs)) (hc : cs.size = n * sz) (hn : 0 < n) : RL w (.slice (some ⟨B, 0, none⟩) n n) sz n cs.toList :=
  ⟨by simpa using hc, _, _, rfl, Nat.le_refl _, (fun h => by cases h), fun _ => ⟨B, 0, rfl, h.gblk.lt, fun j u hu => by
    have := h.gblk.cell j
    rw [Nat.zero_add, this]
    simpa using hu⟩⟩
def smS : Sc := ⟨[[⟨1, -1, -1, 0, 0, 0⟩, ⟨3, 1, 2, 0, 9, 5⟩], [⟨9, 3, -1, 4, 0, 0⟩]], [(1, 1), (2, 200)], 2, 3, 4, 0⟩
set_option maxHeartbeats 4000000 in
set_option maxRecDepth 100000 in
theorem small_any (w : World) : Calls Tryd.prog 20 #[] w fun e w' => ∃ tv pv vs, e = .returned (.agg #[tv, pv, .int .i64 2, .int .i64 3, .int .i64 4, .int .i64 0]) ∧ scR w' tv pv smS vs ∧ Below w.heap.size w w' := by
  have hA := Lib.hid ((Sep.start w).alloc #[.slice none 0 0, .slice none 0 0, .int .i64 0, .int .i64 0, .int .i64 0, .int .i64 0] 30)
  go_enter Tryd.func20, Tryd.ntmps20
  go_wp2_with (first
    | (go_at_call 21; refine (dbK_any _).mono ?_; rintro e w1 ⟨rfl, q1⟩; replace hA := Lib.hid (hA.out.below q1); clear q1)
    | (go_at_call 23; refine (rK_any _ _ _).mono ?_; rintro e w2 ⟨rfl, q2⟩; replace hA := Lib.hid (hA.out.below q2); clear q2)
    | (go_at_call 22; refine (tK_any _ _).mono ?_; rintro e w3 ⟨rfl, q3⟩; replace hA := Lib.hid ((hA.out.alloc #[.int .i64 1, .int .i64 (-1), .int .i64 (-1), .int .i64 0, .int .i64 0, .int .i64 0, .int .i64 3, .int .i64 1, .int .i64 2, .int .i64 0, .int .i64 9, .int .i64 5] 36).below q3); clear q3; have hA4 := Lib.hid (((hA.out.alloc #[.int .i64 9, .int .i64 3, .int .i64 (-1), .int .i64 4, .int .i64 0, .int .i64 0] 36).alloc #[.slice (some ⟨w2.heap.size, 0, none⟩) 2 2, .slice (some ⟨w3.heap.size, 0, none⟩) 1 1] 44).alloc #[.int .i64 1, .int .i64 1, .int .i64 2, .int .i64 200] 47); simp only [World.size_alloc] at hA4; obtain ⟨_, s0, s1, s2, s3, s4, s5, g0, g1, g2, g3, g4, g5⟩ := (hA4.out.bring 4 rfl).b6))
  have hF := Sep.set (Sep.set (Sep.set (Sep.set (Sep.set (Sep.set (hA4.out.bring 4 rfl) 0 (.slice (some ⟨w3.heap.size + 1, 0, none⟩) 2 2)) 1 (.slice (some ⟨w3.heap.size + 1 + 1, 0, none⟩) 2 2)) 2 (.int .i64 2)) 3 (.int .i64 3)) 4 (.int .i64 4)) 5 (.int .i64 0)
  obtain ⟨_, R0, R1, R2, R3, R4, R5, _⟩ := hF.b6
  clear s0 s1 s2 s3 s4 s5 g0 g1 g2 g3 g4 g5
  refine bodyPost_ret (v := .agg #[.slice (some ⟨w3.heap.size + 1, 0, none⟩) 2 2, .slice (some ⟨w3.heap.size + 1 + 1, 0, none⟩) 2 2, .int .i64 2, .int .i64 3, .int .i64 4, .int .i64 0]) (by simp [results, Tryd.results20, go_sem, R0, R1, R2, R3, R4, R5]) rfl ⟨_, _, [.slice (some ⟨w2.heap.size, 0, none⟩) 2 2, .slice (some ⟨w3.heap.size, 0, none⟩) 1 1], rfl, ⟨rfl, ?_, ?_, ?_⟩, ?_⟩
  · exact rl_blk 1 2 (hF.bring 2 rfl) rfl (by decide)
  · intro k hk
    match k, hk with
    | 0, _ => exact rl_blk 6 2 (hF.bring 4 rfl) rfl (by decide)
    | 1, _ => exact rl_blk 6 1 (hF.bring 3 rfl) rfl (by decide)
  · exact rl_blk 2 2 (hF.bring 1 rfl) rfl (by decide)
  · exact (hF.bring 5 rfl).gold
end Go.Proofs.YtdpolejbceoldaaDoor
