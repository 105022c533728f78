/-
  The walk of QueueNames. No condition.
-/
import Derived.Test.YtmacpjnkmkaloaaQNa
namespace Go.Proofs.Ytmacpjnkmkaloaa
open Go.RowKit
set_option maxHeartbeats 40000000 in
set_option maxRecDepth 100000 in
theorem names_walk (w : World) : Calls Try.prog 6 #[] w fun e w' => e = .returned (.bool true) ∧ Below w.heap.size w w' := by
  go_enter Try.func6, Try.ntmps6
  go_wp2_with fail
  refine (lives_any _).mono ?_
  rintro e w1 ⟨rfl, q⟩
  have hS := Lib.hid ((Sep.start w).below q)
  clear q
  go_wp2_with fail
  refine (empty_any _).mono ?_
  rintro e w2 ⟨rfl, q⟩
  replace hS := Lib.hid (hS.out.below q)
  clear q
  have A := Lib.hid (nGrant 0 (-1) 0 (.slice none 0 0) [] 0 1 3 w2 (RQ.nil w2) (by decide) (by decide) (by decide) (by decide) (by decide) (by decide) ([⟨0, 1, 3, 3, 0⟩] : List Rq) 1 (by decide) rfl)
  unfold hval at *
  go_wp2_with fail
  refine A.out.mono ?_
  rintro e w3 ⟨a3, c3, rfl, q⟩
  replace hS := Lib.hid (show Sep _ [blk w3.heap.size 26 #[.int .i64 0, .int .i64 (-1), .slice a3 1 c3, .int .i64 0], vq (.slice a3 1 c3) ([⟨0, 1, 3, 3, 0⟩] : List Rq), old w] from (q.graft hS.out).alloc _ _)
  clear q A
  obtain ⟨_, d0, d1, d2, d3, _⟩ := hS.out.b4
  have A := Lib.hid (nGrant 0 (-1) 0 (.slice a3 1 c3) ([⟨0, 1, 3, 3, 0⟩] : List Rq) 1 2 3 _ hS.out.to1.vq_rq (by decide) (by decide) (by decide) (by decide) (by decide) (by decide) ([⟨0, 1, 3, 3, 0⟩, ⟨1, 2, 3, 3, 0⟩] : List Rq) 2 (by decide) rfl)
  go_wp2_with fail
  refine A.out.mono ?_
  clear d0 d1 d2 d3
  rintro e w4 ⟨a4, c4, rfl, q⟩
  replace hS := Lib.hid (show Sep _ [blk w3.heap.size 26 #[.int .i64 0, .int .i64 (-1), .slice a3 1 c3, .int .i64 0], vq (.slice a4 2 c4) ([⟨0, 1, 3, 3, 0⟩, ⟨1, 2, 3, 3, 0⟩] : List Rq), old w] from (q.graft hS.out).to1.drop2)
  clear q A
  obtain ⟨_, d0, d1, d2, d3, f0, f1, f2, f3⟩ := hS.out.b4
  replace hS := Lib.hid ((((hS.out.set 0 (.int .i64 0)).set 1 (.int .i64 (-1))).set 2 (.slice a4 2 c4)).set 3 (.int .i64 0))
  have A := Lib.hid (nWait2 0 (-1) 0 (.slice a4 2 c4) ([⟨0, 1, 3, 3, 0⟩, ⟨1, 2, 3, 3, 0⟩] : List Rq) 2 3 6 _ hS.out.to1.vq_rq (by decide) (by decide) (by decide) (by decide) (by decide) (by decide) (by decide) (by decide) ([⟨0, 1, 3, 3, 0⟩, ⟨1, 2, 3, 3, 0⟩, ⟨2, 3, 0, 6, 1⟩] : List Rq) 3 (by decide) rfl)
  go_wp2_with fail
  refine A.out.mono ?_
  clear d0 d1 d2 d3 f0 f1 f2 f3
  rintro e w5 ⟨a5, c5, rfl, q⟩
  replace hS := Lib.hid (show Sep w5 [blk w3.heap.size 26 #[.int .i64 0, .int .i64 (-1), .slice a4 2 c4, .int .i64 0], vq (.slice a5 3 c5) ([⟨0, 1, 3, 3, 0⟩, ⟨1, 2, 3, 3, 0⟩, ⟨2, 3, 0, 6, 1⟩] : List Rq), old w] from (q.graft hS.out).to1.drop2)
  clear q A
  obtain ⟨_, d0, d1, d2, d3, f0, f1, f2, f3⟩ := hS.out.b4
  replace hS := Lib.hid ((((hS.out.set 0 (.int .i64 0)).set 1 (.int .i64 (-1))).set 2 (.slice a5 3 c5)).set 3 (.int .i64 1))
  have A := Lib.hid (nUpW1 0 (-1) 1 (.slice a5 3 c5) ([⟨0, 1, 3, 3, 0⟩, ⟨1, 2, 3, 3, 0⟩, ⟨2, 3, 0, 6, 1⟩] : List Rq) 0 6 0 _ ((hS.out.bring 1 rfl).vq_rq) (by decide) (by decide) (by decide) (by decide) (by decide) (by decide) (by decide) (by decide) (by decide) ([⟨0, 1, 3, 6, 2⟩, ⟨1, 2, 3, 3, 0⟩, ⟨2, 3, 0, 6, 1⟩] : List Rq) 3 (by decide) rfl)
  go_wp2_with fail
  refine A.out.mono ?_
  clear d0 d1 d2 d3 f0 f1 f2 f3
  rintro e w6 ⟨a6, c6, rfl, q⟩
  replace hS := Lib.hid (show Sep _ [blk w6.heap.size 26 #[.int .i64 0, .int .i64 (-1), .slice a6 3 c6, .int .i64 2], vq (.slice a6 3 c6) ([⟨0, 1, 3, 6, 2⟩, ⟨1, 2, 3, 3, 0⟩, ⟨2, 3, 0, 6, 1⟩] : List Rq), blk w3.heap.size 26 #[.int .i64 0, .int .i64 (-1), .slice a5 3 c5, .int .i64 1], vq (.slice a5 3 c5) ([⟨0, 1, 3, 3, 0⟩, ⟨1, 2, 3, 3, 0⟩, ⟨2, 3, 0, 6, 1⟩] : List Rq), old w] from (q.graft (show Sep _ [blk w3.heap.size 26 #[.int .i64 0, .int .i64 (-1), .slice a5 3 c5, .int .i64 1], vq (.slice a5 3 c5) ([⟨0, 1, 3, 3, 0⟩, ⟨1, 2, 3, 3, 0⟩, ⟨2, 3, 0, 6, 1⟩] : List Rq), old w] from hS.out)).alloc _ _)
  clear q A
  obtain ⟨_, d0, d1, d2, d3, _⟩ := (hS.out.bring 0 rfl).b4
  have A := Lib.hid (nUpW2 0 (-1) 2 (.slice a6 3 c6) ([⟨0, 1, 3, 6, 2⟩, ⟨1, 2, 3, 3, 0⟩, ⟨2, 3, 0, 6, 1⟩] : List Rq) 1 5 1 _ ((hS.out.bring 1 rfl).vq_rq) (by decide) (by decide) (by decide) (by decide) (by decide) (by decide) (by decide) (by decide) (by decide) (by decide) ([⟨0, 1, 3, 6, 2⟩, ⟨1, 2, 3, 5, 3⟩, ⟨2, 3, 0, 6, 1⟩] : List Rq) 3 (by decide) rfl)
  go_wp2_with fail
  refine A.out.mono ?_
  clear d0 d1 d2 d3
  rintro e w7 ⟨a7, c7, rfl, q⟩
  replace hS := Lib.hid (show Sep _ [blk w7.heap.size 26 #[.int .i64 0, .int .i64 (-1), .slice a7 3 c7, .int .i64 3], vq (.slice a7 3 c7) ([⟨0, 1, 3, 6, 2⟩, ⟨1, 2, 3, 5, 3⟩, ⟨2, 3, 0, 6, 1⟩] : List Rq), blk w6.heap.size 26 #[.int .i64 0, .int .i64 (-1), .slice a6 3 c6, .int .i64 2], vq (.slice a6 3 c6) ([⟨0, 1, 3, 6, 2⟩, ⟨1, 2, 3, 3, 0⟩, ⟨2, 3, 0, 6, 1⟩] : List Rq), blk w3.heap.size 26 #[.int .i64 0, .int .i64 (-1), .slice a5 3 c5, .int .i64 1], vq (.slice a5 3 c5) ([⟨0, 1, 3, 3, 0⟩, ⟨1, 2, 3, 3, 0⟩, ⟨2, 3, 0, 6, 1⟩] : List Rq), old w] from (q.graft (show Sep _ [blk w6.heap.size 26 #[.int .i64 0, .int .i64 (-1), .slice a6 3 c6, .int .i64 2], vq (.slice a6 3 c6) ([⟨0, 1, 3, 6, 2⟩, ⟨1, 2, 3, 3, 0⟩, ⟨2, 3, 0, 6, 1⟩] : List Rq), blk w3.heap.size 26 #[.int .i64 0, .int .i64 (-1), .slice a5 3 c5, .int .i64 1], vq (.slice a5 3 c5) ([⟨0, 1, 3, 3, 0⟩, ⟨1, 2, 3, 3, 0⟩, ⟨2, 3, 0, 6, 1⟩] : List Rq), old w] from hS.out)).alloc _ _)
  clear q A
  obtain ⟨_, d0, d1, d2, d3, _⟩ := (hS.out.bring 2 rfl).b4
  have A := Lib.hid (upP_state 0 (-1) 2 (.slice a6 3 c6) ([⟨0, 1, 3, 6, 2⟩, ⟨1, 2, 3, 3, 0⟩, ⟨2, 3, 0, 6, 1⟩] : List Rq) 0 6 _ ((hS.out.bring 3 rfl).vq_rq) (by decide) (by decide) 0 (by decide) (by decide) (by decide))
  unfold zhd hval at A
  go_wp2_with fail
  refine A.out.mono ?_
  clear d0 d1 d2 d3
  rintro e w8 ⟨rfl, q⟩
  replace hS := Lib.hid (show Sep _ [blk w7.heap.size 26 #[.int .i64 0, .int .i64 (-1), .slice a7 3 c7, .int .i64 3], vq (.slice a7 3 c7) ([⟨0, 1, 3, 6, 2⟩, ⟨1, 2, 3, 5, 3⟩, ⟨2, 3, 0, 6, 1⟩] : List Rq), blk w6.heap.size 26 #[.int .i64 0, .int .i64 (-1), .slice a6 3 c6, .int .i64 2], vq (.slice a6 3 c6) ([⟨0, 1, 3, 6, 2⟩, ⟨1, 2, 3, 3, 0⟩, ⟨2, 3, 0, 6, 1⟩] : List Rq), blk w3.heap.size 26 #[.int .i64 0, .int .i64 (-1), .slice a5 3 c5, .int .i64 1], vq (.slice a5 3 c5) ([⟨0, 1, 3, 3, 0⟩, ⟨1, 2, 3, 3, 0⟩, ⟨2, 3, 0, 6, 1⟩] : List Rq), old w] from ((hS.out.below q).alloc #[.int .i64 0, .int .i64 0, .slice none 0 0, .int .i64 0] 26).tail)
  clear q A
  obtain ⟨_, d0, d1, d2, d3, _⟩ := (hS.out.bring 4 rfl).b4
  have A := Lib.hid (upP_none 0 (-1) 1 (.slice a5 3 c5) ([⟨0, 1, 3, 3, 0⟩, ⟨1, 2, 3, 3, 0⟩, ⟨2, 3, 0, 6, 1⟩] : List Rq) 9 6 _ ((hS.out.bring 5 rfl).vq_rq) (by decide) (by decide) (by decide))
  unfold zhd hval at A
  go_wp2_with fail
  refine A.out.mono ?_
  clear d0 d1 d2 d3
  rintro e w9 ⟨rfl, q⟩
  replace hS := Lib.hid (show Sep _ [blk w7.heap.size 26 #[.int .i64 0, .int .i64 (-1), .slice a7 3 c7, .int .i64 3], vq (.slice a7 3 c7) ([⟨0, 1, 3, 6, 2⟩, ⟨1, 2, 3, 5, 3⟩, ⟨2, 3, 0, 6, 1⟩] : List Rq), blk w6.heap.size 26 #[.int .i64 0, .int .i64 (-1), .slice a6 3 c6, .int .i64 2], vq (.slice a6 3 c6) ([⟨0, 1, 3, 6, 2⟩, ⟨1, 2, 3, 3, 0⟩, ⟨2, 3, 0, 6, 1⟩] : List Rq), blk w3.heap.size 26 #[.int .i64 0, .int .i64 (-1), .slice a5 3 c5, .int .i64 1], vq (.slice a5 3 c5) ([⟨0, 1, 3, 3, 0⟩, ⟨1, 2, 3, 3, 0⟩, ⟨2, 3, 0, 6, 1⟩] : List Rq), old w] from ((hS.out.below q).alloc #[.int .i64 0, .int .i64 0, .slice none 0 0, .int .i64 0] 26).tail)
  clear q A
  obtain ⟨_, d0, d1, d2, d3, _⟩ := (hS.out.bring 4 rfl).b4
  have A := Lib.hid (upP_arg 0 (-1) 1 (.slice a5 3 c5) ([⟨0, 1, 3, 3, 0⟩, ⟨1, 2, 3, 3, 0⟩, ⟨2, 3, 0, 6, 1⟩] : List Rq) 9 0 _ ((hS.out.bring 5 rfl).vq_rq) (by decide))
  unfold zhd hval at A
  go_wp2_with fail
  refine A.out.mono ?_
  clear d0 d1 d2 d3
  rintro e w10 ⟨rfl, q⟩
  replace hS := Lib.hid (show Sep _ [blk w7.heap.size 26 #[.int .i64 0, .int .i64 (-1), .slice a7 3 c7, .int .i64 3], vq (.slice a7 3 c7) ([⟨0, 1, 3, 6, 2⟩, ⟨1, 2, 3, 5, 3⟩, ⟨2, 3, 0, 6, 1⟩] : List Rq), blk w6.heap.size 26 #[.int .i64 0, .int .i64 (-1), .slice a6 3 c6, .int .i64 2], vq (.slice a6 3 c6) ([⟨0, 1, 3, 6, 2⟩, ⟨1, 2, 3, 3, 0⟩, ⟨2, 3, 0, 6, 1⟩] : List Rq), blk w3.heap.size 26 #[.int .i64 0, .int .i64 (-1), .slice a5 3 c5, .int .i64 1], vq (.slice a5 3 c5) ([⟨0, 1, 3, 3, 0⟩, ⟨1, 2, 3, 3, 0⟩, ⟨2, 3, 0, 6, 1⟩] : List Rq), old w] from ((hS.out.below q).alloc #[.int .i64 0, .int .i64 0, .slice none 0 0, .int .i64 0] 26).tail)
  clear q A
  obtain ⟨_, d0, d1, d2, d3, _⟩ := (hS.out.bring 4 rfl).b4
  have A := Lib.hid (nUpS 0 (-1) 1 (.slice a5 3 c5) ([⟨0, 1, 3, 3, 0⟩, ⟨1, 2, 3, 3, 0⟩, ⟨2, 3, 0, 6, 1⟩] : List Rq) 0 1 0 _ ((hS.out.bring 5 rfl).vq_rq) (by decide) (by decide) (by decide) (by decide) (by decide) (by decide) ([⟨0, 1, 3, 3, 0⟩, ⟨1, 2, 3, 3, 0⟩, ⟨2, 3, 0, 6, 1⟩] : List Rq) 3 (by decide) rfl)
  go_wp2_with fail
  refine A.out.mono ?_
  clear d0 d1 d2 d3
  rintro e w11 ⟨a11, c11, rfl, q⟩
  replace hS := Lib.hid (show Sep _ [blk w7.heap.size 26 #[.int .i64 0, .int .i64 (-1), .slice a7 3 c7, .int .i64 3], vq (.slice a7 3 c7) ([⟨0, 1, 3, 6, 2⟩, ⟨1, 2, 3, 5, 3⟩, ⟨2, 3, 0, 6, 1⟩] : List Rq), blk w6.heap.size 26 #[.int .i64 0, .int .i64 (-1), .slice a6 3 c6, .int .i64 2], vq (.slice a6 3 c6) ([⟨0, 1, 3, 6, 2⟩, ⟨1, 2, 3, 3, 0⟩, ⟨2, 3, 0, 6, 1⟩] : List Rq), blk w3.heap.size 26 #[.int .i64 0, .int .i64 (-1), .slice a5 3 c5, .int .i64 1], vq (.slice a5 3 c5) ([⟨0, 1, 3, 3, 0⟩, ⟨1, 2, 3, 3, 0⟩, ⟨2, 3, 0, 6, 1⟩] : List Rq), old w] from ((q.graft (show Sep _ [blk w7.heap.size 26 #[.int .i64 0, .int .i64 (-1), .slice a7 3 c7, .int .i64 3], vq (.slice a7 3 c7) ([⟨0, 1, 3, 6, 2⟩, ⟨1, 2, 3, 5, 3⟩, ⟨2, 3, 0, 6, 1⟩] : List Rq), blk w6.heap.size 26 #[.int .i64 0, .int .i64 (-1), .slice a6 3 c6, .int .i64 2], vq (.slice a6 3 c6) ([⟨0, 1, 3, 6, 2⟩, ⟨1, 2, 3, 3, 0⟩, ⟨2, 3, 0, 6, 1⟩] : List Rq), blk w3.heap.size 26 #[.int .i64 0, .int .i64 (-1), .slice a5 3 c5, .int .i64 1], vq (.slice a5 3 c5) ([⟨0, 1, 3, 3, 0⟩, ⟨1, 2, 3, 3, 0⟩, ⟨2, 3, 0, 6, 1⟩] : List Rq), old w] from hS.out)).alloc #[.int .i64 0, .int .i64 (-1), .slice a11 3 c11, .int .i64 1] 26).tail.tail)
  clear q A
  obtain ⟨_, d0, d1, d2, d3, _⟩ := (hS.out.bring 4 rfl).b4
  have A := Lib.hid (askP_twice 0 (-1) 1 (.slice a5 3 c5) ([⟨0, 1, 3, 3, 0⟩, ⟨1, 2, 3, 3, 0⟩, ⟨2, 3, 0, 6, 1⟩] : List Rq) 1 9 3 _ ((hS.out.bring 5 rfl).vq_rq) (by decide) (by decide) (by decide) (by decide))
  unfold zhd hval at A
  go_wp2_with fail
  refine A.out.mono ?_
  clear d0 d1 d2 d3
  rintro e w12 ⟨rfl, q⟩
  replace hS := Lib.hid (show Sep _ [blk w7.heap.size 26 #[.int .i64 0, .int .i64 (-1), .slice a7 3 c7, .int .i64 3], vq (.slice a7 3 c7) ([⟨0, 1, 3, 6, 2⟩, ⟨1, 2, 3, 5, 3⟩, ⟨2, 3, 0, 6, 1⟩] : List Rq), blk w6.heap.size 26 #[.int .i64 0, .int .i64 (-1), .slice a6 3 c6, .int .i64 2], vq (.slice a6 3 c6) ([⟨0, 1, 3, 6, 2⟩, ⟨1, 2, 3, 3, 0⟩, ⟨2, 3, 0, 6, 1⟩] : List Rq), blk w3.heap.size 26 #[.int .i64 0, .int .i64 (-1), .slice a5 3 c5, .int .i64 1], vq (.slice a5 3 c5) ([⟨0, 1, 3, 3, 0⟩, ⟨1, 2, 3, 3, 0⟩, ⟨2, 3, 0, 6, 1⟩] : List Rq), old w] from ((hS.out.below q).alloc #[.int .i64 0, .int .i64 0, .slice none 0 0, .int .i64 0] 26).tail)
  clear q A
  obtain ⟨_, d0, d1, d2, d3, _⟩ := (hS.out.bring 4 rfl).b4
  have A := Lib.hid (askP_twice 0 (-1) 1 (.slice a5 3 c5) ([⟨0, 1, 3, 3, 0⟩, ⟨1, 2, 3, 3, 0⟩, ⟨2, 3, 0, 6, 1⟩] : List Rq) 9 3 3 _ ((hS.out.bring 5 rfl).vq_rq) (by decide) (by decide) (by decide) (by decide))
  unfold zhd hval at A
  go_wp2_with fail
  refine A.out.mono ?_
  clear d0 d1 d2 d3
  rintro e w13 ⟨rfl, q⟩
  replace hS := Lib.hid (show Sep _ [blk w7.heap.size 26 #[.int .i64 0, .int .i64 (-1), .slice a7 3 c7, .int .i64 3], vq (.slice a7 3 c7) ([⟨0, 1, 3, 6, 2⟩, ⟨1, 2, 3, 5, 3⟩, ⟨2, 3, 0, 6, 1⟩] : List Rq), blk w6.heap.size 26 #[.int .i64 0, .int .i64 (-1), .slice a6 3 c6, .int .i64 2], vq (.slice a6 3 c6) ([⟨0, 1, 3, 6, 2⟩, ⟨1, 2, 3, 3, 0⟩, ⟨2, 3, 0, 6, 1⟩] : List Rq), blk w3.heap.size 26 #[.int .i64 0, .int .i64 (-1), .slice a5 3 c5, .int .i64 1], vq (.slice a5 3 c5) ([⟨0, 1, 3, 3, 0⟩, ⟨1, 2, 3, 3, 0⟩, ⟨2, 3, 0, 6, 1⟩] : List Rq), old w] from ((hS.out.below q).alloc #[.int .i64 0, .int .i64 0, .slice none 0 0, .int .i64 0] 26).tail)
  clear q A
  obtain ⟨_, d0, d1, d2, d3, _⟩ := (hS.out.bring 4 rfl).b4
  have A := Lib.hid (askP_arg 0 (-1) 1 (.slice a5 3 c5) ([⟨0, 1, 3, 3, 0⟩, ⟨1, 2, 3, 3, 0⟩, ⟨2, 3, 0, 6, 1⟩] : List Rq) (-1) 9 3 _ ((hS.out.bring 5 rfl).vq_rq) (by decide))
  unfold zhd hval at A
  go_wp2_with fail
  refine A.out.mono ?_
  clear d0 d1 d2 d3
  rintro e w14 ⟨rfl, q⟩
  replace hS := Lib.hid (show Sep _ [blk w7.heap.size 26 #[.int .i64 0, .int .i64 (-1), .slice a7 3 c7, .int .i64 3], vq (.slice a7 3 c7) ([⟨0, 1, 3, 6, 2⟩, ⟨1, 2, 3, 5, 3⟩, ⟨2, 3, 0, 6, 1⟩] : List Rq), blk w6.heap.size 26 #[.int .i64 0, .int .i64 (-1), .slice a6 3 c6, .int .i64 2], vq (.slice a6 3 c6) ([⟨0, 1, 3, 6, 2⟩, ⟨1, 2, 3, 3, 0⟩, ⟨2, 3, 0, 6, 1⟩] : List Rq), blk w3.heap.size 26 #[.int .i64 0, .int .i64 (-1), .slice a5 3 c5, .int .i64 1], vq (.slice a5 3 c5) ([⟨0, 1, 3, 3, 0⟩, ⟨1, 2, 3, 3, 0⟩, ⟨2, 3, 0, 6, 1⟩] : List Rq), old w] from ((hS.out.below q).alloc #[.int .i64 0, .int .i64 0, .slice none 0 0, .int .i64 0] 26).tail)
  clear q A
  obtain ⟨_, d0, d1, d2, d3, _⟩ := (hS.out.bring 2 rfl).b4
  have A := Lib.hid (nLeave 0 (-1) 2 (.slice a6 3 c6) ([⟨0, 1, 3, 6, 2⟩, ⟨1, 2, 3, 3, 0⟩, ⟨2, 3, 0, 6, 1⟩] : List Rq) 1 1 _ ((hS.out.bring 3 rfl).vq_rq) (by decide) (by decide) ([⟨0, 1, 3, 6, 2⟩, ⟨2, 3, 0, 6, 1⟩] : List Rq) 2 (by decide) rfl)
  go_wp2_with fail
  refine A.out.mono ?_
  clear d0 d1 d2 d3
  rintro e w15 ⟨a15, c15, rfl, q⟩
  replace hS := Lib.hid (show Sep _ [blk w15.heap.size 26 #[.int .i64 0, .int .i64 (-1), .slice a15 2 c15, .int .i64 2], vq (.slice a15 2 c15) ([⟨0, 1, 3, 6, 2⟩, ⟨2, 3, 0, 6, 1⟩] : List Rq), blk w7.heap.size 26 #[.int .i64 0, .int .i64 (-1), .slice a7 3 c7, .int .i64 3], vq (.slice a7 3 c7) ([⟨0, 1, 3, 6, 2⟩, ⟨1, 2, 3, 5, 3⟩, ⟨2, 3, 0, 6, 1⟩] : List Rq), blk w6.heap.size 26 #[.int .i64 0, .int .i64 (-1), .slice a6 3 c6, .int .i64 2], vq (.slice a6 3 c6) ([⟨0, 1, 3, 6, 2⟩, ⟨1, 2, 3, 3, 0⟩, ⟨2, 3, 0, 6, 1⟩] : List Rq), blk w3.heap.size 26 #[.int .i64 0, .int .i64 (-1), .slice a5 3 c5, .int .i64 1], vq (.slice a5 3 c5) ([⟨0, 1, 3, 3, 0⟩, ⟨1, 2, 3, 3, 0⟩, ⟨2, 3, 0, 6, 1⟩] : List Rq), old w] from (q.graft (show Sep _ [blk w7.heap.size 26 #[.int .i64 0, .int .i64 (-1), .slice a7 3 c7, .int .i64 3], vq (.slice a7 3 c7) ([⟨0, 1, 3, 6, 2⟩, ⟨1, 2, 3, 5, 3⟩, ⟨2, 3, 0, 6, 1⟩] : List Rq), blk w6.heap.size 26 #[.int .i64 0, .int .i64 (-1), .slice a6 3 c6, .int .i64 2], vq (.slice a6 3 c6) ([⟨0, 1, 3, 6, 2⟩, ⟨1, 2, 3, 3, 0⟩, ⟨2, 3, 0, 6, 1⟩] : List Rq), blk w3.heap.size 26 #[.int .i64 0, .int .i64 (-1), .slice a5 3 c5, .int .i64 1], vq (.slice a5 3 c5) ([⟨0, 1, 3, 3, 0⟩, ⟨1, 2, 3, 3, 0⟩, ⟨2, 3, 0, 6, 1⟩] : List Rq), old w] from hS.out)).alloc _ _)
  clear q A
  obtain ⟨_, d0, d1, d2, d3, _⟩ := (hS.out.bring 0 rfl).b4
  have A := Lib.hid (scan_any 0 (-1) 2 (.slice a15 2 c15) ([⟨0, 1, 3, 6, 2⟩, ⟨2, 3, 0, 6, 1⟩] : List Rq) _ ((hS.out.bring 1 rfl).vq_rq) (by decide) (by unfold Wants; decide))
  rw [show scanN (opens ([⟨0, 1, 3, 6, 2⟩, ⟨2, 3, 0, 6, 1⟩] : List Rq)) ([⟨0, 1, 3, 6, 2⟩, ⟨2, 3, 0, 6, 1⟩] : List Rq) [] = (([⟨0, 1, 6, 6, 0⟩, ⟨2, 3, 0, 6, 1⟩] : List Rq), [0]) by decide] at A
  unfold hval at A
  go_wp2_with fail
  refine A.out.mono ?_
  clear d0 d1 d2 d3
  rintro e w16 ⟨a16, c16, b16, k16, rfl, q⟩
  replace hS := Lib.hid (show Sep _ [blk w16.heap.size 26 #[.int .i64 0, .int .i64 (-1), .slice a16 2 c16, .int .i64 2], vq (.slice a16 2 c16) ([⟨0, 1, 6, 6, 0⟩, ⟨2, 3, 0, 6, 1⟩] : List Rq), vec 3 1 (.slice b16 1 k16) 1 ([(0 : Int)].map (Value.int .i64)), blk w15.heap.size 26 #[.int .i64 0, .int .i64 (-1), .slice a15 2 c15, .int .i64 2], vq (.slice a15 2 c15) ([⟨0, 1, 3, 6, 2⟩, ⟨2, 3, 0, 6, 1⟩] : List Rq), blk w7.heap.size 26 #[.int .i64 0, .int .i64 (-1), .slice a7 3 c7, .int .i64 3], vq (.slice a7 3 c7) ([⟨0, 1, 3, 6, 2⟩, ⟨1, 2, 3, 5, 3⟩, ⟨2, 3, 0, 6, 1⟩] : List Rq), blk w6.heap.size 26 #[.int .i64 0, .int .i64 (-1), .slice a6 3 c6, .int .i64 2], vq (.slice a6 3 c6) ([⟨0, 1, 3, 6, 2⟩, ⟨1, 2, 3, 3, 0⟩, ⟨2, 3, 0, 6, 1⟩] : List Rq), blk w3.heap.size 26 #[.int .i64 0, .int .i64 (-1), .slice a5 3 c5, .int .i64 1], vq (.slice a5 3 c5) ([⟨0, 1, 3, 3, 0⟩, ⟨1, 2, 3, 3, 0⟩, ⟨2, 3, 0, 6, 1⟩] : List Rq), old w] from (Sep.gstar.1 ((Sep.gstar.2 q).graft (show Sep _ [blk w15.heap.size 26 #[.int .i64 0, .int .i64 (-1), .slice a15 2 c15, .int .i64 2], vq (.slice a15 2 c15) ([⟨0, 1, 3, 6, 2⟩, ⟨2, 3, 0, 6, 1⟩] : List Rq), blk w7.heap.size 26 #[.int .i64 0, .int .i64 (-1), .slice a7 3 c7, .int .i64 3], vq (.slice a7 3 c7) ([⟨0, 1, 3, 6, 2⟩, ⟨1, 2, 3, 5, 3⟩, ⟨2, 3, 0, 6, 1⟩] : List Rq), blk w6.heap.size 26 #[.int .i64 0, .int .i64 (-1), .slice a6 3 c6, .int .i64 2], vq (.slice a6 3 c6) ([⟨0, 1, 3, 6, 2⟩, ⟨1, 2, 3, 3, 0⟩, ⟨2, 3, 0, 6, 1⟩] : List Rq), blk w3.heap.size 26 #[.int .i64 0, .int .i64 (-1), .slice a5 3 c5, .int .i64 1], vq (.slice a5 3 c5) ([⟨0, 1, 3, 3, 0⟩, ⟨1, 2, 3, 3, 0⟩, ⟨2, 3, 0, 6, 1⟩] : List Rq), old w] from hS.out))).alloc _ _)
  clear q A
  obtain ⟨_, d0, d1, d2, d3, _⟩ := (hS.out.bring 7 rfl).b4
  have A := Lib.hid (nStay 0 (-1) 2 (.slice a6 3 c6) ([⟨0, 1, 3, 6, 2⟩, ⟨1, 2, 3, 3, 0⟩, ⟨2, 3, 0, 6, 1⟩] : List Rq) 0 0 _ ((hS.out.bring 8 rfl).vq_rq) (by decide) (by decide) (by decide) (by decide) (by decide) ([⟨0, 1, 3, 3, 0⟩, ⟨1, 2, 3, 3, 0⟩, ⟨2, 3, 0, 6, 1⟩] : List Rq) 3 (by decide) rfl)
  go_wp2_with fail
  refine A.out.mono ?_
  clear d0 d1 d2 d3
  rintro e w17 ⟨a17, c17, rfl, q⟩
  replace hS := Lib.hid (show Sep _ [blk w17.heap.size 26 #[.int .i64 0, .int .i64 (-1), .slice a17 3 c17, .int .i64 2], vq (.slice a17 3 c17) ([⟨0, 1, 3, 3, 0⟩, ⟨1, 2, 3, 3, 0⟩, ⟨2, 3, 0, 6, 1⟩] : List Rq), blk w16.heap.size 26 #[.int .i64 0, .int .i64 (-1), .slice a16 2 c16, .int .i64 2], vq (.slice a16 2 c16) ([⟨0, 1, 6, 6, 0⟩, ⟨2, 3, 0, 6, 1⟩] : List Rq), vec 3 1 (.slice b16 1 k16) 1 ([(0 : Int)].map (Value.int .i64)), blk w15.heap.size 26 #[.int .i64 0, .int .i64 (-1), .slice a15 2 c15, .int .i64 2], vq (.slice a15 2 c15) ([⟨0, 1, 3, 6, 2⟩, ⟨2, 3, 0, 6, 1⟩] : List Rq), blk w7.heap.size 26 #[.int .i64 0, .int .i64 (-1), .slice a7 3 c7, .int .i64 3], vq (.slice a7 3 c7) ([⟨0, 1, 3, 6, 2⟩, ⟨1, 2, 3, 5, 3⟩, ⟨2, 3, 0, 6, 1⟩] : List Rq), blk w6.heap.size 26 #[.int .i64 0, .int .i64 (-1), .slice a6 3 c6, .int .i64 2], vq (.slice a6 3 c6) ([⟨0, 1, 3, 6, 2⟩, ⟨1, 2, 3, 3, 0⟩, ⟨2, 3, 0, 6, 1⟩] : List Rq), blk w3.heap.size 26 #[.int .i64 0, .int .i64 (-1), .slice a5 3 c5, .int .i64 1], vq (.slice a5 3 c5) ([⟨0, 1, 3, 3, 0⟩, ⟨1, 2, 3, 3, 0⟩, ⟨2, 3, 0, 6, 1⟩] : List Rq), old w] from (q.graft (show Sep _ [blk w16.heap.size 26 #[.int .i64 0, .int .i64 (-1), .slice a16 2 c16, .int .i64 2], vq (.slice a16 2 c16) ([⟨0, 1, 6, 6, 0⟩, ⟨2, 3, 0, 6, 1⟩] : List Rq), vec 3 1 (.slice b16 1 k16) 1 ([(0 : Int)].map (Value.int .i64)), blk w15.heap.size 26 #[.int .i64 0, .int .i64 (-1), .slice a15 2 c15, .int .i64 2], vq (.slice a15 2 c15) ([⟨0, 1, 3, 6, 2⟩, ⟨2, 3, 0, 6, 1⟩] : List Rq), blk w7.heap.size 26 #[.int .i64 0, .int .i64 (-1), .slice a7 3 c7, .int .i64 3], vq (.slice a7 3 c7) ([⟨0, 1, 3, 6, 2⟩, ⟨1, 2, 3, 5, 3⟩, ⟨2, 3, 0, 6, 1⟩] : List Rq), blk w6.heap.size 26 #[.int .i64 0, .int .i64 (-1), .slice a6 3 c6, .int .i64 2], vq (.slice a6 3 c6) ([⟨0, 1, 3, 6, 2⟩, ⟨1, 2, 3, 3, 0⟩, ⟨2, 3, 0, 6, 1⟩] : List Rq), blk w3.heap.size 26 #[.int .i64 0, .int .i64 (-1), .slice a5 3 c5, .int .i64 1], vq (.slice a5 3 c5) ([⟨0, 1, 3, 3, 0⟩, ⟨1, 2, 3, 3, 0⟩, ⟨2, 3, 0, 6, 1⟩] : List Rq), old w] from hS.out)).alloc _ _)
  clear q A
  obtain ⟨_, d0, d1, d2, d3, _⟩ := (hS.out.bring 11 rfl).b4
  have A := Lib.hid (nGone 0 (-1) 1 (.slice a5 3 c5) ([⟨0, 1, 3, 3, 0⟩, ⟨1, 2, 3, 3, 0⟩, ⟨2, 3, 0, 6, 1⟩] : List Rq) 2 2 _ ((hS.out.bring 12 rfl).vq_rq) (by decide) (by decide) (by decide) (by decide) (by decide) ([⟨0, 1, 3, 3, 0⟩, ⟨1, 2, 3, 3, 0⟩] : List Rq) 2 (by decide) rfl)
  go_wp2_with fail
  refine A.out.mono ?_
  clear d0 d1 d2 d3
  rintro e w18 ⟨a18, c18, rfl, q⟩
  replace hS := Lib.hid (show Sep _ [blk w18.heap.size 26 #[.int .i64 0, .int .i64 (-1), .slice a18 2 c18, .int .i64 1], vq (.slice a18 2 c18) ([⟨0, 1, 3, 3, 0⟩, ⟨1, 2, 3, 3, 0⟩] : List Rq), blk w17.heap.size 26 #[.int .i64 0, .int .i64 (-1), .slice a17 3 c17, .int .i64 2], vq (.slice a17 3 c17) ([⟨0, 1, 3, 3, 0⟩, ⟨1, 2, 3, 3, 0⟩, ⟨2, 3, 0, 6, 1⟩] : List Rq), blk w16.heap.size 26 #[.int .i64 0, .int .i64 (-1), .slice a16 2 c16, .int .i64 2], vq (.slice a16 2 c16) ([⟨0, 1, 6, 6, 0⟩, ⟨2, 3, 0, 6, 1⟩] : List Rq), vec 3 1 (.slice b16 1 k16) 1 ([(0 : Int)].map (Value.int .i64)), blk w15.heap.size 26 #[.int .i64 0, .int .i64 (-1), .slice a15 2 c15, .int .i64 2], vq (.slice a15 2 c15) ([⟨0, 1, 3, 6, 2⟩, ⟨2, 3, 0, 6, 1⟩] : List Rq), blk w7.heap.size 26 #[.int .i64 0, .int .i64 (-1), .slice a7 3 c7, .int .i64 3], vq (.slice a7 3 c7) ([⟨0, 1, 3, 6, 2⟩, ⟨1, 2, 3, 5, 3⟩, ⟨2, 3, 0, 6, 1⟩] : List Rq), blk w6.heap.size 26 #[.int .i64 0, .int .i64 (-1), .slice a6 3 c6, .int .i64 2], vq (.slice a6 3 c6) ([⟨0, 1, 3, 6, 2⟩, ⟨1, 2, 3, 3, 0⟩, ⟨2, 3, 0, 6, 1⟩] : List Rq), blk w3.heap.size 26 #[.int .i64 0, .int .i64 (-1), .slice a5 3 c5, .int .i64 1], vq (.slice a5 3 c5) ([⟨0, 1, 3, 3, 0⟩, ⟨1, 2, 3, 3, 0⟩, ⟨2, 3, 0, 6, 1⟩] : List Rq), old w] from (q.graft (show Sep _ [blk w17.heap.size 26 #[.int .i64 0, .int .i64 (-1), .slice a17 3 c17, .int .i64 2], vq (.slice a17 3 c17) ([⟨0, 1, 3, 3, 0⟩, ⟨1, 2, 3, 3, 0⟩, ⟨2, 3, 0, 6, 1⟩] : List Rq), blk w16.heap.size 26 #[.int .i64 0, .int .i64 (-1), .slice a16 2 c16, .int .i64 2], vq (.slice a16 2 c16) ([⟨0, 1, 6, 6, 0⟩, ⟨2, 3, 0, 6, 1⟩] : List Rq), vec 3 1 (.slice b16 1 k16) 1 ([(0 : Int)].map (Value.int .i64)), blk w15.heap.size 26 #[.int .i64 0, .int .i64 (-1), .slice a15 2 c15, .int .i64 2], vq (.slice a15 2 c15) ([⟨0, 1, 3, 6, 2⟩, ⟨2, 3, 0, 6, 1⟩] : List Rq), blk w7.heap.size 26 #[.int .i64 0, .int .i64 (-1), .slice a7 3 c7, .int .i64 3], vq (.slice a7 3 c7) ([⟨0, 1, 3, 6, 2⟩, ⟨1, 2, 3, 5, 3⟩, ⟨2, 3, 0, 6, 1⟩] : List Rq), blk w6.heap.size 26 #[.int .i64 0, .int .i64 (-1), .slice a6 3 c6, .int .i64 2], vq (.slice a6 3 c6) ([⟨0, 1, 3, 6, 2⟩, ⟨1, 2, 3, 3, 0⟩, ⟨2, 3, 0, 6, 1⟩] : List Rq), blk w3.heap.size 26 #[.int .i64 0, .int .i64 (-1), .slice a5 3 c5, .int .i64 1], vq (.slice a5 3 c5) ([⟨0, 1, 3, 3, 0⟩, ⟨1, 2, 3, 3, 0⟩, ⟨2, 3, 0, 6, 1⟩] : List Rq), old w] from hS.out)).alloc _ _)
  clear q A
  obtain ⟨_, d0, d1, d2, d3, _⟩ := (hS.out.bring 13 rfl).b4
  have A := Lib.hid (abP_state 0 (-1) 1 (.slice a5 3 c5) ([⟨0, 1, 3, 3, 0⟩, ⟨1, 2, 3, 3, 0⟩, ⟨2, 3, 0, 6, 1⟩] : List Rq) 0 _ ((hS.out.bring 14 rfl).vq_rq) (by decide) 0 (by decide) (by decide) (by decide))
  unfold zhd hval at A
  go_wp2_with fail
  refine A.out.mono ?_
  clear d0 d1 d2 d3
  rintro e w19 ⟨rfl, q⟩
  replace hS := Lib.hid (show Sep _ [blk w18.heap.size 26 #[.int .i64 0, .int .i64 (-1), .slice a18 2 c18, .int .i64 1], vq (.slice a18 2 c18) ([⟨0, 1, 3, 3, 0⟩, ⟨1, 2, 3, 3, 0⟩] : List Rq), blk w17.heap.size 26 #[.int .i64 0, .int .i64 (-1), .slice a17 3 c17, .int .i64 2], vq (.slice a17 3 c17) ([⟨0, 1, 3, 3, 0⟩, ⟨1, 2, 3, 3, 0⟩, ⟨2, 3, 0, 6, 1⟩] : List Rq), blk w16.heap.size 26 #[.int .i64 0, .int .i64 (-1), .slice a16 2 c16, .int .i64 2], vq (.slice a16 2 c16) ([⟨0, 1, 6, 6, 0⟩, ⟨2, 3, 0, 6, 1⟩] : List Rq), vec 3 1 (.slice b16 1 k16) 1 ([(0 : Int)].map (Value.int .i64)), blk w15.heap.size 26 #[.int .i64 0, .int .i64 (-1), .slice a15 2 c15, .int .i64 2], vq (.slice a15 2 c15) ([⟨0, 1, 3, 6, 2⟩, ⟨2, 3, 0, 6, 1⟩] : List Rq), blk w7.heap.size 26 #[.int .i64 0, .int .i64 (-1), .slice a7 3 c7, .int .i64 3], vq (.slice a7 3 c7) ([⟨0, 1, 3, 6, 2⟩, ⟨1, 2, 3, 5, 3⟩, ⟨2, 3, 0, 6, 1⟩] : List Rq), blk w6.heap.size 26 #[.int .i64 0, .int .i64 (-1), .slice a6 3 c6, .int .i64 2], vq (.slice a6 3 c6) ([⟨0, 1, 3, 6, 2⟩, ⟨1, 2, 3, 3, 0⟩, ⟨2, 3, 0, 6, 1⟩] : List Rq), blk w3.heap.size 26 #[.int .i64 0, .int .i64 (-1), .slice a5 3 c5, .int .i64 1], vq (.slice a5 3 c5) ([⟨0, 1, 3, 3, 0⟩, ⟨1, 2, 3, 3, 0⟩, ⟨2, 3, 0, 6, 1⟩] : List Rq), old w] from ((hS.out.below q).alloc #[.int .i64 0, .int .i64 0, .slice none 0 0, .int .i64 0] 26).tail)
  clear q A
  obtain ⟨_, d0, d1, d2, d3, _⟩ := (hS.out.bring 13 rfl).b4
  have A := Lib.hid (hand_twice 0 (-1) 1 (.slice a5 3 c5) ([⟨0, 1, 3, 3, 0⟩, ⟨1, 2, 3, 3, 0⟩, ⟨2, 3, 0, 6, 1⟩] : List Rq) 0 2 _ ((hS.out.bring 14 rfl).vq_rq) (by decide) 0 (by decide) (by decide) (by decide))
  unfold zhd hval at A
  go_wp2_with fail
  refine A.out.mono ?_
  clear d0 d1 d2 d3
  rintro e w20 ⟨rfl, q⟩
  replace hS := Lib.hid (show Sep _ [blk w18.heap.size 26 #[.int .i64 0, .int .i64 (-1), .slice a18 2 c18, .int .i64 1], vq (.slice a18 2 c18) ([⟨0, 1, 3, 3, 0⟩, ⟨1, 2, 3, 3, 0⟩] : List Rq), blk w17.heap.size 26 #[.int .i64 0, .int .i64 (-1), .slice a17 3 c17, .int .i64 2], vq (.slice a17 3 c17) ([⟨0, 1, 3, 3, 0⟩, ⟨1, 2, 3, 3, 0⟩, ⟨2, 3, 0, 6, 1⟩] : List Rq), blk w16.heap.size 26 #[.int .i64 0, .int .i64 (-1), .slice a16 2 c16, .int .i64 2], vq (.slice a16 2 c16) ([⟨0, 1, 6, 6, 0⟩, ⟨2, 3, 0, 6, 1⟩] : List Rq), vec 3 1 (.slice b16 1 k16) 1 ([(0 : Int)].map (Value.int .i64)), blk w15.heap.size 26 #[.int .i64 0, .int .i64 (-1), .slice a15 2 c15, .int .i64 2], vq (.slice a15 2 c15) ([⟨0, 1, 3, 6, 2⟩, ⟨2, 3, 0, 6, 1⟩] : List Rq), blk w7.heap.size 26 #[.int .i64 0, .int .i64 (-1), .slice a7 3 c7, .int .i64 3], vq (.slice a7 3 c7) ([⟨0, 1, 3, 6, 2⟩, ⟨1, 2, 3, 5, 3⟩, ⟨2, 3, 0, 6, 1⟩] : List Rq), blk w6.heap.size 26 #[.int .i64 0, .int .i64 (-1), .slice a6 3 c6, .int .i64 2], vq (.slice a6 3 c6) ([⟨0, 1, 3, 6, 2⟩, ⟨1, 2, 3, 3, 0⟩, ⟨2, 3, 0, 6, 1⟩] : List Rq), blk w3.heap.size 26 #[.int .i64 0, .int .i64 (-1), .slice a5 3 c5, .int .i64 1], vq (.slice a5 3 c5) ([⟨0, 1, 3, 3, 0⟩, ⟨1, 2, 3, 3, 0⟩, ⟨2, 3, 0, 6, 1⟩] : List Rq), old w] from ((hS.out.below q).alloc #[.int .i64 0, .int .i64 0, .slice none 0 0, .int .i64 0] 26).tail)
  clear q A
  obtain ⟨_, d0, d1, d2, d3, _⟩ := (hS.out.bring 13 rfl).b4
  have A := Lib.hid (nHand 0 (-1) 1 (.slice a5 3 c5) ([⟨0, 1, 3, 3, 0⟩, ⟨1, 2, 3, 3, 0⟩, ⟨2, 3, 0, 6, 1⟩] : List Rq) 0 (-5) 0 _ ((hS.out.bring 14 rfl).vq_rq) (by decide) (by decide) (by decide) (by decide) (by decide) ([⟨0, (-5), 3, 3, 0⟩, ⟨1, 2, 3, 3, 0⟩, ⟨2, 3, 0, 6, 1⟩] : List Rq) 3 (by decide) rfl)
  go_wp2_with fail
  refine A.out.mono ?_
  clear d0 d1 d2 d3
  rintro e w21 ⟨a21, c21, rfl, q⟩
  replace hS := Lib.hid (show Sep _ [blk w21.heap.size 26 #[.int .i64 0, .int .i64 (-1), .slice a21 3 c21, .int .i64 1], vq (.slice a21 3 c21) ([⟨0, (-5), 3, 3, 0⟩, ⟨1, 2, 3, 3, 0⟩, ⟨2, 3, 0, 6, 1⟩] : List Rq), blk w18.heap.size 26 #[.int .i64 0, .int .i64 (-1), .slice a18 2 c18, .int .i64 1], vq (.slice a18 2 c18) ([⟨0, 1, 3, 3, 0⟩, ⟨1, 2, 3, 3, 0⟩] : List Rq), blk w17.heap.size 26 #[.int .i64 0, .int .i64 (-1), .slice a17 3 c17, .int .i64 2], vq (.slice a17 3 c17) ([⟨0, 1, 3, 3, 0⟩, ⟨1, 2, 3, 3, 0⟩, ⟨2, 3, 0, 6, 1⟩] : List Rq), blk w16.heap.size 26 #[.int .i64 0, .int .i64 (-1), .slice a16 2 c16, .int .i64 2], vq (.slice a16 2 c16) ([⟨0, 1, 6, 6, 0⟩, ⟨2, 3, 0, 6, 1⟩] : List Rq), vec 3 1 (.slice b16 1 k16) 1 ([(0 : Int)].map (Value.int .i64)), blk w15.heap.size 26 #[.int .i64 0, .int .i64 (-1), .slice a15 2 c15, .int .i64 2], vq (.slice a15 2 c15) ([⟨0, 1, 3, 6, 2⟩, ⟨2, 3, 0, 6, 1⟩] : List Rq), blk w7.heap.size 26 #[.int .i64 0, .int .i64 (-1), .slice a7 3 c7, .int .i64 3], vq (.slice a7 3 c7) ([⟨0, 1, 3, 6, 2⟩, ⟨1, 2, 3, 5, 3⟩, ⟨2, 3, 0, 6, 1⟩] : List Rq), blk w6.heap.size 26 #[.int .i64 0, .int .i64 (-1), .slice a6 3 c6, .int .i64 2], vq (.slice a6 3 c6) ([⟨0, 1, 3, 6, 2⟩, ⟨1, 2, 3, 3, 0⟩, ⟨2, 3, 0, 6, 1⟩] : List Rq), blk w3.heap.size 26 #[.int .i64 0, .int .i64 (-1), .slice a5 3 c5, .int .i64 1], vq (.slice a5 3 c5) ([⟨0, 1, 3, 3, 0⟩, ⟨1, 2, 3, 3, 0⟩, ⟨2, 3, 0, 6, 1⟩] : List Rq), old w] from (q.graft (show Sep _ [blk w18.heap.size 26 #[.int .i64 0, .int .i64 (-1), .slice a18 2 c18, .int .i64 1], vq (.slice a18 2 c18) ([⟨0, 1, 3, 3, 0⟩, ⟨1, 2, 3, 3, 0⟩] : List Rq), blk w17.heap.size 26 #[.int .i64 0, .int .i64 (-1), .slice a17 3 c17, .int .i64 2], vq (.slice a17 3 c17) ([⟨0, 1, 3, 3, 0⟩, ⟨1, 2, 3, 3, 0⟩, ⟨2, 3, 0, 6, 1⟩] : List Rq), blk w16.heap.size 26 #[.int .i64 0, .int .i64 (-1), .slice a16 2 c16, .int .i64 2], vq (.slice a16 2 c16) ([⟨0, 1, 6, 6, 0⟩, ⟨2, 3, 0, 6, 1⟩] : List Rq), vec 3 1 (.slice b16 1 k16) 1 ([(0 : Int)].map (Value.int .i64)), blk w15.heap.size 26 #[.int .i64 0, .int .i64 (-1), .slice a15 2 c15, .int .i64 2], vq (.slice a15 2 c15) ([⟨0, 1, 3, 6, 2⟩, ⟨2, 3, 0, 6, 1⟩] : List Rq), blk w7.heap.size 26 #[.int .i64 0, .int .i64 (-1), .slice a7 3 c7, .int .i64 3], vq (.slice a7 3 c7) ([⟨0, 1, 3, 6, 2⟩, ⟨1, 2, 3, 5, 3⟩, ⟨2, 3, 0, 6, 1⟩] : List Rq), blk w6.heap.size 26 #[.int .i64 0, .int .i64 (-1), .slice a6 3 c6, .int .i64 2], vq (.slice a6 3 c6) ([⟨0, 1, 3, 6, 2⟩, ⟨1, 2, 3, 3, 0⟩, ⟨2, 3, 0, 6, 1⟩] : List Rq), blk w3.heap.size 26 #[.int .i64 0, .int .i64 (-1), .slice a5 3 c5, .int .i64 1], vq (.slice a5 3 c5) ([⟨0, 1, 3, 3, 0⟩, ⟨1, 2, 3, 3, 0⟩, ⟨2, 3, 0, 6, 1⟩] : List Rq), old w] from hS.out)).alloc _ _)
  clear q A
  obtain ⟨_, d0, d1, d2, d3, _⟩ := (hS.out.bring 15 rfl).b4
  have A := Lib.hid (hand_state 0 (-1) 1 (.slice a5 3 c5) ([⟨0, 1, 3, 3, 0⟩, ⟨1, 2, 3, 3, 0⟩, ⟨2, 3, 0, 6, 1⟩] : List Rq) 2 9 _ ((hS.out.bring 16 rfl).vq_rq) (by decide) 2 (by decide) (by decide) (by decide) (by decide))
  unfold zhd hval at A
  go_wp2_with fail
  refine A.out.mono ?_
  clear d0 d1 d2 d3
  rintro e w22 ⟨rfl, q⟩
  replace hS := Lib.hid (show Sep _ [blk w21.heap.size 26 #[.int .i64 0, .int .i64 (-1), .slice a21 3 c21, .int .i64 1], vq (.slice a21 3 c21) ([⟨0, (-5), 3, 3, 0⟩, ⟨1, 2, 3, 3, 0⟩, ⟨2, 3, 0, 6, 1⟩] : List Rq), blk w18.heap.size 26 #[.int .i64 0, .int .i64 (-1), .slice a18 2 c18, .int .i64 1], vq (.slice a18 2 c18) ([⟨0, 1, 3, 3, 0⟩, ⟨1, 2, 3, 3, 0⟩] : List Rq), blk w17.heap.size 26 #[.int .i64 0, .int .i64 (-1), .slice a17 3 c17, .int .i64 2], vq (.slice a17 3 c17) ([⟨0, 1, 3, 3, 0⟩, ⟨1, 2, 3, 3, 0⟩, ⟨2, 3, 0, 6, 1⟩] : List Rq), blk w16.heap.size 26 #[.int .i64 0, .int .i64 (-1), .slice a16 2 c16, .int .i64 2], vq (.slice a16 2 c16) ([⟨0, 1, 6, 6, 0⟩, ⟨2, 3, 0, 6, 1⟩] : List Rq), vec 3 1 (.slice b16 1 k16) 1 ([(0 : Int)].map (Value.int .i64)), blk w15.heap.size 26 #[.int .i64 0, .int .i64 (-1), .slice a15 2 c15, .int .i64 2], vq (.slice a15 2 c15) ([⟨0, 1, 3, 6, 2⟩, ⟨2, 3, 0, 6, 1⟩] : List Rq), blk w7.heap.size 26 #[.int .i64 0, .int .i64 (-1), .slice a7 3 c7, .int .i64 3], vq (.slice a7 3 c7) ([⟨0, 1, 3, 6, 2⟩, ⟨1, 2, 3, 5, 3⟩, ⟨2, 3, 0, 6, 1⟩] : List Rq), blk w6.heap.size 26 #[.int .i64 0, .int .i64 (-1), .slice a6 3 c6, .int .i64 2], vq (.slice a6 3 c6) ([⟨0, 1, 3, 6, 2⟩, ⟨1, 2, 3, 3, 0⟩, ⟨2, 3, 0, 6, 1⟩] : List Rq), blk w3.heap.size 26 #[.int .i64 0, .int .i64 (-1), .slice a5 3 c5, .int .i64 1], vq (.slice a5 3 c5) ([⟨0, 1, 3, 3, 0⟩, ⟨1, 2, 3, 3, 0⟩, ⟨2, 3, 0, 6, 1⟩] : List Rq), old w] from ((hS.out.below q).alloc #[.int .i64 0, .int .i64 0, .slice none 0 0, .int .i64 0] 26).tail)
  clear q A
  obtain ⟨_, d0, d1, d2, d3, _⟩ := (hS.out.bring 13 rfl).b4
  have A := Lib.hid (find_some 0 (-1) 2 (.slice a6 3 c6) ([⟨0, 1, 3, 6, 2⟩, ⟨1, 2, 3, 3, 0⟩, ⟨2, 3, 0, 6, 1⟩] : List Rq) 0 _ ((hS.out.bring 14 rfl).vq_rq) (by decide) 0 (by decide) (by decide))
  rw [show (([⟨0, 1, 3, 6, 2⟩, ⟨1, 2, 3, 3, 0⟩, ⟨2, 3, 0, 6, 1⟩] : List Rq).getD 0 default).val = .agg #[.int .i64 0, .int .i64 1, .int .i64 3, .int .i64 6, .int .i64 2] from rfl] at A
  unfold hval at A
  go_wp2_with fail
  refine A.out.mono ?_
  clear d0 d1 d2 d3
  rintro e w23 ⟨rfl, q⟩
  replace hS := Lib.hid (show Sep _ [blk w23.heap.size 48 #[.int .i64 0, .int .i64 1, .int .i64 3, .int .i64 6, .int .i64 2], blk w21.heap.size 26 #[.int .i64 0, .int .i64 (-1), .slice a21 3 c21, .int .i64 1], vq (.slice a21 3 c21) ([⟨0, (-5), 3, 3, 0⟩, ⟨1, 2, 3, 3, 0⟩, ⟨2, 3, 0, 6, 1⟩] : List Rq), blk w18.heap.size 26 #[.int .i64 0, .int .i64 (-1), .slice a18 2 c18, .int .i64 1], vq (.slice a18 2 c18) ([⟨0, 1, 3, 3, 0⟩, ⟨1, 2, 3, 3, 0⟩] : List Rq), blk w17.heap.size 26 #[.int .i64 0, .int .i64 (-1), .slice a17 3 c17, .int .i64 2], vq (.slice a17 3 c17) ([⟨0, 1, 3, 3, 0⟩, ⟨1, 2, 3, 3, 0⟩, ⟨2, 3, 0, 6, 1⟩] : List Rq), blk w16.heap.size 26 #[.int .i64 0, .int .i64 (-1), .slice a16 2 c16, .int .i64 2], vq (.slice a16 2 c16) ([⟨0, 1, 6, 6, 0⟩, ⟨2, 3, 0, 6, 1⟩] : List Rq), vec 3 1 (.slice b16 1 k16) 1 ([(0 : Int)].map (Value.int .i64)), blk w15.heap.size 26 #[.int .i64 0, .int .i64 (-1), .slice a15 2 c15, .int .i64 2], vq (.slice a15 2 c15) ([⟨0, 1, 3, 6, 2⟩, ⟨2, 3, 0, 6, 1⟩] : List Rq), blk w7.heap.size 26 #[.int .i64 0, .int .i64 (-1), .slice a7 3 c7, .int .i64 3], vq (.slice a7 3 c7) ([⟨0, 1, 3, 6, 2⟩, ⟨1, 2, 3, 5, 3⟩, ⟨2, 3, 0, 6, 1⟩] : List Rq), blk w6.heap.size 26 #[.int .i64 0, .int .i64 (-1), .slice a6 3 c6, .int .i64 2], vq (.slice a6 3 c6) ([⟨0, 1, 3, 6, 2⟩, ⟨1, 2, 3, 3, 0⟩, ⟨2, 3, 0, 6, 1⟩] : List Rq), blk w3.heap.size 26 #[.int .i64 0, .int .i64 (-1), .slice a5 3 c5, .int .i64 1], vq (.slice a5 3 c5) ([⟨0, 1, 3, 3, 0⟩, ⟨1, 2, 3, 3, 0⟩, ⟨2, 3, 0, 6, 1⟩] : List Rq), old w] from (hS.out.below q).alloc _ _)
  clear q A
  obtain ⟨_, d0, d1, d2, d3, _⟩ := (hS.out.bring 16 rfl).b4
  have A := Lib.hid (ownHead_any 0 (-1) 1 (.slice a5 3 c5) ([⟨0, 1, 3, 3, 0⟩, ⟨1, 2, 3, 3, 0⟩, ⟨2, 3, 0, 6, 1⟩] : List Rq) _ ((hS.out.bring 17 rfl).vq_rq) (by decide))
  unfold hval at A
  go_wp2_with fail
  refine A.out.mono ?_
  clear d0 d1 d2 d3
  rintro e w24 ⟨a24, c24, rfl, q⟩
  replace hS := Lib.hid (show Sep _ [blk w24.heap.size 26 #[.int .i64 0, .int .i64 (-1), .slice a24 3 c24, .int .i64 1], vq (.slice a24 3 c24) ([⟨0, 1, 3, 3, 0⟩, ⟨1, 2, 3, 3, 0⟩, ⟨2, 3, 0, 6, 1⟩] : List Rq), blk w23.heap.size 48 #[.int .i64 0, .int .i64 1, .int .i64 3, .int .i64 6, .int .i64 2], blk w21.heap.size 26 #[.int .i64 0, .int .i64 (-1), .slice a21 3 c21, .int .i64 1], vq (.slice a21 3 c21) ([⟨0, (-5), 3, 3, 0⟩, ⟨1, 2, 3, 3, 0⟩, ⟨2, 3, 0, 6, 1⟩] : List Rq), blk w18.heap.size 26 #[.int .i64 0, .int .i64 (-1), .slice a18 2 c18, .int .i64 1], vq (.slice a18 2 c18) ([⟨0, 1, 3, 3, 0⟩, ⟨1, 2, 3, 3, 0⟩] : List Rq), blk w17.heap.size 26 #[.int .i64 0, .int .i64 (-1), .slice a17 3 c17, .int .i64 2], vq (.slice a17 3 c17) ([⟨0, 1, 3, 3, 0⟩, ⟨1, 2, 3, 3, 0⟩, ⟨2, 3, 0, 6, 1⟩] : List Rq), blk w16.heap.size 26 #[.int .i64 0, .int .i64 (-1), .slice a16 2 c16, .int .i64 2], vq (.slice a16 2 c16) ([⟨0, 1, 6, 6, 0⟩, ⟨2, 3, 0, 6, 1⟩] : List Rq), vec 3 1 (.slice b16 1 k16) 1 ([(0 : Int)].map (Value.int .i64)), blk w15.heap.size 26 #[.int .i64 0, .int .i64 (-1), .slice a15 2 c15, .int .i64 2], vq (.slice a15 2 c15) ([⟨0, 1, 3, 6, 2⟩, ⟨2, 3, 0, 6, 1⟩] : List Rq), blk w7.heap.size 26 #[.int .i64 0, .int .i64 (-1), .slice a7 3 c7, .int .i64 3], vq (.slice a7 3 c7) ([⟨0, 1, 3, 6, 2⟩, ⟨1, 2, 3, 5, 3⟩, ⟨2, 3, 0, 6, 1⟩] : List Rq), blk w6.heap.size 26 #[.int .i64 0, .int .i64 (-1), .slice a6 3 c6, .int .i64 2], vq (.slice a6 3 c6) ([⟨0, 1, 3, 6, 2⟩, ⟨1, 2, 3, 3, 0⟩, ⟨2, 3, 0, 6, 1⟩] : List Rq), blk w3.heap.size 26 #[.int .i64 0, .int .i64 (-1), .slice a5 3 c5, .int .i64 1], vq (.slice a5 3 c5) ([⟨0, 1, 3, 3, 0⟩, ⟨1, 2, 3, 3, 0⟩, ⟨2, 3, 0, 6, 1⟩] : List Rq), old w] from (q.graft (show Sep _ [blk w23.heap.size 48 #[.int .i64 0, .int .i64 1, .int .i64 3, .int .i64 6, .int .i64 2], blk w21.heap.size 26 #[.int .i64 0, .int .i64 (-1), .slice a21 3 c21, .int .i64 1], vq (.slice a21 3 c21) ([⟨0, (-5), 3, 3, 0⟩, ⟨1, 2, 3, 3, 0⟩, ⟨2, 3, 0, 6, 1⟩] : List Rq), blk w18.heap.size 26 #[.int .i64 0, .int .i64 (-1), .slice a18 2 c18, .int .i64 1], vq (.slice a18 2 c18) ([⟨0, 1, 3, 3, 0⟩, ⟨1, 2, 3, 3, 0⟩] : List Rq), blk w17.heap.size 26 #[.int .i64 0, .int .i64 (-1), .slice a17 3 c17, .int .i64 2], vq (.slice a17 3 c17) ([⟨0, 1, 3, 3, 0⟩, ⟨1, 2, 3, 3, 0⟩, ⟨2, 3, 0, 6, 1⟩] : List Rq), blk w16.heap.size 26 #[.int .i64 0, .int .i64 (-1), .slice a16 2 c16, .int .i64 2], vq (.slice a16 2 c16) ([⟨0, 1, 6, 6, 0⟩, ⟨2, 3, 0, 6, 1⟩] : List Rq), vec 3 1 (.slice b16 1 k16) 1 ([(0 : Int)].map (Value.int .i64)), blk w15.heap.size 26 #[.int .i64 0, .int .i64 (-1), .slice a15 2 c15, .int .i64 2], vq (.slice a15 2 c15) ([⟨0, 1, 3, 6, 2⟩, ⟨2, 3, 0, 6, 1⟩] : List Rq), blk w7.heap.size 26 #[.int .i64 0, .int .i64 (-1), .slice a7 3 c7, .int .i64 3], vq (.slice a7 3 c7) ([⟨0, 1, 3, 6, 2⟩, ⟨1, 2, 3, 5, 3⟩, ⟨2, 3, 0, 6, 1⟩] : List Rq), blk w6.heap.size 26 #[.int .i64 0, .int .i64 (-1), .slice a6 3 c6, .int .i64 2], vq (.slice a6 3 c6) ([⟨0, 1, 3, 6, 2⟩, ⟨1, 2, 3, 3, 0⟩, ⟨2, 3, 0, 6, 1⟩] : List Rq), blk w3.heap.size 26 #[.int .i64 0, .int .i64 (-1), .slice a5 3 c5, .int .i64 1], vq (.slice a5 3 c5) ([⟨0, 1, 3, 3, 0⟩, ⟨1, 2, 3, 3, 0⟩, ⟨2, 3, 0, 6, 1⟩] : List Rq), old w] from hS.out)).alloc _ _)
  clear q A
  obtain ⟨g, hg, _, hmc, _, _, _, _, z4, fz⟩ := hS.out.to1.vq_at (i := 2) rfl (by decide)
  subst hg
  have f14 := fz (2 * 5 + 4)
  clear fz
  obtain ⟨_, d0, d1, d2, d3, _⟩ := hS.out.b4
  replace hS := Lib.hid (hS.out.to1.vq_setF rfl (i := 2) (f := 4) (by decide) (by decide) (.int .i64 9) ⟨2, 3, 0, 6, 9⟩ rfl)
  replace hS := Lib.hid (show Sep _ [vq (.slice (some ⟨g, 0, none⟩) 3 c24) ([⟨0, 1, 3, 3, 0⟩, ⟨1, 2, 3, 3, 0⟩, ⟨2, 3, 0, 6, 9⟩] : List Rq), blk w24.heap.size 26 #[.int .i64 0, .int .i64 (-1), .slice (some ⟨g, 0, none⟩) 3 c24, .int .i64 1], blk w23.heap.size 48 #[.int .i64 0, .int .i64 1, .int .i64 3, .int .i64 6, .int .i64 2], blk w21.heap.size 26 #[.int .i64 0, .int .i64 (-1), .slice a21 3 c21, .int .i64 1], vq (.slice a21 3 c21) ([⟨0, (-5), 3, 3, 0⟩, ⟨1, 2, 3, 3, 0⟩, ⟨2, 3, 0, 6, 1⟩] : List Rq), blk w18.heap.size 26 #[.int .i64 0, .int .i64 (-1), .slice a18 2 c18, .int .i64 1], vq (.slice a18 2 c18) ([⟨0, 1, 3, 3, 0⟩, ⟨1, 2, 3, 3, 0⟩] : List Rq), blk w17.heap.size 26 #[.int .i64 0, .int .i64 (-1), .slice a17 3 c17, .int .i64 2], vq (.slice a17 3 c17) ([⟨0, 1, 3, 3, 0⟩, ⟨1, 2, 3, 3, 0⟩, ⟨2, 3, 0, 6, 1⟩] : List Rq), blk w16.heap.size 26 #[.int .i64 0, .int .i64 (-1), .slice a16 2 c16, .int .i64 2], vq (.slice a16 2 c16) ([⟨0, 1, 6, 6, 0⟩, ⟨2, 3, 0, 6, 1⟩] : List Rq), vec 3 1 (.slice b16 1 k16) 1 ([(0 : Int)].map (Value.int .i64)), blk w15.heap.size 26 #[.int .i64 0, .int .i64 (-1), .slice a15 2 c15, .int .i64 2], vq (.slice a15 2 c15) ([⟨0, 1, 3, 6, 2⟩, ⟨2, 3, 0, 6, 1⟩] : List Rq), blk w7.heap.size 26 #[.int .i64 0, .int .i64 (-1), .slice a7 3 c7, .int .i64 3], vq (.slice a7 3 c7) ([⟨0, 1, 3, 6, 2⟩, ⟨1, 2, 3, 5, 3⟩, ⟨2, 3, 0, 6, 1⟩] : List Rq), blk w6.heap.size 26 #[.int .i64 0, .int .i64 (-1), .slice a6 3 c6, .int .i64 2], vq (.slice a6 3 c6) ([⟨0, 1, 3, 6, 2⟩, ⟨1, 2, 3, 3, 0⟩, ⟨2, 3, 0, 6, 1⟩] : List Rq), blk w3.heap.size 26 #[.int .i64 0, .int .i64 (-1), .slice a5 3 c5, .int .i64 1], vq (.slice a5 3 c5) ([⟨0, 1, 3, 3, 0⟩, ⟨1, 2, 3, 3, 0⟩, ⟨2, 3, 0, 6, 1⟩] : List Rq), old w] from hS.out)
  have hT := hS.out.alloc #[.int .i64 0] 3
  simp only [World.size_setCell, World.size_alloc] at hT
  replace hT := Lib.hid hT
  have A := Lib.hid (same_true _ _ [0] _ (by decide) ((hT.out.bring 12 rfl).vec_ri) (ri_one hT.out))
  go_wp2_with fail
  refine A.out.mono ?_
  rintro e w25 ⟨rfl, m, hw⟩
  replace hS := Lib.hid (show Sep w25 [vq (.slice (some ⟨g, 0, none⟩) 3 c24) ([⟨0, 1, 3, 3, 0⟩, ⟨1, 2, 3, 3, 0⟩, ⟨2, 3, 0, 6, 9⟩] : List Rq), blk w24.heap.size 26 #[.int .i64 0, .int .i64 (-1), .slice (some ⟨g, 0, none⟩) 3 c24, .int .i64 1], blk w23.heap.size 48 #[.int .i64 0, .int .i64 1, .int .i64 3, .int .i64 6, .int .i64 2], blk w21.heap.size 26 #[.int .i64 0, .int .i64 (-1), .slice a21 3 c21, .int .i64 1], vq (.slice a21 3 c21) ([⟨0, (-5), 3, 3, 0⟩, ⟨1, 2, 3, 3, 0⟩, ⟨2, 3, 0, 6, 1⟩] : List Rq), blk w18.heap.size 26 #[.int .i64 0, .int .i64 (-1), .slice a18 2 c18, .int .i64 1], vq (.slice a18 2 c18) ([⟨0, 1, 3, 3, 0⟩, ⟨1, 2, 3, 3, 0⟩] : List Rq), blk w17.heap.size 26 #[.int .i64 0, .int .i64 (-1), .slice a17 3 c17, .int .i64 2], vq (.slice a17 3 c17) ([⟨0, 1, 3, 3, 0⟩, ⟨1, 2, 3, 3, 0⟩, ⟨2, 3, 0, 6, 1⟩] : List Rq), blk w16.heap.size 26 #[.int .i64 0, .int .i64 (-1), .slice a16 2 c16, .int .i64 2], vq (.slice a16 2 c16) ([⟨0, 1, 6, 6, 0⟩, ⟨2, 3, 0, 6, 1⟩] : List Rq), vec 3 1 (.slice b16 1 k16) 1 ([(0 : Int)].map (Value.int .i64)), blk w15.heap.size 26 #[.int .i64 0, .int .i64 (-1), .slice a15 2 c15, .int .i64 2], vq (.slice a15 2 c15) ([⟨0, 1, 3, 6, 2⟩, ⟨2, 3, 0, 6, 1⟩] : List Rq), blk w7.heap.size 26 #[.int .i64 0, .int .i64 (-1), .slice a7 3 c7, .int .i64 3], vq (.slice a7 3 c7) ([⟨0, 1, 3, 6, 2⟩, ⟨1, 2, 3, 5, 3⟩, ⟨2, 3, 0, 6, 1⟩] : List Rq), blk w6.heap.size 26 #[.int .i64 0, .int .i64 (-1), .slice a6 3 c6, .int .i64 2], vq (.slice a6 3 c6) ([⟨0, 1, 3, 6, 2⟩, ⟨1, 2, 3, 3, 0⟩, ⟨2, 3, 0, 6, 1⟩] : List Rq), blk w3.heap.size 26 #[.int .i64 0, .int .i64 (-1), .slice a5 3 c5, .int .i64 1], vq (.slice a5 3 c5) ([⟨0, 1, 3, 3, 0⟩, ⟨1, 2, 3, 3, 0⟩, ⟨2, 3, 0, 6, 1⟩] : List Rq), old w] by rw [hw]; exact (hT.out.drewN m).tail)
  clear hw hT A
  obtain ⟨_, d0, d1, d2, d3, _⟩ := (hS.out.bring 9 rfl).b4
  have A := Lib.hid (mode_any 0 (-1) 2 (.slice a16 2 c16) ([⟨0, 1, 6, 6, 0⟩, ⟨2, 3, 0, 6, 1⟩] : List Rq) 1 _ ((hS.out.bring 10 rfl).vq_rq) (by decide))
  rw [show modeOf ([⟨0, 1, 6, 6, 0⟩, ⟨2, 3, 0, 6, 1⟩] : List Rq) 1 = 6 by decide] at A
  unfold hval at A
  go_wp2_with fail
  refine A.out.mono ?_
  clear d0 d1 d2 d3
  rintro e w26 ⟨rfl, q⟩
  replace hS := Lib.hid (show Sep w26 [vq (.slice (some ⟨g, 0, none⟩) 3 c24) ([⟨0, 1, 3, 3, 0⟩, ⟨1, 2, 3, 3, 0⟩, ⟨2, 3, 0, 6, 9⟩] : List Rq), blk w24.heap.size 26 #[.int .i64 0, .int .i64 (-1), .slice (some ⟨g, 0, none⟩) 3 c24, .int .i64 1], blk w23.heap.size 48 #[.int .i64 0, .int .i64 1, .int .i64 3, .int .i64 6, .int .i64 2], blk w21.heap.size 26 #[.int .i64 0, .int .i64 (-1), .slice a21 3 c21, .int .i64 1], vq (.slice a21 3 c21) ([⟨0, (-5), 3, 3, 0⟩, ⟨1, 2, 3, 3, 0⟩, ⟨2, 3, 0, 6, 1⟩] : List Rq), blk w18.heap.size 26 #[.int .i64 0, .int .i64 (-1), .slice a18 2 c18, .int .i64 1], vq (.slice a18 2 c18) ([⟨0, 1, 3, 3, 0⟩, ⟨1, 2, 3, 3, 0⟩] : List Rq), blk w17.heap.size 26 #[.int .i64 0, .int .i64 (-1), .slice a17 3 c17, .int .i64 2], vq (.slice a17 3 c17) ([⟨0, 1, 3, 3, 0⟩, ⟨1, 2, 3, 3, 0⟩, ⟨2, 3, 0, 6, 1⟩] : List Rq), blk w16.heap.size 26 #[.int .i64 0, .int .i64 (-1), .slice a16 2 c16, .int .i64 2], vq (.slice a16 2 c16) ([⟨0, 1, 6, 6, 0⟩, ⟨2, 3, 0, 6, 1⟩] : List Rq), vec 3 1 (.slice b16 1 k16) 1 ([(0 : Int)].map (Value.int .i64)), blk w15.heap.size 26 #[.int .i64 0, .int .i64 (-1), .slice a15 2 c15, .int .i64 2], vq (.slice a15 2 c15) ([⟨0, 1, 3, 6, 2⟩, ⟨2, 3, 0, 6, 1⟩] : List Rq), blk w7.heap.size 26 #[.int .i64 0, .int .i64 (-1), .slice a7 3 c7, .int .i64 3], vq (.slice a7 3 c7) ([⟨0, 1, 3, 6, 2⟩, ⟨1, 2, 3, 5, 3⟩, ⟨2, 3, 0, 6, 1⟩] : List Rq), blk w6.heap.size 26 #[.int .i64 0, .int .i64 (-1), .slice a6 3 c6, .int .i64 2], vq (.slice a6 3 c6) ([⟨0, 1, 3, 6, 2⟩, ⟨1, 2, 3, 3, 0⟩, ⟨2, 3, 0, 6, 1⟩] : List Rq), blk w3.heap.size 26 #[.int .i64 0, .int .i64 (-1), .slice a5 3 c5, .int .i64 1], vq (.slice a5 3 c5) ([⟨0, 1, 3, 3, 0⟩, ⟨1, 2, 3, 3, 0⟩, ⟨2, 3, 0, 6, 1⟩] : List Rq), old w] from hS.out.below q)
  clear q A
  obtain ⟨_, d0, d1, d2, d3, _⟩ := (hS.out.bring 7 rfl).b4
  obtain ⟨_, d4, d5, d6, d7, _⟩ := (hS.out.bring 18 rfl).b4
  have A := Lib.hid (sameRq_true (.slice a17 3 c17) (.slice a5 3 c5) ([⟨0, 1, 3, 3, 0⟩, ⟨1, 2, 3, 3, 0⟩, ⟨2, 3, 0, 6, 1⟩] : List Rq) _ (by decide) ((hS.out.bring 8 rfl).vq_rq) ((hS.out.bring 19 rfl).vq_rq))
  go_wp2_with fail
  refine A.out.mono ?_
  clear d0 d1 d2 d3 d4 d5 d6 d7
  rintro e w27 ⟨rfl, m, hw⟩
  replace hS := Lib.hid (show Sep w27 [vq (.slice (some ⟨g, 0, none⟩) 3 c24) ([⟨0, 1, 3, 3, 0⟩, ⟨1, 2, 3, 3, 0⟩, ⟨2, 3, 0, 6, 9⟩] : List Rq), blk w24.heap.size 26 #[.int .i64 0, .int .i64 (-1), .slice (some ⟨g, 0, none⟩) 3 c24, .int .i64 1], blk w23.heap.size 48 #[.int .i64 0, .int .i64 1, .int .i64 3, .int .i64 6, .int .i64 2], blk w21.heap.size 26 #[.int .i64 0, .int .i64 (-1), .slice a21 3 c21, .int .i64 1], vq (.slice a21 3 c21) ([⟨0, (-5), 3, 3, 0⟩, ⟨1, 2, 3, 3, 0⟩, ⟨2, 3, 0, 6, 1⟩] : List Rq), blk w18.heap.size 26 #[.int .i64 0, .int .i64 (-1), .slice a18 2 c18, .int .i64 1], vq (.slice a18 2 c18) ([⟨0, 1, 3, 3, 0⟩, ⟨1, 2, 3, 3, 0⟩] : List Rq), blk w17.heap.size 26 #[.int .i64 0, .int .i64 (-1), .slice a17 3 c17, .int .i64 2], vq (.slice a17 3 c17) ([⟨0, 1, 3, 3, 0⟩, ⟨1, 2, 3, 3, 0⟩, ⟨2, 3, 0, 6, 1⟩] : List Rq), blk w16.heap.size 26 #[.int .i64 0, .int .i64 (-1), .slice a16 2 c16, .int .i64 2], vq (.slice a16 2 c16) ([⟨0, 1, 6, 6, 0⟩, ⟨2, 3, 0, 6, 1⟩] : List Rq), vec 3 1 (.slice b16 1 k16) 1 ([(0 : Int)].map (Value.int .i64)), blk w15.heap.size 26 #[.int .i64 0, .int .i64 (-1), .slice a15 2 c15, .int .i64 2], vq (.slice a15 2 c15) ([⟨0, 1, 3, 6, 2⟩, ⟨2, 3, 0, 6, 1⟩] : List Rq), blk w7.heap.size 26 #[.int .i64 0, .int .i64 (-1), .slice a7 3 c7, .int .i64 3], vq (.slice a7 3 c7) ([⟨0, 1, 3, 6, 2⟩, ⟨1, 2, 3, 5, 3⟩, ⟨2, 3, 0, 6, 1⟩] : List Rq), blk w6.heap.size 26 #[.int .i64 0, .int .i64 (-1), .slice a6 3 c6, .int .i64 2], vq (.slice a6 3 c6) ([⟨0, 1, 3, 6, 2⟩, ⟨1, 2, 3, 3, 0⟩, ⟨2, 3, 0, 6, 1⟩] : List Rq), blk w3.heap.size 26 #[.int .i64 0, .int .i64 (-1), .slice a5 3 c5, .int .i64 1], vq (.slice a5 3 c5) ([⟨0, 1, 3, 3, 0⟩, ⟨1, 2, 3, 3, 0⟩, ⟨2, 3, 0, 6, 1⟩] : List Rq), old w] by rw [hw]; exact hS.out.drewN m)
  clear hw A
  obtain ⟨_, d0, d1, d2, d3, _⟩ := (hS.out.bring 5 rfl).b4
  obtain ⟨_, d4, d5, d6, d7, _⟩ := (hS.out.bring 3 rfl).b4
  have A := Lib.hid (mode_any 0 (-1) 1 (.slice a21 3 c21) ([⟨0, (-5), 3, 3, 0⟩, ⟨1, 2, 3, 3, 0⟩, ⟨2, 3, 0, 6, 1⟩] : List Rq) (-5) _ ((hS.out.bring 4 rfl).vq_rq) (by decide))
  rw [show modeOf ([⟨0, (-5), 3, 3, 0⟩, ⟨1, 2, 3, 3, 0⟩, ⟨2, 3, 0, 6, 1⟩] : List Rq) (-5) = 3 by decide] at A
  unfold hval at A
  go_wp2_with fail
  refine A.out.mono ?_
  clear d0 d1 d2 d3 d4 d5 d6 d7
  rintro e w28 ⟨rfl, q⟩
  replace hS := Lib.hid (show Sep w28 [vq (.slice (some ⟨g, 0, none⟩) 3 c24) ([⟨0, 1, 3, 3, 0⟩, ⟨1, 2, 3, 3, 0⟩, ⟨2, 3, 0, 6, 9⟩] : List Rq), blk w24.heap.size 26 #[.int .i64 0, .int .i64 (-1), .slice (some ⟨g, 0, none⟩) 3 c24, .int .i64 1], blk w23.heap.size 48 #[.int .i64 0, .int .i64 1, .int .i64 3, .int .i64 6, .int .i64 2], blk w21.heap.size 26 #[.int .i64 0, .int .i64 (-1), .slice a21 3 c21, .int .i64 1], vq (.slice a21 3 c21) ([⟨0, (-5), 3, 3, 0⟩, ⟨1, 2, 3, 3, 0⟩, ⟨2, 3, 0, 6, 1⟩] : List Rq), blk w18.heap.size 26 #[.int .i64 0, .int .i64 (-1), .slice a18 2 c18, .int .i64 1], vq (.slice a18 2 c18) ([⟨0, 1, 3, 3, 0⟩, ⟨1, 2, 3, 3, 0⟩] : List Rq), blk w17.heap.size 26 #[.int .i64 0, .int .i64 (-1), .slice a17 3 c17, .int .i64 2], vq (.slice a17 3 c17) ([⟨0, 1, 3, 3, 0⟩, ⟨1, 2, 3, 3, 0⟩, ⟨2, 3, 0, 6, 1⟩] : List Rq), blk w16.heap.size 26 #[.int .i64 0, .int .i64 (-1), .slice a16 2 c16, .int .i64 2], vq (.slice a16 2 c16) ([⟨0, 1, 6, 6, 0⟩, ⟨2, 3, 0, 6, 1⟩] : List Rq), vec 3 1 (.slice b16 1 k16) 1 ([(0 : Int)].map (Value.int .i64)), blk w15.heap.size 26 #[.int .i64 0, .int .i64 (-1), .slice a15 2 c15, .int .i64 2], vq (.slice a15 2 c15) ([⟨0, 1, 3, 6, 2⟩, ⟨2, 3, 0, 6, 1⟩] : List Rq), blk w7.heap.size 26 #[.int .i64 0, .int .i64 (-1), .slice a7 3 c7, .int .i64 3], vq (.slice a7 3 c7) ([⟨0, 1, 3, 6, 2⟩, ⟨1, 2, 3, 5, 3⟩, ⟨2, 3, 0, 6, 1⟩] : List Rq), blk w6.heap.size 26 #[.int .i64 0, .int .i64 (-1), .slice a6 3 c6, .int .i64 2], vq (.slice a6 3 c6) ([⟨0, 1, 3, 6, 2⟩, ⟨1, 2, 3, 3, 0⟩, ⟨2, 3, 0, 6, 1⟩] : List Rq), blk w3.heap.size 26 #[.int .i64 0, .int .i64 (-1), .slice a5 3 c5, .int .i64 1], vq (.slice a5 3 c5) ([⟨0, 1, 3, 3, 0⟩, ⟨1, 2, 3, 3, 0⟩, ⟨2, 3, 0, 6, 1⟩] : List Rq), old w] from hS.out.below q)
  clear q A
  obtain ⟨_, x0, x1, x2, x3, x4, _⟩ := (hS.out.bring 2 rfl).b5
  have hqe : ∀ W, (binOp .eql 48 (.agg #[.int .i64 0, .int .i64 1, .int .i64 3, .int .i64 6, .int .i64 2]) (.agg #[.int .i64 0, .int .i64 1, .int .i64 3, .int .i64 6, .int .i64 2])).run Try.prog W = .ok (.bool true) W := fun W => by rw [run_eql_req]; rfl
  obtain ⟨_, d0, d1, d2, d3, _⟩ := (hS.out.bring 16 rfl).b4
  have A := Lib.hid (blockers_some 0 (-1) 2 (.slice a6 3 c6) ([⟨0, 1, 3, 6, 2⟩, ⟨1, 2, 3, 3, 0⟩, ⟨2, 3, 0, 6, 1⟩] : List Rq) 0 _ ((hS.out.bring 17 rfl).vq_rq) (by decide) 0 (by decide) (by decide) (by decide))
  rw [show nrm (blkL ([⟨0, 1, 3, 6, 2⟩, ⟨1, 2, 3, 3, 0⟩, ⟨2, 3, 0, 6, 1⟩] : List Rq) (([⟨0, 1, 3, 6, 2⟩, ⟨1, 2, 3, 3, 0⟩, ⟨2, 3, 0, 6, 1⟩] : List Rq).getD 0 default)) = [2] by rw [show blkL ([⟨0, 1, 3, 6, 2⟩, ⟨1, 2, 3, 3, 0⟩, ⟨2, 3, 0, 6, 1⟩] : List Rq) (([⟨0, 1, 3, 6, 2⟩, ⟨1, 2, 3, 3, 0⟩, ⟨2, 3, 0, 6, 1⟩] : List Rq).getD 0 default) = [2] by decide, nrm_sorted _ (by simp)]; rfl] at A
  unfold hval at A
  go_wp2_with fail
  refine A.out.mono ?_
  clear d0 d1 d2 d3 x0 x1 x2 x3 x4 hqe
  rintro e w29 ⟨ba29, bc29, rfl, q⟩
  simp only [List.length_cons, List.length_nil] at q ⊢
  replace hS := Lib.hid (show Sep w29 [vec 3 1 (.slice ba29 1 bc29) 1 ([(2 : Int)].map (Value.int .i64)), vq (.slice (some ⟨g, 0, none⟩) 3 c24) ([⟨0, 1, 3, 3, 0⟩, ⟨1, 2, 3, 3, 0⟩, ⟨2, 3, 0, 6, 9⟩] : List Rq), blk w24.heap.size 26 #[.int .i64 0, .int .i64 (-1), .slice (some ⟨g, 0, none⟩) 3 c24, .int .i64 1], blk w23.heap.size 48 #[.int .i64 0, .int .i64 1, .int .i64 3, .int .i64 6, .int .i64 2], blk w21.heap.size 26 #[.int .i64 0, .int .i64 (-1), .slice a21 3 c21, .int .i64 1], vq (.slice a21 3 c21) ([⟨0, (-5), 3, 3, 0⟩, ⟨1, 2, 3, 3, 0⟩, ⟨2, 3, 0, 6, 1⟩] : List Rq), blk w18.heap.size 26 #[.int .i64 0, .int .i64 (-1), .slice a18 2 c18, .int .i64 1], vq (.slice a18 2 c18) ([⟨0, 1, 3, 3, 0⟩, ⟨1, 2, 3, 3, 0⟩] : List Rq), blk w17.heap.size 26 #[.int .i64 0, .int .i64 (-1), .slice a17 3 c17, .int .i64 2], vq (.slice a17 3 c17) ([⟨0, 1, 3, 3, 0⟩, ⟨1, 2, 3, 3, 0⟩, ⟨2, 3, 0, 6, 1⟩] : List Rq), blk w16.heap.size 26 #[.int .i64 0, .int .i64 (-1), .slice a16 2 c16, .int .i64 2], vq (.slice a16 2 c16) ([⟨0, 1, 6, 6, 0⟩, ⟨2, 3, 0, 6, 1⟩] : List Rq), vec 3 1 (.slice b16 1 k16) 1 ([(0 : Int)].map (Value.int .i64)), blk w15.heap.size 26 #[.int .i64 0, .int .i64 (-1), .slice a15 2 c15, .int .i64 2], vq (.slice a15 2 c15) ([⟨0, 1, 3, 6, 2⟩, ⟨2, 3, 0, 6, 1⟩] : List Rq), blk w7.heap.size 26 #[.int .i64 0, .int .i64 (-1), .slice a7 3 c7, .int .i64 3], vq (.slice a7 3 c7) ([⟨0, 1, 3, 6, 2⟩, ⟨1, 2, 3, 5, 3⟩, ⟨2, 3, 0, 6, 1⟩] : List Rq), blk w6.heap.size 26 #[.int .i64 0, .int .i64 (-1), .slice a6 3 c6, .int .i64 2], vq (.slice a6 3 c6) ([⟨0, 1, 3, 6, 2⟩, ⟨1, 2, 3, 3, 0⟩, ⟨2, 3, 0, 6, 1⟩] : List Rq), blk w3.heap.size 26 #[.int .i64 0, .int .i64 (-1), .slice a5 3 c5, .int .i64 1], vq (.slice a5 3 c5) ([⟨0, 1, 3, 3, 0⟩, ⟨1, 2, 3, 3, 0⟩, ⟨2, 3, 0, 6, 1⟩] : List Rq), old w] from q.graft hS.out)
  clear q A
  have hT := hS.out.alloc #[.int .i64 2] 3
  replace hT := Lib.hid hT
  have A := Lib.hid (same_true _ _ [2] _ (by decide) ((hT.out.bring 1 rfl).vec_ri) (ri_one hT.out))
  go_wp2_with fail
  refine A.out.mono ?_
  rintro e w30 ⟨rfl, m, hw⟩
  replace hS := Lib.hid (show Sep w30 [vec 3 1 (.slice ba29 1 bc29) 1 ([(2 : Int)].map (Value.int .i64)), vq (.slice (some ⟨g, 0, none⟩) 3 c24) ([⟨0, 1, 3, 3, 0⟩, ⟨1, 2, 3, 3, 0⟩, ⟨2, 3, 0, 6, 9⟩] : List Rq), blk w24.heap.size 26 #[.int .i64 0, .int .i64 (-1), .slice (some ⟨g, 0, none⟩) 3 c24, .int .i64 1], blk w23.heap.size 48 #[.int .i64 0, .int .i64 1, .int .i64 3, .int .i64 6, .int .i64 2], blk w21.heap.size 26 #[.int .i64 0, .int .i64 (-1), .slice a21 3 c21, .int .i64 1], vq (.slice a21 3 c21) ([⟨0, (-5), 3, 3, 0⟩, ⟨1, 2, 3, 3, 0⟩, ⟨2, 3, 0, 6, 1⟩] : List Rq), blk w18.heap.size 26 #[.int .i64 0, .int .i64 (-1), .slice a18 2 c18, .int .i64 1], vq (.slice a18 2 c18) ([⟨0, 1, 3, 3, 0⟩, ⟨1, 2, 3, 3, 0⟩] : List Rq), blk w17.heap.size 26 #[.int .i64 0, .int .i64 (-1), .slice a17 3 c17, .int .i64 2], vq (.slice a17 3 c17) ([⟨0, 1, 3, 3, 0⟩, ⟨1, 2, 3, 3, 0⟩, ⟨2, 3, 0, 6, 1⟩] : List Rq), blk w16.heap.size 26 #[.int .i64 0, .int .i64 (-1), .slice a16 2 c16, .int .i64 2], vq (.slice a16 2 c16) ([⟨0, 1, 6, 6, 0⟩, ⟨2, 3, 0, 6, 1⟩] : List Rq), vec 3 1 (.slice b16 1 k16) 1 ([(0 : Int)].map (Value.int .i64)), blk w15.heap.size 26 #[.int .i64 0, .int .i64 (-1), .slice a15 2 c15, .int .i64 2], vq (.slice a15 2 c15) ([⟨0, 1, 3, 6, 2⟩, ⟨2, 3, 0, 6, 1⟩] : List Rq), blk w7.heap.size 26 #[.int .i64 0, .int .i64 (-1), .slice a7 3 c7, .int .i64 3], vq (.slice a7 3 c7) ([⟨0, 1, 3, 6, 2⟩, ⟨1, 2, 3, 5, 3⟩, ⟨2, 3, 0, 6, 1⟩] : List Rq), blk w6.heap.size 26 #[.int .i64 0, .int .i64 (-1), .slice a6 3 c6, .int .i64 2], vq (.slice a6 3 c6) ([⟨0, 1, 3, 6, 2⟩, ⟨1, 2, 3, 3, 0⟩, ⟨2, 3, 0, 6, 1⟩] : List Rq), blk w3.heap.size 26 #[.int .i64 0, .int .i64 (-1), .slice a5 3 c5, .int .i64 1], vq (.slice a5 3 c5) ([⟨0, 1, 3, 3, 0⟩, ⟨1, 2, 3, 3, 0⟩, ⟨2, 3, 0, 6, 1⟩] : List Rq), old w] by rw [hw]; exact (hT.out.drewN m).tail)
  clear hw hT A
  replace hS := Lib.hid hS.out.tail
  obtain ⟨_, d0, d1, d2, d3, _⟩ := (hS.out.bring 14 rfl).b4
  have A := Lib.hid (blockers_some 0 (-1) 3 (.slice a7 3 c7) ([⟨0, 1, 3, 6, 2⟩, ⟨1, 2, 3, 5, 3⟩, ⟨2, 3, 0, 6, 1⟩] : List Rq) 1 _ ((hS.out.bring 15 rfl).vq_rq) (by decide) 1 (by decide) (by decide) (by decide))
  rw [show nrm (blkL ([⟨0, 1, 3, 6, 2⟩, ⟨1, 2, 3, 5, 3⟩, ⟨2, 3, 0, 6, 1⟩] : List Rq) (([⟨0, 1, 3, 6, 2⟩, ⟨1, 2, 3, 5, 3⟩, ⟨2, 3, 0, 6, 1⟩] : List Rq).getD 1 default)) = [1] by rw [show blkL ([⟨0, 1, 3, 6, 2⟩, ⟨1, 2, 3, 5, 3⟩, ⟨2, 3, 0, 6, 1⟩] : List Rq) (([⟨0, 1, 3, 6, 2⟩, ⟨1, 2, 3, 5, 3⟩, ⟨2, 3, 0, 6, 1⟩] : List Rq).getD 1 default) = [1] by decide, nrm_sorted _ (by simp)]; rfl] at A
  unfold hval at A
  go_wp2_with fail
  refine A.out.mono ?_
  clear d0 d1 d2 d3
  rintro e w31 ⟨ba31, bc31, rfl, q⟩
  simp only [List.length_cons, List.length_nil] at q ⊢
  replace hS := Lib.hid (show Sep w31 [vec 3 1 (.slice ba31 1 bc31) 1 ([(1 : Int)].map (Value.int .i64)), vq (.slice (some ⟨g, 0, none⟩) 3 c24) ([⟨0, 1, 3, 3, 0⟩, ⟨1, 2, 3, 3, 0⟩, ⟨2, 3, 0, 6, 9⟩] : List Rq), blk w24.heap.size 26 #[.int .i64 0, .int .i64 (-1), .slice (some ⟨g, 0, none⟩) 3 c24, .int .i64 1], blk w23.heap.size 48 #[.int .i64 0, .int .i64 1, .int .i64 3, .int .i64 6, .int .i64 2], blk w21.heap.size 26 #[.int .i64 0, .int .i64 (-1), .slice a21 3 c21, .int .i64 1], vq (.slice a21 3 c21) ([⟨0, (-5), 3, 3, 0⟩, ⟨1, 2, 3, 3, 0⟩, ⟨2, 3, 0, 6, 1⟩] : List Rq), blk w18.heap.size 26 #[.int .i64 0, .int .i64 (-1), .slice a18 2 c18, .int .i64 1], vq (.slice a18 2 c18) ([⟨0, 1, 3, 3, 0⟩, ⟨1, 2, 3, 3, 0⟩] : List Rq), blk w17.heap.size 26 #[.int .i64 0, .int .i64 (-1), .slice a17 3 c17, .int .i64 2], vq (.slice a17 3 c17) ([⟨0, 1, 3, 3, 0⟩, ⟨1, 2, 3, 3, 0⟩, ⟨2, 3, 0, 6, 1⟩] : List Rq), blk w16.heap.size 26 #[.int .i64 0, .int .i64 (-1), .slice a16 2 c16, .int .i64 2], vq (.slice a16 2 c16) ([⟨0, 1, 6, 6, 0⟩, ⟨2, 3, 0, 6, 1⟩] : List Rq), vec 3 1 (.slice b16 1 k16) 1 ([(0 : Int)].map (Value.int .i64)), blk w15.heap.size 26 #[.int .i64 0, .int .i64 (-1), .slice a15 2 c15, .int .i64 2], vq (.slice a15 2 c15) ([⟨0, 1, 3, 6, 2⟩, ⟨2, 3, 0, 6, 1⟩] : List Rq), blk w7.heap.size 26 #[.int .i64 0, .int .i64 (-1), .slice a7 3 c7, .int .i64 3], vq (.slice a7 3 c7) ([⟨0, 1, 3, 6, 2⟩, ⟨1, 2, 3, 5, 3⟩, ⟨2, 3, 0, 6, 1⟩] : List Rq), blk w6.heap.size 26 #[.int .i64 0, .int .i64 (-1), .slice a6 3 c6, .int .i64 2], vq (.slice a6 3 c6) ([⟨0, 1, 3, 6, 2⟩, ⟨1, 2, 3, 3, 0⟩, ⟨2, 3, 0, 6, 1⟩] : List Rq), blk w3.heap.size 26 #[.int .i64 0, .int .i64 (-1), .slice a5 3 c5, .int .i64 1], vq (.slice a5 3 c5) ([⟨0, 1, 3, 3, 0⟩, ⟨1, 2, 3, 3, 0⟩, ⟨2, 3, 0, 6, 1⟩] : List Rq), old w] from q.graft hS.out)
  clear q A
  have hT := hS.out.alloc #[.int .i64 1] 3
  replace hT := Lib.hid hT
  have A := Lib.hid (same_true _ _ [1] _ (by decide) ((hT.out.bring 1 rfl).vec_ri) (ri_one hT.out))
  go_wp2_with fail
  refine A.out.mono ?_
  rintro e w32 ⟨rfl, m, hw⟩
  replace hS := Lib.hid (show Sep w32 [vec 3 1 (.slice ba31 1 bc31) 1 ([(1 : Int)].map (Value.int .i64)), vq (.slice (some ⟨g, 0, none⟩) 3 c24) ([⟨0, 1, 3, 3, 0⟩, ⟨1, 2, 3, 3, 0⟩, ⟨2, 3, 0, 6, 9⟩] : List Rq), blk w24.heap.size 26 #[.int .i64 0, .int .i64 (-1), .slice (some ⟨g, 0, none⟩) 3 c24, .int .i64 1], blk w23.heap.size 48 #[.int .i64 0, .int .i64 1, .int .i64 3, .int .i64 6, .int .i64 2], blk w21.heap.size 26 #[.int .i64 0, .int .i64 (-1), .slice a21 3 c21, .int .i64 1], vq (.slice a21 3 c21) ([⟨0, (-5), 3, 3, 0⟩, ⟨1, 2, 3, 3, 0⟩, ⟨2, 3, 0, 6, 1⟩] : List Rq), blk w18.heap.size 26 #[.int .i64 0, .int .i64 (-1), .slice a18 2 c18, .int .i64 1], vq (.slice a18 2 c18) ([⟨0, 1, 3, 3, 0⟩, ⟨1, 2, 3, 3, 0⟩] : List Rq), blk w17.heap.size 26 #[.int .i64 0, .int .i64 (-1), .slice a17 3 c17, .int .i64 2], vq (.slice a17 3 c17) ([⟨0, 1, 3, 3, 0⟩, ⟨1, 2, 3, 3, 0⟩, ⟨2, 3, 0, 6, 1⟩] : List Rq), blk w16.heap.size 26 #[.int .i64 0, .int .i64 (-1), .slice a16 2 c16, .int .i64 2], vq (.slice a16 2 c16) ([⟨0, 1, 6, 6, 0⟩, ⟨2, 3, 0, 6, 1⟩] : List Rq), vec 3 1 (.slice b16 1 k16) 1 ([(0 : Int)].map (Value.int .i64)), blk w15.heap.size 26 #[.int .i64 0, .int .i64 (-1), .slice a15 2 c15, .int .i64 2], vq (.slice a15 2 c15) ([⟨0, 1, 3, 6, 2⟩, ⟨2, 3, 0, 6, 1⟩] : List Rq), blk w7.heap.size 26 #[.int .i64 0, .int .i64 (-1), .slice a7 3 c7, .int .i64 3], vq (.slice a7 3 c7) ([⟨0, 1, 3, 6, 2⟩, ⟨1, 2, 3, 5, 3⟩, ⟨2, 3, 0, 6, 1⟩] : List Rq), blk w6.heap.size 26 #[.int .i64 0, .int .i64 (-1), .slice a6 3 c6, .int .i64 2], vq (.slice a6 3 c6) ([⟨0, 1, 3, 6, 2⟩, ⟨1, 2, 3, 3, 0⟩, ⟨2, 3, 0, 6, 1⟩] : List Rq), blk w3.heap.size 26 #[.int .i64 0, .int .i64 (-1), .slice a5 3 c5, .int .i64 1], vq (.slice a5 3 c5) ([⟨0, 1, 3, 3, 0⟩, ⟨1, 2, 3, 3, 0⟩, ⟨2, 3, 0, 6, 1⟩] : List Rq), old w] by rw [hw]; exact (hT.out.drewN m).tail)
  clear hw hT A
  replace hS := Lib.hid hS.out.tail
  obtain ⟨_, d0, d1, d2, d3, _⟩ := (hS.out.bring 16 rfl).b4
  have A := Lib.hid (blockers_some 0 (-1) 2 (.slice a6 3 c6) ([⟨0, 1, 3, 6, 2⟩, ⟨1, 2, 3, 3, 0⟩, ⟨2, 3, 0, 6, 1⟩] : List Rq) 2 _ ((hS.out.bring 17 rfl).vq_rq) (by decide) 2 (by decide) (by decide) (by decide))
  rw [show nrm (blkL ([⟨0, 1, 3, 6, 2⟩, ⟨1, 2, 3, 3, 0⟩, ⟨2, 3, 0, 6, 1⟩] : List Rq) (([⟨0, 1, 3, 6, 2⟩, ⟨1, 2, 3, 3, 0⟩, ⟨2, 3, 0, 6, 1⟩] : List Rq).getD 2 default)) = [1, 2] by rw [show blkL ([⟨0, 1, 3, 6, 2⟩, ⟨1, 2, 3, 3, 0⟩, ⟨2, 3, 0, 6, 1⟩] : List Rq) (([⟨0, 1, 3, 6, 2⟩, ⟨1, 2, 3, 3, 0⟩, ⟨2, 3, 0, 6, 1⟩] : List Rq).getD 2 default) = [1, 2] by decide, nrm_sorted _ (by simp)]; rfl] at A
  unfold hval at A
  go_wp2_with fail
  refine A.out.mono ?_
  clear d0 d1 d2 d3
  rintro e w33 ⟨ba33, bc33, rfl, q⟩
  simp only [List.length_cons, List.length_nil] at q ⊢
  replace hS := Lib.hid (show Sep w33 [vec 3 1 (.slice ba33 2 bc33) 2 ([(1 : Int), (2 : Int)].map (Value.int .i64)), vq (.slice (some ⟨g, 0, none⟩) 3 c24) ([⟨0, 1, 3, 3, 0⟩, ⟨1, 2, 3, 3, 0⟩, ⟨2, 3, 0, 6, 9⟩] : List Rq), blk w24.heap.size 26 #[.int .i64 0, .int .i64 (-1), .slice (some ⟨g, 0, none⟩) 3 c24, .int .i64 1], blk w23.heap.size 48 #[.int .i64 0, .int .i64 1, .int .i64 3, .int .i64 6, .int .i64 2], blk w21.heap.size 26 #[.int .i64 0, .int .i64 (-1), .slice a21 3 c21, .int .i64 1], vq (.slice a21 3 c21) ([⟨0, (-5), 3, 3, 0⟩, ⟨1, 2, 3, 3, 0⟩, ⟨2, 3, 0, 6, 1⟩] : List Rq), blk w18.heap.size 26 #[.int .i64 0, .int .i64 (-1), .slice a18 2 c18, .int .i64 1], vq (.slice a18 2 c18) ([⟨0, 1, 3, 3, 0⟩, ⟨1, 2, 3, 3, 0⟩] : List Rq), blk w17.heap.size 26 #[.int .i64 0, .int .i64 (-1), .slice a17 3 c17, .int .i64 2], vq (.slice a17 3 c17) ([⟨0, 1, 3, 3, 0⟩, ⟨1, 2, 3, 3, 0⟩, ⟨2, 3, 0, 6, 1⟩] : List Rq), blk w16.heap.size 26 #[.int .i64 0, .int .i64 (-1), .slice a16 2 c16, .int .i64 2], vq (.slice a16 2 c16) ([⟨0, 1, 6, 6, 0⟩, ⟨2, 3, 0, 6, 1⟩] : List Rq), vec 3 1 (.slice b16 1 k16) 1 ([(0 : Int)].map (Value.int .i64)), blk w15.heap.size 26 #[.int .i64 0, .int .i64 (-1), .slice a15 2 c15, .int .i64 2], vq (.slice a15 2 c15) ([⟨0, 1, 3, 6, 2⟩, ⟨2, 3, 0, 6, 1⟩] : List Rq), blk w7.heap.size 26 #[.int .i64 0, .int .i64 (-1), .slice a7 3 c7, .int .i64 3], vq (.slice a7 3 c7) ([⟨0, 1, 3, 6, 2⟩, ⟨1, 2, 3, 5, 3⟩, ⟨2, 3, 0, 6, 1⟩] : List Rq), blk w6.heap.size 26 #[.int .i64 0, .int .i64 (-1), .slice a6 3 c6, .int .i64 2], vq (.slice a6 3 c6) ([⟨0, 1, 3, 6, 2⟩, ⟨1, 2, 3, 3, 0⟩, ⟨2, 3, 0, 6, 1⟩] : List Rq), blk w3.heap.size 26 #[.int .i64 0, .int .i64 (-1), .slice a5 3 c5, .int .i64 1], vq (.slice a5 3 c5) ([⟨0, 1, 3, 3, 0⟩, ⟨1, 2, 3, 3, 0⟩, ⟨2, 3, 0, 6, 1⟩] : List Rq), old w] from q.graft hS.out)
  clear q A
  have hT := hS.out.alloc #[.int .i64 1, .int .i64 2] 3
  replace hT := Lib.hid hT
  have A := Lib.hid (same_true _ _ [1, 2] _ (by decide) ((hT.out.bring 1 rfl).vec_ri) (ri_two hT.out))
  go_wp2_with fail
  refine A.out.mono ?_
  rintro e w34 ⟨rfl, m, hw⟩
  replace hS := Lib.hid (show Sep w34 [vec 3 1 (.slice ba33 2 bc33) 2 ([(1 : Int), (2 : Int)].map (Value.int .i64)), vq (.slice (some ⟨g, 0, none⟩) 3 c24) ([⟨0, 1, 3, 3, 0⟩, ⟨1, 2, 3, 3, 0⟩, ⟨2, 3, 0, 6, 9⟩] : List Rq), blk w24.heap.size 26 #[.int .i64 0, .int .i64 (-1), .slice (some ⟨g, 0, none⟩) 3 c24, .int .i64 1], blk w23.heap.size 48 #[.int .i64 0, .int .i64 1, .int .i64 3, .int .i64 6, .int .i64 2], blk w21.heap.size 26 #[.int .i64 0, .int .i64 (-1), .slice a21 3 c21, .int .i64 1], vq (.slice a21 3 c21) ([⟨0, (-5), 3, 3, 0⟩, ⟨1, 2, 3, 3, 0⟩, ⟨2, 3, 0, 6, 1⟩] : List Rq), blk w18.heap.size 26 #[.int .i64 0, .int .i64 (-1), .slice a18 2 c18, .int .i64 1], vq (.slice a18 2 c18) ([⟨0, 1, 3, 3, 0⟩, ⟨1, 2, 3, 3, 0⟩] : List Rq), blk w17.heap.size 26 #[.int .i64 0, .int .i64 (-1), .slice a17 3 c17, .int .i64 2], vq (.slice a17 3 c17) ([⟨0, 1, 3, 3, 0⟩, ⟨1, 2, 3, 3, 0⟩, ⟨2, 3, 0, 6, 1⟩] : List Rq), blk w16.heap.size 26 #[.int .i64 0, .int .i64 (-1), .slice a16 2 c16, .int .i64 2], vq (.slice a16 2 c16) ([⟨0, 1, 6, 6, 0⟩, ⟨2, 3, 0, 6, 1⟩] : List Rq), vec 3 1 (.slice b16 1 k16) 1 ([(0 : Int)].map (Value.int .i64)), blk w15.heap.size 26 #[.int .i64 0, .int .i64 (-1), .slice a15 2 c15, .int .i64 2], vq (.slice a15 2 c15) ([⟨0, 1, 3, 6, 2⟩, ⟨2, 3, 0, 6, 1⟩] : List Rq), blk w7.heap.size 26 #[.int .i64 0, .int .i64 (-1), .slice a7 3 c7, .int .i64 3], vq (.slice a7 3 c7) ([⟨0, 1, 3, 6, 2⟩, ⟨1, 2, 3, 5, 3⟩, ⟨2, 3, 0, 6, 1⟩] : List Rq), blk w6.heap.size 26 #[.int .i64 0, .int .i64 (-1), .slice a6 3 c6, .int .i64 2], vq (.slice a6 3 c6) ([⟨0, 1, 3, 6, 2⟩, ⟨1, 2, 3, 3, 0⟩, ⟨2, 3, 0, 6, 1⟩] : List Rq), blk w3.heap.size 26 #[.int .i64 0, .int .i64 (-1), .slice a5 3 c5, .int .i64 1], vq (.slice a5 3 c5) ([⟨0, 1, 3, 3, 0⟩, ⟨1, 2, 3, 3, 0⟩, ⟨2, 3, 0, 6, 1⟩] : List Rq), old w] by rw [hw]; exact (hT.out.drewN m).tail)
  clear hw hT A
  replace hS := Lib.hid hS.out.tail
  obtain ⟨_, d0, d1, d2, d3, _⟩ := (hS.out.bring 18 rfl).b4
  have A := Lib.hid (blockers_calm 0 (-1) 1 (.slice a5 3 c5) ([⟨0, 1, 3, 3, 0⟩, ⟨1, 2, 3, 3, 0⟩, ⟨2, 3, 0, 6, 1⟩] : List Rq) 0 _ ((hS.out.bring 19 rfl).vq_rq) (by decide) 0 (by decide) (by decide) (by decide))
  unfold hval at A
  go_wp2_with fail
  refine A.out.mono ?_
  clear d0 d1 d2 d3
  rintro e w35 ⟨rfl, q⟩
  replace hS := Lib.hid (show Sep w35 [vq (.slice (some ⟨g, 0, none⟩) 3 c24) ([⟨0, 1, 3, 3, 0⟩, ⟨1, 2, 3, 3, 0⟩, ⟨2, 3, 0, 6, 9⟩] : List Rq), blk w24.heap.size 26 #[.int .i64 0, .int .i64 (-1), .slice (some ⟨g, 0, none⟩) 3 c24, .int .i64 1], blk w23.heap.size 48 #[.int .i64 0, .int .i64 1, .int .i64 3, .int .i64 6, .int .i64 2], blk w21.heap.size 26 #[.int .i64 0, .int .i64 (-1), .slice a21 3 c21, .int .i64 1], vq (.slice a21 3 c21) ([⟨0, (-5), 3, 3, 0⟩, ⟨1, 2, 3, 3, 0⟩, ⟨2, 3, 0, 6, 1⟩] : List Rq), blk w18.heap.size 26 #[.int .i64 0, .int .i64 (-1), .slice a18 2 c18, .int .i64 1], vq (.slice a18 2 c18) ([⟨0, 1, 3, 3, 0⟩, ⟨1, 2, 3, 3, 0⟩] : List Rq), blk w17.heap.size 26 #[.int .i64 0, .int .i64 (-1), .slice a17 3 c17, .int .i64 2], vq (.slice a17 3 c17) ([⟨0, 1, 3, 3, 0⟩, ⟨1, 2, 3, 3, 0⟩, ⟨2, 3, 0, 6, 1⟩] : List Rq), blk w16.heap.size 26 #[.int .i64 0, .int .i64 (-1), .slice a16 2 c16, .int .i64 2], vq (.slice a16 2 c16) ([⟨0, 1, 6, 6, 0⟩, ⟨2, 3, 0, 6, 1⟩] : List Rq), vec 3 1 (.slice b16 1 k16) 1 ([(0 : Int)].map (Value.int .i64)), blk w15.heap.size 26 #[.int .i64 0, .int .i64 (-1), .slice a15 2 c15, .int .i64 2], vq (.slice a15 2 c15) ([⟨0, 1, 3, 6, 2⟩, ⟨2, 3, 0, 6, 1⟩] : List Rq), blk w7.heap.size 26 #[.int .i64 0, .int .i64 (-1), .slice a7 3 c7, .int .i64 3], vq (.slice a7 3 c7) ([⟨0, 1, 3, 6, 2⟩, ⟨1, 2, 3, 5, 3⟩, ⟨2, 3, 0, 6, 1⟩] : List Rq), blk w6.heap.size 26 #[.int .i64 0, .int .i64 (-1), .slice a6 3 c6, .int .i64 2], vq (.slice a6 3 c6) ([⟨0, 1, 3, 6, 2⟩, ⟨1, 2, 3, 3, 0⟩, ⟨2, 3, 0, 6, 1⟩] : List Rq), blk w3.heap.size 26 #[.int .i64 0, .int .i64 (-1), .slice a5 3 c5, .int .i64 1], vq (.slice a5 3 c5) ([⟨0, 1, 3, 3, 0⟩, ⟨1, 2, 3, 3, 0⟩, ⟨2, 3, 0, 6, 1⟩] : List Rq), old w] from hS.out.below q)
  clear q A
  obtain ⟨_, d0, d1, d2, d3, _⟩ := (hS.out.bring 16 rfl).b4
  have A := Lib.hid (group_any 0 (-1) 2 (.slice a6 3 c6) ([⟨0, 1, 3, 6, 2⟩, ⟨1, 2, 3, 3, 0⟩, ⟨2, 3, 0, 6, 1⟩] : List Rq) _ ((hS.out.bring 17 rfl).vq_rq) (by decide))
  rw [show supL (([⟨0, 1, 3, 6, 2⟩, ⟨1, 2, 3, 3, 0⟩, ⟨2, 3, 0, 6, 1⟩] : List Rq).map (·.mode)) = 3 by decide] at A
  unfold hval at A
  go_wp2_with fail
  refine A.out.mono ?_
  clear d0 d1 d2 d3
  rintro e w36 ⟨rfl, q⟩
  replace hS := Lib.hid (show Sep w36 [vq (.slice (some ⟨g, 0, none⟩) 3 c24) ([⟨0, 1, 3, 3, 0⟩, ⟨1, 2, 3, 3, 0⟩, ⟨2, 3, 0, 6, 9⟩] : List Rq), blk w24.heap.size 26 #[.int .i64 0, .int .i64 (-1), .slice (some ⟨g, 0, none⟩) 3 c24, .int .i64 1], blk w23.heap.size 48 #[.int .i64 0, .int .i64 1, .int .i64 3, .int .i64 6, .int .i64 2], blk w21.heap.size 26 #[.int .i64 0, .int .i64 (-1), .slice a21 3 c21, .int .i64 1], vq (.slice a21 3 c21) ([⟨0, (-5), 3, 3, 0⟩, ⟨1, 2, 3, 3, 0⟩, ⟨2, 3, 0, 6, 1⟩] : List Rq), blk w18.heap.size 26 #[.int .i64 0, .int .i64 (-1), .slice a18 2 c18, .int .i64 1], vq (.slice a18 2 c18) ([⟨0, 1, 3, 3, 0⟩, ⟨1, 2, 3, 3, 0⟩] : List Rq), blk w17.heap.size 26 #[.int .i64 0, .int .i64 (-1), .slice a17 3 c17, .int .i64 2], vq (.slice a17 3 c17) ([⟨0, 1, 3, 3, 0⟩, ⟨1, 2, 3, 3, 0⟩, ⟨2, 3, 0, 6, 1⟩] : List Rq), blk w16.heap.size 26 #[.int .i64 0, .int .i64 (-1), .slice a16 2 c16, .int .i64 2], vq (.slice a16 2 c16) ([⟨0, 1, 6, 6, 0⟩, ⟨2, 3, 0, 6, 1⟩] : List Rq), vec 3 1 (.slice b16 1 k16) 1 ([(0 : Int)].map (Value.int .i64)), blk w15.heap.size 26 #[.int .i64 0, .int .i64 (-1), .slice a15 2 c15, .int .i64 2], vq (.slice a15 2 c15) ([⟨0, 1, 3, 6, 2⟩, ⟨2, 3, 0, 6, 1⟩] : List Rq), blk w7.heap.size 26 #[.int .i64 0, .int .i64 (-1), .slice a7 3 c7, .int .i64 3], vq (.slice a7 3 c7) ([⟨0, 1, 3, 6, 2⟩, ⟨1, 2, 3, 5, 3⟩, ⟨2, 3, 0, 6, 1⟩] : List Rq), blk w6.heap.size 26 #[.int .i64 0, .int .i64 (-1), .slice a6 3 c6, .int .i64 2], vq (.slice a6 3 c6) ([⟨0, 1, 3, 6, 2⟩, ⟨1, 2, 3, 3, 0⟩, ⟨2, 3, 0, 6, 1⟩] : List Rq), blk w3.heap.size 26 #[.int .i64 0, .int .i64 (-1), .slice a5 3 c5, .int .i64 1], vq (.slice a5 3 c5) ([⟨0, 1, 3, 3, 0⟩, ⟨1, 2, 3, 3, 0⟩, ⟨2, 3, 0, 6, 1⟩] : List Rq), old w] from hS.out.below q)
  clear q A
  obtain ⟨_, d0, d1, d2, d3, _⟩ := (hS.out.bring 18 rfl).b4
  have A := Lib.hid (checkP_any 0 (-1) 1 (.slice a5 3 c5) ([⟨0, 1, 3, 3, 0⟩, ⟨1, 2, 3, 3, 0⟩, ⟨2, 3, 0, 6, 1⟩] : List Rq) _ ((hS.out.bring 19 rfl).vq_rq) (by decide))
  rw [show (if checkPB 1 ([⟨0, 1, 3, 3, 0⟩, ⟨1, 2, 3, 3, 0⟩, ⟨2, 3, 0, 6, 1⟩] : List Rq) = true then (0 : Int) else 2) = 0 by decide] at A
  unfold hval at A
  go_wp2_with fail
  refine A.out.mono ?_
  clear d0 d1 d2 d3
  rintro e w37 ⟨rfl, q⟩
  replace hS := Lib.hid (show Sep w37 [vq (.slice (some ⟨g, 0, none⟩) 3 c24) ([⟨0, 1, 3, 3, 0⟩, ⟨1, 2, 3, 3, 0⟩, ⟨2, 3, 0, 6, 9⟩] : List Rq), blk w24.heap.size 26 #[.int .i64 0, .int .i64 (-1), .slice (some ⟨g, 0, none⟩) 3 c24, .int .i64 1], blk w23.heap.size 48 #[.int .i64 0, .int .i64 1, .int .i64 3, .int .i64 6, .int .i64 2], blk w21.heap.size 26 #[.int .i64 0, .int .i64 (-1), .slice a21 3 c21, .int .i64 1], vq (.slice a21 3 c21) ([⟨0, (-5), 3, 3, 0⟩, ⟨1, 2, 3, 3, 0⟩, ⟨2, 3, 0, 6, 1⟩] : List Rq), blk w18.heap.size 26 #[.int .i64 0, .int .i64 (-1), .slice a18 2 c18, .int .i64 1], vq (.slice a18 2 c18) ([⟨0, 1, 3, 3, 0⟩, ⟨1, 2, 3, 3, 0⟩] : List Rq), blk w17.heap.size 26 #[.int .i64 0, .int .i64 (-1), .slice a17 3 c17, .int .i64 2], vq (.slice a17 3 c17) ([⟨0, 1, 3, 3, 0⟩, ⟨1, 2, 3, 3, 0⟩, ⟨2, 3, 0, 6, 1⟩] : List Rq), blk w16.heap.size 26 #[.int .i64 0, .int .i64 (-1), .slice a16 2 c16, .int .i64 2], vq (.slice a16 2 c16) ([⟨0, 1, 6, 6, 0⟩, ⟨2, 3, 0, 6, 1⟩] : List Rq), vec 3 1 (.slice b16 1 k16) 1 ([(0 : Int)].map (Value.int .i64)), blk w15.heap.size 26 #[.int .i64 0, .int .i64 (-1), .slice a15 2 c15, .int .i64 2], vq (.slice a15 2 c15) ([⟨0, 1, 3, 6, 2⟩, ⟨2, 3, 0, 6, 1⟩] : List Rq), blk w7.heap.size 26 #[.int .i64 0, .int .i64 (-1), .slice a7 3 c7, .int .i64 3], vq (.slice a7 3 c7) ([⟨0, 1, 3, 6, 2⟩, ⟨1, 2, 3, 5, 3⟩, ⟨2, 3, 0, 6, 1⟩] : List Rq), blk w6.heap.size 26 #[.int .i64 0, .int .i64 (-1), .slice a6 3 c6, .int .i64 2], vq (.slice a6 3 c6) ([⟨0, 1, 3, 6, 2⟩, ⟨1, 2, 3, 3, 0⟩, ⟨2, 3, 0, 6, 1⟩] : List Rq), blk w3.heap.size 26 #[.int .i64 0, .int .i64 (-1), .slice a5 3 c5, .int .i64 1], vq (.slice a5 3 c5) ([⟨0, 1, 3, 3, 0⟩, ⟨1, 2, 3, 3, 0⟩, ⟨2, 3, 0, 6, 1⟩] : List Rq), old w] from hS.out.below q)
  clear q A
  obtain ⟨_, d0, d1, d2, d3, _⟩ := (hS.out.bring 1 rfl).b4
  have A := Lib.hid (checkP_any 0 (-1) 1 (.slice (some ⟨g, 0, none⟩) 3 c24) ([⟨0, 1, 3, 3, 0⟩, ⟨1, 2, 3, 3, 0⟩, ⟨2, 3, 0, 6, 9⟩] : List Rq) _ ((hS.out.bring 0 rfl).vq_rq) (by decide))
  rw [show (if checkPB 1 ([⟨0, 1, 3, 3, 0⟩, ⟨1, 2, 3, 3, 0⟩, ⟨2, 3, 0, 6, 9⟩] : List Rq) = true then (0 : Int) else 2) = 2 by decide] at A
  unfold hval at A
  go_wp2_with fail
  refine A.out.mono ?_
  clear d0 d1 d2 d3
  rintro e w38 ⟨rfl, q⟩
  replace hS := Lib.hid (show Sep w38 [vq (.slice (some ⟨g, 0, none⟩) 3 c24) ([⟨0, 1, 3, 3, 0⟩, ⟨1, 2, 3, 3, 0⟩, ⟨2, 3, 0, 6, 9⟩] : List Rq), blk w24.heap.size 26 #[.int .i64 0, .int .i64 (-1), .slice (some ⟨g, 0, none⟩) 3 c24, .int .i64 1], blk w23.heap.size 48 #[.int .i64 0, .int .i64 1, .int .i64 3, .int .i64 6, .int .i64 2], blk w21.heap.size 26 #[.int .i64 0, .int .i64 (-1), .slice a21 3 c21, .int .i64 1], vq (.slice a21 3 c21) ([⟨0, (-5), 3, 3, 0⟩, ⟨1, 2, 3, 3, 0⟩, ⟨2, 3, 0, 6, 1⟩] : List Rq), blk w18.heap.size 26 #[.int .i64 0, .int .i64 (-1), .slice a18 2 c18, .int .i64 1], vq (.slice a18 2 c18) ([⟨0, 1, 3, 3, 0⟩, ⟨1, 2, 3, 3, 0⟩] : List Rq), blk w17.heap.size 26 #[.int .i64 0, .int .i64 (-1), .slice a17 3 c17, .int .i64 2], vq (.slice a17 3 c17) ([⟨0, 1, 3, 3, 0⟩, ⟨1, 2, 3, 3, 0⟩, ⟨2, 3, 0, 6, 1⟩] : List Rq), blk w16.heap.size 26 #[.int .i64 0, .int .i64 (-1), .slice a16 2 c16, .int .i64 2], vq (.slice a16 2 c16) ([⟨0, 1, 6, 6, 0⟩, ⟨2, 3, 0, 6, 1⟩] : List Rq), vec 3 1 (.slice b16 1 k16) 1 ([(0 : Int)].map (Value.int .i64)), blk w15.heap.size 26 #[.int .i64 0, .int .i64 (-1), .slice a15 2 c15, .int .i64 2], vq (.slice a15 2 c15) ([⟨0, 1, 3, 6, 2⟩, ⟨2, 3, 0, 6, 1⟩] : List Rq), blk w7.heap.size 26 #[.int .i64 0, .int .i64 (-1), .slice a7 3 c7, .int .i64 3], vq (.slice a7 3 c7) ([⟨0, 1, 3, 6, 2⟩, ⟨1, 2, 3, 5, 3⟩, ⟨2, 3, 0, 6, 1⟩] : List Rq), blk w6.heap.size 26 #[.int .i64 0, .int .i64 (-1), .slice a6 3 c6, .int .i64 2], vq (.slice a6 3 c6) ([⟨0, 1, 3, 6, 2⟩, ⟨1, 2, 3, 3, 0⟩, ⟨2, 3, 0, 6, 1⟩] : List Rq), blk w3.heap.size 26 #[.int .i64 0, .int .i64 (-1), .slice a5 3 c5, .int .i64 1], vq (.slice a5 3 c5) ([⟨0, 1, 3, 3, 0⟩, ⟨1, 2, 3, 3, 0⟩, ⟨2, 3, 0, 6, 1⟩] : List Rq), old w] from hS.out.below q)
  clear q A
  obtain ⟨_, d0, d1, d2, d3, _⟩ := (hS.out.bring 18 rfl).b4
  have A := Lib.hid (sameP_any 0 (-1) 1 0 (-1) 1 (.slice a5 3 c5) (.slice a5 3 c5) ([⟨0, 1, 3, 3, 0⟩, ⟨1, 2, 3, 3, 0⟩, ⟨2, 3, 0, 6, 1⟩] : List Rq) ([⟨0, 1, 3, 3, 0⟩, ⟨1, 2, 3, 3, 0⟩, ⟨2, 3, 0, 6, 1⟩] : List Rq) _ ((hS.out.bring 19 rfl).vq_rq) ((hS.out.bring 19 rfl).vq_rq) (by decide))
  rw [show sameV 0 (-1) 1 ([⟨0, 1, 3, 3, 0⟩, ⟨1, 2, 3, 3, 0⟩, ⟨2, 3, 0, 6, 1⟩] : List Rq) 0 (-1) 1 ([⟨0, 1, 3, 3, 0⟩, ⟨1, 2, 3, 3, 0⟩, ⟨2, 3, 0, 6, 1⟩] : List Rq) = true by decide] at A
  unfold hval at A
  go_wp2_with fail
  refine A.out.mono ?_
  clear d0 d1 d2 d3
  rintro e w39 ⟨rfl, q⟩
  replace hS := Lib.hid (show Sep w39 [vq (.slice (some ⟨g, 0, none⟩) 3 c24) ([⟨0, 1, 3, 3, 0⟩, ⟨1, 2, 3, 3, 0⟩, ⟨2, 3, 0, 6, 9⟩] : List Rq), blk w24.heap.size 26 #[.int .i64 0, .int .i64 (-1), .slice (some ⟨g, 0, none⟩) 3 c24, .int .i64 1], blk w23.heap.size 48 #[.int .i64 0, .int .i64 1, .int .i64 3, .int .i64 6, .int .i64 2], blk w21.heap.size 26 #[.int .i64 0, .int .i64 (-1), .slice a21 3 c21, .int .i64 1], vq (.slice a21 3 c21) ([⟨0, (-5), 3, 3, 0⟩, ⟨1, 2, 3, 3, 0⟩, ⟨2, 3, 0, 6, 1⟩] : List Rq), blk w18.heap.size 26 #[.int .i64 0, .int .i64 (-1), .slice a18 2 c18, .int .i64 1], vq (.slice a18 2 c18) ([⟨0, 1, 3, 3, 0⟩, ⟨1, 2, 3, 3, 0⟩] : List Rq), blk w17.heap.size 26 #[.int .i64 0, .int .i64 (-1), .slice a17 3 c17, .int .i64 2], vq (.slice a17 3 c17) ([⟨0, 1, 3, 3, 0⟩, ⟨1, 2, 3, 3, 0⟩, ⟨2, 3, 0, 6, 1⟩] : List Rq), blk w16.heap.size 26 #[.int .i64 0, .int .i64 (-1), .slice a16 2 c16, .int .i64 2], vq (.slice a16 2 c16) ([⟨0, 1, 6, 6, 0⟩, ⟨2, 3, 0, 6, 1⟩] : List Rq), vec 3 1 (.slice b16 1 k16) 1 ([(0 : Int)].map (Value.int .i64)), blk w15.heap.size 26 #[.int .i64 0, .int .i64 (-1), .slice a15 2 c15, .int .i64 2], vq (.slice a15 2 c15) ([⟨0, 1, 3, 6, 2⟩, ⟨2, 3, 0, 6, 1⟩] : List Rq), blk w7.heap.size 26 #[.int .i64 0, .int .i64 (-1), .slice a7 3 c7, .int .i64 3], vq (.slice a7 3 c7) ([⟨0, 1, 3, 6, 2⟩, ⟨1, 2, 3, 5, 3⟩, ⟨2, 3, 0, 6, 1⟩] : List Rq), blk w6.heap.size 26 #[.int .i64 0, .int .i64 (-1), .slice a6 3 c6, .int .i64 2], vq (.slice a6 3 c6) ([⟨0, 1, 3, 6, 2⟩, ⟨1, 2, 3, 3, 0⟩, ⟨2, 3, 0, 6, 1⟩] : List Rq), blk w3.heap.size 26 #[.int .i64 0, .int .i64 (-1), .slice a5 3 c5, .int .i64 1], vq (.slice a5 3 c5) ([⟨0, 1, 3, 3, 0⟩, ⟨1, 2, 3, 3, 0⟩, ⟨2, 3, 0, 6, 1⟩] : List Rq), old w] from hS.out.below q)
  clear q A
  obtain ⟨_, d0, d1, d2, d3, _⟩ := (hS.out.bring 18 rfl).b4
  obtain ⟨_, d4, d5, d6, d7, _⟩ := (hS.out.bring 16 rfl).b4
  have A := Lib.hid (sameP_any 0 (-1) 1 0 (-1) 2 (.slice a5 3 c5) (.slice a6 3 c6) ([⟨0, 1, 3, 3, 0⟩, ⟨1, 2, 3, 3, 0⟩, ⟨2, 3, 0, 6, 1⟩] : List Rq) ([⟨0, 1, 3, 6, 2⟩, ⟨1, 2, 3, 3, 0⟩, ⟨2, 3, 0, 6, 1⟩] : List Rq) _ ((hS.out.bring 19 rfl).vq_rq) ((hS.out.bring 17 rfl).vq_rq) (by decide))
  rw [show sameV 0 (-1) 1 ([⟨0, 1, 3, 3, 0⟩, ⟨1, 2, 3, 3, 0⟩, ⟨2, 3, 0, 6, 1⟩] : List Rq) 0 (-1) 2 ([⟨0, 1, 3, 6, 2⟩, ⟨1, 2, 3, 3, 0⟩, ⟨2, 3, 0, 6, 1⟩] : List Rq) = false by decide] at A
  unfold hval at A
  go_wp2_with fail
  refine A.out.mono ?_
  clear d0 d1 d2 d3 d4 d5 d6 d7
  rintro e w40 ⟨rfl, q⟩
  replace hS := Lib.hid (show Sep w40 [vq (.slice (some ⟨g, 0, none⟩) 3 c24) ([⟨0, 1, 3, 3, 0⟩, ⟨1, 2, 3, 3, 0⟩, ⟨2, 3, 0, 6, 9⟩] : List Rq), blk w24.heap.size 26 #[.int .i64 0, .int .i64 (-1), .slice (some ⟨g, 0, none⟩) 3 c24, .int .i64 1], blk w23.heap.size 48 #[.int .i64 0, .int .i64 1, .int .i64 3, .int .i64 6, .int .i64 2], blk w21.heap.size 26 #[.int .i64 0, .int .i64 (-1), .slice a21 3 c21, .int .i64 1], vq (.slice a21 3 c21) ([⟨0, (-5), 3, 3, 0⟩, ⟨1, 2, 3, 3, 0⟩, ⟨2, 3, 0, 6, 1⟩] : List Rq), blk w18.heap.size 26 #[.int .i64 0, .int .i64 (-1), .slice a18 2 c18, .int .i64 1], vq (.slice a18 2 c18) ([⟨0, 1, 3, 3, 0⟩, ⟨1, 2, 3, 3, 0⟩] : List Rq), blk w17.heap.size 26 #[.int .i64 0, .int .i64 (-1), .slice a17 3 c17, .int .i64 2], vq (.slice a17 3 c17) ([⟨0, 1, 3, 3, 0⟩, ⟨1, 2, 3, 3, 0⟩, ⟨2, 3, 0, 6, 1⟩] : List Rq), blk w16.heap.size 26 #[.int .i64 0, .int .i64 (-1), .slice a16 2 c16, .int .i64 2], vq (.slice a16 2 c16) ([⟨0, 1, 6, 6, 0⟩, ⟨2, 3, 0, 6, 1⟩] : List Rq), vec 3 1 (.slice b16 1 k16) 1 ([(0 : Int)].map (Value.int .i64)), blk w15.heap.size 26 #[.int .i64 0, .int .i64 (-1), .slice a15 2 c15, .int .i64 2], vq (.slice a15 2 c15) ([⟨0, 1, 3, 6, 2⟩, ⟨2, 3, 0, 6, 1⟩] : List Rq), blk w7.heap.size 26 #[.int .i64 0, .int .i64 (-1), .slice a7 3 c7, .int .i64 3], vq (.slice a7 3 c7) ([⟨0, 1, 3, 6, 2⟩, ⟨1, 2, 3, 5, 3⟩, ⟨2, 3, 0, 6, 1⟩] : List Rq), blk w6.heap.size 26 #[.int .i64 0, .int .i64 (-1), .slice a6 3 c6, .int .i64 2], vq (.slice a6 3 c6) ([⟨0, 1, 3, 6, 2⟩, ⟨1, 2, 3, 3, 0⟩, ⟨2, 3, 0, 6, 1⟩] : List Rq), blk w3.heap.size 26 #[.int .i64 0, .int .i64 (-1), .slice a5 3 c5, .int .i64 1], vq (.slice a5 3 c5) ([⟨0, 1, 3, 3, 0⟩, ⟨1, 2, 3, 3, 0⟩, ⟨2, 3, 0, 6, 1⟩] : List Rq), old w] from hS.out.below q)
  clear q A
  go_wp2_with fail
  go_ret
  exact ⟨rfl, (hS.out.bring 20 rfl).gold⟩
end Go.Proofs.Ytmacpjnkmkaloaa
