/-
  LightHeads of one head; the chapter's examples hold (lives). No condition.
-/
import Derived.Test.YtmacpjnkmkaloaaQAskW
import Derived.Test.YtmacpjnkmkaloaaQGood
import Derived.Test.YtmacpjnkmkaloaaSame
namespace Go.Proofs.Ytmacpjnkmkaloaa
open Go.RowKit
theorem light1_any (g : Nat) (a : Option Addr) (m c : Nat) (w : World) (d2 : w.cell? ⟨g, 2, none⟩ = some (.slice a m c)) :
    Calls Try.prog 8 #[.slice (some ⟨g, 0, none⟩) 1 1, .int .i64 1] w fun e w' => e = .returned (.bool (decide (m ≤ 12))) ∧ w = w' := by
  go_enter Try.func8, Try.ntmps8
  go_wp2
  go_loop [5] (fun i => ∃ k : Nat, k ≤ 1 ∧ i = .int .i64 k ∧ Hid (0 < k → m ≤ 12)) (fun i => 1 - (intOf i).toNat)
  case atStart => exact ⟨0, by omega, rfl, fun h => absurd h (by omega)⟩
  case round =>
    obtain ⟨k, hk, rfl, hm⟩ := hrel
    have h2 : k = 0 ∨ k = 1 := by omega
    rcases h2 with rfl | rfl
    · by_cases h12 : m ≤ 12
      · have h12' : ¬ (12 : Int) < (m : Int) := by omega
        have e := decide_eq_true h12
        go_wp2
        go_round
        case rel => exact ⟨1, by omega, by go_num, fun _ => h12⟩
        case measure => simp [intOf]
      · have h12' : (12 : Int) < (m : Int) := by omega
        have e := decide_eq_false h12
        go_wp2
        go_ret
        exact ⟨rfl, rfl⟩
    · have e := decide_eq_true (hm.out (by omega))
      go_wp2
      go_ret
      exact ⟨rfl, rfl⟩
theorem ri_one {w : World} {g : Nat} {x : Int} {t : TypeId} {rs : List Res} (h : Sep w (blk g t #[.int .i64 x] :: rs)) : RI w (.slice (some ⟨g, 0, none⟩) 1 1) [x] :=
  ⟨_, 1, rfl, fun _ => ⟨g, 0, rfl, h.b1.1, fun j hj => by
    obtain rfl : j = 0 := by simpa using hj
    exact h.b1.2.1⟩⟩
theorem RQ.nil (w : World) : RQ w (.slice none 0 0) [] := ⟨none, 0, rfl, Nat.le_refl _, fun _ => rfl, fun h => absurd h (by simp)⟩
set_option maxHeartbeats 2000000 in
set_option maxRecDepth 100000 in
theorem lives_any (w : World) : Calls Try.prog 7 #[] w fun e w' => e = .returned (.bool true) ∧ Below w.heap.size w w' := by
  have A1 := Lib.hid (fun W => askP_grant 0 (-1) 0 (.slice none 0 0) [] 0 1 3 W (RQ.nil W) (by simp) (by decide) (by decide) (by decide) (by decide) (by decide))
  go_enter Try.func7, Try.ntmps7
  go_wp2_with fail
  refine (empty_any _).mono ?_
  rintro e w1 ⟨rfl, q⟩
  have hS := Lib.hid ((Sep.start w).below q)
  clear q
  unfold hval at *
  go_wp2_with fail
  refine (A1.out _).mono ?_
  rintro e w2 ⟨a1, c1, rfl, q⟩
  replace hS := Lib.hid (((q.graft hS.out).alloc #[.int .i64 0, .int .i64 (-1), .slice a1 1 c1, .int .i64 0] 26))
  clear q A1
  have A2 := Lib.hid (fun W hb => askP_wait2 0 (-1) 0 (.slice a1 1 c1) [⟨0, 1, 3, 3, 0⟩] 1 2 6 W (hS.out.to1.vq_rq.below hb) (by simp) (by decide) (by decide) (by decide) (by decide) (by decide) (by decide) (by decide))
  obtain ⟨_, d0, d1, d2, d3, f0, f1, f2, f3⟩ := hS.out.b4
  unfold hval at *
  go_wp2_with fail
  refine (A2.out _ (Below.refl _ _)).mono ?_
  rintro e w3 ⟨a2, c2, rfl, q⟩
  replace hS := Lib.hid (q.graft hS.out)
  clear q A2 d0 d1 d2 d3 f0 f1 f2 f3
  obtain ⟨_, d0, d1, d2, d3, f0, f1, f2, f3⟩ := hS.out.to1.b4
  replace hS := Lib.hid ((((hS.out.to1.set 0 (.int .i64 0)).set 1 (.int .i64 (-1))).set 2 (.slice a2 2 c2)).set 3 (.int .i64 1))
  have A3 := Lib.hid (askP_wait1 0 (-1) 1 (.slice a2 2 c2) [⟨0, 1, 3, 3, 0⟩, ⟨1, 2, 0, 6, 1⟩] 2 3 3 _ hS.out.to1.vq_rq (by simp) (by decide) (by decide) (by decide) (by decide) (by decide) (by decide))
  unfold hval at *
  go_wp2_with fail
  refine A3.out.mono ?_
  rintro e w4 ⟨a3, c3, rfl, q⟩
  replace hS := Lib.hid (q.graft (show Sep _ [blk w2.heap.size 26 #[.int .i64 0, .int .i64 (-1), .slice a2 2 c2, .int .i64 1], _, _, _] from hS.out))
  clear q A3 d0 d1 d2 d3 f0 f1 f2 f3
  obtain ⟨_, d0, d1, d2, d3, f0, f1, f2, f3⟩ := hS.out.to1.b4
  replace hS := Lib.hid ((((hS.out.to1.set 0 (.int .i64 0)).set 1 (.int .i64 (-1))).set 2 (.slice a3 3 c3)).set 3 (.int .i64 2))
  have A4 := Lib.hid (leaveP_some 0 (-1) 2 (.slice a3 3 c3) [⟨0, 1, 3, 3, 0⟩, ⟨1, 2, 0, 6, 1⟩, ⟨2, 3, 0, 3, 2⟩] 0 0 _ hS.out.to1.vq_rq (by simp) (by decide))
  unfold hval at *
  go_wp2_with fail
  refine A4.out.mono ?_
  rintro e w5 ⟨a4, c4, rfl, q⟩
  replace hS := Lib.hid (q.graft (show Sep _ [blk w2.heap.size 26 #[.int .i64 0, .int .i64 (-1), .slice a3 3 c3, .int .i64 2], _, _, _, _] from hS.out))
  clear q A4 d0 d1 d2 d3 f0 f1 f2 f3
  obtain ⟨_, d0, d1, d2, d3, f0, f1, f2, f3⟩ := hS.out.to1.b4
  replace hS := Lib.hid ((((hS.out.to1.set 0 (.int .i64 0)).set 1 (.int .i64 (-1))).set 2 (.slice a4 2 c4)).set 3 (.int .i64 2))
  have A5 := Lib.hid (scan_any 0 (-1) 2 (.slice a4 2 c4) [⟨1, 2, 0, 6, 1⟩, ⟨2, 3, 0, 3, 2⟩] _ hS.out.to1.vq_rq (by simp) (by unfold Wants; decide))
  rw [show scanN (opens [(⟨1, 2, 0, 6, 1⟩ : Rq), ⟨2, 3, 0, 3, 2⟩]) [⟨1, 2, 0, 6, 1⟩, ⟨2, 3, 0, 3, 2⟩] [] = ([⟨1, 2, 6, 6, 0⟩, ⟨2, 3, 0, 3, 2⟩], [1]) by decide] at A5
  unfold hval at *
  go_wp2_with fail
  refine A5.out.mono ?_
  rintro e w6 ⟨a5, c5, b5, k5, rfl, q⟩
  replace hS := Lib.hid (Sep.gstar.1 ((Sep.gstar.2 q).graft (show Sep _ [blk w2.heap.size 26 #[.int .i64 0, .int .i64 (-1), .slice a4 2 c4, .int .i64 2], _, _, _, _, _] from hS.out)))
  clear q A5 d0 d1 d2 d3 f0 f1 f2 f3
  obtain ⟨_, d0, d1, d2, d3, f0, f1, f2, f3⟩ := hS.out.to2.b4
  replace hS := Lib.hid (show Sep _ [blk w2.heap.size 26 #[.int .i64 0, .int .i64 (-1), .slice a5 2 c5, .int .i64 2], _, _, _, _, _, _, _] from ((((hS.out.to2.set 0 (.int .i64 0)).set 1 (.int .i64 (-1))).set 2 (.slice a5 2 c5)).set 3 (.int .i64 2)))
  have HI := Lib.hid (show RI _ (.slice b5 1 k5) [1] from hS.out.to2.vec_ri)
  have hS9 := hS.out.alloc #[.int .i64 1] 3
  rw [World.size_setCell, World.size_setCell, World.size_setCell, World.size_setCell] at hS9
  replace hS := Lib.hid hS9
  clear hS9
  go_wp2_with fail
  refine (same_true _ _ [1] _ (by simp) (HI.out.below ((Below.refl _ _).alloc (Nat.le_refl _) _)) (ri_one hS.out)).mono ?_
  rintro e w7 ⟨rfl, m, rfl⟩
  replace hS := Lib.hid (hS.out.drewN m)
  clear d0 d1 d2 d3 f0 f1 f2 f3 HI
  obtain ⟨_, d0, d1, d2, d3, _⟩ := hS.out.to1.b4
  have A6 := Lib.hid (fun W hb => mode_any 0 (-1) 2 (.slice a5 2 c5) [⟨1, 2, 6, 6, 0⟩, ⟨2, 3, 0, 3, 2⟩] 2 W (RQ.below hS.out.to2.vq_rq hb) (by simp))
  have A7 := Lib.hid (fun W hb => mode_any 0 (-1) 2 (.slice a5 2 c5) [⟨1, 2, 6, 6, 0⟩, ⟨2, 3, 0, 3, 2⟩] 3 W (RQ.below hS.out.to2.vq_rq hb) (by simp))
  rw [show modeOf [(⟨1, 2, 6, 6, 0⟩ : Rq), ⟨2, 3, 0, 3, 2⟩] 2 = 6 by decide] at A6
  rw [show modeOf [(⟨1, 2, 6, 6, 0⟩ : Rq), ⟨2, 3, 0, 3, 2⟩] 3 = 0 by decide] at A7
  unfold hval at *
  go_wp2_with fail
  refine (A6.out _ (Below.refl _ _)).mono ?_
  rintro e w8 ⟨rfl, q⟩
  replace hS := Lib.hid (hS.out.below q)
  clear d0 d1 d2 d3 A6
  obtain ⟨_, d0, d1, d2, d3, _⟩ := hS.out.to1.b4
  go_wp2_with fail
  refine (A7.out _ q).mono ?_
  rintro e w9 ⟨rfl, q2⟩
  replace hS := Lib.hid (hS.out.below q2)
  clear d0 d1 d2 d3 A7
  go_wp2_with fail
  go_ret
  exact ⟨rfl, hS.out.tail.tail.tail.tail.tail.tail.tail.tail.gold⟩
end Go.Proofs.Ytmacpjnkmkaloaa
