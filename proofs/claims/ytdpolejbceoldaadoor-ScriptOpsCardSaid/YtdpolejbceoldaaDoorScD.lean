/-
  The reference's names: Database, Level, Check. No condition.
-/
import Derived.Test.YtdpolejbceoldaaDoorNmLv
import Derived.Test.YtdpolejbceoldaaDoorHl
namespace Go.Proofs.YtdpolejbceoldaaDoor
set_option linter.unusedSimpArgs false
set_option linter.unusedVariables false
set_option linter.unnecessarySimpa false
open Go.RowKit
open Go.Lib
theorem databaseR_any (w : World) : Calls Tryd.prog 51 #[] w fun e w' => e = .returned (.agg #[.int .i64 (-1), .int .i64 (-1)]) ∧ Below w.heap.size w w' := by
  go_enter Tryd.func51, Tryd.ntmps51
  go_wp2
  refine bodyPost_ret (v := (.agg #[.int .i64 (-1), .int .i64 (-1)])) (by simp [results, Tryd.results51, go_sem, *]) rfl ⟨rfl, ?_⟩
  exact (Below.refl _ _).alloc (Nat.le_refl _) _
set_option maxHeartbeats 2000000 in
theorem levelR_any (t r : Int) (w : World) : Calls Tryd.prog 35 #[(.agg #[.int .i64 t, .int .i64 r])] w fun e w' => e = .returned (.int .i64 (lv t r)) ∧ Below w.heap.size w w' := by
  have hs := lv_spec t r
  have hq := fun a b c d => run_eql_nm a b c d
  have h7 : (t = -1 ∧ r = -1) ∨ (¬(t = -1 ∧ r = -1) ∧ (t < 0 ∨ (0 ≤ t ∧ 100 ≤ t) ∨ (0 ≤ t ∧ t < 100 ∧ r < -1) ∨ (0 ≤ t ∧ t < 100 ∧ -1 ≤ r ∧ 100 ≤ r) ∨ (0 ≤ t ∧ t < 100 ∧ r = -1) ∨ (0 ≤ t ∧ t < 100 ∧ 0 ≤ r ∧ r < 100))) := by omega
  rcases h7 with h | ⟨h, h7⟩
  · have e := nmB_true h
    rw [show lv t r = 0 by omega]
    clear hs h
    have hS := Lib.hid (box1 w t r)
    obtain ⟨z, c0, c1, _⟩ := hS.out.b2
    go_enter Tryd.func35, Tryd.ntmps35
    go_wp2_with fail
    go_region_held3 (fun w' => w'.cell? ⟨w.heap.size, 0, none⟩ = some (.int .i64 t) ∧ w'.cell? ⟨w.heap.size, 1, none⟩ = some (.int .i64 r)) (exact ⟨by assumption, by assumption⟩) ((go_at_call 51; refine (databaseR_any _).mono ?_; rintro e w1 ⟨rfl, b1⟩; have hS2 := Lib.hid ((show Sep _ [blk w.heap.size 33 #[Value.int .i64 (t), Value.int .i64 (r)], old w] from by first | exact hS.out | exact hS.out.drew).below b1); obtain ⟨_, d0, d1, _⟩ := hS2.out.b2; clear b1))
    go_wp2_with fail
    go_ret
    exact ⟨rfl, hS2.out.tail.gold⟩
  · have e := nmB_false h
    rcases h7 with h1 | ⟨h1, h2⟩ | ⟨h1, h2, h3⟩ | ⟨h1, h2, h3, h4⟩ | ⟨h1, h2, h3⟩ | ⟨h1, h2, h3, h4⟩
    · skip
      rw [show lv t r = -1 by omega]
      clear hs h
      have hS := Lib.hid (box1 w t r)
      obtain ⟨z, c0, c1, _⟩ := hS.out.b2
      go_enter Tryd.func35, Tryd.ntmps35
      go_wp2_with fail
      go_region_held3 (fun w' => w'.cell? ⟨w.heap.size, 0, none⟩ = some (.int .i64 t) ∧ w'.cell? ⟨w.heap.size, 1, none⟩ = some (.int .i64 r)) (exact ⟨by assumption, by assumption⟩) ((go_at_call 51; refine (databaseR_any _).mono ?_; rintro e w1 ⟨rfl, b1⟩; have hS2 := Lib.hid ((show Sep _ [blk w.heap.size 33 #[Value.int .i64 (t), Value.int .i64 (r)], old w] from by first | exact hS.out | exact hS.out.drew).below b1); obtain ⟨_, d0, d1, _⟩ := hS2.out.b2; clear b1))
      go_wp2_with fail
      go_ret
      exact ⟨rfl, hS2.out.tail.gold⟩
    · skip
      rw [show lv t r = -1 by omega]
      clear hs h
      have hS := Lib.hid (box1 w t r)
      obtain ⟨z, c0, c1, _⟩ := hS.out.b2
      go_enter Tryd.func35, Tryd.ntmps35
      go_wp2_with fail
      go_region_held3 (fun w' => w'.cell? ⟨w.heap.size, 0, none⟩ = some (.int .i64 t) ∧ w'.cell? ⟨w.heap.size, 1, none⟩ = some (.int .i64 r)) (exact ⟨by assumption, by assumption⟩) ((go_at_call 51; refine (databaseR_any _).mono ?_; rintro e w1 ⟨rfl, b1⟩; have hS2 := Lib.hid ((show Sep _ [blk w.heap.size 33 #[Value.int .i64 (t), Value.int .i64 (r)], old w] from by first | exact hS.out | exact hS.out.drew).below b1); obtain ⟨_, d0, d1, _⟩ := hS2.out.b2; clear b1))
      go_wp2_with fail
      go_ret
      exact ⟨rfl, hS2.out.tail.gold⟩
    · skip
      rw [show lv t r = -1 by omega]
      clear hs h
      have hS := Lib.hid (box1 w t r)
      obtain ⟨z, c0, c1, _⟩ := hS.out.b2
      go_enter Tryd.func35, Tryd.ntmps35
      go_wp2_with fail
      go_region_held3 (fun w' => w'.cell? ⟨w.heap.size, 0, none⟩ = some (.int .i64 t) ∧ w'.cell? ⟨w.heap.size, 1, none⟩ = some (.int .i64 r)) (exact ⟨by assumption, by assumption⟩) ((go_at_call 51; refine (databaseR_any _).mono ?_; rintro e w1 ⟨rfl, b1⟩; have hS2 := Lib.hid ((show Sep _ [blk w.heap.size 33 #[Value.int .i64 (t), Value.int .i64 (r)], old w] from by first | exact hS.out | exact hS.out.drew).below b1); obtain ⟨_, d0, d1, _⟩ := hS2.out.b2; clear b1))
      go_wp2_with fail
      go_ret
      exact ⟨rfl, hS2.out.tail.gold⟩
    · skip
      rw [show lv t r = -1 by omega]
      clear hs h
      have hS := Lib.hid (box1 w t r)
      obtain ⟨z, c0, c1, _⟩ := hS.out.b2
      go_enter Tryd.func35, Tryd.ntmps35
      go_wp2_with fail
      go_region_held3 (fun w' => w'.cell? ⟨w.heap.size, 0, none⟩ = some (.int .i64 t) ∧ w'.cell? ⟨w.heap.size, 1, none⟩ = some (.int .i64 r)) (exact ⟨by assumption, by assumption⟩) ((go_at_call 51; refine (databaseR_any _).mono ?_; rintro e w1 ⟨rfl, b1⟩; have hS2 := Lib.hid ((show Sep _ [blk w.heap.size 33 #[Value.int .i64 (t), Value.int .i64 (r)], old w] from by first | exact hS.out | exact hS.out.drew).below b1); obtain ⟨_, d0, d1, _⟩ := hS2.out.b2; clear b1))
      go_wp2_with fail
      go_ret
      exact ⟨rfl, hS2.out.tail.gold⟩
    · skip
      rw [show lv t r = 1 by omega]
      have e3 : (r == -1) = true := by rw [beq_iff_eq]; omega
      have h5 : -1 ≤ r ∧ r < 100 := by omega
      obtain ⟨h5, h6⟩ := h5
      clear h3
      clear hs h
      have hS := Lib.hid (box1 w t r)
      obtain ⟨z, c0, c1, _⟩ := hS.out.b2
      go_enter Tryd.func35, Tryd.ntmps35
      go_wp2_with fail
      go_region_held3 (fun w' => w'.cell? ⟨w.heap.size, 0, none⟩ = some (.int .i64 t) ∧ w'.cell? ⟨w.heap.size, 1, none⟩ = some (.int .i64 r)) (exact ⟨by assumption, by assumption⟩) ((go_at_call 51; refine (databaseR_any _).mono ?_; rintro e w1 ⟨rfl, b1⟩; have hS2 := Lib.hid ((show Sep _ [blk w.heap.size 33 #[Value.int .i64 (t), Value.int .i64 (r)], old w] from by first | exact hS.out | exact hS.out.drew).below b1); obtain ⟨_, d0, d1, _⟩ := hS2.out.b2; clear b1))
      go_wp2_with fail
      go_ret
      exact ⟨rfl, hS2.out.tail.gold⟩
    · skip
      rw [show lv t r = 2 by omega]
      have e3 : (r == -1) = false := by rw [beq_eq_false_iff_ne]; omega
      have h5 : -1 ≤ r := by omega
      clear hs h
      have hS := Lib.hid (box1 w t r)
      obtain ⟨z, c0, c1, _⟩ := hS.out.b2
      go_enter Tryd.func35, Tryd.ntmps35
      go_wp2_with fail
      go_region_held3 (fun w' => w'.cell? ⟨w.heap.size, 0, none⟩ = some (.int .i64 t) ∧ w'.cell? ⟨w.heap.size, 1, none⟩ = some (.int .i64 r)) (exact ⟨by assumption, by assumption⟩) ((go_at_call 51; refine (databaseR_any _).mono ?_; rintro e w1 ⟨rfl, b1⟩; have hS2 := Lib.hid ((show Sep _ [blk w.heap.size 33 #[Value.int .i64 (t), Value.int .i64 (r)], old w] from by first | exact hS.out | exact hS.out.drew).below b1); obtain ⟨_, d0, d1, _⟩ := hS2.out.b2; clear b1))
      go_wp2_with fail
      go_ret
      exact ⟨rfl, hS2.out.tail.gold⟩
theorem checkR_any (t r : Int) (w : World) : Calls Tryd.prog 14 #[(.agg #[.int .i64 t, .int .i64 r])] w fun e w' => e = .returned (.int .i64 (if lv t r = -1 then 2 else 0)) ∧ Below w.heap.size w w' := by
  have hS := Lib.hid (box1 w t r)
  obtain ⟨z, c0, c1, _⟩ := hS.out.b2
  have hs := lv_spec t r
  have HL := Lib.hid (fun W => levelR_any t r W)
  by_cases h : lv t r = -1
  · rw [if_pos h]
    rw [h] at HL
    clear h hs
    go_enter Tryd.func14, Tryd.ntmps14
    go_wp2_with fail
    refine (HL.out _).mono ?_
    rintro e w1 ⟨rfl, b1⟩
    replace hS := Lib.hid (hS.out.below b1)
    clear b1
    go_wp2_with fail
    go_ret
    exact ⟨rfl, hS.out.tail.gold⟩
  · rw [if_neg h]
    have h0 : 0 ≤ lv t r := by omega
    clear h hs
    generalize lv t r = x at *
    go_enter Tryd.func14, Tryd.ntmps14
    go_wp2_with fail
    refine (HL.out _).mono ?_
    rintro e w1 ⟨rfl, b1⟩
    replace hS := Lib.hid (hS.out.below b1)
    clear b1
    go_wp2_with fail
    go_ret
    exact ⟨rfl, hS.out.tail.gold⟩
end Go.Proofs.YtdpolejbceoldaaDoor
