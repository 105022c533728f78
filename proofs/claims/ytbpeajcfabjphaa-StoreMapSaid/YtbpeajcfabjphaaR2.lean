/-
  The reference's names: Database, Level, Check, Compare. No condition.
-/
import Derived.Test.YtbpeajcfabjphaaNmLv
import Derived.Test.YtbpeajcfabjphaaHl
namespace Go.Proofs.Ytbpeajcfabjphaa
open Go.RowKit
open Go.Lib
theorem databaseR_any (w : World) : Calls Try.prog 38 #[] w fun e w' => e = .returned (.agg #[.int .i64 (-1), .int .i64 (-1)]) ∧ Below w.heap.size w w' := by
  go_enter Try.func38, Try.ntmps38
  go_wp2
  refine bodyPost_ret (v := (.agg #[.int .i64 (-1), .int .i64 (-1)])) (by simp [results, Try.results38, go_sem, *]) rfl ⟨rfl, ?_⟩
  exact (Below.refl _ _).alloc (Nat.le_refl _) _
set_option maxHeartbeats 2000000 in
theorem levelR_any (t r : Int) (w : World) : Calls Try.prog 16 #[(.agg #[.int .i64 t, .int .i64 r])] w fun e w' => e = .returned (.int .i64 (lv t r)) ∧ Below w.heap.size w w' := by
  have hs := lv_spec t r
  have hq := fun a b c d => run_eql_nm a b c d
  have h7 : (t = -1 ∧ r = -1) ∨ (¬(t = -1 ∧ r = -1) ∧ (t < 0 ∨ (0 ≤ t ∧ 100 ≤ t) ∨ (0 ≤ t ∧ t < 100 ∧ r < -1) ∨ (0 ≤ t ∧ t < 100 ∧ -1 ≤ r ∧ 100 ≤ r) ∨ (0 ≤ t ∧ t < 100 ∧ r = -1) ∨ (0 ≤ t ∧ t < 100 ∧ 0 ≤ r ∧ r < 100))) := by omega
  rcases h7 with h | ⟨h, h7⟩
  · have e := nmB_true h
    rw [show lv t r = 0 by omega]
    clear hs h
    have hS := Lib.hid (box1 w t r)
    obtain ⟨z, c0, c1, _⟩ := hS.out.b2
    go_enter Try.func16, Try.ntmps16
    go_wp2_with fail
    go_region_held3 (fun w' => w'.cell? ⟨w.heap.size, 0, none⟩ = some (.int .i64 t) ∧ w'.cell? ⟨w.heap.size, 1, none⟩ = some (.int .i64 r)) (exact ⟨by assumption, by assumption⟩) ((go_at_call 38; refine (databaseR_any _).mono ?_; rintro e w1 ⟨rfl, b1⟩; have hS2 := Lib.hid ((show Sep _ [blk w.heap.size 24 #[Value.int .i64 (t), Value.int .i64 (r)], old w] from by first | exact hS.out | exact hS.out.drew).below b1); obtain ⟨_, d0, d1, _⟩ := hS2.out.b2; clear b1))
    go_wp2_with fail
    go_ret
    exact ⟨rfl, hS2.out.tail.gold⟩
  · have e := nmB_false h
    rcases h7 with h1 | ⟨h1, h2⟩ | ⟨h1, h2, h3⟩ | ⟨h1, h2, h3, h4⟩ | ⟨h1, h2, h3⟩ | ⟨h1, h2, h3, h4⟩
    · skip
      rw [show lv t r = -1 by omega]
      clear hs h
      have hS := Lib.hid (box1 w t r)
      obtain ⟨z, c0, c1, _⟩ := hS.out.b2
      go_enter Try.func16, Try.ntmps16
      go_wp2_with fail
      go_region_held3 (fun w' => w'.cell? ⟨w.heap.size, 0, none⟩ = some (.int .i64 t) ∧ w'.cell? ⟨w.heap.size, 1, none⟩ = some (.int .i64 r)) (exact ⟨by assumption, by assumption⟩) ((go_at_call 38; refine (databaseR_any _).mono ?_; rintro e w1 ⟨rfl, b1⟩; have hS2 := Lib.hid ((show Sep _ [blk w.heap.size 24 #[Value.int .i64 (t), Value.int .i64 (r)], old w] from by first | exact hS.out | exact hS.out.drew).below b1); obtain ⟨_, d0, d1, _⟩ := hS2.out.b2; clear b1))
      go_wp2_with fail
      go_ret
      exact ⟨rfl, hS2.out.tail.gold⟩
    · skip
      rw [show lv t r = -1 by omega]
      clear hs h
      have hS := Lib.hid (box1 w t r)
      obtain ⟨z, c0, c1, _⟩ := hS.out.b2
      go_enter Try.func16, Try.ntmps16
      go_wp2_with fail
      go_region_held3 (fun w' => w'.cell? ⟨w.heap.size, 0, none⟩ = some (.int .i64 t) ∧ w'.cell? ⟨w.heap.size, 1, none⟩ = some (.int .i64 r)) (exact ⟨by assumption, by assumption⟩) ((go_at_call 38; refine (databaseR_any _).mono ?_; rintro e w1 ⟨rfl, b1⟩; have hS2 := Lib.hid ((show Sep _ [blk w.heap.size 24 #[Value.int .i64 (t), Value.int .i64 (r)], old w] from by first | exact hS.out | exact hS.out.drew).below b1); obtain ⟨_, d0, d1, _⟩ := hS2.out.b2; clear b1))
      go_wp2_with fail
      go_ret
      exact ⟨rfl, hS2.out.tail.gold⟩
    · skip
      rw [show lv t r = -1 by omega]
      clear hs h
      have hS := Lib.hid (box1 w t r)
      obtain ⟨z, c0, c1, _⟩ := hS.out.b2
      go_enter Try.func16, Try.ntmps16
      go_wp2_with fail
      go_region_held3 (fun w' => w'.cell? ⟨w.heap.size, 0, none⟩ = some (.int .i64 t) ∧ w'.cell? ⟨w.heap.size, 1, none⟩ = some (.int .i64 r)) (exact ⟨by assumption, by assumption⟩) ((go_at_call 38; refine (databaseR_any _).mono ?_; rintro e w1 ⟨rfl, b1⟩; have hS2 := Lib.hid ((show Sep _ [blk w.heap.size 24 #[Value.int .i64 (t), Value.int .i64 (r)], old w] from by first | exact hS.out | exact hS.out.drew).below b1); obtain ⟨_, d0, d1, _⟩ := hS2.out.b2; clear b1))
      go_wp2_with fail
      go_ret
      exact ⟨rfl, hS2.out.tail.gold⟩
    · skip
      rw [show lv t r = -1 by omega]
      clear hs h
      have hS := Lib.hid (box1 w t r)
      obtain ⟨z, c0, c1, _⟩ := hS.out.b2
      go_enter Try.func16, Try.ntmps16
      go_wp2_with fail
      go_region_held3 (fun w' => w'.cell? ⟨w.heap.size, 0, none⟩ = some (.int .i64 t) ∧ w'.cell? ⟨w.heap.size, 1, none⟩ = some (.int .i64 r)) (exact ⟨by assumption, by assumption⟩) ((go_at_call 38; refine (databaseR_any _).mono ?_; rintro e w1 ⟨rfl, b1⟩; have hS2 := Lib.hid ((show Sep _ [blk w.heap.size 24 #[Value.int .i64 (t), Value.int .i64 (r)], old w] from by first | exact hS.out | exact hS.out.drew).below b1); obtain ⟨_, d0, d1, _⟩ := hS2.out.b2; clear b1))
      go_wp2_with fail
      go_ret
      exact ⟨rfl, hS2.out.tail.gold⟩
    · skip
      rw [show lv t r = 1 by omega]
      have e3 : (r == -1) = true := by rw [beq_iff_eq]; omega
      have h5 : -1 ≤ r ∧ r < 100 := by omega
      obtain ⟨h5, h6⟩ := h5
      clear h3
      clear hs h
      have hS := Lib.hid (box1 w t r)
      obtain ⟨z, c0, c1, _⟩ := hS.out.b2
      go_enter Try.func16, Try.ntmps16
      go_wp2_with fail
      go_region_held3 (fun w' => w'.cell? ⟨w.heap.size, 0, none⟩ = some (.int .i64 t) ∧ w'.cell? ⟨w.heap.size, 1, none⟩ = some (.int .i64 r)) (exact ⟨by assumption, by assumption⟩) ((go_at_call 38; refine (databaseR_any _).mono ?_; rintro e w1 ⟨rfl, b1⟩; have hS2 := Lib.hid ((show Sep _ [blk w.heap.size 24 #[Value.int .i64 (t), Value.int .i64 (r)], old w] from by first | exact hS.out | exact hS.out.drew).below b1); obtain ⟨_, d0, d1, _⟩ := hS2.out.b2; clear b1))
      go_wp2_with fail
      go_ret
      exact ⟨rfl, hS2.out.tail.gold⟩
    · skip
      rw [show lv t r = 2 by omega]
      have e3 : (r == -1) = false := by rw [beq_eq_false_iff_ne]; omega
      have h5 : -1 ≤ r := by omega
      clear hs h
      have hS := Lib.hid (box1 w t r)
      obtain ⟨z, c0, c1, _⟩ := hS.out.b2
      go_enter Try.func16, Try.ntmps16
      go_wp2_with fail
      go_region_held3 (fun w' => w'.cell? ⟨w.heap.size, 0, none⟩ = some (.int .i64 t) ∧ w'.cell? ⟨w.heap.size, 1, none⟩ = some (.int .i64 r)) (exact ⟨by assumption, by assumption⟩) ((go_at_call 38; refine (databaseR_any _).mono ?_; rintro e w1 ⟨rfl, b1⟩; have hS2 := Lib.hid ((show Sep _ [blk w.heap.size 24 #[Value.int .i64 (t), Value.int .i64 (r)], old w] from by first | exact hS.out | exact hS.out.drew).below b1); obtain ⟨_, d0, d1, _⟩ := hS2.out.b2; clear b1))
      go_wp2_with fail
      go_ret
      exact ⟨rfl, hS2.out.tail.gold⟩
theorem checkR_any (t r : Int) (w : World) : Calls Try.prog 15 #[(.agg #[.int .i64 t, .int .i64 r])] w fun e w' => e = .returned (.int .i64 (if lv t r = -1 then 2 else 0)) ∧ Below w.heap.size w w' := by
  have hS := Lib.hid (box1 w t r)
  obtain ⟨z, c0, c1, _⟩ := hS.out.b2
  have hs := lv_spec t r
  have HL := Lib.hid (fun W => levelR_any t r W)
  by_cases h : lv t r = -1
  · rw [if_pos h]
    rw [h] at HL
    clear h hs
    go_enter Try.func15, Try.ntmps15
    go_wp2_with fail
    refine (HL.out _).mono ?_
    rintro e w1 ⟨rfl, b1⟩
    replace hS := Lib.hid (hS.out.below b1)
    clear b1
    go_wp2_with fail
    go_ret
    exact ⟨rfl, hS.out.tail.gold⟩
  · rw [if_neg h]
    have h0 : 0 ≤ lv t r := by omega
    clear h hs
    generalize lv t r = x at *
    go_enter Try.func15, Try.ntmps15
    go_wp2_with fail
    refine (HL.out _).mono ?_
    rintro e w1 ⟨rfl, b1⟩
    replace hS := Lib.hid (hS.out.below b1)
    clear b1
    go_wp2_with fail
    go_ret
    exact ⟨rfl, hS.out.tail.gold⟩
theorem box2 (w : World) (t r t' r' : Int) : Sep ((w.alloc (.cells #[Value.int .i64 (t), Value.int .i64 (r)] 24)).alloc (.cells #[Value.int .i64 (t'), Value.int .i64 (r')] 24)) [blk (w.heap.size + 1) 24 #[Value.int .i64 (t'), Value.int .i64 (r')], blk w.heap.size 24 #[Value.int .i64 (t), Value.int .i64 (r)], old w] := by
  have := ((Sep.start w).alloc #[Value.int .i64 (t), Value.int .i64 (r)] 24).alloc #[Value.int .i64 (t'), Value.int .i64 (r')] 24
  simpa only [World.size_alloc] using this
theorem compareR_any (t r t' r' : Int) (w : World) : Calls Try.prog 19 #[(.agg #[.int .i64 t, .int .i64 r]), (.agg #[.int .i64 t', .int .i64 r'])] w fun e w' => e = .returned (.int .i64 (cmpN t r t' r')) ∧ Below w.heap.size w w' := by
  have hS := Lib.hid (box2 w t r t' r')
  obtain ⟨_, d0, d1, _⟩ := hS.out.b2
  obtain ⟨_, c0, c1, _⟩ := hS.out.to1.b2
  have hq := fun a b c d => run_eql_nm a b c d
  have hs := cmpN_spec t r t' r'
  have h4 : (cmpN t r t' r' = -1 ∧ t < t') ∨ (cmpN t r t' r' = -1 ∧ ¬ t < t' ∧ t = t' ∧ r < r') ∨ (cmpN t r t' r' = 0 ∧ ¬ t < t' ∧ t = t' ∧ ¬ r < r' ∧ r = r') ∨ (cmpN t r t' r' = 1 ∧ ¬ t < t' ∧ ¬ t = t') ∨ (cmpN t r t' r' = 1 ∧ ¬ t < t' ∧ t = t' ∧ ¬ r < r' ∧ ¬ r = r') := by omega
  clear hs
  rcases h4 with ⟨he, h1⟩ | ⟨he, h1, h2, h3⟩ | ⟨he, h1, h2, h3, h4⟩ | ⟨he, h1, h2⟩ | ⟨he, h1, h2, h3, h4⟩
  · rw [he]
    have e1 := decide_eq_true h1
    clear he h1
    go_enter Try.func19, Try.ntmps19
    go_wp2_with fail
    try (go_quiet (fail))
    try (go_wp2_with fail)
    go_ret
    exact ⟨rfl, by first | exact hS.out.tail.tail.gold | exact (hS.out.drewN _).tail.tail.gold⟩
  · rw [he]
    have e1 := decide_eq_false h1
    have e2 : (t == t') = true := beq_iff_eq.2 h2
    have e3 := decide_eq_true h3
    clear he h1 h2 h3
    go_enter Try.func19, Try.ntmps19
    go_wp2_with fail
    try (go_quiet (fail))
    try (go_wp2_with fail)
    go_ret
    exact ⟨rfl, by first | exact hS.out.tail.tail.gold | exact (hS.out.drewN _).tail.tail.gold⟩
  · rw [he]
    have e1 := decide_eq_false h1
    have e2 : (t == t') = true := beq_iff_eq.2 h2
    have e3 := decide_eq_false h3
    have e4 : nmB t r t' r' = true := nmB_true ⟨h2, h4⟩
    clear he h1 h2 h3 h4
    go_enter Try.func19, Try.ntmps19
    go_wp2_with fail
    try (go_quiet (fail))
    try (go_wp2_with fail)
    go_ret
    exact ⟨rfl, by first | exact hS.out.tail.tail.gold | exact (hS.out.drewN _).tail.tail.gold⟩
  · rw [he]
    have e1 := decide_eq_false h1
    have e2 : (t == t') = false := by rw [beq_eq_false_iff_ne]; exact h2
    have e4 : nmB t r t' r' = false := nmB_false (fun k => h2 k.1)
    clear he h1 h2
    go_enter Try.func19, Try.ntmps19
    go_wp2_with fail
    try (go_quiet (fail))
    try (go_wp2_with fail)
    go_ret
    exact ⟨rfl, by first | exact hS.out.tail.tail.gold | exact (hS.out.drewN _).tail.tail.gold⟩
  · rw [he]
    have e1 := decide_eq_false h1
    have e2 : (t == t') = true := beq_iff_eq.2 h2
    have e3 := decide_eq_false h3
    have e4 : nmB t r t' r' = false := nmB_false (fun k => h4 k.2)
    clear he h1 h2 h3 h4
    go_enter Try.func19, Try.ntmps19
    go_wp2_with fail
    try (go_quiet (fail))
    try (go_wp2_with fail)
    go_ret
    exact ⟨rfl, by first | exact hS.out.tail.tail.gold | exact (hS.out.drewN _).tail.tail.gold⟩
end Go.Proofs.Ytbpeajcfabjphaa
