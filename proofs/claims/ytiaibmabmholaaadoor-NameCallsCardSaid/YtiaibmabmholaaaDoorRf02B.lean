/-
  The reference's names: Table, Record, Parent, Ancestors, Under, Compare. No condition.
-/
import Derived.Test.YtiaibmabmholaaaDoorRf02
import Derived.Test.YtiaibmabmholaaaDoorHl
namespace Go.Proofs.YtiaibmabmholaaaDoor
open Go.RowKit
theorem levelR_w (t r n : Int) (h : lv t r = n) (w : World) : Calls Tryd.prog 30 #[(.agg #[.int .i64 t, .int .i64 r])] w fun e w' => e = .returned (.int .i64 n) ∧ Below w.heap.size w w' := by
  subst h
  exact levelR_any t r w
theorem two0 (w : World) (t r : Int) : Sep ((w.alloc (.cells #[Value.int .i64 (0), Value.int .i64 (0)] 23)).alloc (.cells #[Value.int .i64 (t), Value.int .i64 (r)] 23)) [blk (w.heap.size + 1) 23 #[Value.int .i64 (t), Value.int .i64 (r)], blk w.heap.size 23 #[Value.int .i64 (0), Value.int .i64 (0)], old w] := by
  have := ((Sep.start w).alloc #[Value.int .i64 (0), Value.int .i64 (0)] 23).alloc #[Value.int .i64 (t), Value.int .i64 (r)] 23
  simpa only [World.size_alloc] using this
theorem tableR_w (t a b c : Int) (h : MkV t (-1) 1 a b c) (w : World) : Calls Tryd.prog 25 #[.int .i64 t] w fun e w' => e = .returned (.tuple #[(.agg #[.int .i64 a, .int .i64 b]), .int .i64 c]) ∧ Below w.heap.size w w' := by
  have hS := Lib.hid (two0 w t (-1))
  obtain ⟨_, c0, c1, _⟩ := hS.out.b2
  obtain ⟨x, hx⟩ : ∃ x, Hid (lv t (-1) = x) := ⟨_, rfl⟩
  have HL := Lib.hid (fun W => levelR_w t (-1) x hx.out W)
  unfold MkV at h
  rw [hx.out] at h
  rcases h with ⟨h1, rfl, rfl, rfl⟩ | ⟨h1, rfl, rfl, rfl⟩
  · have e1 : (x != 1) = false := by rw [h1]; rfl
    clear h1
    go_enter Tryd.func25, Tryd.ntmps25
    go_wp2_with fail
    refine (HL.out _).mono ?_
    rintro e w1 ⟨rfl, b1⟩
    replace hS := Lib.hid (hS.out.below b1)
    clear b1 c0 c1
    obtain ⟨_, c0, c1, _⟩ := hS.out.b2
    obtain ⟨_, d0, d1, f0, f1⟩ := hS.out.to1.b2
    go_wp2_with fail
    refine bodyPost_ret (v := .tuple #[(.agg #[.int .i64 a, .int .i64 (-1)]), .int .i64 0]) (by simp [results, Tryd.results25, go_sem, *]) rfl ⟨rfl, ?_⟩
    exact ((hS.out.to1.set 0 _).set 1 _).tail.tail.gold
  · have e1 : (x != 1) = true := bne_iff_ne.2 h1
    clear h1
    go_enter Tryd.func25, Tryd.ntmps25
    go_wp2_with fail
    refine (HL.out _).mono ?_
    rintro e w1 ⟨rfl, b1⟩
    replace hS := Lib.hid (hS.out.below b1)
    clear b1 c0 c1
    obtain ⟨_, c0, c1, _⟩ := hS.out.b2
    obtain ⟨_, d0, d1, f0, f1⟩ := hS.out.to1.b2
    go_wp2_with fail
    refine bodyPost_ret (v := .tuple #[(.agg #[.int .i64 0, .int .i64 0]), .int .i64 2]) (by simp [results, Tryd.results25, go_sem, *]) rfl ⟨rfl, ?_⟩
    exact ((hS.out.to1.set 0 _).set 1 _).tail.tail.gold
theorem recordR_w (t r a b c : Int) (h : MkV t r 2 a b c) (w : World) : Calls Tryd.prog 26 #[.int .i64 t, .int .i64 r] w fun e w' => e = .returned (.tuple #[(.agg #[.int .i64 a, .int .i64 b]), .int .i64 c]) ∧ Below w.heap.size w w' := by
  have hS := Lib.hid (two0 w t r)
  obtain ⟨_, c0, c1, _⟩ := hS.out.b2
  obtain ⟨x, hx⟩ : ∃ x, Hid (lv t r = x) := ⟨_, rfl⟩
  have HL := Lib.hid (fun W => levelR_w t r x hx.out W)
  unfold MkV at h
  rw [hx.out] at h
  rcases h with ⟨h1, rfl, rfl, rfl⟩ | ⟨h1, rfl, rfl, rfl⟩
  · have e1 : (x != 2) = false := by rw [h1]; rfl
    clear h1
    go_enter Tryd.func26, Tryd.ntmps26
    go_wp2_with fail
    refine (HL.out _).mono ?_
    rintro e w1 ⟨rfl, b1⟩
    replace hS := Lib.hid (hS.out.below b1)
    clear b1 c0 c1
    obtain ⟨_, c0, c1, _⟩ := hS.out.b2
    obtain ⟨_, d0, d1, f0, f1⟩ := hS.out.to1.b2
    go_wp2_with fail
    refine bodyPost_ret (v := .tuple #[(.agg #[.int .i64 a, .int .i64 b]), .int .i64 0]) (by simp [results, Tryd.results26, go_sem, *]) rfl ⟨rfl, ?_⟩
    exact ((hS.out.to1.set 0 _).set 1 _).tail.tail.gold
  · have e1 : (x != 2) = true := bne_iff_ne.2 h1
    clear h1
    go_enter Tryd.func26, Tryd.ntmps26
    go_wp2_with fail
    refine (HL.out _).mono ?_
    rintro e w1 ⟨rfl, b1⟩
    replace hS := Lib.hid (hS.out.below b1)
    clear b1 c0 c1
    obtain ⟨_, c0, c1, _⟩ := hS.out.b2
    obtain ⟨_, d0, d1, f0, f1⟩ := hS.out.to1.b2
    go_wp2_with fail
    refine bodyPost_ret (v := .tuple #[(.agg #[.int .i64 0, .int .i64 0]), .int .i64 2]) (by simp [results, Tryd.results26, go_sem, *]) rfl ⟨rfl, ?_⟩
    exact ((hS.out.to1.set 0 _).set 1 _).tail.tail.gold
theorem parentR_w (t r a b : Int) (c : Bool) (h : ParV t r a b c) (w : World) : Calls Tryd.prog 27 #[(.agg #[.int .i64 t, .int .i64 r])] w fun e w' => e = .returned (.tuple #[(.agg #[.int .i64 a, .int .i64 b]), .bool c]) ∧ Below w.heap.size w w' := by
  have hS := Lib.hid (box2 w t r 0 0)
  obtain ⟨z, c0, c1, _⟩ := hS.out.to1.b2
  obtain ⟨x, hx⟩ : ∃ x, Hid (lv t r = x) := ⟨_, rfl⟩
  have HL := Lib.hid (fun W => levelR_w t r x hx.out W)
  unfold ParV at h
  rw [hx.out] at h
  rcases h with ⟨h1, rfl, rfl, rfl⟩ | ⟨rfl, rfl, rfl, rfl⟩ | ⟨rfl, rfl, rfl, rfl⟩
  · have e1 : (x == 1) = false := by rw [beq_eq_false_iff_ne]; omega
    have e2 : (x == 2) = false := by rw [beq_eq_false_iff_ne]; omega
    clear h1
    go_enter Tryd.func27, Tryd.ntmps27
    go_wp2_with fail
    refine (HL.out _).mono ?_
    rintro e w1 ⟨rfl, b1⟩
    replace hS := Lib.hid (hS.out.below b1)
    clear b1 c0 c1 z
    obtain ⟨_, c0, c1, _⟩ := hS.out.to1.b2
    obtain ⟨_, d0, d1, f0, f1⟩ := hS.out.b2
    go_wp2_with fail
    refine bodyPost_ret (v := .tuple #[(.agg #[.int .i64 0, .int .i64 0]), .bool false]) (by simp [results, Tryd.results27, go_sem, *]) rfl ⟨rfl, ?_⟩
    exact ((hS.out.set 0 _).set 1 _).tail.tail.gold
  · clear hx
    go_enter Tryd.func27, Tryd.ntmps27
    go_wp2_with fail
    refine (HL.out _).mono ?_
    rintro e w1 ⟨rfl, b1⟩
    replace hS := Lib.hid (hS.out.below b1)
    clear b1 c0 c1 z
    go_wp2_with fail
    refine (databaseR_any _).mono ?_
    rintro e w2 ⟨rfl, b1⟩
    replace hS := Lib.hid (hS.out.below b1)
    clear b1
    obtain ⟨_, d0, d1, f0, f1⟩ := hS.out.b2
    go_wp2_with fail
    refine bodyPost_ret (v := .tuple #[(.agg #[.int .i64 (-1), .int .i64 (-1)]), .bool true]) (by simp [results, Tryd.results27, go_sem, *]) rfl ⟨rfl, ?_⟩
    exact ((hS.out.set 0 _).set 1 _).tail.tail.gold
  · clear hx
    go_enter Tryd.func27, Tryd.ntmps27
    go_wp2_with fail
    refine (HL.out _).mono ?_
    rintro e w1 ⟨rfl, b1⟩
    replace hS := Lib.hid (hS.out.below b1)
    clear b1 c0 c1 z
    obtain ⟨_, c0, c1, _⟩ := hS.out.to1.b2
    obtain ⟨_, d0, d1, f0, f1⟩ := hS.out.b2
    go_wp2_with fail
    refine bodyPost_ret (v := .tuple #[(.agg #[.int .i64 a, .int .i64 (-1)]), .bool true]) (by simp [results, Tryd.results27, go_sem, *]) rfl ⟨rfl, ?_⟩
    exact ((hS.out.set 0 _).set 1 _).tail.tail.gold
theorem compareR_any (t r t' r' : Int) (w : World) : Calls Tryd.prog 33 #[(.agg #[.int .i64 t, .int .i64 r]), (.agg #[.int .i64 t', .int .i64 r'])] w fun e w' => e = .returned (.int .i64 (cmpN t r t' r')) ∧ Below w.heap.size w w' := by
  have hS := Lib.hid (box2 w t r t' r')
  obtain ⟨_, d0, d1, _⟩ := hS.out.b2
  obtain ⟨_, c0, c1, _⟩ := hS.out.to1.b2
  have hq := fun a b c d => run_eql_nm a b c d
  have hs := cmpN_spec t r t' r'
  have h4 : (cmpN t r t' r' = -1 ∧ t < t') ∨ (cmpN t r t' r' = -1 ∧ ¬ t < t' ∧ t = t' ∧ r < r') ∨ (cmpN t r t' r' = 0 ∧ ¬ t < t' ∧ t = t' ∧ ¬ r < r' ∧ r = r') ∨ (cmpN t r t' r' = 1 ∧ ¬ t < t' ∧ ¬ t = t') ∨ (cmpN t r t' r' = 1 ∧ ¬ t < t' ∧ t = t' ∧ ¬ r < r' ∧ ¬ r = r') := by omega
  clear hs
  rcases h4 with ⟨he, h1⟩ | ⟨he, h1, h2, h3⟩ | ⟨he, h1, h2, h3, h4⟩ | ⟨he, h1, h2⟩ | ⟨he, h1, h2, h3, h4⟩
  · rw [he]
    have e1 := decide_eq_true h1
    clear he h1
    go_enter Tryd.func33, Tryd.ntmps33
    go_wp2_with fail
    try (go_quiet (fail))
    try (go_wp2_with fail)
    go_ret
    exact ⟨rfl, by first | exact hS.out.tail.tail.gold | exact (hS.out.drewN _).tail.tail.gold⟩
  · rw [he]
    have e1 := decide_eq_false h1
    have e2 : (t == t') = true := beq_iff_eq.2 h2
    have e3 := decide_eq_true h3
    clear he h1 h2 h3
    go_enter Tryd.func33, Tryd.ntmps33
    go_wp2_with fail
    try (go_quiet (fail))
    try (go_wp2_with fail)
    go_ret
    exact ⟨rfl, by first | exact hS.out.tail.tail.gold | exact (hS.out.drewN _).tail.tail.gold⟩
  · rw [he]
    have e1 := decide_eq_false h1
    have e2 : (t == t') = true := beq_iff_eq.2 h2
    have e3 := decide_eq_false h3
    have e4 : nmB t r t' r' = true := nmB_true ⟨h2, h4⟩
    clear he h1 h2 h3 h4
    go_enter Tryd.func33, Tryd.ntmps33
    go_wp2_with fail
    try (go_quiet (fail))
    try (go_wp2_with fail)
    go_ret
    exact ⟨rfl, by first | exact hS.out.tail.tail.gold | exact (hS.out.drewN _).tail.tail.gold⟩
  · rw [he]
    have e1 := decide_eq_false h1
    have e2 : (t == t') = false := by rw [beq_eq_false_iff_ne]; exact h2
    have e4 : nmB t r t' r' = false := nmB_false (fun k => h2 k.1)
    clear he h1 h2
    go_enter Tryd.func33, Tryd.ntmps33
    go_wp2_with fail
    try (go_quiet (fail))
    try (go_wp2_with fail)
    go_ret
    exact ⟨rfl, by first | exact hS.out.tail.tail.gold | exact (hS.out.drewN _).tail.tail.gold⟩
  · rw [he]
    have e1 := decide_eq_false h1
    have e2 : (t == t') = true := beq_iff_eq.2 h2
    have e3 := decide_eq_false h3
    have e4 : nmB t r t' r' = false := nmB_false (fun k => h4 k.2)
    clear he h1 h2 h3 h4
    go_enter Tryd.func33, Tryd.ntmps33
    go_wp2_with fail
    try (go_quiet (fail))
    try (go_wp2_with fail)
    go_ret
    exact ⟨rfl, by first | exact hS.out.tail.tail.gold | exact (hS.out.drewN _).tail.tail.gold⟩
end Go.Proofs.YtiaibmabmholaaaDoor
