/-
  The walk of NameOrder. No condition beside arguments that can be read.
-/
import Derived.Test.YtiaibmabmholaaaDoorNmV
namespace Go.Proofs.YtiaibmabmholaaaDoor
open Go.RowKit
theorem box3o (w : World) (a a' b b' c c' : Int) : Sep (((w.alloc (.cells #[Value.int .i64 (a), Value.int .i64 (a')] 23)).alloc (.cells #[Value.int .i64 (b), Value.int .i64 (b')] 23)).alloc (.cells #[Value.int .i64 (c), Value.int .i64 (c')] 23)) [blk (w.heap.size + 1 + 1) 23 #[Value.int .i64 (c), Value.int .i64 (c')], blk (w.heap.size + 1) 23 #[Value.int .i64 (b), Value.int .i64 (b')], blk w.heap.size 23 #[Value.int .i64 (a), Value.int .i64 (a')], old w] := by
  have := (((Sep.start w).alloc #[Value.int .i64 (a), Value.int .i64 (a')] 23).alloc #[Value.int .i64 (b), Value.int .i64 (b')] 23).alloc #[Value.int .i64 (c), Value.int .i64 (c')] 23
  simpa only [World.size_alloc] using this
theorem compare_v (t r t' r' x : Int) (w : World) (h : cmpN t r t' r' = x) : Calls Tryd.prog 16 #[(.agg #[.int .i64 t, .int .i64 r]), (.agg #[.int .i64 t', .int .i64 r'])] w fun e w' => e = .returned (.int .i64 x) ∧ Below w.heap.size w w' := by
  subst h
  exact compare_any t r t' r' w
theorem level_o (t r n : Int) (w : World) (h : lv t r = n) : Calls Tryd.prog 15 #[(.agg #[.int .i64 t, .int .i64 r])] w fun e w' => e = .returned (.int .i64 n) ∧ Below w.heap.size w w' := by
  subst h
  exact level_any t r w
theorem parent2 (t r : Int) (w : World) (h : lv t r = 2) : Calls Tryd.prog 17 #[(.agg #[.int .i64 t, .int .i64 r])] w fun e w' => e = .returned (.tuple #[(.agg #[.int .i64 t, .int .i64 (-1)]), .bool true]) ∧ Below w.heap.size w w' := by
  refine (parent_any t r w).mono ?_
  rintro e w1 ⟨x, y, c, rfl, hv, b1⟩
  rcases hv with ⟨h1, _⟩ | ⟨h1, _⟩ | ⟨_, rfl, rfl, rfl⟩
  · omega
  · omega
  · exact ⟨rfl, b1⟩
set_option maxHeartbeats 2000000 in
set_option maxRecDepth 100000 in
theorem order_eq (a a' b b' c c' : Int) (w : World) (hx : cmpN a a' b b' = 0) : Calls Tryd.prog 4 #[(.agg #[.int .i64 a, .int .i64 a']), (.agg #[.int .i64 b, .int .i64 b']), (.agg #[.int .i64 c, .int .i64 c'])] w fun e w' => e = .returned (.bool true) ∧ Below w.heap.size w w' := by
  have hS := Lib.hid (box3o w a a' b b' c c')
  have CAB := Lib.hid (fun W => compare_v a a' b b' (0) W hx)
  have CBA := Lib.hid (fun W => compare_v b b' a a' (0) W (by have := cmpN_spec a a' b b'; have := cmpN_spec b b' a a'; omega))
  have en : nmB a a' b b' = true := by have := cmpN_spec a a' b b'; first | exact nmB_true (by omega) | exact nmB_false (by omega)
  have hq := fun a b c d => run_eql_nm a b c d
  clear hx
  go_enter Tryd.func4, Tryd.ntmps4
  go_wp2_with fail
  refine (lives_any _).mono ?_
  rintro e w1 ⟨rfl, b1⟩
  replace hS := Lib.hid (hS.out.below b1)
  clear b1
  obtain ⟨_, f0, f1, _⟩ := hS.out.b2
  obtain ⟨_, g0, g1, _⟩ := hS.out.to1.b2
  obtain ⟨_, h0, h1, _⟩ := hS.out.to2.b2
  go_wp2_with fail
  refine (CAB.out _).mono ?_
  rintro e w2 ⟨rfl, b2⟩
  replace hS := Lib.hid (hS.out.below b2)
  clear b2 f0 f1 g0 g1 h0 h1
  obtain ⟨_, f0, f1, _⟩ := hS.out.b2
  obtain ⟨_, g0, g1, _⟩ := hS.out.to1.b2
  obtain ⟨_, h0, h1, _⟩ := hS.out.to2.b2
  go_wp2_with fail
  refine (CBA.out _).mono ?_
  rintro e w2 ⟨rfl, b2⟩
  replace hS := Lib.hid (hS.out.below b2)
  clear b2 f0 f1 g0 g1 h0 h1
  obtain ⟨_, f0, f1, _⟩ := hS.out.b2
  obtain ⟨_, g0, g1, _⟩ := hS.out.to1.b2
  obtain ⟨_, h0, h1, _⟩ := hS.out.to2.b2
  by_cases hl : lv a a' = 2
  · have LV := Lib.hid (fun W => level_o a a' 2 W hl)
    have PA := Lib.hid (fun W => parent2 a a' W hl)
    have C1 := Lib.hid (fun W => compare_v a (-1) a a' (-1) W (by have := cmpN_spec a (-1) a a'; have := lv_spec a a'; omega))
    have C2 := Lib.hid (fun W => compare_v a a' (a + 1) (-1) (-1) W (by have := cmpN_spec a a' (a + 1) (-1); have := lv_spec a a'; omega))
    have i1 : 0 ≤ a ∧ a < 100 := by have := lv_spec a a'; omega
    obtain ⟨i1, i2⟩ := i1
    clear hl
    go_wp2_with fail
    refine (LV.out _).mono ?_
    rintro e w2 ⟨rfl, b2⟩
    replace hS := Lib.hid (hS.out.below b2)
    clear b2 f0 f1 g0 g1 h0 h1
    obtain ⟨_, f0, f1, _⟩ := hS.out.b2
    obtain ⟨_, g0, g1, _⟩ := hS.out.to1.b2
    obtain ⟨_, h0, h1, _⟩ := hS.out.to2.b2
    go_wp2_with fail
    refine (PA.out _).mono ?_
    rintro e w3 ⟨rfl, b3⟩
    replace hS := Lib.hid (((hS.out.below b3).alloc #[Value.int .i64 (a), Value.int .i64 ((-1))] 23).alloc #[Value.int .i64 (a + 1), Value.int .i64 ((-1))] 23)
    rw [World.size_alloc] at hS
    clear b3 f0 f1 g0 g1 h0 h1
    obtain ⟨_, f0, f1, _⟩ := hS.out.b2
    obtain ⟨_, g0, g1, _⟩ := hS.out.to1.b2
    obtain ⟨_, h0, h1, _⟩ := hS.out.to4.b2
    go_wp2_with fail
    refine (C1.out _).mono ?_
    rintro e w4 ⟨rfl, b4⟩
    replace hS := Lib.hid (hS.out.below b4)
    clear b4 f0 f1 g0 g1 h0 h1
    obtain ⟨_, f0, f1, _⟩ := hS.out.b2
    obtain ⟨_, h0, h1, _⟩ := hS.out.to4.b2
    go_wp2_with fail
    refine (C2.out _).mono ?_
    rintro e w5 ⟨rfl, b5⟩
    replace hS := Lib.hid (hS.out.below b5)
    clear b5
    go_wp2_with fail
    go_ret
    exact ⟨rfl, hS.out.tail.tail.tail.tail.tail.gold⟩
  · obtain ⟨n, hn⟩ : ∃ n, Hid (lv a a' = n) := ⟨_, rfl⟩
    have LV := Lib.hid (fun W => level_o a a' n W hn.out)
    have en2 : (n != 2) = true := by rw [bne_iff_ne, ← hn.out]; exact hl
    clear hl hn
    go_wp2_with fail
    refine (LV.out _).mono ?_
    rintro e w2 ⟨rfl, b2⟩
    replace hS := Lib.hid (hS.out.below b2)
    clear b2 f0 f1 g0 g1 h0 h1
    obtain ⟨_, f0, f1, _⟩ := hS.out.b2
    obtain ⟨_, g0, g1, _⟩ := hS.out.to1.b2
    obtain ⟨_, h0, h1, _⟩ := hS.out.to2.b2
    go_wp2_with fail
    go_ret
    exact ⟨rfl, hS.out.tail.tail.tail.gold⟩
set_option maxHeartbeats 2000000 in
set_option maxRecDepth 100000 in
theorem order_gt (a a' b b' c c' : Int) (w : World) (hx : cmpN a a' b b' = 1) : Calls Tryd.prog 4 #[(.agg #[.int .i64 a, .int .i64 a']), (.agg #[.int .i64 b, .int .i64 b']), (.agg #[.int .i64 c, .int .i64 c'])] w fun e w' => e = .returned (.bool true) ∧ Below w.heap.size w w' := by
  have hS := Lib.hid (box3o w a a' b b' c c')
  have CAB := Lib.hid (fun W => compare_v a a' b b' (1) W hx)
  have CBA := Lib.hid (fun W => compare_v b b' a a' (-1) W (by have := cmpN_spec a a' b b'; have := cmpN_spec b b' a a'; omega))
  have en : nmB a a' b b' = false := by have := cmpN_spec a a' b b'; first | exact nmB_true (by omega) | exact nmB_false (by omega)
  have hq := fun a b c d => run_eql_nm a b c d
  clear hx
  go_enter Tryd.func4, Tryd.ntmps4
  go_wp2_with fail
  refine (lives_any _).mono ?_
  rintro e w1 ⟨rfl, b1⟩
  replace hS := Lib.hid (hS.out.below b1)
  clear b1
  obtain ⟨_, f0, f1, _⟩ := hS.out.b2
  obtain ⟨_, g0, g1, _⟩ := hS.out.to1.b2
  obtain ⟨_, h0, h1, _⟩ := hS.out.to2.b2
  go_wp2_with fail
  refine (CAB.out _).mono ?_
  rintro e w2 ⟨rfl, b2⟩
  replace hS := Lib.hid (hS.out.below b2)
  clear b2 f0 f1 g0 g1 h0 h1
  obtain ⟨_, f0, f1, _⟩ := hS.out.b2
  obtain ⟨_, g0, g1, _⟩ := hS.out.to1.b2
  obtain ⟨_, h0, h1, _⟩ := hS.out.to2.b2
  go_wp2_with fail
  refine (CBA.out _).mono ?_
  rintro e w2 ⟨rfl, b2⟩
  replace hS := Lib.hid (hS.out.below b2)
  clear b2 f0 f1 g0 g1 h0 h1
  obtain ⟨_, f0, f1, _⟩ := hS.out.b2
  obtain ⟨_, g0, g1, _⟩ := hS.out.to1.b2
  obtain ⟨_, h0, h1, _⟩ := hS.out.to2.b2
  by_cases hl : lv a a' = 2
  · have LV := Lib.hid (fun W => level_o a a' 2 W hl)
    have PA := Lib.hid (fun W => parent2 a a' W hl)
    have C1 := Lib.hid (fun W => compare_v a (-1) a a' (-1) W (by have := cmpN_spec a (-1) a a'; have := lv_spec a a'; omega))
    have C2 := Lib.hid (fun W => compare_v a a' (a + 1) (-1) (-1) W (by have := cmpN_spec a a' (a + 1) (-1); have := lv_spec a a'; omega))
    have i1 : 0 ≤ a ∧ a < 100 := by have := lv_spec a a'; omega
    obtain ⟨i1, i2⟩ := i1
    clear hl
    go_wp2_with fail
    refine (LV.out _).mono ?_
    rintro e w2 ⟨rfl, b2⟩
    replace hS := Lib.hid (hS.out.below b2)
    clear b2 f0 f1 g0 g1 h0 h1
    obtain ⟨_, f0, f1, _⟩ := hS.out.b2
    obtain ⟨_, g0, g1, _⟩ := hS.out.to1.b2
    obtain ⟨_, h0, h1, _⟩ := hS.out.to2.b2
    go_wp2_with fail
    refine (PA.out _).mono ?_
    rintro e w3 ⟨rfl, b3⟩
    replace hS := Lib.hid (((hS.out.below b3).alloc #[Value.int .i64 (a), Value.int .i64 ((-1))] 23).alloc #[Value.int .i64 (a + 1), Value.int .i64 ((-1))] 23)
    rw [World.size_alloc] at hS
    clear b3 f0 f1 g0 g1 h0 h1
    obtain ⟨_, f0, f1, _⟩ := hS.out.b2
    obtain ⟨_, g0, g1, _⟩ := hS.out.to1.b2
    obtain ⟨_, h0, h1, _⟩ := hS.out.to4.b2
    go_wp2_with fail
    refine (C1.out _).mono ?_
    rintro e w4 ⟨rfl, b4⟩
    replace hS := Lib.hid (hS.out.below b4)
    clear b4 f0 f1 g0 g1 h0 h1
    obtain ⟨_, f0, f1, _⟩ := hS.out.b2
    obtain ⟨_, h0, h1, _⟩ := hS.out.to4.b2
    go_wp2_with fail
    refine (C2.out _).mono ?_
    rintro e w5 ⟨rfl, b5⟩
    replace hS := Lib.hid (hS.out.below b5)
    clear b5
    go_wp2_with fail
    go_ret
    exact ⟨rfl, hS.out.tail.tail.tail.tail.tail.gold⟩
  · obtain ⟨n, hn⟩ : ∃ n, Hid (lv a a' = n) := ⟨_, rfl⟩
    have LV := Lib.hid (fun W => level_o a a' n W hn.out)
    have en2 : (n != 2) = true := by rw [bne_iff_ne, ← hn.out]; exact hl
    clear hl hn
    go_wp2_with fail
    refine (LV.out _).mono ?_
    rintro e w2 ⟨rfl, b2⟩
    replace hS := Lib.hid (hS.out.below b2)
    clear b2 f0 f1 g0 g1 h0 h1
    obtain ⟨_, f0, f1, _⟩ := hS.out.b2
    obtain ⟨_, g0, g1, _⟩ := hS.out.to1.b2
    obtain ⟨_, h0, h1, _⟩ := hS.out.to2.b2
    go_wp2_with fail
    go_ret
    exact ⟨rfl, hS.out.tail.tail.tail.gold⟩
set_option maxHeartbeats 2000000 in
set_option maxRecDepth 100000 in
theorem order_lt (a a' b b' c c' : Int) (w : World) (hx : cmpN a a' b b' = -1) (hy : ¬ cmpN b b' c c' < 0) : Calls Tryd.prog 4 #[(.agg #[.int .i64 a, .int .i64 a']), (.agg #[.int .i64 b, .int .i64 b']), (.agg #[.int .i64 c, .int .i64 c'])] w fun e w' => e = .returned (.bool true) ∧ Below w.heap.size w w' := by
  have hS := Lib.hid (box3o w a a' b b' c c')
  have CAB := Lib.hid (fun W => compare_v a a' b b' (-1) W hx)
  have CBA := Lib.hid (fun W => compare_v b b' a a' (1) W (by have := cmpN_spec a a' b b'; have := cmpN_spec b b' a a'; omega))
  have en : nmB a a' b b' = false := by have := cmpN_spec a a' b b'; first | exact nmB_true (by omega) | exact nmB_false (by omega)
  have hq := fun a b c d => run_eql_nm a b c d
  obtain ⟨y, hyy⟩ : ∃ y, Hid (cmpN b b' c c' = y) := ⟨_, rfl⟩
  have CBC := Lib.hid (fun W => compare_v b b' c c' y W hyy.out)
  rw [hyy.out] at hy
  clear hyy
  clear hx
  go_enter Tryd.func4, Tryd.ntmps4
  go_wp2_with fail
  refine (lives_any _).mono ?_
  rintro e w1 ⟨rfl, b1⟩
  replace hS := Lib.hid (hS.out.below b1)
  clear b1
  obtain ⟨_, f0, f1, _⟩ := hS.out.b2
  obtain ⟨_, g0, g1, _⟩ := hS.out.to1.b2
  obtain ⟨_, h0, h1, _⟩ := hS.out.to2.b2
  go_wp2_with fail
  refine (CAB.out _).mono ?_
  rintro e w2 ⟨rfl, b2⟩
  replace hS := Lib.hid (hS.out.below b2)
  clear b2 f0 f1 g0 g1 h0 h1
  obtain ⟨_, f0, f1, _⟩ := hS.out.b2
  obtain ⟨_, g0, g1, _⟩ := hS.out.to1.b2
  obtain ⟨_, h0, h1, _⟩ := hS.out.to2.b2
  go_wp2_with fail
  refine (CBA.out _).mono ?_
  rintro e w2 ⟨rfl, b2⟩
  replace hS := Lib.hid (hS.out.below b2)
  clear b2 f0 f1 g0 g1 h0 h1
  obtain ⟨_, f0, f1, _⟩ := hS.out.b2
  obtain ⟨_, g0, g1, _⟩ := hS.out.to1.b2
  obtain ⟨_, h0, h1, _⟩ := hS.out.to2.b2
  go_wp2_with fail
  refine (CBC.out _).mono ?_
  rintro e w2 ⟨rfl, b2⟩
  replace hS := Lib.hid (hS.out.below b2)
  clear b2 f0 f1 g0 g1 h0 h1
  obtain ⟨_, f0, f1, _⟩ := hS.out.b2
  obtain ⟨_, g0, g1, _⟩ := hS.out.to1.b2
  obtain ⟨_, h0, h1, _⟩ := hS.out.to2.b2
  by_cases hl : lv a a' = 2
  · have LV := Lib.hid (fun W => level_o a a' 2 W hl)
    have PA := Lib.hid (fun W => parent2 a a' W hl)
    have C1 := Lib.hid (fun W => compare_v a (-1) a a' (-1) W (by have := cmpN_spec a (-1) a a'; have := lv_spec a a'; omega))
    have C2 := Lib.hid (fun W => compare_v a a' (a + 1) (-1) (-1) W (by have := cmpN_spec a a' (a + 1) (-1); have := lv_spec a a'; omega))
    have i1 : 0 ≤ a ∧ a < 100 := by have := lv_spec a a'; omega
    obtain ⟨i1, i2⟩ := i1
    clear hl
    go_wp2_with fail
    refine (LV.out _).mono ?_
    rintro e w2 ⟨rfl, b2⟩
    replace hS := Lib.hid (hS.out.below b2)
    clear b2 f0 f1 g0 g1 h0 h1
    obtain ⟨_, f0, f1, _⟩ := hS.out.b2
    obtain ⟨_, g0, g1, _⟩ := hS.out.to1.b2
    obtain ⟨_, h0, h1, _⟩ := hS.out.to2.b2
    go_wp2_with fail
    refine (PA.out _).mono ?_
    rintro e w3 ⟨rfl, b3⟩
    replace hS := Lib.hid (((hS.out.below b3).alloc #[Value.int .i64 (a), Value.int .i64 ((-1))] 23).alloc #[Value.int .i64 (a + 1), Value.int .i64 ((-1))] 23)
    rw [World.size_alloc] at hS
    clear b3 f0 f1 g0 g1 h0 h1
    obtain ⟨_, f0, f1, _⟩ := hS.out.b2
    obtain ⟨_, g0, g1, _⟩ := hS.out.to1.b2
    obtain ⟨_, h0, h1, _⟩ := hS.out.to4.b2
    go_wp2_with fail
    refine (C1.out _).mono ?_
    rintro e w4 ⟨rfl, b4⟩
    replace hS := Lib.hid (hS.out.below b4)
    clear b4 f0 f1 g0 g1 h0 h1
    obtain ⟨_, f0, f1, _⟩ := hS.out.b2
    obtain ⟨_, h0, h1, _⟩ := hS.out.to4.b2
    go_wp2_with fail
    refine (C2.out _).mono ?_
    rintro e w5 ⟨rfl, b5⟩
    replace hS := Lib.hid (hS.out.below b5)
    clear b5
    go_wp2_with fail
    go_ret
    exact ⟨rfl, hS.out.tail.tail.tail.tail.tail.gold⟩
  · obtain ⟨n, hn⟩ : ∃ n, Hid (lv a a' = n) := ⟨_, rfl⟩
    have LV := Lib.hid (fun W => level_o a a' n W hn.out)
    have en2 : (n != 2) = true := by rw [bne_iff_ne, ← hn.out]; exact hl
    clear hl hn
    go_wp2_with fail
    refine (LV.out _).mono ?_
    rintro e w2 ⟨rfl, b2⟩
    replace hS := Lib.hid (hS.out.below b2)
    clear b2 f0 f1 g0 g1 h0 h1
    obtain ⟨_, f0, f1, _⟩ := hS.out.b2
    obtain ⟨_, g0, g1, _⟩ := hS.out.to1.b2
    obtain ⟨_, h0, h1, _⟩ := hS.out.to2.b2
    go_wp2_with fail
    go_ret
    exact ⟨rfl, hS.out.tail.tail.tail.gold⟩
set_option maxHeartbeats 2000000 in
set_option maxRecDepth 100000 in
theorem order_lts (a a' b b' c c' : Int) (w : World) (hx : cmpN a a' b b' = -1) (hy : cmpN b b' c c' < 0) : Calls Tryd.prog 4 #[(.agg #[.int .i64 a, .int .i64 a']), (.agg #[.int .i64 b, .int .i64 b']), (.agg #[.int .i64 c, .int .i64 c'])] w fun e w' => e = .returned (.bool true) ∧ Below w.heap.size w w' := by
  have hS := Lib.hid (box3o w a a' b b' c c')
  have CAB := Lib.hid (fun W => compare_v a a' b b' (-1) W hx)
  have CBA := Lib.hid (fun W => compare_v b b' a a' (1) W (by have := cmpN_spec a a' b b'; have := cmpN_spec b b' a a'; omega))
  have en : nmB a a' b b' = false := by have := cmpN_spec a a' b b'; first | exact nmB_true (by omega) | exact nmB_false (by omega)
  have hq := fun a b c d => run_eql_nm a b c d
  have CBC := Lib.hid (fun W => compare_v b b' c c' (-1) W (by have := cmpN_spec b b' c c'; omega))
  have CAC := Lib.hid (fun W => compare_v a a' c c' (-1) W (by have := cmpN_spec b b' c c'; have := cmpN_spec a a' b b'; have := cmpN_spec a a' c c'; omega))
  clear hy
  clear hx
  go_enter Tryd.func4, Tryd.ntmps4
  go_wp2_with fail
  refine (lives_any _).mono ?_
  rintro e w1 ⟨rfl, b1⟩
  replace hS := Lib.hid (hS.out.below b1)
  clear b1
  obtain ⟨_, f0, f1, _⟩ := hS.out.b2
  obtain ⟨_, g0, g1, _⟩ := hS.out.to1.b2
  obtain ⟨_, h0, h1, _⟩ := hS.out.to2.b2
  go_wp2_with fail
  refine (CAB.out _).mono ?_
  rintro e w2 ⟨rfl, b2⟩
  replace hS := Lib.hid (hS.out.below b2)
  clear b2 f0 f1 g0 g1 h0 h1
  obtain ⟨_, f0, f1, _⟩ := hS.out.b2
  obtain ⟨_, g0, g1, _⟩ := hS.out.to1.b2
  obtain ⟨_, h0, h1, _⟩ := hS.out.to2.b2
  go_wp2_with fail
  refine (CBA.out _).mono ?_
  rintro e w2 ⟨rfl, b2⟩
  replace hS := Lib.hid (hS.out.below b2)
  clear b2 f0 f1 g0 g1 h0 h1
  obtain ⟨_, f0, f1, _⟩ := hS.out.b2
  obtain ⟨_, g0, g1, _⟩ := hS.out.to1.b2
  obtain ⟨_, h0, h1, _⟩ := hS.out.to2.b2
  go_wp2_with fail
  refine (CBC.out _).mono ?_
  rintro e w2 ⟨rfl, b2⟩
  replace hS := Lib.hid (hS.out.below b2)
  clear b2 f0 f1 g0 g1 h0 h1
  obtain ⟨_, f0, f1, _⟩ := hS.out.b2
  obtain ⟨_, g0, g1, _⟩ := hS.out.to1.b2
  obtain ⟨_, h0, h1, _⟩ := hS.out.to2.b2
  go_wp2_with fail
  refine (CAC.out _).mono ?_
  rintro e w2 ⟨rfl, b2⟩
  replace hS := Lib.hid (hS.out.below b2)
  clear b2 f0 f1 g0 g1 h0 h1
  obtain ⟨_, f0, f1, _⟩ := hS.out.b2
  obtain ⟨_, g0, g1, _⟩ := hS.out.to1.b2
  obtain ⟨_, h0, h1, _⟩ := hS.out.to2.b2
  by_cases hl : lv a a' = 2
  · have LV := Lib.hid (fun W => level_o a a' 2 W hl)
    have PA := Lib.hid (fun W => parent2 a a' W hl)
    have C1 := Lib.hid (fun W => compare_v a (-1) a a' (-1) W (by have := cmpN_spec a (-1) a a'; have := lv_spec a a'; omega))
    have C2 := Lib.hid (fun W => compare_v a a' (a + 1) (-1) (-1) W (by have := cmpN_spec a a' (a + 1) (-1); have := lv_spec a a'; omega))
    have i1 : 0 ≤ a ∧ a < 100 := by have := lv_spec a a'; omega
    obtain ⟨i1, i2⟩ := i1
    clear hl
    go_wp2_with fail
    refine (LV.out _).mono ?_
    rintro e w2 ⟨rfl, b2⟩
    replace hS := Lib.hid (hS.out.below b2)
    clear b2 f0 f1 g0 g1 h0 h1
    obtain ⟨_, f0, f1, _⟩ := hS.out.b2
    obtain ⟨_, g0, g1, _⟩ := hS.out.to1.b2
    obtain ⟨_, h0, h1, _⟩ := hS.out.to2.b2
    go_wp2_with fail
    refine (PA.out _).mono ?_
    rintro e w3 ⟨rfl, b3⟩
    replace hS := Lib.hid (((hS.out.below b3).alloc #[Value.int .i64 (a), Value.int .i64 ((-1))] 23).alloc #[Value.int .i64 (a + 1), Value.int .i64 ((-1))] 23)
    rw [World.size_alloc] at hS
    clear b3 f0 f1 g0 g1 h0 h1
    obtain ⟨_, f0, f1, _⟩ := hS.out.b2
    obtain ⟨_, g0, g1, _⟩ := hS.out.to1.b2
    obtain ⟨_, h0, h1, _⟩ := hS.out.to4.b2
    go_wp2_with fail
    refine (C1.out _).mono ?_
    rintro e w4 ⟨rfl, b4⟩
    replace hS := Lib.hid (hS.out.below b4)
    clear b4 f0 f1 g0 g1 h0 h1
    obtain ⟨_, f0, f1, _⟩ := hS.out.b2
    obtain ⟨_, h0, h1, _⟩ := hS.out.to4.b2
    go_wp2_with fail
    refine (C2.out _).mono ?_
    rintro e w5 ⟨rfl, b5⟩
    replace hS := Lib.hid (hS.out.below b5)
    clear b5
    go_wp2_with fail
    go_ret
    exact ⟨rfl, hS.out.tail.tail.tail.tail.tail.gold⟩
  · obtain ⟨n, hn⟩ : ∃ n, Hid (lv a a' = n) := ⟨_, rfl⟩
    have LV := Lib.hid (fun W => level_o a a' n W hn.out)
    have en2 : (n != 2) = true := by rw [bne_iff_ne, ← hn.out]; exact hl
    clear hl hn
    go_wp2_with fail
    refine (LV.out _).mono ?_
    rintro e w2 ⟨rfl, b2⟩
    replace hS := Lib.hid (hS.out.below b2)
    clear b2 f0 f1 g0 g1 h0 h1
    obtain ⟨_, f0, f1, _⟩ := hS.out.b2
    obtain ⟨_, g0, g1, _⟩ := hS.out.to1.b2
    obtain ⟨_, h0, h1, _⟩ := hS.out.to2.b2
    go_wp2_with fail
    go_ret
    exact ⟨rfl, hS.out.tail.tail.tail.gold⟩
theorem order_walk (a a' b b' c c' : Int) (w : World) : Calls Tryd.prog 4 #[(.agg #[.int .i64 a, .int .i64 a']), (.agg #[.int .i64 b, .int .i64 b']), (.agg #[.int .i64 c, .int .i64 c'])] w fun e w' => e = .returned (.bool true) ∧ Below w.heap.size w w' := by
  rcases cmpN_spec a a' b b' with ⟨h, _⟩ | ⟨h, _⟩ | ⟨h, _⟩
  · by_cases hy : cmpN b b' c c' < 0
    · exact order_lts a a' b b' c c' w h hy
    · exact order_lt a a' b b' c c' w h hy
  · exact order_eq a a' b b' c c' w h
  · exact order_gt a a' b b' c c' w h
end Go.Proofs.YtiaibmabmholaaaDoor
