/-
  Next; the calls at an invalid clock; TicksNames. No condition.
-/
import Derived.Test.YtcbjgibcgalppaaTkI
namespace Go.Proofs.Ytcbjgibcgalppaa
open Go.RowKit Go.Shelf
set_option maxHeartbeats 1000000 in
theorem next_some (p : Nat) (now : Int) (x : Tm) (M : List Tm) (w : World) (rs : List Res) (hS : Sep w (clockR p now (x :: M) :: rs)) : Calls Try.prog 14 #[.pointer (some ⟨p, 0, none⟩)] w fun e w' => e = .returned (.tuple #[tV x, .bool true]) ∧ Below w.heap.size w w' := by
  obtain ⟨fa, c, xs, hok, hl, hS1⟩ := clock_open hS
  obtain ⟨hh, _, _⟩ := head_ok hok
  rw [show (x :: M).length = M.length + 1 from rfl] at hS1 hl
  obtain ⟨g, rfl⟩ := vec_some hS1.to1 (by omega)
  obtain ⟨⟨z0, z1, z2⟩, _, _⟩ := hS1.to1.tAt 0 (by omega)
  rw [hh] at z0 z1 z2
  obtain ⟨x0, x1, x2⟩ := x
  simp only [Nat.zero_mul, Nat.zero_add] at z0 z1 z2
  obtain ⟨_, c0, c1, _⟩ := hS1.b2
  have n0 : ¬ ((M.length + 1 : Nat) : Int) = 0 := by omega
  have n1 : (((M.length + 1 : Nat) : Int) == 0) = false := beq_eq_false_iff_ne.2 n0
  have n2 : (0 : Int) < ((M.length + 1 : Nat) : Int) := by omega
  have hB := Lib.hid ((Below.refl w.heap.size w).alloc (Nat.le_refl _) (.cells #[.int .i64 x0, .int .i64 x1, .int .i64 x2] 34))
  clear hS hS1 hok hl hh
  generalize M.length + 1 = m at *
  unfold tV
  go_enter Try.func14, Try.ntmps14
  go_wp2_with fail
  refine bodyPost_ret (v := .tuple #[.agg #[.int .i64 x0, .int .i64 x1, .int .i64 x2], .bool true]) (by simp [results, Try.results14, go_sem, *]) rfl ⟨rfl, hB.out⟩
set_option maxHeartbeats 1000000 in
theorem next_none (p : Nat) (now : Int) (w : World) (rs : List Res) (hS : Sep w (clockR p now [] :: rs)) : Calls Try.prog 14 #[.pointer (some ⟨p, 0, none⟩)] w fun e w' => e = .returned (.tuple #[tV (0, 0, 0), .bool false]) ∧ Below w.heap.size w w' := by
  obtain ⟨fa, c, xs, hok, hl, hS1⟩ := clock_open hS
  obtain ⟨_, c0, c1, _⟩ := hS1.b2
  rw [show ([] : List Tm).length = 0 from rfl] at c1
  have hB := Lib.hid ((Below.refl w.heap.size w).alloc (Nat.le_refl _) (.cells #[.int .i64 0, .int .i64 0, .int .i64 0] 34))
  clear hS hS1 hok hl
  unfold tV
  go_enter Try.func14, Try.ntmps14
  go_wp2_with fail
  refine bodyPost_ret (v := .tuple #[.agg #[.int .i64 0, .int .i64 0, .int .i64 0], .bool false]) (by simp [results, Try.results14, go_sem, *]) rfl ⟨rfl, hB.out⟩
theorem next_nil (w : World) : Calls Try.prog 14 #[.pointer none] w fun e w' => e = .returned (.tuple #[tV (0, 0, 0), .bool false]) ∧ Below w.heap.size w w' := by
  have hB := Lib.hid ((Below.refl w.heap.size w).alloc (Nat.le_refl _) (.cells #[.int .i64 0, .int .i64 0, .int .i64 0] 34))
  unfold tV
  go_enter Try.func14, Try.ntmps14
  go_wp2_with fail
  refine bodyPost_ret (v := .tuple #[.agg #[.int .i64 0, .int .i64 0, .int .i64 0], .bool false]) (by simp [results, Try.results14, go_sem, *]) rfl ⟨rfl, hB.out⟩
theorem pass_nil (n : Int) (w : World) : Calls Try.prog 12 #[.pointer none, .int .i64 n] w fun e w' => e = .returned (.tuple #[.slice none 0 0, .int .i64 1]) ∧ w' = w := by
  go_enter Try.func12, Try.ntmps12
  go_wp2_with fail
  go_ret2
  exact ⟨rfl, rfl⟩
theorem now_nil (w : World) : Calls Try.prog 11 #[.pointer none] w fun e w' => e = .returned (.int .i64 0) ∧ w' = w := by
  go_enter Try.func11, Try.ntmps11
  go_wp2_with fail
  go_ret
  exact ⟨rfl, rfl⟩
theorem len_nil (w : World) : Calls Try.prog 13 #[.pointer none] w fun e w' => e = .returned (.int .i64 0) ∧ w' = w := by
  go_enter Try.func13, Try.ntmps13
  go_wp2_with fail
  go_ret
  exact ⟨rfl, rfl⟩
theorem set_nil (a b c : Int) (w : World) : Calls Try.prog 9 #[.pointer none, .int .i64 a, .int .i64 b, .int .i64 c] w fun e w' => e = .returned (.int .i64 1) ∧ w' = w := by
  go_enter Try.func9, Try.ntmps9
  go_wp2_with fail
  go_ret
  exact ⟨rfl, rfl⟩
theorem drop_nil (b c : Int) (w : World) : Calls Try.prog 10 #[.pointer none, .int .i64 b, .int .i64 c] w fun e w' => e = .returned (.bool false) ∧ w' = w := by
  go_enter Try.func10, Try.ntmps10
  go_wp2_with fail
  go_ret
  exact ⟨rfl, rfl⟩
theorem drop_at (p : Nat) (now : Int) (L M : List Tm) (who mark : Int) (w : World) (rs : List Res) (hS : Sep w (clockR p now L :: rs)) (hk : L.any (keyB who mark) = true) (hM : L.eraseP (keyB who mark) = M) (hn : L.length ≤ 900) : Calls Try.prog 10 #[.pointer (some ⟨p, 0, none⟩), .int .i64 who, .int .i64 mark] w fun e w' => e = .returned (.bool true) ∧ Sep w' (clockR p now M :: rs) := by
  subst hM
  exact drop_yes p now L who mark w rs hS hk hn
set_option maxRecDepth 100000 in
set_option maxHeartbeats 4000000 in
theorem names_walk (w : World) : Calls Try.prog 4 #[] w fun e w' => e = .returned (.bool true) ∧ Below w.heap.size w w' := by
  have hq := fun W => run_eql_tim 5 5 1 1 0 0 W
  rw [show eqB_tim 5 5 1 1 0 0 = true by decide] at hq
  go_enter Try.func4, Try.ntmps4
  go_wp2_with fail
  refine (lives_any w).mono ?_
  rintro e w1 ⟨rfl, b1⟩
  replace b1 := Lib.hid b1
  go_wp2_with fail
  refine (new_any w1).mono ?_
  rintro e w2 ⟨p, rfl, hS⟩
  have H2 := Lib.hid (set_early p 0 [] 0 1 1 w2 _ hS (by omega))
  go_wp2_with fail
  refine H2.out.mono ?_
  rintro e w3 ⟨rfl, q⟩
  replace hS := hS.below q
  have H3 := Lib.hid (set_at p 0 [] [(5, 1, 1)] 5 1 1 w3 _ hS (by omega) rfl rfl (by decide))
  clear H2 hS q
  go_wp2_with fail
  refine H3.out.mono ?_
  rintro e w4 ⟨rfl, hS⟩
  have H4 := Lib.hid (set_twice p 0 [(5, 1, 1)] 6 1 1 w4 _ hS (by omega) (by decide) (by decide))
  replace hS := Lib.hid hS
  clear H3
  go_wp2_with fail
  refine H4.out.mono ?_
  rintro e w5 ⟨rfl, q⟩
  replace hS := hS.out.below q
  have H5 := Lib.hid (set_at p 0 [(5, 1, 1)] [(5, 1, 0), (5, 1, 1)] 5 1 0 w5 _ hS (by omega) (by decide) (by decide) (by decide))
  clear H4 hS q
  go_wp2_with fail
  refine H5.out.mono ?_
  rintro e w6 ⟨rfl, hS⟩
  have H6 := Lib.hid (next_some p 0 (5, 1, 0) [(5, 1, 1)] w6 _ hS)
  replace hS := Lib.hid hS
  simp only [tV] at H6
  clear H5
  go_wp2_with fail
  refine H6.out.mono ?_
  rintro e w7 ⟨rfl, q⟩
  replace hS := Lib.hid (hS.out.below q)
  clear H6 q
  have HB1 := Lib.hid (fun W => pass_bad p (-1) W (.inl (by omega)))
  have HB2 := Lib.hid (fun W => pass_bad p 1001 W (.inr (by omega)))
  go_wp2_with fail
  refine (HB1.out _).mono ?_
  rintro e w8 ⟨rfl, rfl⟩
  go_wp2_with fail
  refine (HB2.out _).mono ?_
  rintro e w9 ⟨rfl, rfl⟩
  clear HB1 HB2
  replace hS := hS.out.alloc #[.int .i64 5, .int .i64 1, .int .i64 0] 34
  have H7 := Lib.hid (drop_at p 0 [(5, 1, 0), (5, 1, 1)] [(5, 1, 1)] 1 0 _ _ hS.to1 (by decide) (by decide) (by decide))
  clear hS
  generalize w7.heap.size = B at H7 ⊢
  go_wp2_with fail
  refine H7.out.mono ?_
  rintro e w10 ⟨rfl, hS⟩
  have H8 := Lib.hid (drop_no p 0 [(5, 1, 1)] 1 0 w10 _ hS (by decide) (by decide))
  replace hS := Lib.hid hS
  clear H7
  go_wp2_with fail
  refine H8.out.mono ?_
  rintro e w11 ⟨rfl, q⟩
  replace hS := hS.out.below q
  have H9 := Lib.hid (pass_at p 0 1000 1000 1 [(5, 1, 1)] [(5, 1, 1)] [] w11 _ hS (by decide) (by omega) (by omega) (by omega) (by omega) (by decide) (by decide) rfl rfl)
  clear H8 hS q
  go_wp2_with fail
  refine H9.out.mono ?_
  rintro e w12 ⟨a, c, rfl, hS⟩
  have H10 := Lib.hid (next_none p 1000 w12 _ hS.to1)
  replace hS := Lib.hid hS
  simp only [tV] at H10
  clear H9
  go_wp2_with fail
  refine H10.out.mono ?_
  rintro e w13 ⟨rfl, q⟩
  replace hS := Lib.hid (hS.out.below q)
  clear H10 q
  have HZ1 := Lib.hid (fun W => pass_nil 1 W)
  have HZ2 := Lib.hid (fun W => next_nil W)
  simp only [tV] at HZ2
  go_wp2_with fail
  refine (HZ1.out _).mono ?_
  rintro e w14 ⟨rfl, rfl⟩
  go_wp2_with fail
  refine (HZ2.out _).mono ?_
  rintro e w15 ⟨rfl, q⟩
  replace hS := Lib.hid ((hS.out.allocG (.cells #[.int .i64 0, .int .i64 0, .int .i64 0] 34)).below q)
  clear HZ1 HZ2 q
  obtain ⟨_, e0, e1, e2, _⟩ := (hS.out.bring 2 rfl).b3
  go_wp2_with fail
  clear e0 e1 e2
  have hA := (hS.out.allocG (.cells #[.int .i64 0, .int .i64 0, .int .i64 0] 34)).alloc #[.int .i64 5, .int .i64 1, .int .i64 1] 34
  rw [World.size_alloc] at hA
  have Q1 := Lib.hid (same_tm (.slice a 1 c) (.slice (some ⟨w15.heap.size + 1, 0, none⟩) 1 1) [(5, 1, 1)] [(5, 1, 1)] _ (by decide) (hA.to1.vec_rl) (rl_cells _ (w15.heap.size + 1) 34 [(5, 1, 1)] 1 1 rfl (by omega) hA))
  rw [decide_eq_true rfl] at Q1
  replace hA := Lib.hid hA
  refine Q1.out.mono ?_
  rintro e w16 ⟨rfl, b6⟩
  replace hS := Lib.hid (hA.out.below b6)
  clear Q1 b6 hA
  have HF1 := Lib.hid (now_any p 1000 [] w16 _ (hS.out.bring 2 rfl))
  have HF2 := Lib.hid (clen_any p 1000 [] w16 _ (hS.out.bring 2 rfl))
  rw [show (([] : List Tm).length : Int) = 0 from rfl] at HF2
  have G1 := Lib.hid (fun W => now_nil W)
  have G2 := Lib.hid (fun W => set_nil 1 1 1 W)
  have G3 := Lib.hid (fun W => drop_nil 1 1 W)
  have G4 := Lib.hid (fun W => len_nil W)
  go_wp2_with fail
  refine HF1.out.mono ?_
  rintro e w17 ⟨rfl, rfl⟩
  go_wp2_with fail
  refine HF2.out.mono ?_
  rintro e w18 ⟨rfl, rfl⟩
  go_wp2_with fail
  refine (G1.out _).mono ?_
  rintro e w19 ⟨rfl, rfl⟩
  go_wp2_with fail
  refine (G2.out _).mono ?_
  rintro e w20 ⟨rfl, rfl⟩
  go_wp2_with fail
  refine (G3.out _).mono ?_
  rintro e w21 ⟨rfl, rfl⟩
  go_wp2_with fail
  refine (G4.out _).mono ?_
  rintro e w22 ⟨rfl, rfl⟩
  go_wp2_with fail
  go_ret
  exact ⟨rfl, b1.out.trans ((hS.out.bring 4 rfl).gold.mono b1.out.size)⟩
end Go.Proofs.Ytcbjgibcgalppaa
