/-
  The contracts of names at given values. Condition: RdW for Read.
-/
import Derived.Test.YtiaibmabmholaaaDoorNmV
import Derived.Test.YtiaibmabmholaaaDoorNmRd3
namespace Go.Proofs.YtiaibmabmholaaaDoor
open Go.RowKit
theorem check_w (t r n : Int) (h : n = if lv t r = -1 then 2 else 0) (w : World) : Calls Tryd.prog 10 #[(.agg #[.int .i64 t, .int .i64 r])] w fun e w' => e = .returned (.int .i64 n) ∧ Below w.heap.size w w' := by
  subst h
  exact check_any t r w
theorem text_w (t r : Int) (s : ByteArray) (h : txt t r = s) (w : World) : Calls Tryd.prog 21 #[(.agg #[.int .i64 t, .int .i64 r])] w fun e w' => e = .returned (.string s) ∧ Below w.heap.size w w' := by
  subst h
  exact text_any t r w
theorem under_w (t r t' r' : Int) (x : Bool) (h : undB t r t' r' = x) (w : World) : Calls Tryd.prog 11 #[(.agg #[.int .i64 t, .int .i64 r]), (.agg #[.int .i64 t', .int .i64 r'])] w fun e w' => e = .returned (.bool x) ∧ Below w.heap.size w w' := by
  subst h
  exact under_any t r t' r' w
theorem level_w (t r n : Int) (h : lv t r = n) (w : World) : Calls Tryd.prog 15 #[(.agg #[.int .i64 t, .int .i64 r])] w fun e w' => e = .returned (.int .i64 n) ∧ Below w.heap.size w w' := by
  subst h
  exact level_any t r w
theorem compare_w (t r t' r' n : Int) (h : cmpN t r t' r' = n) (w : World) : Calls Tryd.prog 16 #[(.agg #[.int .i64 t, .int .i64 r]), (.agg #[.int .i64 t', .int .i64 r'])] w fun e w' => e = .returned (.int .i64 n) ∧ Below w.heap.size w w' := by
  subst h
  exact compare_any t r t' r' w
theorem table_w (t a b c : Int) (h : MkV t (-1) 1 a b c) (w : World) : Calls Tryd.prog 13 #[.int .i64 t] w fun e w' => e = .returned (.tuple #[(.agg #[.int .i64 a, .int .i64 b]), .int .i64 c]) ∧ Below w.heap.size w w' := by
  refine (table_any t w).mono ?_
  rintro e w1 ⟨x, y, z, rfl, hv, b1⟩
  refine ⟨?_, b1⟩
  rcases h with ⟨h1, rfl, rfl, rfl⟩ | ⟨h1, rfl, rfl, rfl⟩ <;> rcases hv with ⟨h2, rfl, rfl, rfl⟩ | ⟨h2, rfl, rfl, rfl⟩ <;> first | rfl | exact absurd h1 h2 | exact absurd h2 h1
theorem record_w (t r a b c : Int) (h : MkV t r 2 a b c) (w : World) : Calls Tryd.prog 14 #[.int .i64 t, .int .i64 r] w fun e w' => e = .returned (.tuple #[(.agg #[.int .i64 a, .int .i64 b]), .int .i64 c]) ∧ Below w.heap.size w w' := by
  refine (record_any t r w).mono ?_
  rintro e w1 ⟨x, y, z, rfl, hv, b1⟩
  refine ⟨?_, b1⟩
  rcases h with ⟨h1, rfl, rfl, rfl⟩ | ⟨h1, rfl, rfl, rfl⟩ <;> rcases hv with ⟨h2, rfl, rfl, rfl⟩ | ⟨h2, rfl, rfl, rfl⟩ <;> first | rfl | exact absurd h1 h2 | exact absurd h2 h1
theorem parent_w (t r a b : Int) (c : Bool) (h : ParV t r a b c) (w : World) : Calls Tryd.prog 17 #[(.agg #[.int .i64 t, .int .i64 r])] w fun e w' => e = .returned (.tuple #[(.agg #[.int .i64 a, .int .i64 b]), .bool c]) ∧ Below w.heap.size w w' := by
  refine (parent_any t r w).mono ?_
  rintro e w1 ⟨x, y, z, rfl, hv, b1⟩
  refine ⟨?_, b1⟩
  rcases h with ⟨h1, rfl, rfl, rfl⟩ | ⟨h1, rfl, rfl, rfl⟩ | ⟨h1, rfl, rfl, rfl⟩ <;> rcases hv with ⟨h2, rfl, rfl, rfl⟩ | ⟨h2, rfl, rfl, rfl⟩ | ⟨h2, rfl, rfl, rfl⟩ <;> first | rfl | (exfalso; omega)
theorem rK_any (t r : Int) (w : World) : Calls Tryd.prog 23 #[.int .i64 t, .int .i64 r] w fun e w' => e = .returned (.agg #[.int .i64 t, .int .i64 r]) ∧ Below w.heap.size w w' := by
  go_enter Tryd.func23, Tryd.ntmps23
  go_wp2
  refine bodyPost_ret (v := (.agg #[.int .i64 t, .int .i64 r])) (by simp [results, Tryd.results23, go_sem, *]) rfl ⟨rfl, ?_⟩
  exact (Below.refl _ _).alloc (Nat.le_refl _) _
theorem read_w (s : ByteArray) (t r c : Int) (hs : s.size ≤ 1000) (h : ReadV s t r c) (w : World) (hR : RdW w) (h9 : 9 < w.heap.size) : Calls Tryd.prog 20 #[.string s] w fun e w' => e = .returned (.tuple #[(.agg #[.int .i64 t, .int .i64 r]), .int .i64 c]) ∧ Below w.heap.size w w' := by
  refine (read_any s hs w hR h9).mono ?_
  rintro e w1 ⟨x, y, z, rfl, hv, b1⟩
  refine ⟨?_, b1⟩
  rcases h with ⟨g1, g2, rfl, rfl, rfl⟩ | ⟨g1, rfl, rfl, rfl⟩ <;> rcases hv with ⟨k1, k2, rfl, rfl, rfl⟩ | ⟨k1, rfl, rfl, rfl⟩
  · rfl
  · rcases k1 with k | k
    · exact absurd k g1
    · exact absurd g2 k
  · rcases g1 with k | k
    · exact absurd k k1
    · exact absurd k2 k
  · rfl
/-- A text that is not a name's. -/
theorem read_off {s : ByteArray} (h : (lv (rdN s).1 (rdN s).2 == -1 || decide (txt (rdN s).1 (rdN s).2 ≠ s)) = true) : ReadV s 0 0 3 := by
  rw [Bool.or_eq_true, beq_iff_eq, decide_eq_true_eq] at h
  exact .inr ⟨h, rfl, rfl, rfl⟩
theorem read_on {s : ByteArray} (t r : Int) (h : lv t r ≠ -1) (e : txt t r = s) : ReadV s t r 0 := by
  subst e
  have := rdN_txt t r h
  exact .inl ⟨by rw [this]; exact h, by rw [this], by rw [this], by rw [this], rfl⟩
end Go.Proofs.YtiaibmabmholaaaDoor
