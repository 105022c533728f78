/-
  The reference's Level and Check of names; sums of counts. No condition.
-/
import Derived.Test.YtgbffkjfjkfiaaaDoorStP
import Derived.Deep.RegionHeld3
namespace Go.Proofs.YtgbffkjfjkfiaaaDoor
open Go.RowKit
theorem databaseR_any (w : World) : Calls Tryd.prog 29 #[] w fun e w' => e = .returned (.agg #[.int .i64 (-1), .int .i64 (-1)]) ∧ Below w.heap.size w w' := by
  go_enter Tryd.func29, Tryd.ntmps29
  go_wp2
  refine bodyPost_ret (v := (.agg #[.int .i64 (-1), .int .i64 (-1)])) (by simp [results, Tryd.results29, go_sem, *]) rfl ⟨rfl, ?_⟩
  exact (Below.refl _ _).alloc (Nat.le_refl _) _
set_option maxHeartbeats 2000000 in
theorem levelR_any (t r : Int) (w : World) : Calls Tryd.prog 25 #[(.agg #[.int .i64 t, .int .i64 r])] w fun e w' => e = .returned (.int .i64 (lv t r)) ∧ Below w.heap.size w w' := by
  have hs := lv_spec t r
  have hq := fun a b c d => run_eql_nm a b c d
  have h7 : (t = -1 ∧ r = -1) ∨ (¬(t = -1 ∧ r = -1) ∧ (t < 0 ∨ (0 ≤ t ∧ 100 ≤ t) ∨ (0 ≤ t ∧ t < 100 ∧ r < -1) ∨ (0 ≤ t ∧ t < 100 ∧ -1 ≤ r ∧ 100 ≤ r) ∨ (0 ≤ t ∧ t < 100 ∧ r = -1) ∨ (0 ≤ t ∧ t < 100 ∧ 0 ≤ r ∧ r < 100))) := by omega
  rcases h7 with h | ⟨h, h7⟩
  · have e := nmB_true h
    rw [show lv t r = 0 by omega]
    clear hs h
    have hS := Lib.hid (box1 w t r)
    obtain ⟨z, c0, c1, _⟩ := hS.out.b2
    go_enter Tryd.func25, Tryd.ntmps25
    go_wp2_with fail
    go_region_held3 (fun w' => w'.cell? ⟨w.heap.size, 0, none⟩ = some (.int .i64 t) ∧ w'.cell? ⟨w.heap.size, 1, none⟩ = some (.int .i64 r)) (exact ⟨by assumption, by assumption⟩) ((go_at_call 29; refine (databaseR_any _).mono ?_; rintro e w1 ⟨rfl, b1⟩; have hS2 := Lib.hid ((show Sep _ [blk w.heap.size 29 #[Value.int .i64 (t), Value.int .i64 (r)], old w] from by first | exact hS.out | exact hS.out.drew).below b1); obtain ⟨_, d0, d1, _⟩ := hS2.out.b2; clear b1))
    go_wp2_with fail
    go_ret
    exact ⟨rfl, hS2.out.tail.gold⟩
  · have e := nmB_false h
    rcases h7 with h1 | ⟨h1, h2⟩ | ⟨h1, h2, h3⟩ | ⟨h1, h2, h3, h4⟩ | ⟨h1, h2, h3⟩ | ⟨h1, h2, h3, h4⟩
    · skip
      rw [show lv t r = -1 by omega]
      clear hs h
      have hS := Lib.hid (box1 w t r)
      obtain ⟨z, c0, c1, _⟩ := hS.out.b2
      go_enter Tryd.func25, Tryd.ntmps25
      go_wp2_with fail
      go_region_held3 (fun w' => w'.cell? ⟨w.heap.size, 0, none⟩ = some (.int .i64 t) ∧ w'.cell? ⟨w.heap.size, 1, none⟩ = some (.int .i64 r)) (exact ⟨by assumption, by assumption⟩) ((go_at_call 29; refine (databaseR_any _).mono ?_; rintro e w1 ⟨rfl, b1⟩; have hS2 := Lib.hid ((show Sep _ [blk w.heap.size 29 #[Value.int .i64 (t), Value.int .i64 (r)], old w] from by first | exact hS.out | exact hS.out.drew).below b1); obtain ⟨_, d0, d1, _⟩ := hS2.out.b2; clear b1))
      go_wp2_with fail
      go_ret
      exact ⟨rfl, hS2.out.tail.gold⟩
    · skip
      rw [show lv t r = -1 by omega]
      clear hs h
      have hS := Lib.hid (box1 w t r)
      obtain ⟨z, c0, c1, _⟩ := hS.out.b2
      go_enter Tryd.func25, Tryd.ntmps25
      go_wp2_with fail
      go_region_held3 (fun w' => w'.cell? ⟨w.heap.size, 0, none⟩ = some (.int .i64 t) ∧ w'.cell? ⟨w.heap.size, 1, none⟩ = some (.int .i64 r)) (exact ⟨by assumption, by assumption⟩) ((go_at_call 29; refine (databaseR_any _).mono ?_; rintro e w1 ⟨rfl, b1⟩; have hS2 := Lib.hid ((show Sep _ [blk w.heap.size 29 #[Value.int .i64 (t), Value.int .i64 (r)], old w] from by first | exact hS.out | exact hS.out.drew).below b1); obtain ⟨_, d0, d1, _⟩ := hS2.out.b2; clear b1))
      go_wp2_with fail
      go_ret
      exact ⟨rfl, hS2.out.tail.gold⟩
    · skip
      rw [show lv t r = -1 by omega]
      clear hs h
      have hS := Lib.hid (box1 w t r)
      obtain ⟨z, c0, c1, _⟩ := hS.out.b2
      go_enter Tryd.func25, Tryd.ntmps25
      go_wp2_with fail
      go_region_held3 (fun w' => w'.cell? ⟨w.heap.size, 0, none⟩ = some (.int .i64 t) ∧ w'.cell? ⟨w.heap.size, 1, none⟩ = some (.int .i64 r)) (exact ⟨by assumption, by assumption⟩) ((go_at_call 29; refine (databaseR_any _).mono ?_; rintro e w1 ⟨rfl, b1⟩; have hS2 := Lib.hid ((show Sep _ [blk w.heap.size 29 #[Value.int .i64 (t), Value.int .i64 (r)], old w] from by first | exact hS.out | exact hS.out.drew).below b1); obtain ⟨_, d0, d1, _⟩ := hS2.out.b2; clear b1))
      go_wp2_with fail
      go_ret
      exact ⟨rfl, hS2.out.tail.gold⟩
    · skip
      rw [show lv t r = -1 by omega]
      clear hs h
      have hS := Lib.hid (box1 w t r)
      obtain ⟨z, c0, c1, _⟩ := hS.out.b2
      go_enter Tryd.func25, Tryd.ntmps25
      go_wp2_with fail
      go_region_held3 (fun w' => w'.cell? ⟨w.heap.size, 0, none⟩ = some (.int .i64 t) ∧ w'.cell? ⟨w.heap.size, 1, none⟩ = some (.int .i64 r)) (exact ⟨by assumption, by assumption⟩) ((go_at_call 29; refine (databaseR_any _).mono ?_; rintro e w1 ⟨rfl, b1⟩; have hS2 := Lib.hid ((show Sep _ [blk w.heap.size 29 #[Value.int .i64 (t), Value.int .i64 (r)], old w] from by first | exact hS.out | exact hS.out.drew).below b1); obtain ⟨_, d0, d1, _⟩ := hS2.out.b2; clear b1))
      go_wp2_with fail
      go_ret
      exact ⟨rfl, hS2.out.tail.gold⟩
    · skip
      rw [show lv t r = 1 by omega]
      have e3 : (r == -1) = true := by rw [beq_iff_eq]; omega
      have h5 : -1 ≤ r ∧ r < 100 := by omega
      obtain ⟨h5, h6⟩ := h5
      clear h3
      clear hs h
      have hS := Lib.hid (box1 w t r)
      obtain ⟨z, c0, c1, _⟩ := hS.out.b2
      go_enter Tryd.func25, Tryd.ntmps25
      go_wp2_with fail
      go_region_held3 (fun w' => w'.cell? ⟨w.heap.size, 0, none⟩ = some (.int .i64 t) ∧ w'.cell? ⟨w.heap.size, 1, none⟩ = some (.int .i64 r)) (exact ⟨by assumption, by assumption⟩) ((go_at_call 29; refine (databaseR_any _).mono ?_; rintro e w1 ⟨rfl, b1⟩; have hS2 := Lib.hid ((show Sep _ [blk w.heap.size 29 #[Value.int .i64 (t), Value.int .i64 (r)], old w] from by first | exact hS.out | exact hS.out.drew).below b1); obtain ⟨_, d0, d1, _⟩ := hS2.out.b2; clear b1))
      go_wp2_with fail
      go_ret
      exact ⟨rfl, hS2.out.tail.gold⟩
    · skip
      rw [show lv t r = 2 by omega]
      have e3 : (r == -1) = false := by rw [beq_eq_false_iff_ne]; omega
      have h5 : -1 ≤ r := by omega
      clear hs h
      have hS := Lib.hid (box1 w t r)
      obtain ⟨z, c0, c1, _⟩ := hS.out.b2
      go_enter Tryd.func25, Tryd.ntmps25
      go_wp2_with fail
      go_region_held3 (fun w' => w'.cell? ⟨w.heap.size, 0, none⟩ = some (.int .i64 t) ∧ w'.cell? ⟨w.heap.size, 1, none⟩ = some (.int .i64 r)) (exact ⟨by assumption, by assumption⟩) ((go_at_call 29; refine (databaseR_any _).mono ?_; rintro e w1 ⟨rfl, b1⟩; have hS2 := Lib.hid ((show Sep _ [blk w.heap.size 29 #[Value.int .i64 (t), Value.int .i64 (r)], old w] from by first | exact hS.out | exact hS.out.drew).below b1); obtain ⟨_, d0, d1, _⟩ := hS2.out.b2; clear b1))
      go_wp2_with fail
      go_ret
      exact ⟨rfl, hS2.out.tail.gold⟩
theorem checkR_any (t r : Int) (w : World) : Calls Tryd.prog 11 #[(.agg #[.int .i64 t, .int .i64 r])] w fun e w' => e = .returned (.int .i64 (if lv t r = -1 then 2 else 0)) ∧ Below w.heap.size w w' := by
  have hS := Lib.hid (box1 w t r)
  obtain ⟨z, c0, c1, _⟩ := hS.out.b2
  have hs := lv_spec t r
  have HL := Lib.hid (fun W => levelR_any t r W)
  by_cases h : lv t r = -1
  · rw [if_pos h]
    rw [h] at HL
    clear h hs
    go_enter Tryd.func11, Tryd.ntmps11
    go_wp2_with fail
    refine (HL.out _).mono ?_
    rintro e w1 ⟨rfl, b1⟩
    replace hS := Lib.hid (hS.out.below b1)
    clear b1
    go_wp2_with fail
    go_ret
    exact ⟨rfl, hS.out.tail.gold⟩
  · rw [if_neg h]
    have h0 : 0 ≤ lv t r := by omega
    clear h hs
    generalize lv t r = x at *
    go_enter Tryd.func11, Tryd.ntmps11
    go_wp2_with fail
    refine (HL.out _).mono ?_
    rintro e w1 ⟨rfl, b1⟩
    replace hS := Lib.hid (hS.out.below b1)
    clear b1
    go_wp2_with fail
    go_ret
    exact ⟨rfl, hS.out.tail.gold⟩
theorem sum_set (l : List Int) : ∀ (j : Nat), j < l.length → (l.set j (l.getD j 0 + 1)).sum = l.sum + 1 := by
  induction l with
  | nil => intro j h; simp at h
  | cons a l ih =>
    intro j h
    cases j with
    | zero => simp [List.getD]; omega
    | succ j =>
      have := ih j (by simpa using h)
      simp only [List.getD_eq_getElem?_getD, List.set_cons_succ, List.sum_cons, List.getElem?_cons_succ] at this ⊢
      omega
theorem sum_zero (s : Nat) : (List.replicate s (0 : Int)).sum = 0 := by
  induction s with
  | zero => rfl
  | succ n ih => rw [List.replicate_succ, List.sum_cons, ih]; rfl
theorem cnt_bd (z : List (Int × Int)) (s : Nat) : ∀ k, k ≤ z.length → 0 ≤ (cntL (z.take k) s s).sum ∧ (cntL (z.take k) s s).sum ≤ k
  | 0, _ => by
    rw [List.take_zero, cntL_nil]
    have : (List.replicate s (0 : Int)).sum = 0 := sum_zero s
    omega
  | k + 1, h => by
    have ih := cnt_bd z s k (by omega)
    rw [take_snocN z k (by omega)]
    have hb := ofV_bd (z.getD k (0, 0)).1 (z.getD k (0, 0)).2 s
    by_cases ho : ofV (z.getD k (0, 0)).1 (z.getD k (0, 0)).2 s < 0
    · rw [cnt_miss _ _ _ _ ho]; omega
    · rw [cnt_hit _ _ _ _ (ofV (z.getD k (0, 0)).1 (z.getD k (0, 0)).2 s).toNat (by omega) (by omega), sum_set _ _ (by rw [cntL_len]; omega)]
      omega
theorem pre_bd (l : List Int) (h : ∀ j, 0 ≤ l.getD j 0 ∧ l.getD j 0 ≤ 100) : ∀ k, k ≤ l.length → 0 ≤ (l.take k).sum ∧ (l.take k).sum ≤ 100 * k
  | 0, _ => by simp
  | k + 1, hk => by
    have ih := pre_bd l h k (by omega)
    have := h k
    rw [List.take_succ_eq_append_getElem (by omega), List.sum_append]
    simp only [List.getD_eq_getElem?_getD, List.getElem?_eq_getElem (show k < l.length by omega), Option.getD_some] at this
    simp
    omega
theorem pre_snoc (l : List Int) (k : Nat) (h : k < l.length) : (l.take (k + 1)).sum = (l.take k).sum + l.getD k 0 := by
  rw [List.take_succ_eq_append_getElem h, List.sum_append]
  simp [List.getD, h]
/-- A slice of names that came in, as a list. -/
def rowsL (z : Nat → Nat → Int) (len : Nat) : List (Int × Int) := (List.range len).map fun i => (z i 0, z i 1)
theorem rowsL_len (z : Nat → Nat → Int) (len : Nat) : (rowsL z len).length = len := by simp [rowsL]
theorem rn_rows {w : World} {a : Option Addr} {len cap : Nat} {z : Nat → Nat → Int} (h : IsRows 2 w a len cap z) : RN w (.slice a len cap) (rowsL z len) := by
  refine ⟨a, cap, by rw [rowsL_len], fun h0 => ?_⟩
  rw [rowsL_len] at h0
  obtain ⟨b, off, ha, hb, hc⟩ := h.2.2 h0
  refine ⟨b, off, ha, hb, fun j hj => ?_⟩
  rw [rowsL_len] at hj
  have e : (rowsL z len).getD j (0, 0) = (z j 0, z j 1) := by simp [rowsL, List.getD, hj]
  rw [e]
  exact ⟨(hc j hj 0 (by omega)).1, (hc j hj 1 (by omega)).1⟩
end Go.Proofs.YtgbffkjfjkfiaaaDoor
