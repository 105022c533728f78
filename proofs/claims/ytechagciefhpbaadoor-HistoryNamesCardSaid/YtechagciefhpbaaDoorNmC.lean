/-
  Contracts of the package name: levels, tables, records. No condition.
-/
import Derived.Test.YtechagciefhpbaaDoorNmL
import Derived.Deep.RegionHeld3
import Derived.RegionTactic
import Derived.Deep.RegionWith
namespace Go.Proofs.YtechagciefhpbaaDoor
set_option linter.unusedSimpArgs false
set_option linter.unusedVariables false
set_option linter.unnecessarySimpa false
open Go.RowKit
def nm (t r : Int) : Value := .agg #[.int .i64 t, .int .i64 r]
theorem belTN {w w1 w2 : World} (h : Below w.heap.size w w1) (h' : Below w1.heap.size w1 w2) : Below w.heap.size w w2 := h.trans (h'.mono h.size)
theorem heldN : Tryd.prog.stoodInHeld 26 = false := by kernel_rfl
theorem undN : Tryd.prog.underlying 26 = some (.struct (Tryd.prog.fieldsOf 26)) := by kernel_rfl
theorem namesN : (Tryd.prog.fieldsOf 26).toList.map (fun f => (f.name == "_", f.type, f.offset)) = [(false, 3, 0), (false, 3, 1)] := by kernel_rfl
theorem fieldsN : ∃ f0 f1 : Field, (Tryd.prog.fieldsOf 26).toList = [f0, f1] ∧ (f0.name == "_") = false ∧ (f1.name == "_") = false ∧ f0.type = 3 ∧ f1.type = 3 ∧ f0.offset = 0 ∧ f1.offset = 1 := by
  have h := namesN
  generalize (Tryd.prog.fieldsOf 26).toList = fs at h ⊢
  have hlen := congrArg List.length h
  rcases fs with _ | ⟨f0, _ | ⟨f1, _ | ⟨f2, fs⟩⟩⟩ <;> simp at hlen
  · simp only [List.map_cons, List.map_nil, List.cons.injEq, Prod.mk.injEq, and_true] at h
    obtain ⟨⟨a0, b0, c0⟩, ⟨a1, b1, c1⟩⟩ := h
    exact ⟨f0, f1, rfl, a0, a1, b0, b1, c0, c1⟩
theorem equalIn_nm (d : Nat) (a0 a1 b0 b1 : Int) (w : World) :
    (Op.equalIn (d + 2) 26 (.agg #[.int .i64 a0, .int .i64 a1]) (.agg #[.int .i64 b0, .int .i64 b1])).run Tryd.prog w = .ok (a0 == b0 && a1 == b1) w := by
  rw [run_equalIn_struct (P := Tryd.prog) w (d + 1) 26 _ _ undN heldN]
  obtain ⟨f0, f1, hl, n0, n1, t0, t1, o0, o1⟩ := fieldsN
  rw [hl]
  have m0 : Tryd.prog.underlying 3 = some (.int .i64) := Tryd.underlying3
  simp only [beq_eq_false_iff_ne] at n0 n1
  simp only [Op.eqFields, n0, n1, t0, t1, o0, o1, ne_eq, not_false_eq_true, if_true]
  simp [part, isAgg, run_underlying m0, run_equalIn_int, m0]
  by_cases h0 : a0 = b0 <;> by_cases h1 : a1 = b1 <;> simp [h0, h1]
def nmB (a0 a1 b0 b1 : Int) : Bool := a0 == b0 && a1 == b1
theorem nmB_true {a0 a1 b0 b1 : Int} (h : a0 = b0 ∧ a1 = b1) : nmB a0 a1 b0 b1 = true := by simp [nmB, h.1, h.2]
theorem nmB_false {a0 a1 b0 b1 : Int} (h : ¬(a0 = b0 ∧ a1 = b1)) : nmB a0 a1 b0 b1 = false := by
  rw [Bool.eq_false_iff]; intro k; simp [nmB] at k; exact h k
theorem run_eql_nm (a0 a1 b0 b1 : Int) (w : World) :
    (binOp .eql 26 (.agg #[.int .i64 a0, .int .i64 a1]) (.agg #[.int .i64 b0, .int .i64 b1])).run Tryd.prog w = .ok (.bool (nmB a0 a1 b0 b1)) w := by
  have h := equalIn_nm 9998 a0 a1 b0 b1 w
  simp only [binOp]
  simp [Op.equal, Op.maxDepth, h, nmB]
theorem run_neq_nm (a0 a1 b0 b1 : Int) (w : World) :
    (binOp .neq 26 (.agg #[.int .i64 a0, .int .i64 a1]) (.agg #[.int .i64 b0, .int .i64 b1])).run Tryd.prog w = .ok (.bool !(nmB a0 a1 b0 b1)) w := by
  have h := equalIn_nm 9998 a0 a1 b0 b1 w
  simp only [binOp]
  simp [Op.equal, Op.maxDepth, h, nmB]
def wiB (n : Int) : Bool := decide (0 ≤ n ∧ n < 100)
theorem within_any (n : Int) (w : World) : Calls Tryd.prog 47 #[.int .i64 n] w fun e w' => e = .returned (.bool (wiB n)) ∧ w = w' := by
  unfold wiB
  by_cases h1 : 0 ≤ n
  · by_cases h2 : n < 100
    · rw [show decide (0 ≤ n ∧ n < 100) = true by simp [h1, h2]]
      go_enter Tryd.func47, Tryd.ntmps47
      go_wp2
      go_ret
      exact ⟨rfl, rfl⟩
    · rw [show decide (0 ≤ n ∧ n < 100) = false by simp [h2]]
      go_enter Tryd.func47, Tryd.ntmps47
      go_wp2
      go_ret
      exact ⟨rfl, rfl⟩
  · rw [show decide (0 ≤ n ∧ n < 100) = false by simp [h1]]
    go_enter Tryd.func47, Tryd.ntmps47
    go_wp2
    go_ret
    exact ⟨rfl, rfl⟩
theorem database_any (w : World) : Calls Tryd.prog 46 #[] w fun e w' => e = .returned (.agg #[.int .i64 (-1), .int .i64 (-1)]) ∧ Below w.heap.size w w' := by
  go_enter Tryd.func46, Tryd.ntmps46
  go_wp2
  refine bodyPost_ret (v := (.agg #[.int .i64 (-1), .int .i64 (-1)])) (by simp [results, Tryd.results46, go_sem, *]) rfl ⟨rfl, ?_⟩
  exact (Below.refl _ _).alloc (Nat.le_refl _) _
theorem db_any (w : World) : Calls Tryd.prog 16 #[] w fun e w' => e = .returned (.agg #[.int .i64 (-1), .int .i64 (-1)]) ∧ Below w.heap.size w w' := by
  go_enter Tryd.func16, Tryd.ntmps16
  go_wp2
  refine bodyPost_ret (v := (.agg #[.int .i64 (-1), .int .i64 (-1)])) (by simp [results, Tryd.results16, go_sem, *]) rfl ⟨rfl, ?_⟩
  exact (Below.refl _ _).alloc (Nat.le_refl _) _
theorem box1 (w : World) (t r : Int) : Sep (w.alloc (.cells #[Value.int .i64 (t), Value.int .i64 (r)] 26)) [blk w.heap.size 26 #[Value.int .i64 (t), Value.int .i64 (r)], old w] := (Sep.start w).alloc _ _
theorem wiB_yes {n : Int} (h : 0 ≤ n ∧ n < 100) : wiB n = true := decide_eq_true h
theorem wiB_no {n : Int} (h : ¬(0 ≤ n ∧ n < 100)) : wiB n = false := decide_eq_false h
set_option maxHeartbeats 1000000 in
theorem level_any (t r : Int) (w : World) : Calls Tryd.prog 37 #[(.agg #[.int .i64 t, .int .i64 r])] w fun e w' => e = .returned (.int .i64 (lv t r)) ∧ Below w.heap.size w w' := by
  have hs := lv_spec t r
  have hq := fun a b c d => run_eql_nm a b c d
  rcases hs with ⟨h1, h2, hl⟩ | ⟨h1, h2, h3, hl⟩ | ⟨h1, h2, h3, h4, hl⟩ | ⟨hl, h1, h2⟩
  · have e := nmB_true (⟨h1, h2⟩ : t = -1 ∧ r = -1)
    rw [hl]
    clear hl h1 h2
    have hS := Lib.hid (box1 w t r)
    obtain ⟨z, c0, c1, _⟩ := hS.out.b2
    go_enter Tryd.func37, Tryd.ntmps37
    go_wp2_with fail
    go_region_held3 (fun w' => w'.cell? ⟨w.heap.size, 0, none⟩ = some (.int .i64 t) ∧ w'.cell? ⟨w.heap.size, 1, none⟩ = some (.int .i64 r)) (exact ⟨by assumption, by assumption⟩) ((go_at_call 46; refine (database_any _).mono ?_; rintro e w1 ⟨rfl, b1⟩; have hS2 := Lib.hid ((show Sep _ [blk w.heap.size 26 #[Value.int .i64 (t), Value.int .i64 (r)], old w] from by first | exact hS.out | exact hS.out.drew).below b1); obtain ⟨_, d0, d1, _⟩ := hS2.out.b2; clear b1))
    go_wp2_with (go_at_call 47; refine (within_any _ _).mono ?_; rintro e w2 ⟨rfl, rfl⟩)
    go_ret
    exact ⟨rfl, hS2.out.tail.gold⟩
  · have e := nmB_false (show ¬(t = -1 ∧ r = -1) by omega)
    have e1 := wiB_yes ⟨h1, h2⟩
    have e2 : (r == -1) = true := by rw [h3]; rfl
    rw [hl]
    clear hl h1 h2 h3
    have hS := Lib.hid (box1 w t r)
    obtain ⟨z, c0, c1, _⟩ := hS.out.b2
    go_enter Tryd.func37, Tryd.ntmps37
    go_wp2_with fail
    go_region_held3 (fun w' => w'.cell? ⟨w.heap.size, 0, none⟩ = some (.int .i64 t) ∧ w'.cell? ⟨w.heap.size, 1, none⟩ = some (.int .i64 r)) (exact ⟨by assumption, by assumption⟩) ((go_at_call 46; refine (database_any _).mono ?_; rintro e w1 ⟨rfl, b1⟩; have hS2 := Lib.hid ((show Sep _ [blk w.heap.size 26 #[Value.int .i64 (t), Value.int .i64 (r)], old w] from by first | exact hS.out | exact hS.out.drew).below b1); obtain ⟨_, d0, d1, _⟩ := hS2.out.b2; clear b1))
    go_wp2_with (go_at_call 47; refine (within_any _ _).mono ?_; rintro e w2 ⟨rfl, rfl⟩)
    go_ret
    exact ⟨rfl, hS2.out.tail.gold⟩
  · have e := nmB_false (show ¬(t = -1 ∧ r = -1) by omega)
    have e1 := wiB_yes ⟨h1, h2⟩
    have e3 := wiB_yes ⟨h3, h4⟩
    have e2 : (r == -1) = false := by rw [beq_eq_false_iff_ne]; omega
    rw [hl]
    clear hl h1 h2 h3 h4
    have hS := Lib.hid (box1 w t r)
    obtain ⟨z, c0, c1, _⟩ := hS.out.b2
    go_enter Tryd.func37, Tryd.ntmps37
    go_wp2_with fail
    go_region_held3 (fun w' => w'.cell? ⟨w.heap.size, 0, none⟩ = some (.int .i64 t) ∧ w'.cell? ⟨w.heap.size, 1, none⟩ = some (.int .i64 r)) (exact ⟨by assumption, by assumption⟩) ((go_at_call 46; refine (database_any _).mono ?_; rintro e w1 ⟨rfl, b1⟩; have hS2 := Lib.hid ((show Sep _ [blk w.heap.size 26 #[Value.int .i64 (t), Value.int .i64 (r)], old w] from by first | exact hS.out | exact hS.out.drew).below b1); obtain ⟨_, d0, d1, _⟩ := hS2.out.b2; clear b1))
    go_wp2_with (go_at_call 47; refine (within_any _ _).mono ?_; rintro e w2 ⟨rfl, rfl⟩)
    go_ret
    exact ⟨rfl, hS2.out.tail.gold⟩
  · have e := nmB_false h1
    rw [hl]
    by_cases ht : 0 ≤ t ∧ t < 100
    · have e1 := wiB_yes ht
      have e3 := wiB_no (show ¬(0 ≤ r ∧ r < 100) by omega)
      have e2 : (r == -1) = false := by rw [beq_eq_false_iff_ne]; omega
      clear hl h1 h2 ht
      have hS := Lib.hid (box1 w t r)
      obtain ⟨z, c0, c1, _⟩ := hS.out.b2
      go_enter Tryd.func37, Tryd.ntmps37
      go_wp2_with fail
      go_region_held3 (fun w' => w'.cell? ⟨w.heap.size, 0, none⟩ = some (.int .i64 t) ∧ w'.cell? ⟨w.heap.size, 1, none⟩ = some (.int .i64 r)) (exact ⟨by assumption, by assumption⟩) ((go_at_call 46; refine (database_any _).mono ?_; rintro e w1 ⟨rfl, b1⟩; have hS2 := Lib.hid ((show Sep _ [blk w.heap.size 26 #[Value.int .i64 (t), Value.int .i64 (r)], old w] from by first | exact hS.out | exact hS.out.drew).below b1); obtain ⟨_, d0, d1, _⟩ := hS2.out.b2; clear b1))
      go_wp2_with (go_at_call 47; refine (within_any _ _).mono ?_; rintro e w2 ⟨rfl, rfl⟩)
      go_ret
      exact ⟨rfl, hS2.out.tail.gold⟩
    · have e1 := wiB_no ht
      clear hl h1 h2 ht
      have hS := Lib.hid (box1 w t r)
      obtain ⟨z, c0, c1, _⟩ := hS.out.b2
      go_enter Tryd.func37, Tryd.ntmps37
      go_wp2_with fail
      go_region_held3 (fun w' => w'.cell? ⟨w.heap.size, 0, none⟩ = some (.int .i64 t) ∧ w'.cell? ⟨w.heap.size, 1, none⟩ = some (.int .i64 r)) (exact ⟨by assumption, by assumption⟩) ((go_at_call 46; refine (database_any _).mono ?_; rintro e w1 ⟨rfl, b1⟩; have hS2 := Lib.hid ((show Sep _ [blk w.heap.size 26 #[Value.int .i64 (t), Value.int .i64 (r)], old w] from by first | exact hS.out | exact hS.out.drew).below b1); obtain ⟨_, d0, d1, _⟩ := hS2.out.b2; clear b1))
      go_wp2_with (go_at_call 47; refine (within_any _ _).mono ?_; rintro e w2 ⟨rfl, rfl⟩)
      go_ret
      exact ⟨rfl, hS2.out.tail.gold⟩
end Go.Proofs.YtechagciefhpbaaDoor
