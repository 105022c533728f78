/-
  Requests and heads held against each other. No condition.
-/
import Derived.Test.YtmacpjnkmkaloaaQRScan
import Derived.Laws.StructEq
namespace Go.Proofs.Ytmacpjnkmkaloaa
open Go.RowKit
theorem held48 : Try.prog.stoodInHeld 48 = false := by kernel_rfl
theorem und48 : Try.prog.underlying 48 = some (.struct (Try.prog.fieldsOf 48)) := by kernel_rfl
theorem held23 : Try.prog.stoodInHeld 23 = false := by kernel_rfl
theorem und23 : Try.prog.underlying 23 = some (.struct (Try.prog.fieldsOf 23)) := by kernel_rfl
theorem names48 : (Try.prog.fieldsOf 48).toList.map (fun f => (f.name == "_", f.type, f.offset)) = [(false, 3, 0), (false, 3, 1), (false, 44, 2), (false, 44, 3), (false, 3, 4)] := by kernel_rfl
theorem fields48 : ∃ f0 f1 f2 f3 f4 : Field, (Try.prog.fieldsOf 48).toList = [f0, f1, f2, f3, f4] ∧ (f0.name == "_") = false ∧ (f1.name == "_") = false ∧ (f2.name == "_") = false ∧ (f3.name == "_") = false ∧ (f4.name == "_") = false ∧
    f0.type = 3 ∧ f1.type = 3 ∧ f2.type = 44 ∧ f3.type = 44 ∧ f4.type = 3 ∧ f0.offset = 0 ∧ f1.offset = 1 ∧ f2.offset = 2 ∧ f3.offset = 3 ∧ f4.offset = 4 := by
  have h := names48
  generalize (Try.prog.fieldsOf 48).toList = fs at h ⊢
  have hlen := congrArg List.length h
  rcases fs with _ | ⟨f0, _ | ⟨f1, _ | ⟨f2, _ | ⟨f3, _ | ⟨f4, _ | ⟨f5, fs⟩⟩⟩⟩⟩⟩ <;> simp at hlen
  · simp only [List.map_cons, List.map_nil, List.cons.injEq, Prod.mk.injEq, and_true] at h
    obtain ⟨⟨a0, b0, c0⟩, ⟨a1, b1, c1⟩, ⟨a2, b2, c2⟩, ⟨a3, b3, c3⟩, ⟨a4, b4, c4⟩⟩ := h
    exact ⟨f0, f1, f2, f3, f4, rfl, a0, a1, a2, a3, a4, b0, b1, b2, b3, b4, c0, c1, c2, c3, c4⟩
theorem names23 : (Try.prog.fieldsOf 23).toList.map (fun f => (f.name == "_", f.type, f.offset)) = [(false, 3, 0), (false, 3, 1)] := by kernel_rfl
theorem fields23 : ∃ f0 f1 : Field, (Try.prog.fieldsOf 23).toList = [f0, f1] ∧ (f0.name == "_") = false ∧ (f1.name == "_") = false ∧ f0.type = 3 ∧ f1.type = 3 ∧ f0.offset = 0 ∧ f1.offset = 1 := by
  have h := names23
  generalize (Try.prog.fieldsOf 23).toList = fs at h ⊢
  have hlen := congrArg List.length h
  rcases fs with _ | ⟨f0, _ | ⟨f1, _ | ⟨f2, fs⟩⟩⟩ <;> simp at hlen
  · simp only [List.map_cons, List.map_nil, List.cons.injEq, Prod.mk.injEq, and_true] at h
    obtain ⟨⟨a0, b0, c0⟩, ⟨a1, b1, c1⟩⟩ := h
    exact ⟨f0, f1, rfl, a0, a1, b0, b1, c0, c1⟩
theorem equalIn_req (d : Nat) (a0 a1 a2 a3 a4 b0 b1 b2 b3 b4 : Int) (w : World) :
    (Op.equalIn (d + 2) 48 (.agg #[.int .i64 a0, .int .i64 a1, .int .i64 a2, .int .i64 a3, .int .i64 a4]) (.agg #[.int .i64 b0, .int .i64 b1, .int .i64 b2, .int .i64 b3, .int .i64 b4])).run Try.prog w =
      .ok (a0 == b0 && (a1 == b1 && (a2 == b2 && (a3 == b3 && a4 == b4)))) w := by
  rw [run_equalIn_struct (P := Try.prog) w (d + 1) 48 _ _ und48 held48]
  obtain ⟨f0, f1, f2, f3, f4, hl, n0, n1, n2, n3, n4, t0, t1, t2, t3, t4, o0, o1, o2, o3, o4⟩ := fields48
  rw [hl]
  have m0 : Try.prog.underlying 3 = some (.int .i64) := Try.underlying3
  have m1 : Try.prog.underlying 44 = some (.int .i64) := Try.underlying44
  simp only [beq_eq_false_iff_ne] at n0 n1 n2 n3 n4
  simp only [Op.eqFields, n0, n1, n2, n3, n4, t0, t1, t2, t3, t4, o0, o1, o2, o3, o4, ne_eq, not_false_eq_true, if_true]
  simp [part, isAgg, run_underlying m0, run_underlying m1, run_equalIn_int, m0, m1]
  by_cases h0 : a0 = b0 <;> by_cases h1 : a1 = b1 <;> by_cases h2 : a2 = b2 <;> by_cases h3 : a3 = b3 <;> by_cases h4 : a4 = b4 <;> simp [h0, h1, h2, h3, h4]
theorem equalIn_name (d : Nat) (a0 a1 b0 b1 : Int) (w : World) :
    (Op.equalIn (d + 2) 23 (.agg #[.int .i64 a0, .int .i64 a1]) (.agg #[.int .i64 b0, .int .i64 b1])).run Try.prog w = .ok (a0 == b0 && a1 == b1) w := by
  rw [run_equalIn_struct (P := Try.prog) w (d + 1) 23 _ _ und23 held23]
  obtain ⟨f0, f1, hl, n0, n1, t0, t1, o0, o1⟩ := fields23
  rw [hl]
  have m0 : Try.prog.underlying 3 = some (.int .i64) := Try.underlying3
  simp only [beq_eq_false_iff_ne] at n0 n1
  simp only [Op.eqFields, n0, n1, t0, t1, o0, o1, ne_eq, not_false_eq_true, if_true]
  simp [part, isAgg, run_underlying m0, run_equalIn_int, m0]
  by_cases h0 : a0 = b0 <;> by_cases h1 : a1 = b1 <;> simp [h0, h1]
def reqB (a0 a1 a2 a3 a4 b0 b1 b2 b3 b4 : Int) : Bool := a0 == b0 && (a1 == b1 && (a2 == b2 && (a3 == b3 && a4 == b4)))
theorem reqB_eq (a b : Rq) : reqB a.id a.txn a.mode a.want a.since b.id b.txn b.mode b.want b.since = decide (a = b) := by
  obtain ⟨a0, a1, a2, a3, a4⟩ := a
  obtain ⟨b0, b1, b2, b3, b4⟩ := b
  rw [Bool.eq_iff_iff]
  simp [reqB]
theorem run_neq_req (a0 a1 a2 a3 a4 b0 b1 b2 b3 b4 : Int) (w : World) :
    (binOp .neq 48 (.agg #[.int .i64 a0, .int .i64 a1, .int .i64 a2, .int .i64 a3, .int .i64 a4]) (.agg #[.int .i64 b0, .int .i64 b1, .int .i64 b2, .int .i64 b3, .int .i64 b4])).run Try.prog w = .ok (.bool !(reqB a0 a1 a2 a3 a4 b0 b1 b2 b3 b4)) w := by
  have h := equalIn_req 9998 a0 a1 a2 a3 a4 b0 b1 b2 b3 b4 w
  simp only [binOp]
  simp [Op.equal, Op.maxDepth, h, reqB]
theorem run_eql_req (a0 a1 a2 a3 a4 b0 b1 b2 b3 b4 : Int) (w : World) :
    (binOp .eql 48 (.agg #[.int .i64 a0, .int .i64 a1, .int .i64 a2, .int .i64 a3, .int .i64 a4]) (.agg #[.int .i64 b0, .int .i64 b1, .int .i64 b2, .int .i64 b3, .int .i64 b4])).run Try.prog w = .ok (.bool (reqB a0 a1 a2 a3 a4 b0 b1 b2 b3 b4)) w := by
  have h := equalIn_req 9998 a0 a1 a2 a3 a4 b0 b1 b2 b3 b4 w
  simp only [binOp]
  simp [Op.equal, Op.maxDepth, h, reqB]
theorem run_neq_name (a0 a1 b0 b1 : Int) (w : World) :
    (binOp .neq 23 (.agg #[.int .i64 a0, .int .i64 a1]) (.agg #[.int .i64 b0, .int .i64 b1])).run Try.prog w = .ok (.bool !(a0 == b0 && a1 == b1)) w := by
  have h := equalIn_name 9998 a0 a1 b0 b1 w
  simp only [binOp]
  simp [Op.equal, Op.maxDepth, h]
/-- Two heads of one name, whose requests read as one list, are the same. -/
theorem sameR_true (t r n : Int) (u v : Value) (l : List Rq) (w : World) (hu : RQ w u l) (hv : RQ w v l) (hl : l.length ≤ 1000) :
    Calls Try.prog 15 #[hval t r u n, hval t r v n] w fun e w' => e = .returned (.bool true) ∧ Below w.heap.size w w' := by
  have h0 : ∀ b0 b1, Sep ((w.alloc (.cells b0 26)).alloc (.cells b1 26)) [blk (w.heap.size + 1) 26 b1, blk w.heap.size 26 b0, old w] := fun b1 b2 => by
    have := ((Sep.start w).alloc b1 26).alloc b2 26
    rw [World.size_alloc] at this
    exact this
  replace h0 := Lib.hid h0
  have hn1 := fun a0 a1 b0 b1 w => run_neq_name a0 a1 b0 b1 w
  have hn2 := fun a0 a1 a2 a3 a4 b0 b1 b2 b3 b4 w => run_neq_req a0 a1 a2 a3 a4 b0 b1 b2 b3 b4 w
  obtain ⟨a, c, rfl, hlc, _, hr⟩ := hu
  obtain ⟨a', c', rfl, hlc', _, hr'⟩ := hv
  replace hr := Lib.hid hr
  replace hr' := Lib.hid hr'
  unfold hval
  go_enter Try.func15, Try.ntmps15
  go_wp2_with fail
  have hS := Lib.hid (h0.out #[.int .i64 t, .int .i64 r, .slice a l.length c, .int .i64 n] #[.int .i64 t, .int .i64 r, .slice a' l.length c', .int .i64 n])
  clear h0
  generalize hn : l.length = m at *
  replace hn := Lib.hid hn
  go_loopg [5] m (fun g i wr => ∃ k : Nat, k ≤ m ∧ g = m - k ∧ i = .int .i64 k ∧ Hid (Sep wr [blk (w.heap.size + 1) 26 #[.int .i64 t, .int .i64 r, .slice a' m c', .int .i64 n], blk w.heap.size 26 #[.int .i64 t, .int .i64 r, .slice a m c, .int .i64 n], old w]))
  case atStart => exact ⟨0, Nat.zero_le _, rfl, rfl, hS⟩
  case round =>
    clear hS
    obtain ⟨k, hk, hg, rfl, hS⟩ := hrel
    obtain ⟨x1, d0, d1, x2, d3, _⟩ := hS.out.b4
    obtain ⟨y1, e0, e1, y2, e3, _⟩ := hS.out.to1.b4
    by_cases hlt : k < m
    · obtain ⟨b, off, rfl, hbl, hz⟩ := hr.out (by have := hn.out; omega)
      obtain ⟨b', off', rfl, hbl', hz'⟩ := hr'.out (by have := hn.out; omega)
      obtain ⟨z0, z1, z2, z3, z4⟩ := hz k (by have := hn.out; omega)
      obtain ⟨v0, v1, v2, v3, v4⟩ := hz' k (by have := hn.out; omega)
      rw [← hS.out.to2.gold.cell (by exact hbl)] at z0 z1 z2 z3 z4
      rw [← hS.out.to2.gold.cell (by exact hbl')] at v0 v1 v2 v3 v4
      have hself := reqB_eq (l.getD k default) (l.getD k default)
      clear hz hr hz' hr'
      generalize l.getD k default = q at *
      obtain ⟨id, txn, mode, want, since⟩ := q
      simp only [decide_true] at hself z0 z1 z2 z3 z4 v0 v1 v2 v3 v4
      go_wp2_with fail
      go_quiet (fail)
      go_wp2_with fail
      go_roundg (m - (k + 1))
      case measure => omega
      case rel => exact ⟨k + 1, by omega, rfl, by go_num, Lib.hid (hS.out.drewN _)⟩
    · have hk2 : k = m := by omega
      go_wp2_with fail
      go_ret
      exact ⟨rfl, hS.out.to2.gold⟩
end Go.Proofs.Ytmacpjnkmkaloaa
