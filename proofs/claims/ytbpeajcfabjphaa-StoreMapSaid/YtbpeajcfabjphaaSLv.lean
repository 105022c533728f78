/-
  The chapter's example of stores: lives; equality of what a record had. No condition.
-/
import Derived.Test.YtbpeajcfabjphaaSx
import Derived.Test.YtbpeajcfabjphaaHlN
import Derived.Test.YtbpeajcfabjphaaHx
namespace Go.Proofs.Ytbpeajcfabjphaa
open Go.RowKit Go.MapKept
def eqB_was (a0 b0 : Int) (a1 b1 : Int) (a2 b2 : Int) (a3 b3 : Bool) : Bool := ((eqB_name a0 b0 a1 b1) && ((a2 == b2) && ((a3 == b3) && true)))
theorem held_was : Try.prog.stoodInHeld 31 = false := by kernel_rfl
theorem und_was : Try.prog.underlying 31 = some (.struct (Try.prog.fieldsOf 31)) := by kernel_rfl
theorem names_was : (Try.prog.fieldsOf 31).toList.map (fun f => (f.name == "_", f.type, f.offset)) = [(false, 24, 0), (false, 2, 2), (false, 4, 3)] := by kernel_rfl
theorem infos_was : ∃ i, Try.prog.info? 31 = some i := Option.isSome_iff_exists.1 (by kernel_rfl)
theorem size_was : Try.prog.cellsOf 31 = 4 := by kernel_rfl
theorem equalIn_was (d : Nat) (a0 b0 : Int) (a1 b1 : Int) (a2 b2 : Int) (a3 b3 : Bool) (w : World) : (Op.equalIn (d + 3) 31 (.agg #[.int .i64 a0, .int .i64 a1, .int .i64 a2, .bool a3]) (.agg #[.int .i64 b0, .int .i64 b1, .int .i64 b2, .bool b3])).run Try.prog w = .ok (eqB_was a0 b0 a1 b1 a2 b2 a3 b3) w := by
  rw [run_equalIn_struct (P := Try.prog) w (d + 2) 31 _ _ und_was held_was, eqFields_eqD Try.prog, names_was]
  unfold eqB_was
  obtain ⟨i0, hi0⟩ := infos_name
  refine eqD_cons (part_struct und_name hi0 size_name) (part_struct und_name hi0 size_name) (equalIn_name (d + 0) a0 b0 a1 b1 w) ?_
  refine eqD_cons (part_one Try.underlying2 rfl rfl) (part_one Try.underlying2 rfl rfl) (run_equalIn_int w _ _ _ _ _ _ Try.underlying2) ?_
  refine eqD_cons (part_one Try.underlying4 rfl rfl) (part_one Try.underlying4 rfl rfl) (run_equalIn_bool' w _ _ _ _ Try.underlying4) ?_
  exact eqD_nil
theorem run_eql_was (a0 b0 : Int) (a1 b1 : Int) (a2 b2 : Int) (a3 b3 : Bool) (w : World) : (binOp .eql 31 (.agg #[.int .i64 a0, .int .i64 a1, .int .i64 a2, .bool a3]) (.agg #[.int .i64 b0, .int .i64 b1, .int .i64 b2, .bool b3])).run Try.prog w = .ok (.bool (eqB_was a0 b0 a1 b1 a2 b2 a3 b3)) w := by
  have h := equalIn_was 9997 a0 b0 a1 b1 a2 b2 a3 b3 w
  simp only [binOp]
  simp [Op.equal, Op.maxDepth, h]
theorem run_neq_was (a0 b0 : Int) (a1 b1 : Int) (a2 b2 : Int) (a3 b3 : Bool) (w : World) : (binOp .neq 31 (.agg #[.int .i64 a0, .int .i64 a1, .int .i64 a2, .bool a3]) (.agg #[.int .i64 b0, .int .i64 b1, .int .i64 b2, .bool b3])).run Try.prog w = .ok (.bool !(eqB_was a0 b0 a1 b1 a2 b2 a3 b3)) w := by
  have h := equalIn_was 9997 a0 b0 a1 b1 a2 b2 a3 b3 w
  simp only [binOp]
  simp [Op.equal, Op.maxDepth, h]
theorem eqB_was_iff (a0 b0 : Int) (a1 b1 : Int) (a2 b2 : Int) (a3 b3 : Bool) : eqB_was a0 b0 a1 b1 a2 b2 a3 b3 = decide (a0 = b0 ∧ a1 = b1 ∧ a2 = b2 ∧ a3 = b3) := by
  rw [Bool.eq_iff_iff]
  unfold eqB_was
  simp [eqB_name_iff, and_assoc]
theorem kT_any (t : Int) (w : World) : Calls Try.prog 21 #[.int .i64 t] w fun e w' => e = .returned (.agg #[.int .i64 t, .int .i64 (-1)]) ∧ Below w.heap.size w w' := by
  go_enter Try.func21, Try.ntmps21
  go_wp2_with fail
  refine bodyPost_ret (v := (.agg #[.int .i64 t, .int .i64 (-1)])) (by simp [results, Try.results21, go_sem, *]) rfl ⟨rfl, ?_⟩
  first
    | exact Below.refl _ _
    | exact (Below.refl _ _).alloc (Nat.le_refl _) _
theorem kR_any (t r : Int) (w : World) : Calls Try.prog 23 #[.int .i64 t, .int .i64 r] w fun e w' => e = .returned (.agg #[.int .i64 t, .int .i64 r]) ∧ Below w.heap.size w w' := by
  go_enter Try.func23, Try.ntmps23
  go_wp2_with fail
  refine bodyPost_ret (v := (.agg #[.int .i64 t, .int .i64 r])) (by simp [results, Try.results23, go_sem, *]) rfl ⟨rfl, ?_⟩
  first
    | exact Below.refl _ _
    | exact (Below.refl _ _).alloc (Nat.le_refl _) _

theorem rec01 : isRec (0, 1) = true := by decide
abbrev EV (v : Int) : Ent := [((0, 1), v)]
set_option maxHeartbeats 8000000 in
set_option maxRecDepth 100000 in
theorem lives_any (w : World) : Calls Try.prog 7 #[] w fun e w' => e = .returned (.bool true) ∧ Below w.heap.size w w' := by
  go_enter Try.func7, Try.ntmps7
  go_wp2_with fail
  refine (new_x _).mono ?_
  rintro e w1 ⟨p, rfl, q⟩
  have hB := Lib.hid q
  clear q
  go_wp2_with fail
  refine (kR_any 0 1 _).mono ?_
  rintro e wa0 ⟨rfl, b9⟩
  replace hB := Lib.hid (hB.out.below b9)
  clear b9
  go_wp2_with fail
  refine (put_yes p ([]) 0 1 5 _ _ hB.out rec01).mono ?_
  rintro e wb0 ⟨rfl, q⟩
  rw [show wasV 0 1 ([]) = .agg #[.int .i64 0, .int .i64 1, .int .i64 0, .bool false] from rfl]
  replace hB := Lib.hid (show Sep _ (stX p (EV 5) :: blk wb0.heap.size 31 #[.int .i64 0, .int .i64 1, .int .i64 0, .bool false] :: _) from (q.alloc #[.int .i64 0, .int .i64 1, .int .i64 0, .bool false] 31).to1)
  clear q
  go_wp2_with fail
  generalize hga : wb0.heap.size = ga at *
  replace hga := Lib.hid hga
  refine (kR_any 0 1 _).mono ?_
  rintro e wa1 ⟨rfl, b9⟩
  replace hB := Lib.hid (hB.out.below b9)
  clear b9
  go_wp2_with fail
  refine (put_yes p (EV 5) 0 1 6 _ _ hB.out rec01).mono ?_
  rintro e wb1 ⟨rfl, q⟩
  rw [show wasV 0 1 (EV 5) = .agg #[.int .i64 0, .int .i64 1, .int .i64 5, .bool true] from rfl]
  replace hB := Lib.hid (show Sep _ (stX p (EV 6) :: blk wb1.heap.size 31 #[.int .i64 0, .int .i64 1, .int .i64 5, .bool true] :: _) from (q.alloc #[.int .i64 0, .int .i64 1, .int .i64 5, .bool true] 31).to1)
  clear q
  go_wp2_with fail
  generalize hgb : wb1.heap.size = gb at *
  replace hgb := Lib.hid hgb
  refine (kR_any 0 1 _).mono ?_
  rintro e wa2 ⟨rfl, b9⟩
  replace hB := Lib.hid (hB.out.below b9)
  clear b9
  go_wp2_with fail
  refine (del_yes p (EV 6) 0 1  _ _ hB.out rec01).mono ?_
  rintro e wb2 ⟨rfl, q⟩
  rw [show wasV 0 1 (EV 6) = .agg #[.int .i64 0, .int .i64 1, .int .i64 6, .bool true] from rfl]
  replace hB := Lib.hid (show Sep _ (stX p ([]) :: blk wb2.heap.size 31 #[.int .i64 0, .int .i64 1, .int .i64 6, .bool true] :: _) from (q.alloc #[.int .i64 0, .int .i64 1, .int .i64 6, .bool true] 31).to1)
  clear q
  go_wp2_with fail
  generalize hgc : wb2.heap.size = gc at *
  replace hgc := Lib.hid hgc
  replace hB := Lib.hid (show Sep _ [blk gc 31 #[.int .i64 0, .int .i64 1, .int .i64 6, .bool true], blk gb 31 #[.int .i64 0, .int .i64 1, .int .i64 5, .bool true], blk ga 31 #[.int .i64 0, .int .i64 1, .int .i64 0, .bool false], old w] from hB.out.tail.drew)
  have hq := fun a0 b0 a1 b1 a2 b2 a3 b3 W => run_eql_was a0 b0 a1 b1 a2 b2 a3 b3 W
  have hq1 : eqB_was 0 0 1 1 0 0 false false = true := by decide
  have hq2 : eqB_was 0 0 1 1 5 5 true true = true := by decide
  have hS := Lib.hid (show (fun W : World => Sep W [blk gc 31 #[.int .i64 0, .int .i64 1, .int .i64 6, .bool true], blk gb 31 #[.int .i64 0, .int .i64 1, .int .i64 5, .bool true], blk ga 31 #[.int .i64 0, .int .i64 1, .int .i64 0, .bool false], old w]) _ from hB.out)
  refine hl_begin (fun W : World => Sep W [blk gc 31 #[.int .i64 0, .int .i64 1, .int .i64 6, .bool true], blk gb 31 #[.int .i64 0, .int .i64 1, .int .i64 5, .bool true], blk ga 31 #[.int .i64 0, .int .i64 1, .int .i64 0, .bool false], old w]) [(0, true), (1, true), (2, true), (3, true), (4, true), (5, true), (6, true), (7, true), (8, true), (9, true), (10, true), (11, true), (12, false), (13, true), (14, true), (15, true), (16, true), (17, true), (18, false), (19, true), (20, true), (21, true), (22, true), (23, true), (24, true), (25, true), (26, true), (27, true), (28, true), (29, true), (30, true), (31, true)] (by kernel_rfl) (by kernel_rfl) (by kernel_rfl) rfl (fun _ _ _ _ _ h => h) hS.out ?_
  change HL _ _ _ _ _ _ (World.drew _)
  generalize World.drew _ = wd at *
  refine hl_take ?v1 rfl (by kernel_rfl) ?y1 ?z1
  case y1 => intro W hW; skip; replace hW := Lib.hid hW; go_simp; try rfl
  case z1 =>
  simp only [Act.put, List.setIfInBounds_toArray, List.set_cons_succ, List.set_cons_zero, List.getElem_toArray, List.getElem_cons_zero, List.getElem_cons_succ]
  refine hl_take ?v2 rfl (by kernel_rfl) ?y2 ?z2
  case y2 => intro W hW; skip; replace hW := Lib.hid hW; go_simp; try rfl
  case z2 =>
  simp only [Act.put, List.setIfInBounds_toArray, List.set_cons_succ, List.set_cons_zero, List.getElem_toArray, List.getElem_cons_zero, List.getElem_cons_succ]
  refine hl_take ?v3 rfl (by kernel_rfl) ?y3 ?z3
  case y3 => intro W hW; skip; replace hW := Lib.hid hW; go_simp; try rfl
  case z3 =>
  simp only [Act.put, List.setIfInBounds_toArray, List.set_cons_succ, List.set_cons_zero, List.getElem_toArray, List.getElem_cons_zero, List.getElem_cons_succ]
  refine hl_take ?v4 rfl (by kernel_rfl) ?y4 ?z4
  case y4 => intro W hW; skip; replace hW := Lib.hid hW; go_simp; try rfl
  case z4 =>
  simp only [Act.put, List.setIfInBounds_toArray, List.set_cons_succ, List.set_cons_zero, List.getElem_toArray, List.getElem_cons_zero, List.getElem_cons_succ]
  refine hl_take ?v5 rfl (by kernel_rfl) ?y5 ?z5
  case y5 => intro W hW; skip; replace hW := Lib.hid hW; go_simp; try rfl
  case z5 =>
  simp only [Act.put, List.setIfInBounds_toArray, List.set_cons_succ, List.set_cons_zero, List.getElem_toArray, List.getElem_cons_zero, List.getElem_cons_succ]
  refine hl_take ?v6 rfl (by kernel_rfl) ?y6 ?z6
  case y6 => intro W hW; skip; replace hW := Lib.hid hW; go_simp; try rfl
  case z6 =>
  simp only [Act.put, List.setIfInBounds_toArray, List.set_cons_succ, List.set_cons_zero, List.getElem_toArray, List.getElem_cons_zero, List.getElem_cons_succ]
  refine hl_take ?v7 rfl (by kernel_rfl) ?y7 ?z7
  case y7 => intro W hW; skip; replace hW := Lib.hid hW; go_simp; try rfl
  case z7 =>
  simp only [Act.put, List.setIfInBounds_toArray, List.set_cons_succ, List.set_cons_zero, List.getElem_toArray, List.getElem_cons_zero, List.getElem_cons_succ]
  refine hl_take ?v8 rfl (by kernel_rfl) ?y8 ?z8
  case y8 => intro W hW; skip; replace hW := Lib.hid hW; go_simp; try rfl
  case z8 =>
  simp only [Act.put, List.setIfInBounds_toArray, List.set_cons_succ, List.set_cons_zero, List.getElem_toArray, List.getElem_cons_zero, List.getElem_cons_succ]
  refine hl_take ?v9 rfl (by kernel_rfl) ?y9 ?z9
  case y9 => intro W hW; skip; replace hW := Lib.hid hW; go_simp; try rfl
  case z9 =>
  simp only [Act.put, List.setIfInBounds_toArray, List.set_cons_succ, List.set_cons_zero, List.getElem_toArray, List.getElem_cons_zero, List.getElem_cons_succ]
  refine hl_take ?v10 rfl (by kernel_rfl) ?y10 ?z10
  case y10 => intro W hW; skip; replace hW := Lib.hid hW; go_simp; try rfl
  case z10 =>
  simp only [Act.put, List.setIfInBounds_toArray, List.set_cons_succ, List.set_cons_zero, List.getElem_toArray, List.getElem_cons_zero, List.getElem_cons_succ]
  refine hl_take ?v11 rfl (by kernel_rfl) ?y11 ?z11
  case y11 => intro W hW; skip; replace hW := Lib.hid hW; go_simp; try rfl
  case z11 =>
  simp only [Act.put, List.setIfInBounds_toArray, List.set_cons_succ, List.set_cons_zero, List.getElem_toArray, List.getElem_cons_zero, List.getElem_cons_succ]
  refine hl_take ?v12 rfl (by kernel_rfl) ?y12 ?z12
  case y12 => intro W hW; obtain ⟨_, c0, c1, c2, c3, _⟩ := (show Sep _ _ from hW).b4; obtain ⟨_, d0, d1, d2, d3, _⟩ := (show Sep _ _ from hW).to1.b4; obtain ⟨_, e0, e1, e2, e3, _⟩ := (show Sep _ _ from hW).to2.b4; replace hW := Lib.hid hW; go_simp; try rfl
  case z12 =>
  simp only [Act.put, List.setIfInBounds_toArray, List.set_cons_succ, List.set_cons_zero, List.getElem_toArray, List.getElem_cons_zero, List.getElem_cons_succ]
  refine hl_one rfl (by kernel_rfl) (fun K hK => ?_)
  go_simp
  refine (kR_any 0 1 _).mono ?_
  rintro e w9 ⟨rfl, b9⟩
  replace hB := Lib.hid (show Sep _ _ from (show Sep _ _ from hB.out).below b9)
  clear b9
  refine hK.out _ _ hB.out ?_
  clear hK K
  try simp only [Act.put, List.setIfInBounds_toArray, List.set_cons_succ, List.set_cons_zero, List.getElem_toArray, List.getElem_cons_zero, List.getElem_cons_succ]
  refine hl_take ?v13 rfl (by kernel_rfl) ?y13 ?z13
  case y13 => intro W hW; skip; replace hW := Lib.hid hW; go_simp; try rfl
  case z13 =>
  simp only [Act.put, List.setIfInBounds_toArray, List.set_cons_succ, List.set_cons_zero, List.getElem_toArray, List.getElem_cons_zero, List.getElem_cons_succ]
  refine hl_take ?v14 rfl (by kernel_rfl) ?y14 ?z14
  case y14 => intro W hW; skip; replace hW := Lib.hid hW; go_simp; try rfl
  case z14 =>
  simp only [Act.put, List.setIfInBounds_toArray, List.set_cons_succ, List.set_cons_zero, List.getElem_toArray, List.getElem_cons_zero, List.getElem_cons_succ]
  refine hl_take ?v15 rfl (by kernel_rfl) ?y15 ?z15
  case y15 => intro W hW; skip; replace hW := Lib.hid hW; go_simp; try rfl
  case z15 =>
  simp only [Act.put, List.setIfInBounds_toArray, List.set_cons_succ, List.set_cons_zero, List.getElem_toArray, List.getElem_cons_zero, List.getElem_cons_succ]
  refine hl_take ?v16 rfl (by kernel_rfl) ?y16 ?z16
  case y16 => intro W hW; skip; replace hW := Lib.hid hW; go_simp; try rfl
  case z16 =>
  simp only [Act.put, List.setIfInBounds_toArray, List.set_cons_succ, List.set_cons_zero, List.getElem_toArray, List.getElem_cons_zero, List.getElem_cons_succ]
  refine hl_take ?v17 rfl (by kernel_rfl) ?y17 ?z17
  case y17 => intro W hW; obtain ⟨_, c0, c1, c2, c3, _⟩ := (show Sep _ _ from hW).b4; obtain ⟨_, d0, d1, d2, d3, _⟩ := (show Sep _ _ from hW).to1.b4; obtain ⟨_, e0, e1, e2, e3, _⟩ := (show Sep _ _ from hW).to2.b4; replace hW := Lib.hid hW; go_simp; try rfl
  case z17 =>
  simp only [Act.put, List.setIfInBounds_toArray, List.set_cons_succ, List.set_cons_zero, List.getElem_toArray, List.getElem_cons_zero, List.getElem_cons_succ]
  refine hl_one rfl (by kernel_rfl) (fun K hK => ?_)
  go_simp
  refine (kR_any 0 1 _).mono ?_
  rintro e w9 ⟨rfl, b9⟩
  replace hB := Lib.hid (show Sep _ _ from (show Sep _ _ from hB.out).below b9)
  clear b9
  refine hK.out _ _ hB.out ?_
  clear hK K
  try simp only [Act.put, List.setIfInBounds_toArray, List.set_cons_succ, List.set_cons_zero, List.getElem_toArray, List.getElem_cons_zero, List.getElem_cons_succ]
  refine hl_take ?v18 rfl (by kernel_rfl) ?y18 ?z18
  case y18 => intro W hW; skip; replace hW := Lib.hid hW; go_simp; try rfl
  case z18 =>
  simp only [Act.put, List.setIfInBounds_toArray, List.set_cons_succ, List.set_cons_zero, List.getElem_toArray, List.getElem_cons_zero, List.getElem_cons_succ]
  refine hl_take ?v19 rfl (by kernel_rfl) ?y19 ?z19
  case y19 => intro W hW; skip; replace hW := Lib.hid hW; go_simp; try rfl
  case z19 =>
  simp only [Act.put, List.setIfInBounds_toArray, List.set_cons_succ, List.set_cons_zero, List.getElem_toArray, List.getElem_cons_zero, List.getElem_cons_succ]
  refine hl_take ?v20 rfl (by kernel_rfl) ?y20 ?z20
  case y20 => intro W hW; skip; replace hW := Lib.hid hW; go_simp; try rfl
  case z20 =>
  simp only [Act.put, List.setIfInBounds_toArray, List.set_cons_succ, List.set_cons_zero, List.getElem_toArray, List.getElem_cons_zero, List.getElem_cons_succ]
  refine hl_take ?v21 rfl (by kernel_rfl) ?y21 ?z21
  case y21 => intro W hW; skip; replace hW := Lib.hid hW; go_simp; try rfl
  case z21 =>
  simp only [Act.put, List.setIfInBounds_toArray, List.set_cons_succ, List.set_cons_zero, List.getElem_toArray, List.getElem_cons_zero, List.getElem_cons_succ]
  refine hl_take ?v22 rfl (by kernel_rfl) ?y22 ?z22
  case y22 => intro W hW; skip; replace hW := Lib.hid hW; go_simp; try rfl
  case z22 =>
  simp only [Act.put, List.setIfInBounds_toArray, List.set_cons_succ, List.set_cons_zero, List.getElem_toArray, List.getElem_cons_zero, List.getElem_cons_succ]
  refine hl_take ?v23 rfl (by kernel_rfl) ?y23 ?z23
  case y23 => intro W hW; obtain ⟨_, c0, c1, c2, c3, _⟩ := (show Sep _ _ from hW).b4; obtain ⟨_, d0, d1, d2, d3, _⟩ := (show Sep _ _ from hW).to1.b4; obtain ⟨_, e0, e1, e2, e3, _⟩ := (show Sep _ _ from hW).to2.b4; replace hW := Lib.hid hW; go_simp; try rfl
  case z23 =>
  simp only [Act.put, List.setIfInBounds_toArray, List.set_cons_succ, List.set_cons_zero, List.getElem_toArray, List.getElem_cons_zero, List.getElem_cons_succ]
  refine hl_take ?v24 rfl (by kernel_rfl) ?y24 ?z24
  case y24 => intro W hW; skip; replace hW := Lib.hid hW; go_simp; try rfl
  case z24 =>
  simp only [Act.put, List.setIfInBounds_toArray, List.set_cons_succ, List.set_cons_zero, List.getElem_toArray, List.getElem_cons_zero, List.getElem_cons_succ]
  refine hl_take ?v25 rfl (by kernel_rfl) ?y25 ?z25
  case y25 => intro W hW; skip; replace hW := Lib.hid hW; go_simp; try rfl
  case z25 =>
  simp only [Act.put, List.setIfInBounds_toArray, List.set_cons_succ, List.set_cons_zero, List.getElem_toArray, List.getElem_cons_zero, List.getElem_cons_succ]
  refine hl_take ?v26 rfl (by kernel_rfl) ?y26 ?z26
  case y26 => intro W hW; skip; replace hW := Lib.hid hW; go_simp; try rfl
  case z26 =>
  simp only [Act.put, List.setIfInBounds_toArray, List.set_cons_succ, List.set_cons_zero, List.getElem_toArray, List.getElem_cons_zero, List.getElem_cons_succ]
  refine hl_take ?v27 rfl (by kernel_rfl) ?y27 ?z27
  case y27 => intro W hW; skip; replace hW := Lib.hid hW; go_simp; try rfl
  case z27 =>
  simp only [Act.put, List.setIfInBounds_toArray, List.set_cons_succ, List.set_cons_zero, List.getElem_toArray, List.getElem_cons_zero, List.getElem_cons_succ]
  refine hl_take ?v28 rfl (by kernel_rfl) ?y28 ?z28
  case y28 => intro W hW; obtain ⟨_, c0, c1, c2, c3, _⟩ := (show Sep _ _ from hW).b4; obtain ⟨_, d0, d1, d2, d3, _⟩ := (show Sep _ _ from hW).to1.b4; obtain ⟨_, e0, e1, e2, e3, _⟩ := (show Sep _ _ from hW).to2.b4; replace hW := Lib.hid hW; go_simp; try rfl
  case z28 =>
  simp only [Act.put, List.setIfInBounds_toArray, List.set_cons_succ, List.set_cons_zero, List.getElem_toArray, List.getElem_cons_zero, List.getElem_cons_succ]
  refine hl_take ?v29 rfl (by kernel_rfl) ?y29 ?z29
  case y29 => intro W hW; skip; replace hW := Lib.hid hW; go_simp; try rfl
  case z29 =>
  simp only [Act.put, List.setIfInBounds_toArray, List.set_cons_succ, List.set_cons_zero, List.getElem_toArray, List.getElem_cons_zero, List.getElem_cons_succ]
  refine hl_take ?v30 rfl (by kernel_rfl) ?y30 ?z30
  case y30 => intro W hW; skip; replace hW := Lib.hid hW; go_simp; try rfl
  case z30 =>
  simp only [Act.put, List.setIfInBounds_toArray, List.set_cons_succ, List.set_cons_zero, List.getElem_toArray, List.getElem_cons_zero, List.getElem_cons_succ]
  refine hl_done ?_
  clear hS
  go_wp2_with fail
  go_ret
  exact ⟨rfl, (show Sep _ [_, _, _, old w] from hB.out).to3.gold⟩
end Go.Proofs.Ytbpeajcfabjphaa
