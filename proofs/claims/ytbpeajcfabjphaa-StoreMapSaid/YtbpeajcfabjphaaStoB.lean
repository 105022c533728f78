/-
  The store: Put, Del, Get. No condition beside a store that can be read.
-/
import Derived.Test.YtbpeajcfabjphaaSto
namespace Go.Proofs.Ytbpeajcfabjphaa
open Go.RowKit
set_option maxHeartbeats 4000000 in
set_option maxRecDepth 100000 in
theorem put_good (p m : Nat) (E : Ent) (t r : Int) (v : Int) (w : World) (rs : List Res) (hS : Sep w (sto p m E rs)) (h : isRec (t, r) = true) :
    Calls Try.prog 9 #[.pointer (some ⟨p, 0, none⟩), (.agg #[.int .i64 t, .int .i64 r]), .int .i64 v] w fun e w' => e = .returned (.tuple #[wasV t r E, .int .i64 0]) ∧ Sep w' (sto p m (putL E (t, r) v) rs) := by
  have HW := Lib.hid (fun W rs' hS' => was_good p m E t r W rs' hS' h)
  have hB := Lib.hid (was_boxes w t r hS)
  clear hS h
  unfold wasV at *
  generalize hgv : (getL E (t, r)).getD 0 = gv at *
  generalize hgh : hasL E (t, r) = gh at *
  replace hgv := Lib.hid hgv
  replace hgh := Lib.hid hgh
  obtain ⟨_, d0, d1, _⟩ := hB.out.to1.b2
  go_enter Try.func9, Try.ntmps9
  go_wp2_with fail
  refine (HW.out _ _ (show Sep _ (sto p m E (_ :: _ :: rs)) from hB.out.to3.to3)).mono ?_
  rintro e w1 ⟨rfl, q⟩
  have hC := Lib.hid (q.alloc #[.int .i64 t, .int .i64 r, .int .i64 gv, .bool gh] 31)
  clear q HW d0 d1 hB
  go_wp2_with fail
  replace hC := Lib.hid hC.out.drew
  have hS := Lib.hid (show (fun W : World => ∃ E', Sep W (blk w1.heap.size 31 #[.int .i64 t, .int .i64 r, .int .i64 gv, .bool gh] :: sto p m E' (blk (w.heap.size + 1) 31 #[.int .i64 0, .int .i64 0, .int .i64 0, .bool false] :: blk w.heap.size 24 #[.int .i64 t, .int .i64 r] :: rs))) _ from ⟨_, hC.out⟩)
  refine hx_begin (fun W : World => ∃ E', Sep W (blk w1.heap.size 31 #[.int .i64 t, .int .i64 r, .int .i64 gv, .bool gh] :: sto p m E' (blk (w.heap.size + 1) 31 #[.int .i64 0, .int .i64 0, .int .i64 0, .bool false] :: blk w.heap.size 24 #[.int .i64 t, .int .i64 r] :: rs))) 6 [(0, true), (1, true), (2, true), (3, true), (4, true), (5, true), (6, false)] [(3, 6), (4, 6), (5, 6), (0, 6), (1, 6), (2, 6)] (by kernel_rfl) (by kernel_rfl) (by kernel_rfl) (by kernel_rfl) rfl (by kernel_rfl) (by kernel_rfl) (fun _ _ _ _ _ h => h) hS.out ?_
  change HX _ _ _ _ _ _ _ (World.drew _)
  generalize World.drew _ = wd at *
  refine hx_take ?v12 rfl (by kernel_rfl) ?y12 ?z12
  case y12 => intro W hW; skip; replace hW := Lib.hid hW; go_simp; try rfl
  case z12 =>
  simp only [Act.put, List.setIfInBounds_toArray, List.set_cons_succ, List.set_cons_zero, List.getElem_toArray, List.getElem_cons_zero, List.getElem_cons_succ]
  refine hx_take ?v13 rfl (by kernel_rfl) ?y13 ?z13
  case y13 => intro W hW; skip; replace hW := Lib.hid hW; go_simp; try rfl
  case z13 =>
  simp only [Act.put, List.setIfInBounds_toArray, List.set_cons_succ, List.set_cons_zero, List.getElem_toArray, List.getElem_cons_zero, List.getElem_cons_succ]
  refine hx_take ?v14 rfl (by kernel_rfl) ?y14 ?z14
  case y14 => intro W hW; skip; replace hW := Lib.hid hW; go_simp; try rfl
  case z14 =>
  simp only [Act.put, List.setIfInBounds_toArray, List.set_cons_succ, List.set_cons_zero, List.getElem_toArray, List.getElem_cons_zero, List.getElem_cons_succ]
  refine hx_take ?v15 rfl (by kernel_rfl) ?y15 ?z15
  case y15 => intro W hW; obtain ⟨_, hW⟩ := hW; change Sep W (_ :: _ :: _ :: _ :: _ :: _) at hW; obtain ⟨_, c0, _⟩ := hW.to1.b1; obtain ⟨_, d0, d1, _⟩ := hW.to4.b2; replace hW := Lib.hid hW; go_simp; try rfl
  case z15 =>
  simp only [Act.put, List.setIfInBounds_toArray, List.set_cons_succ, List.set_cons_zero, List.getElem_toArray, List.getElem_cons_zero, List.getElem_cons_succ]
  refine hx_take ?v16 rfl (by kernel_rfl) ?y16 ?z16
  case y16 => intro W hW; obtain ⟨_, hW⟩ := hW; change Sep W (_ :: _ :: _ :: _ :: _ :: _) at hW; obtain ⟨_, c0, _⟩ := hW.to1.b1; obtain ⟨_, d0, d1, _⟩ := hW.to4.b2; replace hW := Lib.hid hW; go_simp; try rfl
  case z16 =>
  simp only [Act.put, List.setIfInBounds_toArray, List.set_cons_succ, List.set_cons_zero, List.getElem_toArray, List.getElem_cons_zero, List.getElem_cons_succ]
  refine hx_take ?v17 rfl (by kernel_rfl) ?y17 ?z17
  case y17 => intro W hW; skip; replace hW := Lib.hid hW; go_simp; try rfl
  case z17 =>
  simp only [Act.put, List.setIfInBounds_toArray, List.set_cons_succ, List.set_cons_zero, List.getElem_toArray, List.getElem_cons_zero, List.getElem_cons_succ]
  refine hx_last rfl (by kernel_rfl) (fun K hK => ?_)
  refine wp_mapUpdate_map hC.out.to2 lawN Try.underlying61 (.tmp 21) (.tmp 22) (.tmp 23) (by rfl) (by rfl) (t, r) v (by rfl) (by rfl) ?_
  intro w2 q
  replace hC := Lib.hid (show Sep _ (blk w1.heap.size 31 #[.int .i64 t, .int .i64 r, .int .i64 gv, .bool gh] :: sto p m (putL E (t, r) v) (blk (w.heap.size + 1) 31 #[.int .i64 0, .int .i64 0, .int .i64 0, .bool false] :: blk w.heap.size 24 #[.int .i64 t, .int .i64 r] :: rs)) from q.to2.to2)
  clear q
  refine hK.out _ _ ?_
  clear hK K
  try simp only [Act.put, List.setIfInBounds_toArray, List.set_cons_succ, List.set_cons_zero, List.getElem_toArray, List.getElem_cons_zero, List.getElem_cons_succ]
  refine hx_done ?_
  clear hS
  obtain ⟨_, v0, v1, v2, v3, _⟩ := hC.out.b4
  obtain ⟨_, e0, e1, e2, e3, f0, f1, f2, f3⟩ := hC.out.to3.b4
  obtain ⟨_, d0, d1, _⟩ := hC.out.to4.b2
  have hZ := Lib.hid ((((hC.out.to3.set 0 (.int .i64 t)).set 1 (.int .i64 r)).set 2 (.int .i64 gv)).set 3 (.bool gh))
  go_wp2_with fail
  refine bodyPost_ret (v := .tuple #[.agg #[.int .i64 t, .int .i64 r, .int .i64 gv, .bool gh], .int .i64 0]) (by simp [results, Try.results9, go_sem, *]) rfl ⟨rfl, ?_⟩
  exact hZ.out.tail.tail.to2.tail
set_option maxHeartbeats 4000000 in
set_option maxRecDepth 100000 in
theorem del_good (p m : Nat) (E : Ent) (t r : Int) (w : World) (rs : List Res) (hS : Sep w (sto p m E rs)) (h : isRec (t, r) = true) :
    Calls Try.prog 14 #[.pointer (some ⟨p, 0, none⟩), (.agg #[.int .i64 t, .int .i64 r])] w fun e w' => e = .returned (.tuple #[wasV t r E, .int .i64 0]) ∧ Sep w' (sto p m (delL E (t, r)) rs) := by
  have HW := Lib.hid (fun W rs' hS' => was_good p m E t r W rs' hS' h)
  have hB := Lib.hid (was_boxes w t r hS)
  clear hS h
  unfold wasV at *
  generalize hgv : (getL E (t, r)).getD 0 = gv at *
  generalize hgh : hasL E (t, r) = gh at *
  replace hgv := Lib.hid hgv
  replace hgh := Lib.hid hgh
  obtain ⟨_, d0, d1, _⟩ := hB.out.to1.b2
  go_enter Try.func14, Try.ntmps14
  go_wp2_with fail
  refine (HW.out _ _ (show Sep _ (sto p m E (_ :: _ :: rs)) from hB.out.to3.to3)).mono ?_
  rintro e w1 ⟨rfl, q⟩
  have hC := Lib.hid (q.alloc #[.int .i64 t, .int .i64 r, .int .i64 gv, .bool gh] 31)
  clear q HW d0 d1 hB
  go_wp2_with fail
  replace hC := Lib.hid hC.out.drew
  have hS := Lib.hid (show (fun W : World => ∃ E', Sep W (blk w1.heap.size 31 #[.int .i64 t, .int .i64 r, .int .i64 gv, .bool gh] :: sto p m E' (blk (w.heap.size + 1) 31 #[.int .i64 0, .int .i64 0, .int .i64 0, .bool false] :: blk w.heap.size 24 #[.int .i64 t, .int .i64 r] :: rs))) _ from ⟨_, hC.out⟩)
  refine hx_begin (fun W : World => ∃ E', Sep W (blk w1.heap.size 31 #[.int .i64 t, .int .i64 r, .int .i64 gv, .bool gh] :: sto p m E' (blk (w.heap.size + 1) 31 #[.int .i64 0, .int .i64 0, .int .i64 0, .bool false] :: blk w.heap.size 24 #[.int .i64 t, .int .i64 r] :: rs))) 5 [(0, true), (1, true), (2, true), (3, true), (4, true), (5, false)] [(3, 5), (4, 5), (2, 3), (1, 2), (0, 1)] (by kernel_rfl) (by kernel_rfl) (by kernel_rfl) (by kernel_rfl) rfl (by kernel_rfl) (by kernel_rfl) (fun _ _ _ _ _ h => h) hS.out ?_
  change HX _ _ _ _ _ _ _ (World.drew _)
  generalize World.drew _ = wd at *
  refine hx_take ?v18 rfl (by kernel_rfl) ?y18 ?z18
  case y18 => intro W hW; skip; replace hW := Lib.hid hW; go_simp; try rfl
  case z18 =>
  simp only [Act.put, List.setIfInBounds_toArray, List.set_cons_succ, List.set_cons_zero, List.getElem_toArray, List.getElem_cons_zero, List.getElem_cons_succ]
  refine hx_take ?v19 rfl (by kernel_rfl) ?y19 ?z19
  case y19 => intro W hW; skip; replace hW := Lib.hid hW; go_simp; try rfl
  case z19 =>
  simp only [Act.put, List.setIfInBounds_toArray, List.set_cons_succ, List.set_cons_zero, List.getElem_toArray, List.getElem_cons_zero, List.getElem_cons_succ]
  refine hx_take ?v20 rfl (by kernel_rfl) ?y20 ?z20
  case y20 => intro W hW; skip; replace hW := Lib.hid hW; go_simp; try rfl
  case z20 =>
  simp only [Act.put, List.setIfInBounds_toArray, List.set_cons_succ, List.set_cons_zero, List.getElem_toArray, List.getElem_cons_zero, List.getElem_cons_succ]
  refine hx_take ?v21 rfl (by kernel_rfl) ?y21 ?z21
  case y21 => intro W hW; obtain ⟨_, hW⟩ := hW; change Sep W (_ :: _ :: _ :: _ :: _ :: _) at hW; obtain ⟨_, c0, _⟩ := hW.to1.b1; obtain ⟨_, d0, d1, _⟩ := hW.to4.b2; replace hW := Lib.hid hW; go_simp; try rfl
  case z21 =>
  simp only [Act.put, List.setIfInBounds_toArray, List.set_cons_succ, List.set_cons_zero, List.getElem_toArray, List.getElem_cons_zero, List.getElem_cons_succ]
  refine hx_take ?v22 rfl (by kernel_rfl) ?y22 ?z22
  case y22 => intro W hW; obtain ⟨_, hW⟩ := hW; change Sep W (_ :: _ :: _ :: _ :: _ :: _) at hW; obtain ⟨_, c0, _⟩ := hW.to1.b1; obtain ⟨_, d0, d1, _⟩ := hW.to4.b2; replace hW := Lib.hid hW; go_simp; try rfl
  case z22 =>
  simp only [Act.put, List.setIfInBounds_toArray, List.set_cons_succ, List.set_cons_zero, List.getElem_toArray, List.getElem_cons_zero, List.getElem_cons_succ]
  refine hx_last rfl (by kernel_rfl) (fun K hK => ?_)
  refine wp_delete_map hC.out.to2 lawN Try.underlying61 (.tmp 19) (.tmp 20) (by rfl) (by rfl) (t, r) (by rfl) ?_
  intro w2 q
  replace hC := Lib.hid (show Sep _ (blk w1.heap.size 31 #[.int .i64 t, .int .i64 r, .int .i64 gv, .bool gh] :: sto p m (delL E (t, r)) (blk (w.heap.size + 1) 31 #[.int .i64 0, .int .i64 0, .int .i64 0, .bool false] :: blk w.heap.size 24 #[.int .i64 t, .int .i64 r] :: rs)) from q.to2.to2)
  clear q
  refine hK.out _ _ ?_
  clear hK K
  try simp only [Act.put, List.setIfInBounds_toArray, List.set_cons_succ, List.set_cons_zero, List.getElem_toArray, List.getElem_cons_zero, List.getElem_cons_succ]
  refine hx_done ?_
  clear hS
  obtain ⟨_, v0, v1, v2, v3, _⟩ := hC.out.b4
  obtain ⟨_, e0, e1, e2, e3, f0, f1, f2, f3⟩ := hC.out.to3.b4
  obtain ⟨_, d0, d1, _⟩ := hC.out.to4.b2
  have hZ := Lib.hid ((((hC.out.to3.set 0 (.int .i64 t)).set 1 (.int .i64 r)).set 2 (.int .i64 gv)).set 3 (.bool gh))
  go_wp2_with fail
  refine bodyPost_ret (v := .tuple #[.agg #[.int .i64 t, .int .i64 r, .int .i64 gv, .bool gh], .int .i64 0]) (by simp [results, Try.results14, go_sem, *]) rfl ⟨rfl, ?_⟩
  exact hZ.out.tail.tail.to2.tail
set_option maxHeartbeats 4000000 in
set_option maxRecDepth 100000 in
theorem get_any (p m : Nat) (E : Ent) (t r : Int) (w : World) (rs : List Res) (hS : Sep w (sto p m E rs)) :
    Calls Try.prog 18 #[.pointer (some ⟨p, 0, none⟩), (.agg #[.int .i64 t, .int .i64 r])] w fun e w' => e = .returned (.tuple #[.int .i64 ((getL E (t, r)).getD 0), .bool (hasL E (t, r))]) ∧ Sep w' (sto p m E rs) := by
  have hB := Lib.hid (hS.alloc #[.int .i64 t, .int .i64 r] 24)
  clear hS
  generalize hgv : (getL E (t, r)).getD 0 = gv at *
  generalize hgh : hasL E (t, r) = gh at *
  replace hgv := Lib.hid hgv
  replace hgh := Lib.hid hgh
  go_enter Try.func18, Try.ntmps18
  go_wp2_with fail
  have hS := Lib.hid (show (fun W : World => Sep W (blk w.heap.size 24 #[.int .i64 t, .int .i64 r] :: sto p m E rs)) _ from hB.out.drew)
  refine hl_begin (fun W : World => Sep W (blk w.heap.size 24 #[.int .i64 t, .int .i64 r] :: sto p m E rs)) [(0, true), (1, true), (2, true), (3, true), (4, true), (5, true), (6, true), (7, true), (8, true), (9, true), (10, true)] (by kernel_rfl) (by kernel_rfl) (by kernel_rfl) rfl (fun _ _ _ _ _ h => h) hS.out ?_
  change HL _ _ _ _ _ _ (World.drew _)
  generalize World.drew _ = wd at *
  refine hl_take ?v23 rfl (by kernel_rfl) ?y23 ?z23
  case y23 => intro W hW; skip; replace hW := Lib.hid hW; go_simp; try rfl
  case z23 =>
  simp only [Act.put, List.setIfInBounds_toArray, List.set_cons_succ, List.set_cons_zero, List.getElem_toArray, List.getElem_cons_zero, List.getElem_cons_succ]
  refine hl_take ?v24 rfl (by kernel_rfl) ?y24 ?z24
  case y24 => intro W hW; skip; replace hW := Lib.hid hW; go_simp; try rfl
  case z24 =>
  simp only [Act.put, List.setIfInBounds_toArray, List.set_cons_succ, List.set_cons_zero, List.getElem_toArray, List.getElem_cons_zero, List.getElem_cons_succ]
  refine hl_take ?v25 rfl (by kernel_rfl) ?y25 ?z25
  case y25 => intro W hW; skip; replace hW := Lib.hid hW; go_simp; try rfl
  case z25 =>
  simp only [Act.put, List.setIfInBounds_toArray, List.set_cons_succ, List.set_cons_zero, List.getElem_toArray, List.getElem_cons_zero, List.getElem_cons_succ]
  refine hl_take ?v26 rfl (by kernel_rfl) ?y26 ?z26
  case y26 => intro W hW; change Sep W (_ :: _ :: _ :: _) at hW; obtain ⟨_, c0, _⟩ := hW.to1.b1; obtain ⟨_, d0, d1, _⟩ := hW.b2; replace hW := Lib.hid hW; go_simp; try rfl
  case z26 =>
  simp only [Act.put, List.setIfInBounds_toArray, List.set_cons_succ, List.set_cons_zero, List.getElem_toArray, List.getElem_cons_zero, List.getElem_cons_succ]
  refine hl_take ?v27 rfl (by kernel_rfl) ?y27 ?z27
  case y27 => intro W hW; change Sep W (_ :: _ :: _ :: _) at hW; obtain ⟨_, c0, _⟩ := hW.to1.b1; obtain ⟨_, d0, d1, _⟩ := hW.b2; replace hW := Lib.hid hW; go_simp; try rfl
  case z27 =>
  simp only [Act.put, List.setIfInBounds_toArray, List.set_cons_succ, List.set_cons_zero, List.getElem_toArray, List.getElem_cons_zero, List.getElem_cons_succ]
  refine hl_take ?v28 rfl (by kernel_rfl) ?y28 ?z28
  case y28 => intro W hW; change Sep W (_ :: _ :: _ :: _) at hW; have hk := run_lookup_map lawN Try.underlying61 hW.to2 (zeroI W) (t, r) true; rw [if_pos rfl, look_val, hgv.out, hgh.out] at hk; unfold ekN at hk; simp only at hk; replace hW := Lib.hid hW; go_simp; try rfl
  case z28 =>
  simp only [Act.put, List.setIfInBounds_toArray, List.set_cons_succ, List.set_cons_zero, List.getElem_toArray, List.getElem_cons_zero, List.getElem_cons_succ]
  refine hl_take ?v29 rfl (by kernel_rfl) ?y29 ?z29
  case y29 => intro W hW; skip; replace hW := Lib.hid hW; go_simp; try rfl
  case z29 =>
  simp only [Act.put, List.setIfInBounds_toArray, List.set_cons_succ, List.set_cons_zero, List.getElem_toArray, List.getElem_cons_zero, List.getElem_cons_succ]
  refine hl_take ?v30 rfl (by kernel_rfl) ?y30 ?z30
  case y30 => intro W hW; skip; replace hW := Lib.hid hW; go_simp; try rfl
  case z30 =>
  simp only [Act.put, List.setIfInBounds_toArray, List.set_cons_succ, List.set_cons_zero, List.getElem_toArray, List.getElem_cons_zero, List.getElem_cons_succ]
  refine hl_take ?v31 rfl (by kernel_rfl) ?y31 ?z31
  case y31 => intro W hW; skip; replace hW := Lib.hid hW; go_simp; try rfl
  case z31 =>
  simp only [Act.put, List.setIfInBounds_toArray, List.set_cons_succ, List.set_cons_zero, List.getElem_toArray, List.getElem_cons_zero, List.getElem_cons_succ]
  refine hl_take ?v32 rfl (by kernel_rfl) ?y32 ?z32
  case y32 => intro W hW; skip; replace hW := Lib.hid hW; go_simp; try rfl
  case z32 =>
  simp only [Act.put, List.setIfInBounds_toArray, List.set_cons_succ, List.set_cons_zero, List.getElem_toArray, List.getElem_cons_zero, List.getElem_cons_succ]
  refine hl_take ?v33 rfl (by kernel_rfl) ?y33 ?z33
  case y33 => intro W hW; skip; replace hW := Lib.hid hW; go_simp; try rfl
  case z33 =>
  simp only [Act.put, List.setIfInBounds_toArray, List.set_cons_succ, List.set_cons_zero, List.getElem_toArray, List.getElem_cons_zero, List.getElem_cons_succ]
  refine hl_done ?_
  clear hB
  replace hB := hS
  clear hS
  go_wp2_with fail
  go_ret2
  exact ⟨rfl, hB.out.tail⟩
theorem sget_nil (t r : Int) (w : World) : Calls Try.prog 18 #[.pointer none, (.agg #[.int .i64 t, .int .i64 r])] w fun e w' => e = .returned (.tuple #[.int .i64 0, .bool false]) ∧ Below w.heap.size w w' := by
  go_enter Try.func18, Try.ntmps18
  go_wp2_with fail
  go_ret2
  exact ⟨rfl, (Below.refl _ _).alloc (Nat.le_refl _) _⟩
end Go.Proofs.Ytbpeajcfabjphaa
