/-
  Contracts of the package name: Under. No condition.
-/
import Derived.Test.YtiaibmabmholaaaDoorNmI
import Derived.Test.YtiaibmabmholaaaDoorHeld
namespace Go.Proofs.YtiaibmabmholaaaDoor
open Go.RowKit
theorem box2 (w : World) (t r t' r' : Int) : Sep ((w.alloc (.cells #[Value.int .i64 (t), Value.int .i64 (r)] 23)).alloc (.cells #[Value.int .i64 (t'), Value.int .i64 (r')] 23)) [blk (w.heap.size + 1) 23 #[Value.int .i64 (t'), Value.int .i64 (r')], blk w.heap.size 23 #[Value.int .i64 (t), Value.int .i64 (r)], old w] := by
  have := ((Sep.start w).alloc #[Value.int .i64 (t), Value.int .i64 (r)] 23).alloc #[Value.int .i64 (t'), Value.int .i64 (r')] 23
  simpa only [World.size_alloc] using this
/-- The names above one. -/
def ancL (t r : Int) (k : Nat) : List (Int × Int) := ([(-1, -1), (t, -1)] : List (Int × Int)).take k
theorem anc_RN {w w0 : World} {g k : Nat} {t r : Int} (hk : AncK t r k) (h : Sep w [blk g 23 #[.int .i64 (-1), .int .i64 (-1), .int .i64 t, .int .i64 (-1)], old w0]) : RN w (.slice (some ⟨g, 0, none⟩) k 2) (ancL t r k) := by
  have h2 := hk.lt
  obtain ⟨z, c0, c1, c2, c3, _⟩ := h.b4
  have hl : (ancL t r k).length = k := by simp [ancL]; omega
  refine ⟨_, 2, by rw [hl], fun h0 => ⟨g, 0, rfl, z, fun j hj => ?_⟩⟩
  rw [hl] at hj
  have : k = 1 ∨ k = 2 := by omega
  rcases this with rfl | rfl
  · obtain rfl : j = 0 := by omega
    exact ⟨c0, c1⟩
  · have : j = 0 ∨ j = 1 := by omega
    rcases this with rfl | rfl
    · exact ⟨c0, c1⟩
    · exact ⟨c2, c3⟩
theorem und_anc {t r t' r' : Int} {k : Nat} (hk : AncK t r k) (h1 : lv t r ≠ -1) (h2 : ¬(t = t' ∧ r = r')) : (ancL t r k).any (isN t' r') = undB t r t' r' := by
  have hs := lv_spec t r
  unfold AncK at hk
  rw [if_neg h1] at hk
  rw [Bool.eq_iff_iff]
  rcases hs with ⟨a1, a2, a3⟩ | ⟨a1, a2, a3, a4⟩ | ⟨a1, a2, a3, a4, a5⟩ | ⟨a1, _⟩
  · obtain rfl : k = 0 := by omega
    simp [ancL, undB]
    omega
  · obtain rfl : k = 1 := by omega
    simp [ancL, undB, isN, nmB]
    omega
  · obtain rfl : k = 2 := by omega
    simp [ancL, undB, isN, nmB]
    omega
  · exact absurd a1 h1
set_option maxHeartbeats 1000000 in
theorem under_no (t r t' r' : Int) (w : World) (h : lv t r = -1) : Calls Tryd.prog 11 #[(.agg #[.int .i64 t, .int .i64 r]), (.agg #[.int .i64 t', .int .i64 r'])] w fun e w' => e = .returned (.bool false) ∧ Below w.heap.size w w' := by
  have hS0 := Lib.hid (box2 w t r t' r')
  have e1 : (lv t r != -1) = false := by rw [h]; rfl
  clear h
  have hq := fun a b c d => run_eql_nm a b c d
  go_enter Tryd.func11, Tryd.ntmps11
  go_wp2_with fail
  have hS := Lib.hid (show (fun W : World => Sep W [blk (w.heap.size + 1) 23 #[Value.int .i64 (t'), Value.int .i64 (r')], blk w.heap.size 23 #[Value.int .i64 (t), Value.int .i64 (r)], old w]) _ from hS0.out.drew)
  refine held_begin (fun W : World => Sep W [blk (w.heap.size + 1) 23 #[Value.int .i64 (t'), Value.int .i64 (r')], blk w.heap.size 23 #[Value.int .i64 (t), Value.int .i64 (r)], old w]) (by kernel_rfl) hS.out ?_
  change wpAnyH _ _ _ _ _ 15 _ _ (World.drew _)
  refine held_take 0 ?v0 rfl (by kernel_rfl) (by kernel_rfl) (by kernel_rfl) (fun _ _ _ _ _ h => h) (by kernel_rfl) hS.out ?y0 ?z0
  case y0 => intro W hW; change Sep W _ at hW; have d0 := hW.b2.2.1; have d1 := hW.b2.2.2.1; have c0 := hW.to1.b2.2.1; have c1 := hW.to1.b2.2.2.1; replace hW := Lib.hid hW; go_simp; try rfl
  case z0 =>
  simp only [Act.put, List.setIfInBounds_toArray, List.set_cons_succ, List.set_cons_zero, List.getElem_toArray, List.getElem_cons_zero, List.getElem_cons_succ]
  refine held_one 1 (by kernel_rfl) rfl (by kernel_rfl) (fun K hK => ?_)
  go_simp
  refine (level_any _ _ _).mono ?_
  rintro e w1 ⟨rfl, b1⟩
  replace hS := Lib.hid (hS.out.below b1)
  clear b1
  refine hK.out _ _ hS.out ?_
  clear hK K
  try simp only [Act.put, List.setIfInBounds_toArray, List.set_cons_succ, List.set_cons_zero, List.getElem_toArray, List.getElem_cons_zero, List.getElem_cons_succ]
  refine held_take 2 ?v2 rfl (by kernel_rfl) (by kernel_rfl) (by kernel_rfl) (fun _ _ _ _ _ h => h) (by kernel_rfl) hS.out ?y2 ?z2
  case y2 => intro W hW; change Sep W _ at hW; have d0 := hW.b2.2.1; have d1 := hW.b2.2.2.1; have c0 := hW.to1.b2.2.1; have c1 := hW.to1.b2.2.2.1; replace hW := Lib.hid hW; go_simp; try rfl
  case z2 =>
  simp only [Act.put, List.setIfInBounds_toArray, List.set_cons_succ, List.set_cons_zero, List.getElem_toArray, List.getElem_cons_zero, List.getElem_cons_succ]
  refine held_take 3 ?v3 rfl (by kernel_rfl) (by kernel_rfl) (by kernel_rfl) (fun _ _ _ _ _ h => h) (by kernel_rfl) hS.out ?y3 ?z3
  case y3 => intro W hW; change Sep W _ at hW; have d0 := hW.b2.2.1; have d1 := hW.b2.2.2.1; have c0 := hW.to1.b2.2.1; have c1 := hW.to1.b2.2.2.1; replace hW := Lib.hid hW; go_simp; try rfl
  case z3 =>
  simp only [Act.put, List.setIfInBounds_toArray, List.set_cons_succ, List.set_cons_zero, List.getElem_toArray, List.getElem_cons_zero, List.getElem_cons_succ]
  refine held_skip 4 rfl (by kernel_rfl) (by kernel_rfl) (by kernel_rfl) (fun _ _ _ _ _ h => h) (by kernel_rfl) hS.out ?_
  simp only [Act.put, List.setIfInBounds_toArray, List.set_cons_succ, List.set_cons_zero, List.getElem_toArray, List.getElem_cons_zero, List.getElem_cons_succ]
  refine held_skip 5 rfl (by kernel_rfl) (by kernel_rfl) (by kernel_rfl) (fun _ _ _ _ _ h => h) (by kernel_rfl) hS.out ?_
  simp only [Act.put, List.setIfInBounds_toArray, List.set_cons_succ, List.set_cons_zero, List.getElem_toArray, List.getElem_cons_zero, List.getElem_cons_succ]
  refine held_skip 6 rfl (by kernel_rfl) (by kernel_rfl) (by kernel_rfl) (fun _ _ _ _ _ h => h) (by kernel_rfl) hS.out ?_
  simp only [Act.put, List.setIfInBounds_toArray, List.set_cons_succ, List.set_cons_zero, List.getElem_toArray, List.getElem_cons_zero, List.getElem_cons_succ]
  refine held_skip 7 rfl (by kernel_rfl) (by kernel_rfl) (by kernel_rfl) (fun _ _ _ _ _ h => h) (by kernel_rfl) hS.out ?_
  simp only [Act.put, List.setIfInBounds_toArray, List.set_cons_succ, List.set_cons_zero, List.getElem_toArray, List.getElem_cons_zero, List.getElem_cons_succ]
  refine held_skip 8 rfl (by kernel_rfl) (by kernel_rfl) (by kernel_rfl) (fun _ _ _ _ _ h => h) (by kernel_rfl) hS.out ?_
  simp only [Act.put, List.setIfInBounds_toArray, List.set_cons_succ, List.set_cons_zero, List.getElem_toArray, List.getElem_cons_zero, List.getElem_cons_succ]
  refine held_skip 9 rfl (by kernel_rfl) (by kernel_rfl) (by kernel_rfl) (fun _ _ _ _ _ h => h) (by kernel_rfl) hS.out ?_
  simp only [Act.put, List.setIfInBounds_toArray, List.set_cons_succ, List.set_cons_zero, List.getElem_toArray, List.getElem_cons_zero, List.getElem_cons_succ]
  refine held_skip 10 rfl (by kernel_rfl) (by kernel_rfl) (by kernel_rfl) (fun _ _ _ _ _ h => h) (by kernel_rfl) hS.out ?_
  simp only [Act.put, List.setIfInBounds_toArray, List.set_cons_succ, List.set_cons_zero, List.getElem_toArray, List.getElem_cons_zero, List.getElem_cons_succ]
  refine held_skip 11 rfl (by kernel_rfl) (by kernel_rfl) (by kernel_rfl) (fun _ _ _ _ _ h => h) (by kernel_rfl) hS.out ?_
  simp only [Act.put, List.setIfInBounds_toArray, List.set_cons_succ, List.set_cons_zero, List.getElem_toArray, List.getElem_cons_zero, List.getElem_cons_succ]
  refine held_skip 12 rfl (by kernel_rfl) (by kernel_rfl) (by kernel_rfl) (fun _ _ _ _ _ h => h) (by kernel_rfl) hS.out ?_
  simp only [Act.put, List.setIfInBounds_toArray, List.set_cons_succ, List.set_cons_zero, List.getElem_toArray, List.getElem_cons_zero, List.getElem_cons_succ]
  refine held_take 13 ?v13 rfl (by kernel_rfl) (by kernel_rfl) (by kernel_rfl) (fun _ _ _ _ _ h => h) (by kernel_rfl) hS.out ?y13 ?z13
  case y13 => intro W hW; change Sep W _ at hW; have d0 := hW.b2.2.1; have d1 := hW.b2.2.2.1; have c0 := hW.to1.b2.2.1; have c1 := hW.to1.b2.2.2.1; replace hW := Lib.hid hW; go_simp; try rfl
  case z13 =>
  simp only [Act.put, List.setIfInBounds_toArray, List.set_cons_succ, List.set_cons_zero, List.getElem_toArray, List.getElem_cons_zero, List.getElem_cons_succ]
  refine held_take 14 ?v14 rfl (by kernel_rfl) (by kernel_rfl) (by kernel_rfl) (fun _ _ _ _ _ h => h) (by kernel_rfl) hS.out ?y14 ?z14
  case y14 => intro W hW; change Sep W _ at hW; have d0 := hW.b2.2.1; have d1 := hW.b2.2.2.1; have c0 := hW.to1.b2.2.1; have c1 := hW.to1.b2.2.2.1; replace hW := Lib.hid hW; go_simp; try rfl
  case z14 =>
  simp only [Act.put, List.setIfInBounds_toArray, List.set_cons_succ, List.set_cons_zero, List.getElem_toArray, List.getElem_cons_zero, List.getElem_cons_succ]
  refine wpAnyH_done (by kernel_rfl) ?_ _
  go_wp2_with fail
  go_ret
  exact ⟨rfl, hS.out.tail.tail.gold⟩
set_option maxHeartbeats 1000000 in
theorem under_eq (t r t' r' : Int) (w : World) (h : lv t r ≠ -1) (h2 : t = t' ∧ r = r') : Calls Tryd.prog 11 #[(.agg #[.int .i64 t, .int .i64 r]), (.agg #[.int .i64 t', .int .i64 r'])] w fun e w' => e = .returned (.bool true) ∧ Below w.heap.size w w' := by
  have hS0 := Lib.hid (box2 w t r t' r')
  have e1 : (lv t r != -1) = true := bne_iff_ne.2 h
  have e2 := nmB_true h2
  clear h h2
  have hq := fun a b c d => run_eql_nm a b c d
  go_enter Tryd.func11, Tryd.ntmps11
  go_wp2_with fail
  have hS := Lib.hid (show (fun W : World => Sep W [blk (w.heap.size + 1) 23 #[Value.int .i64 (t'), Value.int .i64 (r')], blk w.heap.size 23 #[Value.int .i64 (t), Value.int .i64 (r)], old w]) _ from hS0.out.drew)
  refine held_begin (fun W : World => Sep W [blk (w.heap.size + 1) 23 #[Value.int .i64 (t'), Value.int .i64 (r')], blk w.heap.size 23 #[Value.int .i64 (t), Value.int .i64 (r)], old w]) (by kernel_rfl) hS.out ?_
  change wpAnyH _ _ _ _ _ 15 _ _ (World.drew _)
  refine held_take 0 ?v0 rfl (by kernel_rfl) (by kernel_rfl) (by kernel_rfl) (fun _ _ _ _ _ h => h) (by kernel_rfl) hS.out ?y0 ?z0
  case y0 => intro W hW; change Sep W _ at hW; have d0 := hW.b2.2.1; have d1 := hW.b2.2.2.1; have c0 := hW.to1.b2.2.1; have c1 := hW.to1.b2.2.2.1; replace hW := Lib.hid hW; go_simp; try rfl
  case z0 =>
  simp only [Act.put, List.setIfInBounds_toArray, List.set_cons_succ, List.set_cons_zero, List.getElem_toArray, List.getElem_cons_zero, List.getElem_cons_succ]
  refine held_one 1 (by kernel_rfl) rfl (by kernel_rfl) (fun K hK => ?_)
  go_simp
  refine (level_any _ _ _).mono ?_
  rintro e w1 ⟨rfl, b1⟩
  replace hS := Lib.hid (hS.out.below b1)
  clear b1
  refine hK.out _ _ hS.out ?_
  clear hK K
  try simp only [Act.put, List.setIfInBounds_toArray, List.set_cons_succ, List.set_cons_zero, List.getElem_toArray, List.getElem_cons_zero, List.getElem_cons_succ]
  refine held_take 2 ?v2 rfl (by kernel_rfl) (by kernel_rfl) (by kernel_rfl) (fun _ _ _ _ _ h => h) (by kernel_rfl) hS.out ?y2 ?z2
  case y2 => intro W hW; change Sep W _ at hW; have d0 := hW.b2.2.1; have d1 := hW.b2.2.2.1; have c0 := hW.to1.b2.2.1; have c1 := hW.to1.b2.2.2.1; replace hW := Lib.hid hW; go_simp; try rfl
  case z2 =>
  simp only [Act.put, List.setIfInBounds_toArray, List.set_cons_succ, List.set_cons_zero, List.getElem_toArray, List.getElem_cons_zero, List.getElem_cons_succ]
  refine held_take 3 ?v3 rfl (by kernel_rfl) (by kernel_rfl) (by kernel_rfl) (fun _ _ _ _ _ h => h) (by kernel_rfl) hS.out ?y3 ?z3
  case y3 => intro W hW; change Sep W _ at hW; have d0 := hW.b2.2.1; have d1 := hW.b2.2.2.1; have c0 := hW.to1.b2.2.1; have c1 := hW.to1.b2.2.2.1; replace hW := Lib.hid hW; go_simp; try rfl
  case z3 =>
  simp only [Act.put, List.setIfInBounds_toArray, List.set_cons_succ, List.set_cons_zero, List.getElem_toArray, List.getElem_cons_zero, List.getElem_cons_succ]
  refine held_take 4 ?v4 rfl (by kernel_rfl) (by kernel_rfl) (by kernel_rfl) (fun _ _ _ _ _ h => h) (by kernel_rfl) hS.out ?y4 ?z4
  case y4 => intro W hW; change Sep W _ at hW; have d0 := hW.b2.2.1; have d1 := hW.b2.2.2.1; have c0 := hW.to1.b2.2.1; have c1 := hW.to1.b2.2.2.1; replace hW := Lib.hid hW; go_simp; try rfl
  case z4 =>
  simp only [Act.put, List.setIfInBounds_toArray, List.set_cons_succ, List.set_cons_zero, List.getElem_toArray, List.getElem_cons_zero, List.getElem_cons_succ]
  refine held_take 5 ?v5 rfl (by kernel_rfl) (by kernel_rfl) (by kernel_rfl) (fun _ _ _ _ _ h => h) (by kernel_rfl) hS.out ?y5 ?z5
  case y5 => intro W hW; change Sep W _ at hW; have d0 := hW.b2.2.1; have d1 := hW.b2.2.2.1; have c0 := hW.to1.b2.2.1; have c1 := hW.to1.b2.2.2.1; replace hW := Lib.hid hW; go_simp; try rfl
  case z5 =>
  simp only [Act.put, List.setIfInBounds_toArray, List.set_cons_succ, List.set_cons_zero, List.getElem_toArray, List.getElem_cons_zero, List.getElem_cons_succ]
  refine held_take 6 ?v6 rfl (by kernel_rfl) (by kernel_rfl) (by kernel_rfl) (fun _ _ _ _ _ h => h) (by kernel_rfl) hS.out ?y6 ?z6
  case y6 => intro W hW; change Sep W _ at hW; have d0 := hW.b2.2.1; have d1 := hW.b2.2.2.1; have c0 := hW.to1.b2.2.1; have c1 := hW.to1.b2.2.2.1; replace hW := Lib.hid hW; go_simp; try rfl
  case z6 =>
  simp only [Act.put, List.setIfInBounds_toArray, List.set_cons_succ, List.set_cons_zero, List.getElem_toArray, List.getElem_cons_zero, List.getElem_cons_succ]
  refine held_take 7 ?v7 rfl (by kernel_rfl) (by kernel_rfl) (by kernel_rfl) (fun _ _ _ _ _ h => h) (by kernel_rfl) hS.out ?y7 ?z7
  case y7 => intro W hW; change Sep W _ at hW; have d0 := hW.b2.2.1; have d1 := hW.b2.2.2.1; have c0 := hW.to1.b2.2.1; have c1 := hW.to1.b2.2.2.1; replace hW := Lib.hid hW; go_simp; try rfl
  case z7 =>
  simp only [Act.put, List.setIfInBounds_toArray, List.set_cons_succ, List.set_cons_zero, List.getElem_toArray, List.getElem_cons_zero, List.getElem_cons_succ]
  refine held_skip 8 rfl (by kernel_rfl) (by kernel_rfl) (by kernel_rfl) (fun _ _ _ _ _ h => h) (by kernel_rfl) hS.out ?_
  simp only [Act.put, List.setIfInBounds_toArray, List.set_cons_succ, List.set_cons_zero, List.getElem_toArray, List.getElem_cons_zero, List.getElem_cons_succ]
  refine held_skip 9 rfl (by kernel_rfl) (by kernel_rfl) (by kernel_rfl) (fun _ _ _ _ _ h => h) (by kernel_rfl) hS.out ?_
  simp only [Act.put, List.setIfInBounds_toArray, List.set_cons_succ, List.set_cons_zero, List.getElem_toArray, List.getElem_cons_zero, List.getElem_cons_succ]
  refine held_skip 10 rfl (by kernel_rfl) (by kernel_rfl) (by kernel_rfl) (fun _ _ _ _ _ h => h) (by kernel_rfl) hS.out ?_
  simp only [Act.put, List.setIfInBounds_toArray, List.set_cons_succ, List.set_cons_zero, List.getElem_toArray, List.getElem_cons_zero, List.getElem_cons_succ]
  refine held_skip 11 rfl (by kernel_rfl) (by kernel_rfl) (by kernel_rfl) (fun _ _ _ _ _ h => h) (by kernel_rfl) hS.out ?_
  simp only [Act.put, List.setIfInBounds_toArray, List.set_cons_succ, List.set_cons_zero, List.getElem_toArray, List.getElem_cons_zero, List.getElem_cons_succ]
  refine held_take 12 ?v12 rfl (by kernel_rfl) (by kernel_rfl) (by kernel_rfl) (fun _ _ _ _ _ h => h) (by kernel_rfl) hS.out ?y12 ?z12
  case y12 => intro W hW; change Sep W _ at hW; have d0 := hW.b2.2.1; have d1 := hW.b2.2.2.1; have c0 := hW.to1.b2.2.1; have c1 := hW.to1.b2.2.2.1; replace hW := Lib.hid hW; go_simp; try rfl
  case z12 =>
  simp only [Act.put, List.setIfInBounds_toArray, List.set_cons_succ, List.set_cons_zero, List.getElem_toArray, List.getElem_cons_zero, List.getElem_cons_succ]
  refine held_take 13 ?v13 rfl (by kernel_rfl) (by kernel_rfl) (by kernel_rfl) (fun _ _ _ _ _ h => h) (by kernel_rfl) hS.out ?y13 ?z13
  case y13 => intro W hW; change Sep W _ at hW; have d0 := hW.b2.2.1; have d1 := hW.b2.2.2.1; have c0 := hW.to1.b2.2.1; have c1 := hW.to1.b2.2.2.1; replace hW := Lib.hid hW; go_simp; try rfl
  case z13 =>
  simp only [Act.put, List.setIfInBounds_toArray, List.set_cons_succ, List.set_cons_zero, List.getElem_toArray, List.getElem_cons_zero, List.getElem_cons_succ]
  refine held_take 14 ?v14 rfl (by kernel_rfl) (by kernel_rfl) (by kernel_rfl) (fun _ _ _ _ _ h => h) (by kernel_rfl) hS.out ?y14 ?z14
  case y14 => intro W hW; change Sep W _ at hW; have d0 := hW.b2.2.1; have d1 := hW.b2.2.2.1; have c0 := hW.to1.b2.2.1; have c1 := hW.to1.b2.2.2.1; replace hW := Lib.hid hW; go_simp; try rfl
  case z14 =>
  simp only [Act.put, List.setIfInBounds_toArray, List.set_cons_succ, List.set_cons_zero, List.getElem_toArray, List.getElem_cons_zero, List.getElem_cons_succ]
  refine wpAnyH_done (by kernel_rfl) ?_ _
  go_wp2_with fail
  go_ret
  exact ⟨rfl, hS.out.tail.tail.gold⟩
set_option maxHeartbeats 1000000 in
theorem under_anc (t r t' r' : Int) (w : World) (h : lv t r ≠ -1) (h2 : ¬(t = t' ∧ r = r')) : Calls Tryd.prog 11 #[(.agg #[.int .i64 t, .int .i64 r]), (.agg #[.int .i64 t', .int .i64 r'])] w fun e w' => e = .returned (.bool (undB t r t' r')) ∧ Below w.heap.size w w' := by
  have hS0 := Lib.hid (box2 w t r t' r')
  have e1 : (lv t r != -1) = true := bne_iff_ne.2 h
  have e2 := nmB_false h2
  replace h := Lib.hid h
  replace h2 := Lib.hid h2
  have hlv := h
  have hne := h2
  have hq := fun a b c d => run_eql_nm a b c d
  go_enter Tryd.func11, Tryd.ntmps11
  go_wp2_with fail
  have hS := Lib.hid (show (fun W : World => Sep W [blk (w.heap.size + 1) 23 #[Value.int .i64 (t'), Value.int .i64 (r')], blk w.heap.size 23 #[Value.int .i64 (t), Value.int .i64 (r)], old w]) _ from hS0.out.drew)
  refine held_begin (fun W : World => Sep W [blk (w.heap.size + 1) 23 #[Value.int .i64 (t'), Value.int .i64 (r')], blk w.heap.size 23 #[Value.int .i64 (t), Value.int .i64 (r)], old w]) (by kernel_rfl) hS.out ?_
  change wpAnyH _ _ _ _ _ 15 _ _ (World.drew _)
  refine held_take 0 ?v0 rfl (by kernel_rfl) (by kernel_rfl) (by kernel_rfl) (fun _ _ _ _ _ h => h) (by kernel_rfl) hS.out ?y0 ?z0
  case y0 => intro W hW; change Sep W _ at hW; have d0 := hW.b2.2.1; have d1 := hW.b2.2.2.1; have c0 := hW.to1.b2.2.1; have c1 := hW.to1.b2.2.2.1; replace hW := Lib.hid hW; go_simp; try rfl
  case z0 =>
  simp only [Act.put, List.setIfInBounds_toArray, List.set_cons_succ, List.set_cons_zero, List.getElem_toArray, List.getElem_cons_zero, List.getElem_cons_succ]
  refine held_one 1 (by kernel_rfl) rfl (by kernel_rfl) (fun K hK => ?_)
  go_simp
  refine (level_any _ _ _).mono ?_
  rintro e w1 ⟨rfl, b1⟩
  replace hS := Lib.hid (hS.out.below b1)
  clear b1
  refine hK.out _ _ hS.out ?_
  clear hK K
  try simp only [Act.put, List.setIfInBounds_toArray, List.set_cons_succ, List.set_cons_zero, List.getElem_toArray, List.getElem_cons_zero, List.getElem_cons_succ]
  refine held_take 2 ?v2 rfl (by kernel_rfl) (by kernel_rfl) (by kernel_rfl) (fun _ _ _ _ _ h => h) (by kernel_rfl) hS.out ?y2 ?z2
  case y2 => intro W hW; change Sep W _ at hW; have d0 := hW.b2.2.1; have d1 := hW.b2.2.2.1; have c0 := hW.to1.b2.2.1; have c1 := hW.to1.b2.2.2.1; replace hW := Lib.hid hW; go_simp; try rfl
  case z2 =>
  simp only [Act.put, List.setIfInBounds_toArray, List.set_cons_succ, List.set_cons_zero, List.getElem_toArray, List.getElem_cons_zero, List.getElem_cons_succ]
  refine held_take 3 ?v3 rfl (by kernel_rfl) (by kernel_rfl) (by kernel_rfl) (fun _ _ _ _ _ h => h) (by kernel_rfl) hS.out ?y3 ?z3
  case y3 => intro W hW; change Sep W _ at hW; have d0 := hW.b2.2.1; have d1 := hW.b2.2.2.1; have c0 := hW.to1.b2.2.1; have c1 := hW.to1.b2.2.2.1; replace hW := Lib.hid hW; go_simp; try rfl
  case z3 =>
  simp only [Act.put, List.setIfInBounds_toArray, List.set_cons_succ, List.set_cons_zero, List.getElem_toArray, List.getElem_cons_zero, List.getElem_cons_succ]
  refine held_take 4 ?v4 rfl (by kernel_rfl) (by kernel_rfl) (by kernel_rfl) (fun _ _ _ _ _ h => h) (by kernel_rfl) hS.out ?y4 ?z4
  case y4 => intro W hW; change Sep W _ at hW; have d0 := hW.b2.2.1; have d1 := hW.b2.2.2.1; have c0 := hW.to1.b2.2.1; have c1 := hW.to1.b2.2.2.1; replace hW := Lib.hid hW; go_simp; try rfl
  case z4 =>
  simp only [Act.put, List.setIfInBounds_toArray, List.set_cons_succ, List.set_cons_zero, List.getElem_toArray, List.getElem_cons_zero, List.getElem_cons_succ]
  refine held_take 5 ?v5 rfl (by kernel_rfl) (by kernel_rfl) (by kernel_rfl) (fun _ _ _ _ _ h => h) (by kernel_rfl) hS.out ?y5 ?z5
  case y5 => intro W hW; change Sep W _ at hW; have d0 := hW.b2.2.1; have d1 := hW.b2.2.2.1; have c0 := hW.to1.b2.2.1; have c1 := hW.to1.b2.2.2.1; replace hW := Lib.hid hW; go_simp; try rfl
  case z5 =>
  simp only [Act.put, List.setIfInBounds_toArray, List.set_cons_succ, List.set_cons_zero, List.getElem_toArray, List.getElem_cons_zero, List.getElem_cons_succ]
  refine held_take 6 ?v6 rfl (by kernel_rfl) (by kernel_rfl) (by kernel_rfl) (fun _ _ _ _ _ h => h) (by kernel_rfl) hS.out ?y6 ?z6
  case y6 => intro W hW; change Sep W _ at hW; have d0 := hW.b2.2.1; have d1 := hW.b2.2.2.1; have c0 := hW.to1.b2.2.1; have c1 := hW.to1.b2.2.2.1; replace hW := Lib.hid hW; go_simp; try rfl
  case z6 =>
  simp only [Act.put, List.setIfInBounds_toArray, List.set_cons_succ, List.set_cons_zero, List.getElem_toArray, List.getElem_cons_zero, List.getElem_cons_succ]
  refine held_take 7 ?v7 rfl (by kernel_rfl) (by kernel_rfl) (by kernel_rfl) (fun _ _ _ _ _ h => h) (by kernel_rfl) hS.out ?y7 ?z7
  case y7 => intro W hW; change Sep W _ at hW; have d0 := hW.b2.2.1; have d1 := hW.b2.2.2.1; have c0 := hW.to1.b2.2.1; have c1 := hW.to1.b2.2.2.1; replace hW := Lib.hid hW; go_simp; try rfl
  case z7 =>
  simp only [Act.put, List.setIfInBounds_toArray, List.set_cons_succ, List.set_cons_zero, List.getElem_toArray, List.getElem_cons_zero, List.getElem_cons_succ]
  refine held_take 8 ?v8 rfl (by kernel_rfl) (by kernel_rfl) (by kernel_rfl) (fun _ _ _ _ _ h => h) (by kernel_rfl) hS.out ?y8 ?z8
  case y8 => intro W hW; change Sep W _ at hW; have d0 := hW.b2.2.1; have d1 := hW.b2.2.2.1; have c0 := hW.to1.b2.2.1; have c1 := hW.to1.b2.2.2.1; replace hW := Lib.hid hW; go_simp; try rfl
  case z8 =>
  simp only [Act.put, List.setIfInBounds_toArray, List.set_cons_succ, List.set_cons_zero, List.getElem_toArray, List.getElem_cons_zero, List.getElem_cons_succ]
  refine held_take 10 ?v10 rfl (by kernel_rfl) (by kernel_rfl) (by kernel_rfl) (fun _ _ _ _ _ h => h) (by kernel_rfl) hS.out ?y10 ?z10
  case y10 => intro W hW; change Sep W _ at hW; have d0 := hW.b2.2.1; have d1 := hW.b2.2.2.1; have c0 := hW.to1.b2.2.1; have c1 := hW.to1.b2.2.2.1; replace hW := Lib.hid hW; go_simp; try rfl
  case z10 =>
  simp only [Act.put, List.setIfInBounds_toArray, List.set_cons_succ, List.set_cons_zero, List.getElem_toArray, List.getElem_cons_zero, List.getElem_cons_succ]
  refine held_one 9 (by kernel_rfl) rfl (by kernel_rfl) (fun K hK => ?_)
  go_simp
  refine (ancestors_any _ _ _).mono ?_
  rintro e w2 ⟨g, k, rfl, hk, hA⟩
  have hRN := Lib.hid (anc_RN hk hA)
  replace hS := Lib.hid ((hA.graft hS.out).tail)
  replace hk := Lib.hid hk
  clear hA
  refine hK.out _ _ hS.out ?_
  clear hK K
  try simp only [Act.put, List.setIfInBounds_toArray, List.set_cons_succ, List.set_cons_zero, List.getElem_toArray, List.getElem_cons_zero, List.getElem_cons_succ]
  refine held_one 11 (by kernel_rfl) rfl (by kernel_rfl) (fun K hK => ?_)
  go_simp
  refine (containsN_any _ _ _ _ _ hRN.out (by simp only [ancL, List.length_take]; simp; omega)).mono ?_
  rintro e w3 ⟨rfl, b3⟩
  rw [und_anc hk.out hlv.out hne.out]
  replace hS := Lib.hid (hS.out.below b3)
  clear b3 hRN
  refine hK.out _ _ hS.out ?_
  clear hK K
  try simp only [Act.put, List.setIfInBounds_toArray, List.set_cons_succ, List.set_cons_zero, List.getElem_toArray, List.getElem_cons_zero, List.getElem_cons_succ]
  refine held_take 12 ?v12 rfl (by kernel_rfl) (by kernel_rfl) (by kernel_rfl) (fun _ _ _ _ _ h => h) (by kernel_rfl) hS.out ?y12 ?z12
  case y12 => intro W hW; change Sep W _ at hW; have d0 := hW.b2.2.1; have d1 := hW.b2.2.2.1; have c0 := hW.to1.b2.2.1; have c1 := hW.to1.b2.2.2.1; replace hW := Lib.hid hW; go_simp; try rfl
  case z12 =>
  simp only [Act.put, List.setIfInBounds_toArray, List.set_cons_succ, List.set_cons_zero, List.getElem_toArray, List.getElem_cons_zero, List.getElem_cons_succ]
  refine held_take 13 ?v13 rfl (by kernel_rfl) (by kernel_rfl) (by kernel_rfl) (fun _ _ _ _ _ h => h) (by kernel_rfl) hS.out ?y13 ?z13
  case y13 => intro W hW; change Sep W _ at hW; have d0 := hW.b2.2.1; have d1 := hW.b2.2.2.1; have c0 := hW.to1.b2.2.1; have c1 := hW.to1.b2.2.2.1; replace hW := Lib.hid hW; go_simp; try rfl
  case z13 =>
  simp only [Act.put, List.setIfInBounds_toArray, List.set_cons_succ, List.set_cons_zero, List.getElem_toArray, List.getElem_cons_zero, List.getElem_cons_succ]
  refine held_take 14 ?v14 rfl (by kernel_rfl) (by kernel_rfl) (by kernel_rfl) (fun _ _ _ _ _ h => h) (by kernel_rfl) hS.out ?y14 ?z14
  case y14 => intro W hW; change Sep W _ at hW; have d0 := hW.b2.2.1; have d1 := hW.b2.2.2.1; have c0 := hW.to1.b2.2.1; have c1 := hW.to1.b2.2.2.1; replace hW := Lib.hid hW; go_simp; try rfl
  case z14 =>
  simp only [Act.put, List.setIfInBounds_toArray, List.set_cons_succ, List.set_cons_zero, List.getElem_toArray, List.getElem_cons_zero, List.getElem_cons_succ]
  refine wpAnyH_done (by kernel_rfl) ?_ _
  go_wp2_with fail
  go_ret
  exact ⟨rfl, hS.out.tail.tail.gold⟩
theorem under_any (t r t' r' : Int) (w : World) : Calls Tryd.prog 11 #[(.agg #[.int .i64 t, .int .i64 r]), (.agg #[.int .i64 t', .int .i64 r'])] w fun e w' => e = .returned (.bool (undB t r t' r')) ∧ Below w.heap.size w w' := by
  by_cases h : lv t r = -1
  · rw [show undB t r t' r' = false by simp [undB, h]]
    exact under_no t r t' r' w h
  · by_cases h2 : t = t' ∧ r = r'
    · rw [show undB t r t' r' = true from decide_eq_true ⟨h, .inl h2⟩]
      exact under_eq t r t' r' w h h2
    · exact under_anc t r t' r' w h h2
end Go.Proofs.YtiaibmabmholaaaDoor
