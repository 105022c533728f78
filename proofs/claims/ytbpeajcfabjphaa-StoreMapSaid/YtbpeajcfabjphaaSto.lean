/-
  The store: New, was, Get, Put, Del. No condition beside a store that can be read.
-/
import Derived.Test.YtbpeajcfabjphaaMapN
import Derived.Test.YtbpeajcfabjphaaNmLv
import Derived.Test.YtbpeajcfabjphaaHx
import Derived.Deep.DeepCutAuto
namespace Go.Proofs.Ytbpeajcfabjphaa
open Go.RowKit
def evI (x : Int) : Value := .int .i64 x
abbrev Ent := List ((Int × Int) × Int)
/-- A store at p whose map is the block m. -/
def sto (p m : Nat) (E : Ent) (rs : List Res) : List Res := blk p 63 #[.map (some m)] :: mapr ekN evI m E :: rs
theorem zeroI (w : World) : (zeroValue 2).run Try.prog w = .ok (evI 0) w := by kernel_rfl
theorem snew_any (w : World) : Calls Try.prog 8 #[] w fun r w' => ∃ p m, r = .returned (.pointer (some ⟨p, 0, none⟩)) ∧ Sep w' (sto p m [] [old w]) := by
  have hmm := @run_makeMap Try.prog
  have h0 := ((Sep.start w).map_new ekN evI).alloc #[.map (some w.heap.size)] 63
  simp only [World.size_alloc] at h0
  replace h0 := Lib.hid h0
  go_enter Try.func8, Try.ntmps8
  go_wp2_with fail
  go_ret
  exact ⟨_, _, rfl, h0.out⟩
def isRec (n : Int × Int) : Bool := decide (lv n.1 n.2 = 2)
theorem rec_yes {t r : Int} (h : isRec (t, r) = true) : lv t r = 2 := by simpa [isRec] using h
theorem rec_no {t r : Int} (h : isRec (t, r) = false) : (lv t r == 2) = false ∧ (lv t r != 2) = true := by
  have : lv t r ≠ 2 := by simpa [isRec] using h
  have h1 : (lv t r == 2) = false := beq_eq_false_iff_ne.2 this
  exact ⟨h1, by rw [bne, h1]; rfl⟩
/-- What a record has, as a value. -/
def wasV (t r : Int) (E : Ent) : Value := .agg #[.int .i64 t, .int .i64 r, .int .i64 ((getL E (t, r)).getD 0), .bool (hasL E (t, r))]
def was0 : Value := .agg #[.int .i64 0, .int .i64 0, .int .i64 0, .bool false]
theorem look_val (E : Ent) (a : Int × Int) : ((getL E a).map evI).getD (evI 0) = .int .i64 ((getL E a).getD 0) := by cases getL E a <;> rfl
theorem was_boxes (w : World) (t r : Int) {rs : List Res} (h : Sep w rs) : Sep ((w.alloc (.cells #[.int .i64 t, .int .i64 r] 24)).alloc (.cells #[.int .i64 0, .int .i64 0, .int .i64 0, .bool false] 31)) (blk (w.heap.size + 1) 31 #[.int .i64 0, .int .i64 0, .int .i64 0, .bool false] :: blk w.heap.size 24 #[.int .i64 t, .int .i64 r] :: rs) := by
  have h0 := (h.alloc #[.int .i64 t, .int .i64 r] 24).alloc #[.int .i64 0, .int .i64 0, .int .i64 0, .bool false] 31
  rw [World.size_alloc] at h0
  exact h0
set_option maxHeartbeats 2000000 in
theorem was_bad (p m : Nat) (E : Ent) (t r : Int) (w : World) (rs : List Res) (hS : Sep w (sto p m E rs)) (h : isRec (t, r) = false) :
    Calls Try.prog 33 #[.pointer (some ⟨p, 0, none⟩), (.agg #[.int .i64 t, .int .i64 r])] w fun e w' => e = .returned (.tuple #[was0, .int .i64 2]) ∧ Sep w' (sto p m E rs) := by
  obtain ⟨h1, h2⟩ := rec_no h
  have HL := Lib.hid (fun W => level_any t r W)
  have hB := Lib.hid (was_boxes w t r hS)
  clear hS h
  generalize lv t r = x at *
  obtain ⟨_, d0, d1, _⟩ := hB.out.to1.b2
  go_enter Try.func33, Try.ntmps33
  go_wp2_with fail
  refine (HL.out _).mono ?_
  rintro e w1 ⟨rfl, q⟩
  replace hB := Lib.hid (hB.out.below q)
  clear q HL d0 d1
  obtain ⟨_, e0, e1, e2, e3, f0, f1, f2, f3⟩ := hB.out.b4
  go_wp2_with fail
  have hZ := (((hB.out.set 0 (.int .i64 0)).set 1 (.int .i64 0)).set 2 (.int .i64 0)).set 3 (.bool false)
  refine bodyPost_ret (v := .tuple #[was0, .int .i64 2]) (by simp [results, Try.results33, go_sem, was0, *]) rfl ⟨rfl, ?_⟩
  exact hZ.tail.tail
set_option maxHeartbeats 4000000 in
set_option maxRecDepth 100000 in
theorem was_good (p m : Nat) (E : Ent) (t r : Int) (w : World) (rs : List Res) (hS : Sep w (sto p m E rs)) (h : isRec (t, r) = true) :
    Calls Try.prog 33 #[.pointer (some ⟨p, 0, none⟩), (.agg #[.int .i64 t, .int .i64 r])] w fun e w' => e = .returned (.tuple #[wasV t r E, .int .i64 0]) ∧ Sep w' (sto p m E rs) := by
  have h1 := rec_yes h
  have HL := Lib.hid (fun W => level_any t r W)
  rw [h1] at HL
  have hB := Lib.hid (was_boxes w t r hS)
  clear hS h h1
  obtain ⟨_, d0, d1, _⟩ := hB.out.to1.b2
  unfold wasV
  generalize hgv : (getL E (t, r)).getD 0 = gv at *
  generalize hgh : hasL E (t, r) = gh at *
  replace hgv := Lib.hid hgv
  replace hgh := Lib.hid hgh
  go_enter Try.func33, Try.ntmps33
  go_wp2_with fail
  refine (HL.out _).mono ?_
  rintro e w1 ⟨rfl, q⟩
  replace hB := Lib.hid (hB.out.below q)
  clear q HL d0 d1
  go_wp2_with fail
  have hS := Lib.hid (show (fun W : World => Sep W (blk (w.heap.size + 1) 31 #[.int .i64 0, .int .i64 0, .int .i64 0, .bool false] :: blk w.heap.size 24 #[.int .i64 t, .int .i64 r] :: sto p m E rs)) _ from hB.out.drew)
  refine hl_begin (fun W : World => Sep W (blk (w.heap.size + 1) 31 #[.int .i64 0, .int .i64 0, .int .i64 0, .bool false] :: blk w.heap.size 24 #[.int .i64 t, .int .i64 r] :: sto p m E rs)) [(0, true), (1, true), (2, true), (3, true), (4, true), (5, true), (6, true), (7, true), (8, true), (9, true), (10, true)] (by kernel_rfl) (by kernel_rfl) (by kernel_rfl) rfl (fun _ _ _ _ _ h => h) hS.out ?_
  change HL _ _ _ _ _ _ (World.drew _)
  generalize World.drew _ = wd at *
  refine hl_take ?v1 rfl (by kernel_rfl) ?y1 ?z1
  case y1 => intro W hW; skip; replace hW := Lib.hid hW; go_simp; try rfl
  case z1 =>
  simp only [Act.put, List.setIfInBounds_toArray, List.set_cons_succ, List.set_cons_zero, List.getElem_toArray, List.getElem_cons_zero, List.getElem_cons_succ]
  refine hl_take ?v2 rfl (by kernel_rfl) ?y2 ?z2
  case y2 => intro W hW; skip; replace hW := Lib.hid hW; go_simp; try rfl
  case z2 =>
  simp only [Act.put, List.setIfInBounds_toArray, List.set_cons_succ, List.set_cons_zero, List.getElem_toArray, List.getElem_cons_zero, List.getElem_cons_succ]
  refine hl_take ?v3 rfl (by kernel_rfl) ?y3 ?z3
  case y3 => intro W hW; skip; replace hW := Lib.hid hW; go_simp; try rfl
  case z3 =>
  simp only [Act.put, List.setIfInBounds_toArray, List.set_cons_succ, List.set_cons_zero, List.getElem_toArray, List.getElem_cons_zero, List.getElem_cons_succ]
  refine hl_take ?v4 rfl (by kernel_rfl) ?y4 ?z4
  case y4 => intro W hW; change Sep W (_ :: _ :: _ :: _ :: _) at hW; obtain ⟨_, c0, _⟩ := hW.to2.b1; obtain ⟨_, d0, d1, _⟩ := hW.to1.b2; replace hW := Lib.hid hW; go_simp; try rfl
  case z4 =>
  simp only [Act.put, List.setIfInBounds_toArray, List.set_cons_succ, List.set_cons_zero, List.getElem_toArray, List.getElem_cons_zero, List.getElem_cons_succ]
  refine hl_take ?v5 rfl (by kernel_rfl) ?y5 ?z5
  case y5 => intro W hW; change Sep W (_ :: _ :: _ :: _ :: _) at hW; obtain ⟨_, c0, _⟩ := hW.to2.b1; obtain ⟨_, d0, d1, _⟩ := hW.to1.b2; replace hW := Lib.hid hW; go_simp; try rfl
  case z5 =>
  simp only [Act.put, List.setIfInBounds_toArray, List.set_cons_succ, List.set_cons_zero, List.getElem_toArray, List.getElem_cons_zero, List.getElem_cons_succ]
  refine hl_take ?v6 rfl (by kernel_rfl) ?y6 ?z6
  case y6 => intro W hW; change Sep W (_ :: _ :: _ :: _ :: _) at hW; have hk := run_lookup_map lawN Try.underlying61 hW.to3 (zeroI W) (t, r) true; rw [if_pos rfl, look_val] at hk; unfold ekN at hk; simp only at hk; rw [hgv.out, hgh.out] at hk; replace hW := Lib.hid hW; go_simp; try rfl
  case z6 =>
  simp only [Act.put, List.setIfInBounds_toArray, List.set_cons_succ, List.set_cons_zero, List.getElem_toArray, List.getElem_cons_zero, List.getElem_cons_succ]
  refine hl_take ?v7 rfl (by kernel_rfl) ?y7 ?z7
  case y7 => intro W hW; skip; replace hW := Lib.hid hW; go_simp; try rfl
  case z7 =>
  simp only [Act.put, List.setIfInBounds_toArray, List.set_cons_succ, List.set_cons_zero, List.getElem_toArray, List.getElem_cons_zero, List.getElem_cons_succ]
  refine hl_take ?v8 rfl (by kernel_rfl) ?y8 ?z8
  case y8 => intro W hW; skip; replace hW := Lib.hid hW; go_simp; try rfl
  case z8 =>
  simp only [Act.put, List.setIfInBounds_toArray, List.set_cons_succ, List.set_cons_zero, List.getElem_toArray, List.getElem_cons_zero, List.getElem_cons_succ]
  refine hl_take ?v9 rfl (by kernel_rfl) ?y9 ?z9
  case y9 => intro W hW; skip; replace hW := Lib.hid hW; go_simp; try rfl
  case z9 =>
  simp only [Act.put, List.setIfInBounds_toArray, List.set_cons_succ, List.set_cons_zero, List.getElem_toArray, List.getElem_cons_zero, List.getElem_cons_succ]
  refine hl_take ?v10 rfl (by kernel_rfl) ?y10 ?z10
  case y10 => intro W hW; skip; replace hW := Lib.hid hW; go_simp; try rfl
  case z10 =>
  simp only [Act.put, List.setIfInBounds_toArray, List.set_cons_succ, List.set_cons_zero, List.getElem_toArray, List.getElem_cons_zero, List.getElem_cons_succ]
  refine hl_take ?v11 rfl (by kernel_rfl) ?y11 ?z11
  case y11 => intro W hW; skip; replace hW := Lib.hid hW; go_simp; try rfl
  case z11 =>
  simp only [Act.put, List.setIfInBounds_toArray, List.set_cons_succ, List.set_cons_zero, List.getElem_toArray, List.getElem_cons_zero, List.getElem_cons_succ]
  refine hl_done ?_
  clear hB
  replace hB := hS
  clear hS
  obtain ⟨_, e0, e1, e2, e3, f0, f1, f2, f3⟩ := hB.out.b4
  obtain ⟨_, d0, d1, _⟩ := hB.out.to1.b2
  have hZ := Lib.hid ((((hB.out.set 0 (.int .i64 t)).set 1 (.int .i64 r)).set 2 (.int .i64 gv)).set 3 (.bool gh))
  obtain ⟨_, y0, y1, y2, y3, _⟩ := (show Sep _ (blk (w.heap.size + 1) 31 #[.int .i64 t, .int .i64 r, .int .i64 gv, .bool gh] :: _) from hZ.out).b4
  go_wp2_with fail
  refine bodyPost_ret (v := .tuple #[.agg #[.int .i64 t, .int .i64 r, .int .i64 gv, .bool gh], .int .i64 0]) (by simp [results, Try.results33, go_sem, *]) rfl ⟨rfl, ?_⟩
  exact hZ.out.tail.tail
set_option maxHeartbeats 4000000 in
set_option maxRecDepth 100000 in
theorem put_bad (p m : Nat) (E : Ent) (t r : Int) (v : Int) (w : World) (rs : List Res) (hS : Sep w (sto p m E rs)) (h : isRec (t, r) = false) :
    Calls Try.prog 9 #[.pointer (some ⟨p, 0, none⟩), (.agg #[.int .i64 t, .int .i64 r]), .int .i64 v] w fun e w' => e = .returned (.tuple #[was0, .int .i64 2]) ∧ Sep w' (sto p m E rs) := by
  have HW := Lib.hid (fun W rs' hS' => was_bad p m E t r W rs' hS' h)
  have hB := Lib.hid (was_boxes w t r hS)
  clear hS h
  obtain ⟨_, d0, d1, _⟩ := hB.out.to1.b2
  go_enter Try.func9, Try.ntmps9
  go_wp2_with fail
  refine (HW.out _ _ (show Sep _ (sto p m E (_ :: _ :: rs)) from hB.out.to3.to3)).mono ?_
  rintro e w1 ⟨rfl, q⟩
  have hC := Lib.hid (q.alloc #[.int .i64 0, .int .i64 0, .int .i64 0, .bool false] 31)
  unfold was0
  clear q HW d0 d1 hB
  obtain ⟨_, v0, v1, v2, v3, _⟩ := hC.out.b4
  obtain ⟨_, e0, e1, e2, e3, f0, f1, f2, f3⟩ := hC.out.to3.b4
  obtain ⟨_, d0, d1, _⟩ := hC.out.to4.b2
  have hZ := Lib.hid ((((hC.out.to3.set 0 (.int .i64 0)).set 1 (.int .i64 0)).set 2 (.int .i64 0)).set 3 (.bool false))
  go_wp2_with fail
  refine bodyPost_ret (v := .tuple #[.agg #[.int .i64 0, .int .i64 0, .int .i64 0, .bool false], .int .i64 2]) (by simp [results, Try.results9, go_sem, *]) rfl ⟨rfl, ?_⟩
  exact hZ.out.tail.tail.to2.tail
set_option maxHeartbeats 4000000 in
set_option maxRecDepth 100000 in
theorem del_bad (p m : Nat) (E : Ent) (t r : Int) (w : World) (rs : List Res) (hS : Sep w (sto p m E rs)) (h : isRec (t, r) = false) :
    Calls Try.prog 14 #[.pointer (some ⟨p, 0, none⟩), (.agg #[.int .i64 t, .int .i64 r])] w fun e w' => e = .returned (.tuple #[was0, .int .i64 2]) ∧ Sep w' (sto p m E rs) := by
  have HW := Lib.hid (fun W rs' hS' => was_bad p m E t r W rs' hS' h)
  have hB := Lib.hid (was_boxes w t r hS)
  clear hS h
  obtain ⟨_, d0, d1, _⟩ := hB.out.to1.b2
  go_enter Try.func14, Try.ntmps14
  go_wp2_with fail
  refine (HW.out _ _ (show Sep _ (sto p m E (_ :: _ :: rs)) from hB.out.to3.to3)).mono ?_
  rintro e w1 ⟨rfl, q⟩
  have hC := Lib.hid (q.alloc #[.int .i64 0, .int .i64 0, .int .i64 0, .bool false] 31)
  unfold was0
  clear q HW d0 d1 hB
  obtain ⟨_, v0, v1, v2, v3, _⟩ := hC.out.b4
  obtain ⟨_, e0, e1, e2, e3, f0, f1, f2, f3⟩ := hC.out.to3.b4
  obtain ⟨_, d0, d1, _⟩ := hC.out.to4.b2
  have hZ := Lib.hid ((((hC.out.to3.set 0 (.int .i64 0)).set 1 (.int .i64 0)).set 2 (.int .i64 0)).set 3 (.bool false))
  go_wp2_with fail
  refine bodyPost_ret (v := .tuple #[.agg #[.int .i64 0, .int .i64 0, .int .i64 0, .bool false], .int .i64 2]) (by simp [results, Try.results14, go_sem, *]) rfl ⟨rfl, ?_⟩
  exact hZ.out.tail.tail.to2.tail
end Go.Proofs.Ytbpeajcfabjphaa
