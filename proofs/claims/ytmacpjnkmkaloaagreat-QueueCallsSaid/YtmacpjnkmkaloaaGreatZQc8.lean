/-
  Contracts and plain laws that the walk leans on, part 8. No condition.
-/
import Derived.Test.YtmacpjnkmkaloaaGreatZQc7
namespace Go.Proofs.YtmacpjnkmkaloaaGreat
set_option linter.unusedSimpArgs false
set_option linter.unusedVariables false
set_option linter.unnecessarySimpa false
open Go.RowKit
theorem qcells_setF (l : List Rq) (i f : Nat) (u : Value) (q : Rq) (h : i < l.length) (hf : f < 5) (hq : (Rq.cells (l.getD i default)).set f u = Rq.cells q) : (qcells l).set (i * 5 + f) u = qcells (l.set i q) := by
  induction l generalizing i with
  | nil => simp at h
  | cons r l ih =>
    cases i with
    | zero =>
      simp only [List.getD, List.getElem?_cons_zero, Option.getD_some] at hq
      simp only [qcells, List.flatMap_cons, List.set_cons_zero, Nat.zero_mul, Nat.zero_add]
      rw [List.set_append_left _ _ (by simp [Rq.cells]; omega), hq]
    | succ i =>
      have e : (r :: l).getD (i + 1) default = l.getD i default := by simp [List.getD]
      rw [e] at hq
      have ih' := ih i (by simpa using h) hq
      simp only [qcells, List.flatMap_cons, List.set_cons_succ] at ih' ⊢
      rw [← ih', List.set_append_right _ _ (by simp [Rq.cells]; omega)]
      simp only [Rq.cells, List.length_cons, List.length_nil]
      rw [show (i + 1) * 5 + f - (0 + 1 + 1 + 1 + 1 + 1) = i * 5 + f by omega]
theorem Sep.vq_setF {w : World} {g m c i f : Nat} {l : List Rq} {rs : List Res} (h : Sep w (vq (.slice (some ⟨g, 0, none⟩) m c) l :: rs)) (hl : l.length = m) (hi : i < m) (hf : f < 5) (u : Value) (q : Rq) (hq : (Rq.cells (l.getD i default)).set f u = Rq.cells q) :
    Sep (w.setCell ⟨g, i * 5 + f, none⟩ u) (vq (.slice (some ⟨g, 0, none⟩) m c) (l.set i q) :: rs) := by
  subst hl
  have h1 : Sep w (vec 42 5 (.slice (some ⟨g, 0, none⟩) l.length c) l.length (qcells l) :: rs) := h
  have h2 := h1.vec_set (k := i * 5 + f) (by rw [qcells_len]; omega) u
  rw [qcells_setF l i f u q hi hf hq] at h2
  unfold vq
  rw [List.length_set]
  exact h2
theorem upB_set (l : List Rq) (i : Nat) (q : Rq) (hi : i < l.length) (hq : upB q = upB (l.getD i default)) : (l.set i q).any upB = l.any upB := by
  induction l generalizing i with
  | nil => rfl
  | cons r l ih =>
    cases i with
    | zero => simp only [List.getD, List.getElem?_cons_zero, Option.getD_some] at hq; simp [hq]
    | succ i =>
      have e : (r :: l).getD (i + 1) default = l.getD i default := by simp [List.getD]
      rw [e] at hq
      simp only [List.set_cons_succ, List.any_cons]
      rw [ih i (by simpa using hi) hq]
theorem fits_set (l : List Rq) (i : Nat) (q p : Rq) (hi : i < l.length) (hq : q.id = p.id) (hp : (l.getD i default).id = p.id) : (l.set i q).any (fitsP p) = l.any (fitsP p) := by
  induction l generalizing i with
  | nil => rfl
  | cons r l ih =>
    cases i with
    | zero =>
      simp only [List.getD, List.getElem?_cons_zero, Option.getD_some] at hp
      simp [fitsP, hq, hp]
    | succ i =>
      have e : (r :: l).getD (i + 1) default = l.getD i default := by simp [List.getD]
      rw [e] at hp
      simp only [List.set_cons_succ, List.any_cons]
      rw [ih i (by simpa using hi) hp]
theorem eg_upgrades : ∀ args w, (callFunc 55 args).run Tryz.prog w = .ok (.enter 55 args) w := enters_of Tryz.func55 (by kernel_rfl) rfl
theorem pred_up (w : World) : PredQ 55 #[] upB w := fun W r _ => by
  have H := upgrades_any r W
  show Calls Tryz.prog 55 #[r.val] W _
  exact H
theorem upP_arg (t r n : Int) (v : Value) (l : List Rq) (id0 mo : Int) (w : World) (hv : RQ w v l) (ha : askedB mo = false) :
    Calls Tryz.prog 13 #[hval t r v n, .int .i64 id0, .int .i64 mo] w fun e w' => e = .returned (.tuple #[zhd, .bool false, .int .i64 2]) ∧ Below w.heap.size w w' := by
  have hB := Lib.hid (boxes2 w 26 26 #[.int .i64 t, .int .i64 r, v, .int .i64 n] #[.int .i64 0, .int .i64 0, .slice none 0 0, .int .i64 0])
  have HA := Lib.hid (fun W => asked_any mo W)
  rw [ha] at HA
  clear ha
  obtain ⟨a, c, rfl, _⟩ := hv
  unfold hval at *
  go_enter Tryz.func13, Tryz.ntmps13
  go_wp2_with fail
  refine (HA.out _).mono ?_
  rintro e w0 ⟨rfl, rfl⟩
  go_wp2_with fail
  all_goals refine bodyPost_ret (v := .tuple #[.agg #[.int .i64 0, .int .i64 0, .slice none 0 0, .int .i64 0], .bool false, .int .i64 2]) (by simp [results, Tryz.results13, go_sem, *]) rfl ⟨rfl, ?_⟩
  all_goals exact hB.out.tail.tail.gold
theorem upP_none (t r n : Int) (v : Value) (l : List Rq) (id0 mo : Int) (w : World) (hv : RQ w v l) (hl : l.length ≤ 1000) (ha : askedB mo = true) (hi : plc l id0 = -1) :
    Calls Tryz.prog 13 #[hval t r v n, .int .i64 id0, .int .i64 mo] w fun e w' => e = .returned (.tuple #[zhd, .bool false, .int .i64 5]) ∧ Below w.heap.size w w' := by
  have hB := Lib.hid (boxes2 w 26 26 #[.int .i64 t, .int .i64 r, v, .int .i64 n] #[.int .i64 0, .int .i64 0, .slice none 0 0, .int .i64 0])
  have HA := Lib.hid (fun W => asked_any mo W)
  have HO := Lib.hid (own_any t r n v l _ (hv.below (two_boxes w #[.int .i64 t, .int .i64 r, v, .int .i64 n] #[.int .i64 0, .int .i64 0, .slice none 0 0, .int .i64 0] 26 26)) hl)
  rw [ha] at HA
  clear ha
  obtain ⟨a, c, rfl, _⟩ := hv
  unfold hval at *
  go_enter Tryz.func13, Tryz.ntmps13
  go_wp2_with fail
  refine (HA.out _).mono ?_
  rintro e w0 ⟨rfl, rfl⟩
  go_wp2_with fail
  refine HO.out.mono ?_
  rintro e w1 ⟨a1, c1, rfl, hS⟩
  have hS2 := (hS.graft hB.out).alloc #[.int .i64 t, .int .i64 r, .slice a1 l.length c1, .int .i64 n] 62
  have HP := Lib.hid (place_any t r n (.slice a1 l.length c1) l id0 _ hS2.to1.vq_rq hl)
  rw [show idxF (fun q : Rq => q.id == id0) l 0 = _ from hi] at HP
  unfold hval at HP
  obtain ⟨y1, d0, d1, d2, d3, g0, g1, g2, g3⟩ := hS2.b4
  replace hS2 := Lib.hid hS2
  clear hS HO HA hB
  go_wp2_with fail
  refine HP.out.mono ?_
  rintro e w2 ⟨rfl, b2⟩
  replace hS2 := Lib.hid (hS2.out.below b2)
  clear b2 HP y1 d0 d1 d2 d3 g0 g1 g2 g3
  obtain ⟨z1, k0, k1, k2, k3, m0, m1, m2, m3⟩ := hS2.out.to2.b4
  go_wp2_with fail
  refine bodyPost_ret (v := .tuple #[.agg #[.int .i64 0, .int .i64 0, .slice none 0 0, .int .i64 0], .bool false, .int .i64 5]) (by simp [results, Tryz.results13, go_sem, *]) rfl ⟨rfl, ?_⟩
  exact ((((hS2.out.to2.set 0 (.int .i64 0)).set 1 (.int .i64 0)).set 2 (.slice none 0 0)).set 3 (.int .i64 0)).tail.tail.tail.tail.gold
theorem upP_state (t r n : Int) (v : Value) (l : List Rq) (id0 mo : Int) (w : World) (hv : RQ w v l) (hl : l.length ≤ 1000) (ha : askedB mo = true) (i : Nat) (hi : plc l id0 = i) (hil : i < l.length) (hs : decide (0 < (l.getD i default).since) = true) :
    Calls Tryz.prog 13 #[hval t r v n, .int .i64 id0, .int .i64 mo] w fun e w' => e = .returned (.tuple #[zhd, .bool false, .int .i64 7]) ∧ Below w.heap.size w w' := by
  have hB := Lib.hid (boxes2 w 26 26 #[.int .i64 t, .int .i64 r, v, .int .i64 n] #[.int .i64 0, .int .i64 0, .slice none 0 0, .int .i64 0])
  have HA := Lib.hid (fun W => asked_any mo W)
  have HO := Lib.hid (own_any t r n v l _ (hv.below (two_boxes w #[.int .i64 t, .int .i64 r, v, .int .i64 n] #[.int .i64 0, .int .i64 0, .slice none 0 0, .int .i64 0] 26 26)) hl)
  rw [ha] at HA
  clear ha
  have i1 : (0 : Int) ≤ (i : Int) := by omega
  have i2 : (i : Int) < (l.length : Int) := by omega
  have d : decide ((i : Int) < 0) = false := by rw [decide_eq_false_iff_not]; omega
  obtain ⟨a, c, rfl, _⟩ := hv
  unfold hval at *
  go_enter Tryz.func13, Tryz.ntmps13
  go_wp2_with fail
  refine (HA.out _).mono ?_
  rintro e w0 ⟨rfl, rfl⟩
  go_wp2_with fail
  refine HO.out.mono ?_
  rintro e w1 ⟨a1, c1, rfl, hS⟩
  have hS2 := (hS.graft hB.out).alloc #[.int .i64 t, .int .i64 r, .slice a1 l.length c1, .int .i64 n] 62
  have HP := Lib.hid (place_any t r n (.slice a1 l.length c1) l id0 _ hS2.to1.vq_rq hl)
  rw [show idxF (fun q : Rq => q.id == id0) l 0 = _ from hi] at HP
  unfold hval at HP
  obtain ⟨y1, d0, d1, d2, d3, g0, g1, g2, g3⟩ := hS2.b4
  replace hS2 := Lib.hid hS2
  clear hS HO HA hB
  go_wp2_with fail
  refine HP.out.mono ?_
  rintro e w2 ⟨rfl, b2⟩
  replace hS2 := Lib.hid (hS2.out.below b2)
  clear b2 HP y1 d0 d1 d2 d3 g0 g1 g2 g3
  obtain ⟨g, rfl, hgl, hmc, q0, q1, q2, q3, q4, hfz⟩ := hS2.out.to1.vq_at rfl hil
  obtain ⟨y1, d0, d1, d2, d3, g0, g1, g2, g3⟩ := hS2.out.b4
  have HW := Lib.hid (fun W => waits_any (l.getD i default) W)
  rw [hs] at HW
  generalize hq : l.getD i default = q at *
  replace hq := Lib.hid hq
  obtain ⟨id, txn, mode, want, since⟩ := q
  unfold Rq.val at HW
  simp only at q0 q1 q2 q3 q4 HW
  go_wp2_with fail
  refine (HW.out _).mono ?_
  rintro e w3 ⟨rfl, b3⟩
  replace hS2 := Lib.hid (hS2.out.below b3)
  clear b3 HW q0 q1 q2 q3 q4 hfz y1 d0 d1 d2 d3 g0 g1 g2 g3 hgl
  obtain ⟨z1, k0, k1, k2, k3, m0, m1, m2, m3⟩ := hS2.out.to2.b4
  go_wp2_with fail
  refine bodyPost_ret (v := .tuple #[.agg #[.int .i64 0, .int .i64 0, .slice none 0 0, .int .i64 0], .bool false, .int .i64 7]) (by simp [results, Tryz.results13, go_sem, *]) rfl ⟨rfl, ?_⟩
  exact ((((hS2.out.to2.set 0 (.int .i64 0)).set 1 (.int .i64 0)).set 2 (.slice none 0 0)).set 3 (.int .i64 0)).tail.tail.tail.tail.gold
set_option maxHeartbeats 2000000 in
set_option maxRecDepth 100000 in
theorem upP_same (t r n : Int) (v : Value) (l : List Rq) (id0 mo : Int) (w : World) (hv : RQ w v l) (hl : l.length ≤ 1000) (ha : askedB mo = true) (i : Nat) (hi : plc l id0 = i) (hil : i < l.length) (hs : decide (0 < (l.getD i default).since) = false) (hu : supV (l.getD i default).mode mo = (l.getD i default).mode) :
    Calls Tryz.prog 13 #[hval t r v n, .int .i64 id0, .int .i64 mo] w fun e w' => ∃ a c, e = .returned (.tuple #[hval t r (.slice a l.length c) n, .bool true, .int .i64 0]) ∧ Sep w' [vq (.slice a l.length c) (l.set i { upQ (l.getD i default) mo with mode := supV (l.getD i default).mode mo }), old w] := by
  obtain ⟨R, hR⟩ : ∃ R, (l.set i { upQ (l.getD i default) mo with mode := supV (l.getD i default).mode mo }) = R := ⟨_, rfl⟩
  rw [hR]
  replace hR := Lib.hid hR
  replace hu := Lib.hid hu
  have hB := Lib.hid (boxes2 w 26 26 #[.int .i64 t, .int .i64 r, v, .int .i64 n] #[.int .i64 0, .int .i64 0, .slice none 0 0, .int .i64 0])
  have HA := Lib.hid (fun W => asked_any mo W)
  have HO := Lib.hid (own_any t r n v l _ (hv.below (two_boxes w #[.int .i64 t, .int .i64 r, v, .int .i64 n] #[.int .i64 0, .int .i64 0, .slice none 0 0, .int .i64 0] 26 26)) hl)
  rw [ha] at HA
  clear ha
  have i1 : (0 : Int) ≤ (i : Int) := by omega
  have i2 : (i : Int) < (l.length : Int) := by omega
  have d : decide ((i : Int) < 0) = false := by rw [decide_eq_false_iff_not]; omega
  obtain ⟨a, c, rfl, _⟩ := hv
  unfold hval at *
  go_enter Tryz.func13, Tryz.ntmps13
  go_wp2_with fail
  refine (HA.out _).mono ?_
  rintro e w0 ⟨rfl, rfl⟩
  go_wp2_with fail
  refine HO.out.mono ?_
  rintro e w1 ⟨a1, c1, rfl, hS⟩
  have hS2 := (hS.graft hB.out).alloc #[.int .i64 t, .int .i64 r, .slice a1 l.length c1, .int .i64 n] 62
  have HP := Lib.hid (place_any t r n (.slice a1 l.length c1) l id0 _ hS2.to1.vq_rq hl)
  rw [show idxF (fun q : Rq => q.id == id0) l 0 = _ from hi] at HP
  unfold hval at HP
  obtain ⟨y1, d0, d1, d2, d3, g0, g1, g2, g3⟩ := hS2.b4
  replace hS2 := Lib.hid hS2
  clear hS HO HA hB
  go_wp2_with fail
  refine HP.out.mono ?_
  rintro e w2 ⟨rfl, b2⟩
  replace hS2 := Lib.hid (hS2.out.below b2)
  clear b2 HP y1 d0 d1 d2 d3 g0 g1 g2 g3
  generalize w1.heap.size = V at *
  obtain ⟨g, rfl, hgl, hmc, q0, q1, q2, q3, q4, hfz⟩ := hS2.out.to1.vq_at rfl hil
  obtain ⟨y1, d0, d1, d2, d3, g0, g1, g2, g3⟩ := hS2.out.b4
  have HW := Lib.hid (fun W => waits_any (l.getD i default) W)
  rw [hs] at HW
  generalize hq : l.getD i default = q at *
  replace hq := Lib.hid hq
  obtain ⟨id, txn, mode, want, since⟩ := q
  unfold Rq.val at HW
  simp only at q0 q1 q2 q3 q4 HW
  go_wp2_with fail
  refine (HW.out _).mono ?_
  rintro e w3 ⟨rfl, b3⟩
  replace hS2 := Lib.hid (hS2.out.below b3)
  clear b3 HW q0 q1 q2 q3 q4 hfz y1 d0 d1 d2 d3 g0 g1 g2 g3 hgl
  obtain ⟨g', hg', hgl, _, q0, q1, q2, q3, q4, hfz⟩ := hS2.out.to1.vq_at rfl hil
  injection hg' with hg'
  injection hg' with hg'
  subst hg'
  rw [hq.out] at q0 q1 q2 q3 q4
  simp only at q0 q1 q2 q3 q4
  obtain ⟨y1, d0, d1, d2, d3, g0, g1, g2, g3⟩ := hS2.out.b4
  have z3 := hfz (i * 5 + 3)
  have HU := Lib.hid (fun W => sup_any mode mo W)
  have hS3 := Lib.hid (fun W hb => hS2.out.to1.below (w' := W) hb)
  have eg := eg_upgrades
  go_wp2_with fail
  refine (HU.out _).mono ?_
  rintro e w4 ⟨rfl, b4⟩
  replace hS3 := Lib.hid (hS3.out _ b4)
  clear b4 HU q0 q1 q2 q3 q4 hfz y1 d0 d1 d2 d3 g0 g1 g2 g3 hgl z3 hS2
  obtain ⟨g', hg', hgl, _, q0, q1, q2, q3, q4, hfz⟩ := hS3.out.vq_at rfl hil
  injection hg' with hg'
  injection hg' with hg'
  subst hg'
  rw [hq.out] at q0 q1 q2 q3 q4
  simp only at q0 q1 q2 q3 q4
  have z3 := hfz (i * 5 + 3)
  have hS4 := hS3.out.vq_setF rfl hil (f := 3) (by omega) (.int .i64 (supV mode mo)) ⟨id, txn, mode, supV mode mo, since⟩ (by rw [hq.out]; rfl)
  obtain ⟨l1, hl1e⟩ : ∃ l1, l.set i (⟨id, txn, mode, supV mode mo, since⟩ : Rq) = l1 := ⟨_, rfl⟩
  rw [hl1e] at hS4
  have hl1 := Lib.hid (show l1.length = l.length by rw [← hl1e]; simp)
  have hq1 := Lib.hid (show l1.getD i default = (⟨id, txn, mode, supV mode mo, since⟩ : Rq) by rw [← hl1e, getD_set _ _ _ _ hil, if_pos rfl])
  replace hl1e := Lib.hid hl1e
  replace hS4 := Lib.hid hS4
  generalize hW1 : supV mode mo = W1 at *
  replace hW1 := Lib.hid hW1
  replace hu := hu.out
  subst hu
  go_wp2_with fail
  clear q0 q1 q2 q3 q4 hfz z3 hgl hS3
  have hS := Lib.hid (show (fun W : World => Sep W [vq (.slice (some ⟨g, 0, none⟩) l.length c1) l1, blk V 62 #[.int .i64 t, .int .i64 r, .slice (some ⟨g, 0, none⟩) l.length c1, .int .i64 n], blk (w.heap.size + 1) 26 #[.int .i64 0, .int .i64 0, .slice none 0 0, .int .i64 0], blk w.heap.size 26 #[.int .i64 t, .int .i64 r, .slice a l.length c, .int .i64 n], old w]) _ from hS4.out.drew)
  refine hl_begin (fun W : World => Sep W [vq (.slice (some ⟨g, 0, none⟩) l.length c1) l1, blk V 62 #[.int .i64 t, .int .i64 r, .slice (some ⟨g, 0, none⟩) l.length c1, .int .i64 n], blk (w.heap.size + 1) 26 #[.int .i64 0, .int .i64 0, .slice none 0 0, .int .i64 0], blk w.heap.size 26 #[.int .i64 t, .int .i64 r, .slice a l.length c, .int .i64 n], old w]) [(0, true), (1, true), (2, true), (3, true), (4, true), (5, true), (6, true), (7, true), (8, true), (9, true), (10, true), (11, true), (12, true), (13, true), (14, false), (15, true), (16, true), (17, true), (18, true), (19, false), (20, true), (21, true), (22, true), (23, true)] (by kernel_rfl) (by kernel_rfl) (by kernel_rfl) rfl (fun _ _ _ _ _ h => h) hS.out ?_
  change HL _ _ _ _ _ _ (World.drew _)
  generalize World.drew _ = wd at *
  refine hl_take ?v1 rfl (by kernel_rfl) ?y1 ?z1
  case y1 => intro W hW; skip; replace hW := Lib.hid hW; go_simp; try rfl
  case z1 =>
  simp only [Act.put, List.setIfInBounds_toArray, List.set_cons_succ, List.set_cons_zero, List.getElem_toArray, List.getElem_cons_zero, List.getElem_cons_succ]
  refine hl_take ?v2 rfl (by kernel_rfl) ?y2 ?z2
  case y2 => intro W hW; skip; replace hW := Lib.hid hW; go_simp; try rfl
  case z2 =>
  simp only [Act.put, List.setIfInBounds_toArray, List.set_cons_succ, List.set_cons_zero, List.getElem_toArray, List.getElem_cons_zero, List.getElem_cons_succ]
  refine hl_take ?v3 rfl (by kernel_rfl) ?y3 ?z3
  case y3 => intro W hW; skip; replace hW := Lib.hid hW; go_simp; try rfl
  case z3 =>
  simp only [Act.put, List.setIfInBounds_toArray, List.set_cons_succ, List.set_cons_zero, List.getElem_toArray, List.getElem_cons_zero, List.getElem_cons_succ]
  refine hl_take ?v4 rfl (by kernel_rfl) ?y4 ?z4
  case y4 => intro W hW; change Sep W _ at hW; obtain ⟨g', hg', hgl, hmc, q0, q1, q2, q3, q4, hfz⟩ := hW.vq_at hl1.out hil; injection hg' with hg'; injection hg' with hg'; subst hg'; rw [hq1.out] at q0 q1 q2 q3 q4; simp only at q0 q1 q2 q3 q4; obtain ⟨y1, d0, d1, d2, d3, g0, g1, g2, g3⟩ := hW.to1.b4; replace hW := Lib.hid hW; go_simp; try rfl
  case z4 =>
  simp only [Act.put, List.setIfInBounds_toArray, List.set_cons_succ, List.set_cons_zero, List.getElem_toArray, List.getElem_cons_zero, List.getElem_cons_succ]
  refine hl_take ?v5 rfl (by kernel_rfl) ?y5 ?z5
  case y5 => intro W hW; skip; replace hW := Lib.hid hW; go_simp; try rfl
  case z5 =>
  simp only [Act.put, List.setIfInBounds_toArray, List.set_cons_succ, List.set_cons_zero, List.getElem_toArray, List.getElem_cons_zero, List.getElem_cons_succ]
  refine hl_take ?v6 rfl (by kernel_rfl) ?y6 ?z6
  case y6 => intro W hW; skip; replace hW := Lib.hid hW; go_simp; try rfl
  case z6 =>
  simp only [Act.put, List.setIfInBounds_toArray, List.set_cons_succ, List.set_cons_zero, List.getElem_toArray, List.getElem_cons_zero, List.getElem_cons_succ]
  refine hl_take ?v7 rfl (by kernel_rfl) ?y7 ?z7
  case y7 => intro W hW; skip; replace hW := Lib.hid hW; go_simp; try rfl
  case z7 =>
  simp only [Act.put, List.setIfInBounds_toArray, List.set_cons_succ, List.set_cons_zero, List.getElem_toArray, List.getElem_cons_zero, List.getElem_cons_succ]
  refine hl_take ?v8 rfl (by kernel_rfl) ?y8 ?z8
  case y8 => intro W hW; change Sep W _ at hW; obtain ⟨g', hg', hgl, hmc, q0, q1, q2, q3, q4, hfz⟩ := hW.vq_at hl1.out hil; injection hg' with hg'; injection hg' with hg'; subst hg'; rw [hq1.out] at q0 q1 q2 q3 q4; simp only at q0 q1 q2 q3 q4; obtain ⟨y1, d0, d1, d2, d3, g0, g1, g2, g3⟩ := hW.to1.b4; replace hW := Lib.hid hW; go_simp; try rfl
  case z8 =>
  simp only [Act.put, List.setIfInBounds_toArray, List.set_cons_succ, List.set_cons_zero, List.getElem_toArray, List.getElem_cons_zero, List.getElem_cons_succ]
  refine hl_take ?v9 rfl (by kernel_rfl) ?y9 ?z9
  case y9 => intro W hW; skip; replace hW := Lib.hid hW; go_simp; try rfl
  case z9 =>
  simp only [Act.put, List.setIfInBounds_toArray, List.set_cons_succ, List.set_cons_zero, List.getElem_toArray, List.getElem_cons_zero, List.getElem_cons_succ]
  refine hl_take ?v10 rfl (by kernel_rfl) ?y10 ?z10
  case y10 => intro W hW; skip; replace hW := Lib.hid hW; go_simp; try rfl
  case z10 =>
  simp only [Act.put, List.setIfInBounds_toArray, List.set_cons_succ, List.set_cons_zero, List.getElem_toArray, List.getElem_cons_zero, List.getElem_cons_succ]
  refine hl_skip rfl (by kernel_rfl) ?_
  simp only [Act.put, List.setIfInBounds_toArray, List.set_cons_succ, List.set_cons_zero, List.getElem_toArray, List.getElem_cons_zero, List.getElem_cons_succ]
  refine hl_skip rfl (by kernel_rfl) ?_
  simp only [Act.put, List.setIfInBounds_toArray, List.set_cons_succ, List.set_cons_zero, List.getElem_toArray, List.getElem_cons_zero, List.getElem_cons_succ]
  refine hl_skip rfl (by kernel_rfl) ?_
  simp only [Act.put, List.setIfInBounds_toArray, List.set_cons_succ, List.set_cons_zero, List.getElem_toArray, List.getElem_cons_zero, List.getElem_cons_succ]
  refine hl_skip rfl (by kernel_rfl) ?_
  simp only [Act.put, List.setIfInBounds_toArray, List.set_cons_succ, List.set_cons_zero, List.getElem_toArray, List.getElem_cons_zero, List.getElem_cons_succ]
  refine hl_skip1 rfl (by kernel_rfl) ?_
  simp only [Act.put, List.setIfInBounds_toArray, List.set_cons_succ, List.set_cons_zero, List.getElem_toArray, List.getElem_cons_zero, List.getElem_cons_succ]
  refine hl_skip rfl (by kernel_rfl) ?_
  simp only [Act.put, List.setIfInBounds_toArray, List.set_cons_succ, List.set_cons_zero, List.getElem_toArray, List.getElem_cons_zero, List.getElem_cons_succ]
  refine hl_skip rfl (by kernel_rfl) ?_
  simp only [Act.put, List.setIfInBounds_toArray, List.set_cons_succ, List.set_cons_zero, List.getElem_toArray, List.getElem_cons_zero, List.getElem_cons_succ]
  refine hl_skip rfl (by kernel_rfl) ?_
  simp only [Act.put, List.setIfInBounds_toArray, List.set_cons_succ, List.set_cons_zero, List.getElem_toArray, List.getElem_cons_zero, List.getElem_cons_succ]
  refine hl_skip rfl (by kernel_rfl) ?_
  simp only [Act.put, List.setIfInBounds_toArray, List.set_cons_succ, List.set_cons_zero, List.getElem_toArray, List.getElem_cons_zero, List.getElem_cons_succ]
  refine hl_skip1 rfl (by kernel_rfl) ?_
  simp only [Act.put, List.setIfInBounds_toArray, List.set_cons_succ, List.set_cons_zero, List.getElem_toArray, List.getElem_cons_zero, List.getElem_cons_succ]
  refine hl_skip rfl (by kernel_rfl) ?_
  simp only [Act.put, List.setIfInBounds_toArray, List.set_cons_succ, List.set_cons_zero, List.getElem_toArray, List.getElem_cons_zero, List.getElem_cons_succ]
  refine hl_skip rfl (by kernel_rfl) ?_
  simp only [Act.put, List.setIfInBounds_toArray, List.set_cons_succ, List.set_cons_zero, List.getElem_toArray, List.getElem_cons_zero, List.getElem_cons_succ]
  refine hl_take ?v11 rfl (by kernel_rfl) ?y11 ?z11
  case y11 => intro W hW; skip; replace hW := Lib.hid hW; go_simp; try rfl
  case z11 =>
  simp only [Act.put, List.setIfInBounds_toArray, List.set_cons_succ, List.set_cons_zero, List.getElem_toArray, List.getElem_cons_zero, List.getElem_cons_succ]
  refine hl_take ?v12 rfl (by kernel_rfl) ?y12 ?z12
  case y12 => intro W hW; skip; replace hW := Lib.hid hW; go_simp; try rfl
  case z12 =>
  simp only [Act.put, List.setIfInBounds_toArray, List.set_cons_succ, List.set_cons_zero, List.getElem_toArray, List.getElem_cons_zero, List.getElem_cons_succ]
  refine hl_done ?_
  clear hS4
  replace hS4 := hS
  clear hS
  obtain ⟨g', hg', hgl, _, q0, q1, q2, q3, q4, hfz⟩ := (show Sep _ _ from hS4.out).vq_at hl1.out hil
  injection hg' with hg'
  injection hg' with hg'
  subst hg'
  rw [hq1.out] at q0 q1 q2 q3 q4
  simp only at q0 q1 q2 q3 q4
  have z2 := hfz (i * 5 + 2)
  obtain ⟨y1, d0, d1, d2, d3, g0, g1, g2, g3⟩ := (show Sep _ _ from hS4.out).to1.b4
  obtain ⟨x1, c0, c1', c2, c3, k0, k1, k2, k3⟩ := (show Sep _ _ from hS4.out).to2.b4
  have n1 := (show Sep _ _ from hS4.out).vq_ne hl1.out
  have n2 := (show Sep _ _ from hS4.out).to2.to1.vq_ne hl1.out
  have n3 := n1.symm
  have n4 := n2.symm
  go_wp2_with fail
  refine bodyPost_ret (v := .tuple #[.agg #[.int .i64 t, .int .i64 r, .slice (some ⟨g, 0, none⟩) l.length c1, .int .i64 n], .bool true, .int .i64 0]) (by simp [results, Tryz.results13, go_sem, *]) rfl ⟨some ⟨g, 0, none⟩, c1, rfl, ?_⟩
  have hS5 := (show Sep _ _ from hS4.out).vq_setF hl1.out hil (f := 2) (by omega) (.int .i64 W1) ⟨id, txn, W1, W1, since⟩ (by rw [hq1.out]; rfl)
  have e5 : l1.set i (⟨id, txn, W1, W1, since⟩ : Rq) = R := by
    have h1 := hR.out
    simp only [upQ, hW1.out] at h1
    rw [← hl1e.out, List.set_set]
    exact h1
  rw [e5] at hS5
  exact (((((hS5.to2.set 0 (.int .i64 t)).set 1 (.int .i64 r)).set 2 (.slice (some ⟨g, 0, none⟩) l.length c1)).set 3 (.int .i64 n)).tail.drop1.drop1)
set_option maxHeartbeats 2000000 in
set_option maxRecDepth 100000 in
theorem upP_grant (t r n : Int) (v : Value) (l : List Rq) (id0 mo : Int) (w : World) (hv : RQ w v l) (hl : l.length ≤ 1000) (ha : askedB mo = true) (i : Nat) (hi : plc l id0 = i) (hil : i < l.length) (hs : decide (0 < (l.getD i default).since) = false) (hu : supV (l.getD i default).mode mo ≠ (l.getD i default).mode) (hf : l.any (fitsP (upQ (l.getD i default) mo)) = false) (hup : l.any upB = false) :
    Calls Tryz.prog 13 #[hval t r v n, .int .i64 id0, .int .i64 mo] w fun e w' => ∃ a c, e = .returned (.tuple #[hval t r (.slice a l.length c) n, .bool true, .int .i64 0]) ∧ Sep w' [vq (.slice a l.length c) (l.set i { upQ (l.getD i default) mo with mode := supV (l.getD i default).mode mo }), old w] := by
  obtain ⟨R, hR⟩ : ∃ R, (l.set i { upQ (l.getD i default) mo with mode := supV (l.getD i default).mode mo }) = R := ⟨_, rfl⟩
  rw [hR]
  replace hR := Lib.hid hR
  replace hu := Lib.hid hu
  have hB := Lib.hid (boxes2 w 26 26 #[.int .i64 t, .int .i64 r, v, .int .i64 n] #[.int .i64 0, .int .i64 0, .slice none 0 0, .int .i64 0])
  have HA := Lib.hid (fun W => asked_any mo W)
  have HO := Lib.hid (own_any t r n v l _ (hv.below (two_boxes w #[.int .i64 t, .int .i64 r, v, .int .i64 n] #[.int .i64 0, .int .i64 0, .slice none 0 0, .int .i64 0] 26 26)) hl)
  rw [ha] at HA
  clear ha
  have i1 : (0 : Int) ≤ (i : Int) := by omega
  have i2 : (i : Int) < (l.length : Int) := by omega
  have d : decide ((i : Int) < 0) = false := by rw [decide_eq_false_iff_not]; omega
  obtain ⟨a, c, rfl, _⟩ := hv
  unfold hval at *
  go_enter Tryz.func13, Tryz.ntmps13
  go_wp2_with fail
  refine (HA.out _).mono ?_
  rintro e w0 ⟨rfl, rfl⟩
  go_wp2_with fail
  refine HO.out.mono ?_
  rintro e w1 ⟨a1, c1, rfl, hS⟩
  have hS2 := (hS.graft hB.out).alloc #[.int .i64 t, .int .i64 r, .slice a1 l.length c1, .int .i64 n] 62
  have HP := Lib.hid (place_any t r n (.slice a1 l.length c1) l id0 _ hS2.to1.vq_rq hl)
  rw [show idxF (fun q : Rq => q.id == id0) l 0 = _ from hi] at HP
  unfold hval at HP
  obtain ⟨y1, d0, d1, d2, d3, g0, g1, g2, g3⟩ := hS2.b4
  replace hS2 := Lib.hid hS2
  clear hS HO HA hB
  go_wp2_with fail
  refine HP.out.mono ?_
  rintro e w2 ⟨rfl, b2⟩
  replace hS2 := Lib.hid (hS2.out.below b2)
  clear b2 HP y1 d0 d1 d2 d3 g0 g1 g2 g3
  generalize w1.heap.size = V at *
  obtain ⟨g, rfl, hgl, hmc, q0, q1, q2, q3, q4, hfz⟩ := hS2.out.to1.vq_at rfl hil
  obtain ⟨y1, d0, d1, d2, d3, g0, g1, g2, g3⟩ := hS2.out.b4
  have HW := Lib.hid (fun W => waits_any (l.getD i default) W)
  rw [hs] at HW
  generalize hq : l.getD i default = q at *
  replace hq := Lib.hid hq
  obtain ⟨id, txn, mode, want, since⟩ := q
  unfold Rq.val at HW
  simp only at q0 q1 q2 q3 q4 HW
  go_wp2_with fail
  refine (HW.out _).mono ?_
  rintro e w3 ⟨rfl, b3⟩
  replace hS2 := Lib.hid (hS2.out.below b3)
  clear b3 HW q0 q1 q2 q3 q4 hfz y1 d0 d1 d2 d3 g0 g1 g2 g3 hgl
  obtain ⟨g', hg', hgl, _, q0, q1, q2, q3, q4, hfz⟩ := hS2.out.to1.vq_at rfl hil
  injection hg' with hg'
  injection hg' with hg'
  subst hg'
  rw [hq.out] at q0 q1 q2 q3 q4
  simp only at q0 q1 q2 q3 q4
  obtain ⟨y1, d0, d1, d2, d3, g0, g1, g2, g3⟩ := hS2.out.b4
  have z3 := hfz (i * 5 + 3)
  have HU := Lib.hid (fun W => sup_any mode mo W)
  have hS3 := Lib.hid (fun W hb => hS2.out.to1.below (w' := W) hb)
  have eg := eg_upgrades
  go_wp2_with fail
  refine (HU.out _).mono ?_
  rintro e w4 ⟨rfl, b4⟩
  replace hS3 := Lib.hid (hS3.out _ b4)
  clear b4 HU q0 q1 q2 q3 q4 hfz y1 d0 d1 d2 d3 g0 g1 g2 g3 hgl z3 hS2
  obtain ⟨g', hg', hgl, _, q0, q1, q2, q3, q4, hfz⟩ := hS3.out.vq_at rfl hil
  injection hg' with hg'
  injection hg' with hg'
  subst hg'
  rw [hq.out] at q0 q1 q2 q3 q4
  simp only at q0 q1 q2 q3 q4
  have z3 := hfz (i * 5 + 3)
  have hS4 := hS3.out.vq_setF rfl hil (f := 3) (by omega) (.int .i64 (supV mode mo)) ⟨id, txn, mode, supV mode mo, since⟩ (by rw [hq.out]; rfl)
  obtain ⟨l1, hl1e⟩ : ∃ l1, l.set i (⟨id, txn, mode, supV mode mo, since⟩ : Rq) = l1 := ⟨_, rfl⟩
  rw [hl1e] at hS4
  have hl1 := Lib.hid (show l1.length = l.length by rw [← hl1e]; simp)
  have hq1 := Lib.hid (show l1.getD i default = (⟨id, txn, mode, supV mode mo, since⟩ : Rq) by rw [← hl1e, getD_set _ _ _ _ hil, if_pos rfl])
  replace hl1e := Lib.hid hl1e
  replace hS4 := Lib.hid hS4
  generalize hW1 : supV mode mo = W1 at *
  replace hW1 := Lib.hid hW1
  have hfv : l1.any (fitsP (⟨id, txn, mode, W1, since⟩ : Rq)) = false := by
    rw [← hl1e.out, fits_set l i _ _ hil rfl (by rw [hq.out]), ← hW1.out]
    exact hf
  have hqr := Lib.hid (show ∀ W, RQ W (.slice (some ⟨g, 0, none⟩) l.length c1) l1 → Calls Tryz.prog 45 #[hval t r (.slice (some ⟨g, 0, none⟩) l.length c1) n, (⟨id, txn, mode, W1, since⟩ : Rq).val] W fun e w' => e = .returned (.bool !(l1.any (fitsP (⟨id, txn, mode, W1, since⟩ : Rq)))) ∧ Below W.heap.size W w' from fun W h => fits_any t r n _ l1 _ W h (by rw [hl1.out]; exact hl))
  rw [hfv] at hqr
  simp only [Bool.not_true, Bool.not_false] at hqr
  have HF := hqr
  unfold hval Rq.val at HF
  clear hqr hfv
  have hcv : l1.any upB = false := by
    rw [← hl1e.out, upB_set l i _ hil (by rw [hq.out]; rfl)]
    exact hup
  have HC := Lib.hid (show ∀ W, RQ W (.slice (some ⟨g, 0, none⟩) l.length c1) l1 → Calls Tryz.prog 35 #[.slice (some ⟨g, 0, none⟩) l.length c1, .func (.func 55) #[] #[]] W fun e w' => e = .returned (.bool (l1.any upB)) ∧ Below W.heap.size W w' from fun W h => contains_any _ l1 _ _ _ W h (by rw [hl1.out]; exact hl) (pred_up W) eg_upgrades)
  rw [hcv] at HC
  clear hcv
  have hu2 : (W1 == mode) = false := by simpa using hu.out
  replace hu := hu2
  clear hu2
  have hu2 : ¬ W1 = mode := by simpa using hu
  go_wp2_with fail
  clear q0 q1 q2 q3 q4 hfz z3 hgl hS3
  have hS := Lib.hid (show (fun W : World => Sep W [vq (.slice (some ⟨g, 0, none⟩) l.length c1) l1, blk V 62 #[.int .i64 t, .int .i64 r, .slice (some ⟨g, 0, none⟩) l.length c1, .int .i64 n], blk (w.heap.size + 1) 26 #[.int .i64 0, .int .i64 0, .slice none 0 0, .int .i64 0], blk w.heap.size 26 #[.int .i64 t, .int .i64 r, .slice a l.length c, .int .i64 n], old w]) _ from hS4.out.drew)
  refine hl_begin (fun W : World => Sep W [vq (.slice (some ⟨g, 0, none⟩) l.length c1) l1, blk V 62 #[.int .i64 t, .int .i64 r, .slice (some ⟨g, 0, none⟩) l.length c1, .int .i64 n], blk (w.heap.size + 1) 26 #[.int .i64 0, .int .i64 0, .slice none 0 0, .int .i64 0], blk w.heap.size 26 #[.int .i64 t, .int .i64 r, .slice a l.length c, .int .i64 n], old w]) [(0, true), (1, true), (2, true), (3, true), (4, true), (5, true), (6, true), (7, true), (8, true), (9, true), (10, true), (11, true), (12, true), (13, true), (14, false), (15, true), (16, true), (17, true), (18, true), (19, false), (20, true), (21, true), (22, true), (23, true)] (by kernel_rfl) (by kernel_rfl) (by kernel_rfl) rfl (fun _ _ _ _ _ h => h) hS.out ?_
  change HL _ _ _ _ _ _ (World.drew _)
  generalize World.drew _ = wd at *
  refine hl_take ?v13 rfl (by kernel_rfl) ?y13 ?z13
  case y13 => intro W hW; skip; replace hW := Lib.hid hW; go_simp; try rfl
  case z13 =>
  simp only [Act.put, List.setIfInBounds_toArray, List.set_cons_succ, List.set_cons_zero, List.getElem_toArray, List.getElem_cons_zero, List.getElem_cons_succ]
  refine hl_take ?v14 rfl (by kernel_rfl) ?y14 ?z14
  case y14 => intro W hW; skip; replace hW := Lib.hid hW; go_simp; try rfl
  case z14 =>
  simp only [Act.put, List.setIfInBounds_toArray, List.set_cons_succ, List.set_cons_zero, List.getElem_toArray, List.getElem_cons_zero, List.getElem_cons_succ]
  refine hl_take ?v15 rfl (by kernel_rfl) ?y15 ?z15
  case y15 => intro W hW; skip; replace hW := Lib.hid hW; go_simp; try rfl
  case z15 =>
  simp only [Act.put, List.setIfInBounds_toArray, List.set_cons_succ, List.set_cons_zero, List.getElem_toArray, List.getElem_cons_zero, List.getElem_cons_succ]
  refine hl_take ?v16 rfl (by kernel_rfl) ?y16 ?z16
  case y16 => intro W hW; change Sep W _ at hW; obtain ⟨g', hg', hgl, hmc, q0, q1, q2, q3, q4, hfz⟩ := hW.vq_at hl1.out hil; injection hg' with hg'; injection hg' with hg'; subst hg'; rw [hq1.out] at q0 q1 q2 q3 q4; simp only at q0 q1 q2 q3 q4; obtain ⟨y1, d0, d1, d2, d3, g0, g1, g2, g3⟩ := hW.to1.b4; replace hW := Lib.hid hW; go_simp; try rfl
  case z16 =>
  simp only [Act.put, List.setIfInBounds_toArray, List.set_cons_succ, List.set_cons_zero, List.getElem_toArray, List.getElem_cons_zero, List.getElem_cons_succ]
  refine hl_take ?v17 rfl (by kernel_rfl) ?y17 ?z17
  case y17 => intro W hW; skip; replace hW := Lib.hid hW; go_simp; try rfl
  case z17 =>
  simp only [Act.put, List.setIfInBounds_toArray, List.set_cons_succ, List.set_cons_zero, List.getElem_toArray, List.getElem_cons_zero, List.getElem_cons_succ]
  refine hl_take ?v18 rfl (by kernel_rfl) ?y18 ?z18
  case y18 => intro W hW; skip; replace hW := Lib.hid hW; go_simp; try rfl
  case z18 =>
  simp only [Act.put, List.setIfInBounds_toArray, List.set_cons_succ, List.set_cons_zero, List.getElem_toArray, List.getElem_cons_zero, List.getElem_cons_succ]
  refine hl_take ?v19 rfl (by kernel_rfl) ?y19 ?z19
  case y19 => intro W hW; skip; replace hW := Lib.hid hW; go_simp; try rfl
  case z19 =>
  simp only [Act.put, List.setIfInBounds_toArray, List.set_cons_succ, List.set_cons_zero, List.getElem_toArray, List.getElem_cons_zero, List.getElem_cons_succ]
  refine hl_take ?v20 rfl (by kernel_rfl) ?y20 ?z20
  case y20 => intro W hW; change Sep W _ at hW; obtain ⟨g', hg', hgl, hmc, q0, q1, q2, q3, q4, hfz⟩ := hW.vq_at hl1.out hil; injection hg' with hg'; injection hg' with hg'; subst hg'; rw [hq1.out] at q0 q1 q2 q3 q4; simp only at q0 q1 q2 q3 q4; obtain ⟨y1, d0, d1, d2, d3, g0, g1, g2, g3⟩ := hW.to1.b4; replace hW := Lib.hid hW; go_simp; try rfl
  case z20 =>
  simp only [Act.put, List.setIfInBounds_toArray, List.set_cons_succ, List.set_cons_zero, List.getElem_toArray, List.getElem_cons_zero, List.getElem_cons_succ]
  refine hl_take ?v21 rfl (by kernel_rfl) ?y21 ?z21
  case y21 => intro W hW; skip; replace hW := Lib.hid hW; go_simp; try rfl
  case z21 =>
  simp only [Act.put, List.setIfInBounds_toArray, List.set_cons_succ, List.set_cons_zero, List.getElem_toArray, List.getElem_cons_zero, List.getElem_cons_succ]
  refine hl_take ?v22 rfl (by kernel_rfl) ?y22 ?z22
  case y22 => intro W hW; skip; replace hW := Lib.hid hW; go_simp; try rfl
  case z22 =>
  simp only [Act.put, List.setIfInBounds_toArray, List.set_cons_succ, List.set_cons_zero, List.getElem_toArray, List.getElem_cons_zero, List.getElem_cons_succ]
  refine hl_take ?v23 rfl (by kernel_rfl) ?y23 ?z23
  case y23 => intro W hW; change Sep W _ at hW; obtain ⟨g', hg', hgl, hmc, q0, q1, q2, q3, q4, hfz⟩ := hW.vq_at hl1.out hil; injection hg' with hg'; injection hg' with hg'; subst hg'; rw [hq1.out] at q0 q1 q2 q3 q4; simp only at q0 q1 q2 q3 q4; obtain ⟨y1, d0, d1, d2, d3, g0, g1, g2, g3⟩ := hW.to1.b4; replace hW := Lib.hid hW; go_simp; try rfl
  case z23 =>
  simp only [Act.put, List.setIfInBounds_toArray, List.set_cons_succ, List.set_cons_zero, List.getElem_toArray, List.getElem_cons_zero, List.getElem_cons_succ]
  refine hl_take ?v24 rfl (by kernel_rfl) ?y24 ?z24
  case y24 => intro W hW; skip; replace hW := Lib.hid hW; go_simp; try rfl
  case z24 =>
  simp only [Act.put, List.setIfInBounds_toArray, List.set_cons_succ, List.set_cons_zero, List.getElem_toArray, List.getElem_cons_zero, List.getElem_cons_succ]
  refine hl_take ?v25 rfl (by kernel_rfl) ?y25 ?z25
  case y25 => intro W hW; skip; replace hW := Lib.hid hW; go_simp; try rfl
  case z25 =>
  simp only [Act.put, List.setIfInBounds_toArray, List.set_cons_succ, List.set_cons_zero, List.getElem_toArray, List.getElem_cons_zero, List.getElem_cons_succ]
  refine hl_take ?v26 rfl (by kernel_rfl) ?y26 ?z26
  case y26 => intro W hW; change Sep W _ at hW; obtain ⟨g', hg', hgl, hmc, q0, q1, q2, q3, q4, hfz⟩ := hW.vq_at hl1.out hil; injection hg' with hg'; injection hg' with hg'; subst hg'; rw [hq1.out] at q0 q1 q2 q3 q4; simp only at q0 q1 q2 q3 q4; obtain ⟨y1, d0, d1, d2, d3, g0, g1, g2, g3⟩ := hW.to1.b4; replace hW := Lib.hid hW; go_simp; try rfl
  case z26 =>
  simp only [Act.put, List.setIfInBounds_toArray, List.set_cons_succ, List.set_cons_zero, List.getElem_toArray, List.getElem_cons_zero, List.getElem_cons_succ]
  refine hl_one rfl (by kernel_rfl) (fun K hK => ?_)
  go_simp
  refine (HF.out _ (Sep.vq_rq (show Sep _ _ from hS.out))).mono ?_
  rintro e w9 ⟨rfl, b9⟩
  replace hS := Lib.hid ((show Sep _ _ from hS.out).below b9)
  clear b9
  refine hK.out _ _ hS.out ?_
  clear hK K
  try simp only [Act.put, List.setIfInBounds_toArray, List.set_cons_succ, List.set_cons_zero, List.getElem_toArray, List.getElem_cons_zero, List.getElem_cons_succ]
  refine hl_take ?v27 rfl (by kernel_rfl) ?y27 ?z27
  case y27 => intro W hW; skip; replace hW := Lib.hid hW; go_simp; try rfl
  case z27 =>
  simp only [Act.put, List.setIfInBounds_toArray, List.set_cons_succ, List.set_cons_zero, List.getElem_toArray, List.getElem_cons_zero, List.getElem_cons_succ]
  refine hl_take ?v28 rfl (by kernel_rfl) ?y28 ?z28
  case y28 => intro W hW; skip; replace hW := Lib.hid hW; go_simp; try rfl
  case z28 =>
  simp only [Act.put, List.setIfInBounds_toArray, List.set_cons_succ, List.set_cons_zero, List.getElem_toArray, List.getElem_cons_zero, List.getElem_cons_succ]
  refine hl_take ?v29 rfl (by kernel_rfl) ?y29 ?z29
  case y29 => intro W hW; skip; replace hW := Lib.hid hW; go_simp; try rfl
  case z29 =>
  simp only [Act.put, List.setIfInBounds_toArray, List.set_cons_succ, List.set_cons_zero, List.getElem_toArray, List.getElem_cons_zero, List.getElem_cons_succ]
  refine hl_take ?v30 rfl (by kernel_rfl) ?y30 ?z30
  case y30 => intro W hW; change Sep W _ at hW; obtain ⟨g', hg', hgl, hmc, q0, q1, q2, q3, q4, hfz⟩ := hW.vq_at hl1.out hil; injection hg' with hg'; injection hg' with hg'; subst hg'; rw [hq1.out] at q0 q1 q2 q3 q4; simp only at q0 q1 q2 q3 q4; obtain ⟨y1, d0, d1, d2, d3, g0, g1, g2, g3⟩ := hW.to1.b4; replace hW := Lib.hid hW; go_simp; try rfl
  case z30 =>
  simp only [Act.put, List.setIfInBounds_toArray, List.set_cons_succ, List.set_cons_zero, List.getElem_toArray, List.getElem_cons_zero, List.getElem_cons_succ]
  refine hl_one rfl (by kernel_rfl) (fun K hK => ?_)
  go_simp
  refine (HC.out _ (Sep.vq_rq (show Sep _ _ from hS.out))).mono ?_
  rintro e w9 ⟨rfl, b9⟩
  replace hS := Lib.hid ((show Sep _ _ from hS.out).below b9)
  clear b9
  refine hK.out _ _ hS.out ?_
  clear hK K
  try simp only [Act.put, List.setIfInBounds_toArray, List.set_cons_succ, List.set_cons_zero, List.getElem_toArray, List.getElem_cons_zero, List.getElem_cons_succ]
  refine hl_take ?v31 rfl (by kernel_rfl) ?y31 ?z31
  case y31 => intro W hW; skip; replace hW := Lib.hid hW; go_simp; try rfl
  case z31 =>
  simp only [Act.put, List.setIfInBounds_toArray, List.set_cons_succ, List.set_cons_zero, List.getElem_toArray, List.getElem_cons_zero, List.getElem_cons_succ]
  refine hl_take ?v32 rfl (by kernel_rfl) ?y32 ?z32
  case y32 => intro W hW; skip; replace hW := Lib.hid hW; go_simp; try rfl
  case z32 =>
  simp only [Act.put, List.setIfInBounds_toArray, List.set_cons_succ, List.set_cons_zero, List.getElem_toArray, List.getElem_cons_zero, List.getElem_cons_succ]
  refine hl_take ?v33 rfl (by kernel_rfl) ?y33 ?z33
  case y33 => intro W hW; skip; replace hW := Lib.hid hW; go_simp; try rfl
  case z33 =>
  simp only [Act.put, List.setIfInBounds_toArray, List.set_cons_succ, List.set_cons_zero, List.getElem_toArray, List.getElem_cons_zero, List.getElem_cons_succ]
  refine hl_take ?v34 rfl (by kernel_rfl) ?y34 ?z34
  case y34 => intro W hW; skip; replace hW := Lib.hid hW; go_simp; try rfl
  case z34 =>
  simp only [Act.put, List.setIfInBounds_toArray, List.set_cons_succ, List.set_cons_zero, List.getElem_toArray, List.getElem_cons_zero, List.getElem_cons_succ]
  refine hl_done ?_
  clear hS4
  replace hS4 := hS
  clear hS
  obtain ⟨g', hg', hgl, _, q0, q1, q2, q3, q4, hfz⟩ := (show Sep _ _ from hS4.out).vq_at hl1.out hil
  injection hg' with hg'
  injection hg' with hg'
  subst hg'
  rw [hq1.out] at q0 q1 q2 q3 q4
  simp only at q0 q1 q2 q3 q4
  have z2 := hfz (i * 5 + 2)
  obtain ⟨y1, d0, d1, d2, d3, g0, g1, g2, g3⟩ := (show Sep _ _ from hS4.out).to1.b4
  obtain ⟨x1, c0, c1', c2, c3, k0, k1, k2, k3⟩ := (show Sep _ _ from hS4.out).to2.b4
  have n1 := (show Sep _ _ from hS4.out).vq_ne hl1.out
  have n2 := (show Sep _ _ from hS4.out).to2.to1.vq_ne hl1.out
  have n3 := n1.symm
  have n4 := n2.symm
  go_wp2_with fail
  refine bodyPost_ret (v := .tuple #[.agg #[.int .i64 t, .int .i64 r, .slice (some ⟨g, 0, none⟩) l.length c1, .int .i64 n], .bool true, .int .i64 0]) (by simp [results, Tryz.results13, go_sem, *]) rfl ⟨some ⟨g, 0, none⟩, c1, rfl, ?_⟩
  have hS5 := (show Sep _ _ from hS4.out).vq_setF hl1.out hil (f := 2) (by omega) (.int .i64 W1) ⟨id, txn, W1, W1, since⟩ (by rw [hq1.out]; rfl)
  have e5 : l1.set i (⟨id, txn, W1, W1, since⟩ : Rq) = R := by
    have h1 := hR.out
    simp only [upQ, hW1.out] at h1
    rw [← hl1e.out, List.set_set]
    exact h1
  rw [e5] at hS5
  exact (((((hS5.to2.set 0 (.int .i64 t)).set 1 (.int .i64 r)).set 2 (.slice (some ⟨g, 0, none⟩) l.length c1)).set 3 (.int .i64 n)).tail.drop1.drop1)
set_option maxHeartbeats 2000000 in
set_option maxRecDepth 100000 in
theorem upP_wait1 (t r n : Int) (v : Value) (l : List Rq) (id0 mo : Int) (w : World) (hv : RQ w v l) (hl : l.length ≤ 1000) (ha : askedB mo = true) (i : Nat) (hi : plc l id0 = i) (hil : i < l.length) (hs : decide (0 < (l.getD i default).since) = false) (hu : supV (l.getD i default).mode mo ≠ (l.getD i default).mode) (hf : l.any (fitsP (upQ (l.getD i default) mo)) = true) (hn0 : 0 ≤ n) (hn1 : n ≤ 4611686018427387904) :
    Calls Tryz.prog 13 #[hval t r v n, .int .i64 id0, .int .i64 mo] w fun e w' => ∃ a c, e = .returned (.tuple #[hval t r (.slice a l.length c) (n + 1), .bool false, .int .i64 0]) ∧ Sep w' [vq (.slice a l.length c) (l.set i { upQ (l.getD i default) mo with since := n + 1 }), old w] := by
  obtain ⟨R, hR⟩ : ∃ R, (l.set i { upQ (l.getD i default) mo with since := n + 1 }) = R := ⟨_, rfl⟩
  rw [hR]
  replace hR := Lib.hid hR
  replace hu := Lib.hid hu
  have hB := Lib.hid (boxes2 w 26 26 #[.int .i64 t, .int .i64 r, v, .int .i64 n] #[.int .i64 0, .int .i64 0, .slice none 0 0, .int .i64 0])
  have HA := Lib.hid (fun W => asked_any mo W)
  have HO := Lib.hid (own_any t r n v l _ (hv.below (two_boxes w #[.int .i64 t, .int .i64 r, v, .int .i64 n] #[.int .i64 0, .int .i64 0, .slice none 0 0, .int .i64 0] 26 26)) hl)
  rw [ha] at HA
  clear ha
  have i1 : (0 : Int) ≤ (i : Int) := by omega
  have i2 : (i : Int) < (l.length : Int) := by omega
  have d : decide ((i : Int) < 0) = false := by rw [decide_eq_false_iff_not]; omega
  obtain ⟨a, c, rfl, _⟩ := hv
  unfold hval at *
  go_enter Tryz.func13, Tryz.ntmps13
  go_wp2_with fail
  refine (HA.out _).mono ?_
  rintro e w0 ⟨rfl, rfl⟩
  go_wp2_with fail
  refine HO.out.mono ?_
  rintro e w1 ⟨a1, c1, rfl, hS⟩
  have hS2 := (hS.graft hB.out).alloc #[.int .i64 t, .int .i64 r, .slice a1 l.length c1, .int .i64 n] 62
  have HP := Lib.hid (place_any t r n (.slice a1 l.length c1) l id0 _ hS2.to1.vq_rq hl)
  rw [show idxF (fun q : Rq => q.id == id0) l 0 = _ from hi] at HP
  unfold hval at HP
  obtain ⟨y1, d0, d1, d2, d3, g0, g1, g2, g3⟩ := hS2.b4
  replace hS2 := Lib.hid hS2
  clear hS HO HA hB
  go_wp2_with fail
  refine HP.out.mono ?_
  rintro e w2 ⟨rfl, b2⟩
  replace hS2 := Lib.hid (hS2.out.below b2)
  clear b2 HP y1 d0 d1 d2 d3 g0 g1 g2 g3
  generalize w1.heap.size = V at *
  obtain ⟨g, rfl, hgl, hmc, q0, q1, q2, q3, q4, hfz⟩ := hS2.out.to1.vq_at rfl hil
  obtain ⟨y1, d0, d1, d2, d3, g0, g1, g2, g3⟩ := hS2.out.b4
  have HW := Lib.hid (fun W => waits_any (l.getD i default) W)
  rw [hs] at HW
  generalize hq : l.getD i default = q at *
  replace hq := Lib.hid hq
  obtain ⟨id, txn, mode, want, since⟩ := q
  unfold Rq.val at HW
  simp only at q0 q1 q2 q3 q4 HW
  go_wp2_with fail
  refine (HW.out _).mono ?_
  rintro e w3 ⟨rfl, b3⟩
  replace hS2 := Lib.hid (hS2.out.below b3)
  clear b3 HW q0 q1 q2 q3 q4 hfz y1 d0 d1 d2 d3 g0 g1 g2 g3 hgl
  obtain ⟨g', hg', hgl, _, q0, q1, q2, q3, q4, hfz⟩ := hS2.out.to1.vq_at rfl hil
  injection hg' with hg'
  injection hg' with hg'
  subst hg'
  rw [hq.out] at q0 q1 q2 q3 q4
  simp only at q0 q1 q2 q3 q4
  obtain ⟨y1, d0, d1, d2, d3, g0, g1, g2, g3⟩ := hS2.out.b4
  have z3 := hfz (i * 5 + 3)
  have HU := Lib.hid (fun W => sup_any mode mo W)
  have hS3 := Lib.hid (fun W hb => hS2.out.to1.below (w' := W) hb)
  have eg := eg_upgrades
  go_wp2_with fail
  refine (HU.out _).mono ?_
  rintro e w4 ⟨rfl, b4⟩
  replace hS3 := Lib.hid (hS3.out _ b4)
  clear b4 HU q0 q1 q2 q3 q4 hfz y1 d0 d1 d2 d3 g0 g1 g2 g3 hgl z3 hS2
  obtain ⟨g', hg', hgl, _, q0, q1, q2, q3, q4, hfz⟩ := hS3.out.vq_at rfl hil
  injection hg' with hg'
  injection hg' with hg'
  subst hg'
  rw [hq.out] at q0 q1 q2 q3 q4
  simp only at q0 q1 q2 q3 q4
  have z3 := hfz (i * 5 + 3)
  have hS4 := hS3.out.vq_setF rfl hil (f := 3) (by omega) (.int .i64 (supV mode mo)) ⟨id, txn, mode, supV mode mo, since⟩ (by rw [hq.out]; rfl)
  obtain ⟨l1, hl1e⟩ : ∃ l1, l.set i (⟨id, txn, mode, supV mode mo, since⟩ : Rq) = l1 := ⟨_, rfl⟩
  rw [hl1e] at hS4
  have hl1 := Lib.hid (show l1.length = l.length by rw [← hl1e]; simp)
  have hq1 := Lib.hid (show l1.getD i default = (⟨id, txn, mode, supV mode mo, since⟩ : Rq) by rw [← hl1e, getD_set _ _ _ _ hil, if_pos rfl])
  replace hl1e := Lib.hid hl1e
  replace hS4 := Lib.hid hS4
  generalize hW1 : supV mode mo = W1 at *
  replace hW1 := Lib.hid hW1
  have hfv : l1.any (fitsP (⟨id, txn, mode, W1, since⟩ : Rq)) = true := by
    rw [← hl1e.out, fits_set l i _ _ hil rfl (by rw [hq.out]), ← hW1.out]
    exact hf
  have hqr := Lib.hid (show ∀ W, RQ W (.slice (some ⟨g, 0, none⟩) l.length c1) l1 → Calls Tryz.prog 45 #[hval t r (.slice (some ⟨g, 0, none⟩) l.length c1) n, (⟨id, txn, mode, W1, since⟩ : Rq).val] W fun e w' => e = .returned (.bool !(l1.any (fitsP (⟨id, txn, mode, W1, since⟩ : Rq)))) ∧ Below W.heap.size W w' from fun W h => fits_any t r n _ l1 _ W h (by rw [hl1.out]; exact hl))
  rw [hfv] at hqr
  simp only [Bool.not_true, Bool.not_false] at hqr
  have HF := hqr
  unfold hval Rq.val at HF
  clear hqr hfv
  have hu2 : (W1 == mode) = false := by simpa using hu.out
  replace hu := hu2
  clear hu2
  have hu2 : ¬ W1 = mode := by simpa using hu
  go_wp2_with fail
  clear q0 q1 q2 q3 q4 hfz z3 hgl hS3
  have hS := Lib.hid (show (fun W : World => Sep W [vq (.slice (some ⟨g, 0, none⟩) l.length c1) l1, blk V 62 #[.int .i64 t, .int .i64 r, .slice (some ⟨g, 0, none⟩) l.length c1, .int .i64 n], blk (w.heap.size + 1) 26 #[.int .i64 0, .int .i64 0, .slice none 0 0, .int .i64 0], blk w.heap.size 26 #[.int .i64 t, .int .i64 r, .slice a l.length c, .int .i64 n], old w]) _ from hS4.out.drew)
  refine hl_begin (fun W : World => Sep W [vq (.slice (some ⟨g, 0, none⟩) l.length c1) l1, blk V 62 #[.int .i64 t, .int .i64 r, .slice (some ⟨g, 0, none⟩) l.length c1, .int .i64 n], blk (w.heap.size + 1) 26 #[.int .i64 0, .int .i64 0, .slice none 0 0, .int .i64 0], blk w.heap.size 26 #[.int .i64 t, .int .i64 r, .slice a l.length c, .int .i64 n], old w]) [(0, true), (1, true), (2, true), (3, true), (4, true), (5, true), (6, true), (7, true), (8, true), (9, true), (10, true), (11, true), (12, true), (13, true), (14, false), (15, true), (16, true), (17, true), (18, true), (19, false), (20, true), (21, true), (22, true), (23, true)] (by kernel_rfl) (by kernel_rfl) (by kernel_rfl) rfl (fun _ _ _ _ _ h => h) hS.out ?_
  change HL _ _ _ _ _ _ (World.drew _)
  generalize World.drew _ = wd at *
  refine hl_take ?v35 rfl (by kernel_rfl) ?y35 ?z35
  case y35 => intro W hW; skip; replace hW := Lib.hid hW; go_simp; try rfl
  case z35 =>
  simp only [Act.put, List.setIfInBounds_toArray, List.set_cons_succ, List.set_cons_zero, List.getElem_toArray, List.getElem_cons_zero, List.getElem_cons_succ]
  refine hl_take ?v36 rfl (by kernel_rfl) ?y36 ?z36
  case y36 => intro W hW; skip; replace hW := Lib.hid hW; go_simp; try rfl
  case z36 =>
  simp only [Act.put, List.setIfInBounds_toArray, List.set_cons_succ, List.set_cons_zero, List.getElem_toArray, List.getElem_cons_zero, List.getElem_cons_succ]
  refine hl_take ?v37 rfl (by kernel_rfl) ?y37 ?z37
  case y37 => intro W hW; skip; replace hW := Lib.hid hW; go_simp; try rfl
  case z37 =>
  simp only [Act.put, List.setIfInBounds_toArray, List.set_cons_succ, List.set_cons_zero, List.getElem_toArray, List.getElem_cons_zero, List.getElem_cons_succ]
  refine hl_take ?v38 rfl (by kernel_rfl) ?y38 ?z38
  case y38 => intro W hW; change Sep W _ at hW; obtain ⟨g', hg', hgl, hmc, q0, q1, q2, q3, q4, hfz⟩ := hW.vq_at hl1.out hil; injection hg' with hg'; injection hg' with hg'; subst hg'; rw [hq1.out] at q0 q1 q2 q3 q4; simp only at q0 q1 q2 q3 q4; obtain ⟨y1, d0, d1, d2, d3, g0, g1, g2, g3⟩ := hW.to1.b4; replace hW := Lib.hid hW; go_simp; try rfl
  case z38 =>
  simp only [Act.put, List.setIfInBounds_toArray, List.set_cons_succ, List.set_cons_zero, List.getElem_toArray, List.getElem_cons_zero, List.getElem_cons_succ]
  refine hl_take ?v39 rfl (by kernel_rfl) ?y39 ?z39
  case y39 => intro W hW; skip; replace hW := Lib.hid hW; go_simp; try rfl
  case z39 =>
  simp only [Act.put, List.setIfInBounds_toArray, List.set_cons_succ, List.set_cons_zero, List.getElem_toArray, List.getElem_cons_zero, List.getElem_cons_succ]
  refine hl_take ?v40 rfl (by kernel_rfl) ?y40 ?z40
  case y40 => intro W hW; skip; replace hW := Lib.hid hW; go_simp; try rfl
  case z40 =>
  simp only [Act.put, List.setIfInBounds_toArray, List.set_cons_succ, List.set_cons_zero, List.getElem_toArray, List.getElem_cons_zero, List.getElem_cons_succ]
  refine hl_take ?v41 rfl (by kernel_rfl) ?y41 ?z41
  case y41 => intro W hW; skip; replace hW := Lib.hid hW; go_simp; try rfl
  case z41 =>
  simp only [Act.put, List.setIfInBounds_toArray, List.set_cons_succ, List.set_cons_zero, List.getElem_toArray, List.getElem_cons_zero, List.getElem_cons_succ]
  refine hl_take ?v42 rfl (by kernel_rfl) ?y42 ?z42
  case y42 => intro W hW; change Sep W _ at hW; obtain ⟨g', hg', hgl, hmc, q0, q1, q2, q3, q4, hfz⟩ := hW.vq_at hl1.out hil; injection hg' with hg'; injection hg' with hg'; subst hg'; rw [hq1.out] at q0 q1 q2 q3 q4; simp only at q0 q1 q2 q3 q4; obtain ⟨y1, d0, d1, d2, d3, g0, g1, g2, g3⟩ := hW.to1.b4; replace hW := Lib.hid hW; go_simp; try rfl
  case z42 =>
  simp only [Act.put, List.setIfInBounds_toArray, List.set_cons_succ, List.set_cons_zero, List.getElem_toArray, List.getElem_cons_zero, List.getElem_cons_succ]
  refine hl_take ?v43 rfl (by kernel_rfl) ?y43 ?z43
  case y43 => intro W hW; skip; replace hW := Lib.hid hW; go_simp; try rfl
  case z43 =>
  simp only [Act.put, List.setIfInBounds_toArray, List.set_cons_succ, List.set_cons_zero, List.getElem_toArray, List.getElem_cons_zero, List.getElem_cons_succ]
  refine hl_take ?v44 rfl (by kernel_rfl) ?y44 ?z44
  case y44 => intro W hW; skip; replace hW := Lib.hid hW; go_simp; try rfl
  case z44 =>
  simp only [Act.put, List.setIfInBounds_toArray, List.set_cons_succ, List.set_cons_zero, List.getElem_toArray, List.getElem_cons_zero, List.getElem_cons_succ]
  refine hl_take ?v45 rfl (by kernel_rfl) ?y45 ?z45
  case y45 => intro W hW; change Sep W _ at hW; obtain ⟨g', hg', hgl, hmc, q0, q1, q2, q3, q4, hfz⟩ := hW.vq_at hl1.out hil; injection hg' with hg'; injection hg' with hg'; subst hg'; rw [hq1.out] at q0 q1 q2 q3 q4; simp only at q0 q1 q2 q3 q4; obtain ⟨y1, d0, d1, d2, d3, g0, g1, g2, g3⟩ := hW.to1.b4; replace hW := Lib.hid hW; go_simp; try rfl
  case z45 =>
  simp only [Act.put, List.setIfInBounds_toArray, List.set_cons_succ, List.set_cons_zero, List.getElem_toArray, List.getElem_cons_zero, List.getElem_cons_succ]
  refine hl_take ?v46 rfl (by kernel_rfl) ?y46 ?z46
  case y46 => intro W hW; skip; replace hW := Lib.hid hW; go_simp; try rfl
  case z46 =>
  simp only [Act.put, List.setIfInBounds_toArray, List.set_cons_succ, List.set_cons_zero, List.getElem_toArray, List.getElem_cons_zero, List.getElem_cons_succ]
  refine hl_take ?v47 rfl (by kernel_rfl) ?y47 ?z47
  case y47 => intro W hW; skip; replace hW := Lib.hid hW; go_simp; try rfl
  case z47 =>
  simp only [Act.put, List.setIfInBounds_toArray, List.set_cons_succ, List.set_cons_zero, List.getElem_toArray, List.getElem_cons_zero, List.getElem_cons_succ]
  refine hl_take ?v48 rfl (by kernel_rfl) ?y48 ?z48
  case y48 => intro W hW; change Sep W _ at hW; obtain ⟨g', hg', hgl, hmc, q0, q1, q2, q3, q4, hfz⟩ := hW.vq_at hl1.out hil; injection hg' with hg'; injection hg' with hg'; subst hg'; rw [hq1.out] at q0 q1 q2 q3 q4; simp only at q0 q1 q2 q3 q4; obtain ⟨y1, d0, d1, d2, d3, g0, g1, g2, g3⟩ := hW.to1.b4; replace hW := Lib.hid hW; go_simp; try rfl
  case z48 =>
  simp only [Act.put, List.setIfInBounds_toArray, List.set_cons_succ, List.set_cons_zero, List.getElem_toArray, List.getElem_cons_zero, List.getElem_cons_succ]
  refine hl_one rfl (by kernel_rfl) (fun K hK => ?_)
  go_simp
  refine (HF.out _ (Sep.vq_rq (show Sep _ _ from hS.out))).mono ?_
  rintro e w9 ⟨rfl, b9⟩
  replace hS := Lib.hid ((show Sep _ _ from hS.out).below b9)
  clear b9
  refine hK.out _ _ hS.out ?_
  clear hK K
  try simp only [Act.put, List.setIfInBounds_toArray, List.set_cons_succ, List.set_cons_zero, List.getElem_toArray, List.getElem_cons_zero, List.getElem_cons_succ]
  refine hl_take ?v49 rfl (by kernel_rfl) ?y49 ?z49
  case y49 => intro W hW; skip; replace hW := Lib.hid hW; go_simp; try rfl
  case z49 =>
  simp only [Act.put, List.setIfInBounds_toArray, List.set_cons_succ, List.set_cons_zero, List.getElem_toArray, List.getElem_cons_zero, List.getElem_cons_succ]
  refine hl_skip rfl (by kernel_rfl) ?_
  simp only [Act.put, List.setIfInBounds_toArray, List.set_cons_succ, List.set_cons_zero, List.getElem_toArray, List.getElem_cons_zero, List.getElem_cons_succ]
  refine hl_skip rfl (by kernel_rfl) ?_
  simp only [Act.put, List.setIfInBounds_toArray, List.set_cons_succ, List.set_cons_zero, List.getElem_toArray, List.getElem_cons_zero, List.getElem_cons_succ]
  refine hl_skip rfl (by kernel_rfl) ?_
  simp only [Act.put, List.setIfInBounds_toArray, List.set_cons_succ, List.set_cons_zero, List.getElem_toArray, List.getElem_cons_zero, List.getElem_cons_succ]
  refine hl_skip1 rfl (by kernel_rfl) ?_
  simp only [Act.put, List.setIfInBounds_toArray, List.set_cons_succ, List.set_cons_zero, List.getElem_toArray, List.getElem_cons_zero, List.getElem_cons_succ]
  refine hl_skip rfl (by kernel_rfl) ?_
  simp only [Act.put, List.setIfInBounds_toArray, List.set_cons_succ, List.set_cons_zero, List.getElem_toArray, List.getElem_cons_zero, List.getElem_cons_succ]
  refine hl_take ?v50 rfl (by kernel_rfl) ?y50 ?z50
  case y50 => intro W hW; skip; replace hW := Lib.hid hW; go_simp; try rfl
  case z50 =>
  simp only [Act.put, List.setIfInBounds_toArray, List.set_cons_succ, List.set_cons_zero, List.getElem_toArray, List.getElem_cons_zero, List.getElem_cons_succ]
  refine hl_take ?v51 rfl (by kernel_rfl) ?y51 ?z51
  case y51 => intro W hW; skip; replace hW := Lib.hid hW; go_simp; try rfl
  case z51 =>
  simp only [Act.put, List.setIfInBounds_toArray, List.set_cons_succ, List.set_cons_zero, List.getElem_toArray, List.getElem_cons_zero, List.getElem_cons_succ]
  refine hl_take ?v52 rfl (by kernel_rfl) ?y52 ?z52
  case y52 => intro W hW; skip; replace hW := Lib.hid hW; go_simp; try rfl
  case z52 =>
  simp only [Act.put, List.setIfInBounds_toArray, List.set_cons_succ, List.set_cons_zero, List.getElem_toArray, List.getElem_cons_zero, List.getElem_cons_succ]
  refine hl_done ?_
  clear hS4
  replace hS4 := hS
  clear hS
  obtain ⟨g', hg', hgl, _, q0, q1, q2, q3, q4, hfz⟩ := (show Sep _ _ from hS4.out).vq_at hl1.out hil
  injection hg' with hg'
  injection hg' with hg'
  subst hg'
  rw [hq1.out] at q0 q1 q2 q3 q4
  simp only at q0 q1 q2 q3 q4
  have z4 := hfz (i * 5 + 4)
  obtain ⟨y1, d0, d1, d2, d3, g0, g1, g2, g3⟩ := (show Sep _ _ from hS4.out).to1.b4
  obtain ⟨x1, c0, c1', c2, c3, k0, k1, k2, k3⟩ := (show Sep _ _ from hS4.out).to2.b4
  have n1 := (show Sep _ _ from hS4.out).vq_ne hl1.out
  have n2 := (show Sep _ _ from hS4.out).to2.to1.vq_ne hl1.out
  have n3 := n1.symm
  have n4 := n2.symm
  have n5 := (show Sep _ _ from hS4.out).to1.drop1.blk_ne
  have n6 := n5.symm
  go_wp2_with fail
  refine bodyPost_ret (v := .tuple #[.agg #[.int .i64 t, .int .i64 r, .slice (some ⟨g, 0, none⟩) l.length c1, .int .i64 (n + 1)], .bool false, .int .i64 0]) (by simp [results, Tryz.results13, go_sem, *]) rfl ⟨some ⟨g, 0, none⟩, c1, rfl, ?_⟩
  have hS5 := ((show Sep _ _ from hS4.out).to1.set 3 (.int .i64 (n + 1))).to1.vq_setF hl1.out hil (f := 4) (by omega) (.int .i64 (n + 1)) ⟨id, txn, mode, W1, n + 1⟩ (by rw [hq1.out]; rfl)
  have e5 : l1.set i (⟨id, txn, mode, W1, n + 1⟩ : Rq) = R := by
    have h1 := hR.out
    simp only [upQ, hW1.out] at h1
    rw [← hl1e.out, List.set_set]
    exact h1
  rw [e5] at hS5
  exact (((((hS5.to2.set 0 (.int .i64 t)).set 1 (.int .i64 r)).set 2 (.slice (some ⟨g, 0, none⟩) l.length c1)).set 3 (.int .i64 (n + 1))).tail.drop1.drop1)
set_option maxHeartbeats 2000000 in
set_option maxRecDepth 100000 in
theorem upP_wait2 (t r n : Int) (v : Value) (l : List Rq) (id0 mo : Int) (w : World) (hv : RQ w v l) (hl : l.length ≤ 1000) (ha : askedB mo = true) (i : Nat) (hi : plc l id0 = i) (hil : i < l.length) (hs : decide (0 < (l.getD i default).since) = false) (hu : supV (l.getD i default).mode mo ≠ (l.getD i default).mode) (hf : l.any (fitsP (upQ (l.getD i default) mo)) = false) (hup : l.any upB = true) (hn0 : 0 ≤ n) (hn1 : n ≤ 4611686018427387904) :
    Calls Tryz.prog 13 #[hval t r v n, .int .i64 id0, .int .i64 mo] w fun e w' => ∃ a c, e = .returned (.tuple #[hval t r (.slice a l.length c) (n + 1), .bool false, .int .i64 0]) ∧ Sep w' [vq (.slice a l.length c) (l.set i { upQ (l.getD i default) mo with since := n + 1 }), old w] := by
  obtain ⟨R, hR⟩ : ∃ R, (l.set i { upQ (l.getD i default) mo with since := n + 1 }) = R := ⟨_, rfl⟩
  rw [hR]
  replace hR := Lib.hid hR
  replace hu := Lib.hid hu
  have hB := Lib.hid (boxes2 w 26 26 #[.int .i64 t, .int .i64 r, v, .int .i64 n] #[.int .i64 0, .int .i64 0, .slice none 0 0, .int .i64 0])
  have HA := Lib.hid (fun W => asked_any mo W)
  have HO := Lib.hid (own_any t r n v l _ (hv.below (two_boxes w #[.int .i64 t, .int .i64 r, v, .int .i64 n] #[.int .i64 0, .int .i64 0, .slice none 0 0, .int .i64 0] 26 26)) hl)
  rw [ha] at HA
  clear ha
  have i1 : (0 : Int) ≤ (i : Int) := by omega
  have i2 : (i : Int) < (l.length : Int) := by omega
  have d : decide ((i : Int) < 0) = false := by rw [decide_eq_false_iff_not]; omega
  obtain ⟨a, c, rfl, _⟩ := hv
  unfold hval at *
  go_enter Tryz.func13, Tryz.ntmps13
  go_wp2_with fail
  refine (HA.out _).mono ?_
  rintro e w0 ⟨rfl, rfl⟩
  go_wp2_with fail
  refine HO.out.mono ?_
  rintro e w1 ⟨a1, c1, rfl, hS⟩
  have hS2 := (hS.graft hB.out).alloc #[.int .i64 t, .int .i64 r, .slice a1 l.length c1, .int .i64 n] 62
  have HP := Lib.hid (place_any t r n (.slice a1 l.length c1) l id0 _ hS2.to1.vq_rq hl)
  rw [show idxF (fun q : Rq => q.id == id0) l 0 = _ from hi] at HP
  unfold hval at HP
  obtain ⟨y1, d0, d1, d2, d3, g0, g1, g2, g3⟩ := hS2.b4
  replace hS2 := Lib.hid hS2
  clear hS HO HA hB
  go_wp2_with fail
  refine HP.out.mono ?_
  rintro e w2 ⟨rfl, b2⟩
  replace hS2 := Lib.hid (hS2.out.below b2)
  clear b2 HP y1 d0 d1 d2 d3 g0 g1 g2 g3
  generalize w1.heap.size = V at *
  obtain ⟨g, rfl, hgl, hmc, q0, q1, q2, q3, q4, hfz⟩ := hS2.out.to1.vq_at rfl hil
  obtain ⟨y1, d0, d1, d2, d3, g0, g1, g2, g3⟩ := hS2.out.b4
  have HW := Lib.hid (fun W => waits_any (l.getD i default) W)
  rw [hs] at HW
  generalize hq : l.getD i default = q at *
  replace hq := Lib.hid hq
  obtain ⟨id, txn, mode, want, since⟩ := q
  unfold Rq.val at HW
  simp only at q0 q1 q2 q3 q4 HW
  go_wp2_with fail
  refine (HW.out _).mono ?_
  rintro e w3 ⟨rfl, b3⟩
  replace hS2 := Lib.hid (hS2.out.below b3)
  clear b3 HW q0 q1 q2 q3 q4 hfz y1 d0 d1 d2 d3 g0 g1 g2 g3 hgl
  obtain ⟨g', hg', hgl, _, q0, q1, q2, q3, q4, hfz⟩ := hS2.out.to1.vq_at rfl hil
  injection hg' with hg'
  injection hg' with hg'
  subst hg'
  rw [hq.out] at q0 q1 q2 q3 q4
  simp only at q0 q1 q2 q3 q4
  obtain ⟨y1, d0, d1, d2, d3, g0, g1, g2, g3⟩ := hS2.out.b4
  have z3 := hfz (i * 5 + 3)
  have HU := Lib.hid (fun W => sup_any mode mo W)
  have hS3 := Lib.hid (fun W hb => hS2.out.to1.below (w' := W) hb)
  have eg := eg_upgrades
  go_wp2_with fail
  refine (HU.out _).mono ?_
  rintro e w4 ⟨rfl, b4⟩
  replace hS3 := Lib.hid (hS3.out _ b4)
  clear b4 HU q0 q1 q2 q3 q4 hfz y1 d0 d1 d2 d3 g0 g1 g2 g3 hgl z3 hS2
  obtain ⟨g', hg', hgl, _, q0, q1, q2, q3, q4, hfz⟩ := hS3.out.vq_at rfl hil
  injection hg' with hg'
  injection hg' with hg'
  subst hg'
  rw [hq.out] at q0 q1 q2 q3 q4
  simp only at q0 q1 q2 q3 q4
  have z3 := hfz (i * 5 + 3)
  have hS4 := hS3.out.vq_setF rfl hil (f := 3) (by omega) (.int .i64 (supV mode mo)) ⟨id, txn, mode, supV mode mo, since⟩ (by rw [hq.out]; rfl)
  obtain ⟨l1, hl1e⟩ : ∃ l1, l.set i (⟨id, txn, mode, supV mode mo, since⟩ : Rq) = l1 := ⟨_, rfl⟩
  rw [hl1e] at hS4
  have hl1 := Lib.hid (show l1.length = l.length by rw [← hl1e]; simp)
  have hq1 := Lib.hid (show l1.getD i default = (⟨id, txn, mode, supV mode mo, since⟩ : Rq) by rw [← hl1e, getD_set _ _ _ _ hil, if_pos rfl])
  replace hl1e := Lib.hid hl1e
  replace hS4 := Lib.hid hS4
  generalize hW1 : supV mode mo = W1 at *
  replace hW1 := Lib.hid hW1
  have hfv : l1.any (fitsP (⟨id, txn, mode, W1, since⟩ : Rq)) = false := by
    rw [← hl1e.out, fits_set l i _ _ hil rfl (by rw [hq.out]), ← hW1.out]
    exact hf
  have hqr := Lib.hid (show ∀ W, RQ W (.slice (some ⟨g, 0, none⟩) l.length c1) l1 → Calls Tryz.prog 45 #[hval t r (.slice (some ⟨g, 0, none⟩) l.length c1) n, (⟨id, txn, mode, W1, since⟩ : Rq).val] W fun e w' => e = .returned (.bool !(l1.any (fitsP (⟨id, txn, mode, W1, since⟩ : Rq)))) ∧ Below W.heap.size W w' from fun W h => fits_any t r n _ l1 _ W h (by rw [hl1.out]; exact hl))
  rw [hfv] at hqr
  simp only [Bool.not_true, Bool.not_false] at hqr
  have HF := hqr
  unfold hval Rq.val at HF
  clear hqr hfv
  have hcv : l1.any upB = true := by
    rw [← hl1e.out, upB_set l i _ hil (by rw [hq.out]; rfl)]
    exact hup
  have HC := Lib.hid (show ∀ W, RQ W (.slice (some ⟨g, 0, none⟩) l.length c1) l1 → Calls Tryz.prog 35 #[.slice (some ⟨g, 0, none⟩) l.length c1, .func (.func 55) #[] #[]] W fun e w' => e = .returned (.bool (l1.any upB)) ∧ Below W.heap.size W w' from fun W h => contains_any _ l1 _ _ _ W h (by rw [hl1.out]; exact hl) (pred_up W) eg_upgrades)
  rw [hcv] at HC
  clear hcv
  have hu2 : (W1 == mode) = false := by simpa using hu.out
  replace hu := hu2
  clear hu2
  have hu2 : ¬ W1 = mode := by simpa using hu
  go_wp2_with fail
  clear q0 q1 q2 q3 q4 hfz z3 hgl hS3
  have hS := Lib.hid (show (fun W : World => Sep W [vq (.slice (some ⟨g, 0, none⟩) l.length c1) l1, blk V 62 #[.int .i64 t, .int .i64 r, .slice (some ⟨g, 0, none⟩) l.length c1, .int .i64 n], blk (w.heap.size + 1) 26 #[.int .i64 0, .int .i64 0, .slice none 0 0, .int .i64 0], blk w.heap.size 26 #[.int .i64 t, .int .i64 r, .slice a l.length c, .int .i64 n], old w]) _ from hS4.out.drew)
  refine hl_begin (fun W : World => Sep W [vq (.slice (some ⟨g, 0, none⟩) l.length c1) l1, blk V 62 #[.int .i64 t, .int .i64 r, .slice (some ⟨g, 0, none⟩) l.length c1, .int .i64 n], blk (w.heap.size + 1) 26 #[.int .i64 0, .int .i64 0, .slice none 0 0, .int .i64 0], blk w.heap.size 26 #[.int .i64 t, .int .i64 r, .slice a l.length c, .int .i64 n], old w]) [(0, true), (1, true), (2, true), (3, true), (4, true), (5, true), (6, true), (7, true), (8, true), (9, true), (10, true), (11, true), (12, true), (13, true), (14, false), (15, true), (16, true), (17, true), (18, true), (19, false), (20, true), (21, true), (22, true), (23, true)] (by kernel_rfl) (by kernel_rfl) (by kernel_rfl) rfl (fun _ _ _ _ _ h => h) hS.out ?_
  change HL _ _ _ _ _ _ (World.drew _)
  generalize World.drew _ = wd at *
  refine hl_take ?v53 rfl (by kernel_rfl) ?y53 ?z53
  case y53 => intro W hW; skip; replace hW := Lib.hid hW; go_simp; try rfl
  case z53 =>
  simp only [Act.put, List.setIfInBounds_toArray, List.set_cons_succ, List.set_cons_zero, List.getElem_toArray, List.getElem_cons_zero, List.getElem_cons_succ]
  refine hl_take ?v54 rfl (by kernel_rfl) ?y54 ?z54
  case y54 => intro W hW; skip; replace hW := Lib.hid hW; go_simp; try rfl
  case z54 =>
  simp only [Act.put, List.setIfInBounds_toArray, List.set_cons_succ, List.set_cons_zero, List.getElem_toArray, List.getElem_cons_zero, List.getElem_cons_succ]
  refine hl_take ?v55 rfl (by kernel_rfl) ?y55 ?z55
  case y55 => intro W hW; skip; replace hW := Lib.hid hW; go_simp; try rfl
  case z55 =>
  simp only [Act.put, List.setIfInBounds_toArray, List.set_cons_succ, List.set_cons_zero, List.getElem_toArray, List.getElem_cons_zero, List.getElem_cons_succ]
  refine hl_take ?v56 rfl (by kernel_rfl) ?y56 ?z56
  case y56 => intro W hW; change Sep W _ at hW; obtain ⟨g', hg', hgl, hmc, q0, q1, q2, q3, q4, hfz⟩ := hW.vq_at hl1.out hil; injection hg' with hg'; injection hg' with hg'; subst hg'; rw [hq1.out] at q0 q1 q2 q3 q4; simp only at q0 q1 q2 q3 q4; obtain ⟨y1, d0, d1, d2, d3, g0, g1, g2, g3⟩ := hW.to1.b4; replace hW := Lib.hid hW; go_simp; try rfl
  case z56 =>
  simp only [Act.put, List.setIfInBounds_toArray, List.set_cons_succ, List.set_cons_zero, List.getElem_toArray, List.getElem_cons_zero, List.getElem_cons_succ]
  refine hl_take ?v57 rfl (by kernel_rfl) ?y57 ?z57
  case y57 => intro W hW; skip; replace hW := Lib.hid hW; go_simp; try rfl
  case z57 =>
  simp only [Act.put, List.setIfInBounds_toArray, List.set_cons_succ, List.set_cons_zero, List.getElem_toArray, List.getElem_cons_zero, List.getElem_cons_succ]
  refine hl_take ?v58 rfl (by kernel_rfl) ?y58 ?z58
  case y58 => intro W hW; skip; replace hW := Lib.hid hW; go_simp; try rfl
  case z58 =>
  simp only [Act.put, List.setIfInBounds_toArray, List.set_cons_succ, List.set_cons_zero, List.getElem_toArray, List.getElem_cons_zero, List.getElem_cons_succ]
  refine hl_take ?v59 rfl (by kernel_rfl) ?y59 ?z59
  case y59 => intro W hW; skip; replace hW := Lib.hid hW; go_simp; try rfl
  case z59 =>
  simp only [Act.put, List.setIfInBounds_toArray, List.set_cons_succ, List.set_cons_zero, List.getElem_toArray, List.getElem_cons_zero, List.getElem_cons_succ]
  refine hl_take ?v60 rfl (by kernel_rfl) ?y60 ?z60
  case y60 => intro W hW; change Sep W _ at hW; obtain ⟨g', hg', hgl, hmc, q0, q1, q2, q3, q4, hfz⟩ := hW.vq_at hl1.out hil; injection hg' with hg'; injection hg' with hg'; subst hg'; rw [hq1.out] at q0 q1 q2 q3 q4; simp only at q0 q1 q2 q3 q4; obtain ⟨y1, d0, d1, d2, d3, g0, g1, g2, g3⟩ := hW.to1.b4; replace hW := Lib.hid hW; go_simp; try rfl
  case z60 =>
  simp only [Act.put, List.setIfInBounds_toArray, List.set_cons_succ, List.set_cons_zero, List.getElem_toArray, List.getElem_cons_zero, List.getElem_cons_succ]
  refine hl_take ?v61 rfl (by kernel_rfl) ?y61 ?z61
  case y61 => intro W hW; skip; replace hW := Lib.hid hW; go_simp; try rfl
  case z61 =>
  simp only [Act.put, List.setIfInBounds_toArray, List.set_cons_succ, List.set_cons_zero, List.getElem_toArray, List.getElem_cons_zero, List.getElem_cons_succ]
  refine hl_take ?v62 rfl (by kernel_rfl) ?y62 ?z62
  case y62 => intro W hW; skip; replace hW := Lib.hid hW; go_simp; try rfl
  case z62 =>
  simp only [Act.put, List.setIfInBounds_toArray, List.set_cons_succ, List.set_cons_zero, List.getElem_toArray, List.getElem_cons_zero, List.getElem_cons_succ]
  refine hl_take ?v63 rfl (by kernel_rfl) ?y63 ?z63
  case y63 => intro W hW; change Sep W _ at hW; obtain ⟨g', hg', hgl, hmc, q0, q1, q2, q3, q4, hfz⟩ := hW.vq_at hl1.out hil; injection hg' with hg'; injection hg' with hg'; subst hg'; rw [hq1.out] at q0 q1 q2 q3 q4; simp only at q0 q1 q2 q3 q4; obtain ⟨y1, d0, d1, d2, d3, g0, g1, g2, g3⟩ := hW.to1.b4; replace hW := Lib.hid hW; go_simp; try rfl
  case z63 =>
  simp only [Act.put, List.setIfInBounds_toArray, List.set_cons_succ, List.set_cons_zero, List.getElem_toArray, List.getElem_cons_zero, List.getElem_cons_succ]
  refine hl_take ?v64 rfl (by kernel_rfl) ?y64 ?z64
  case y64 => intro W hW; skip; replace hW := Lib.hid hW; go_simp; try rfl
  case z64 =>
  simp only [Act.put, List.setIfInBounds_toArray, List.set_cons_succ, List.set_cons_zero, List.getElem_toArray, List.getElem_cons_zero, List.getElem_cons_succ]
  refine hl_take ?v65 rfl (by kernel_rfl) ?y65 ?z65
  case y65 => intro W hW; skip; replace hW := Lib.hid hW; go_simp; try rfl
  case z65 =>
  simp only [Act.put, List.setIfInBounds_toArray, List.set_cons_succ, List.set_cons_zero, List.getElem_toArray, List.getElem_cons_zero, List.getElem_cons_succ]
  refine hl_take ?v66 rfl (by kernel_rfl) ?y66 ?z66
  case y66 => intro W hW; change Sep W _ at hW; obtain ⟨g', hg', hgl, hmc, q0, q1, q2, q3, q4, hfz⟩ := hW.vq_at hl1.out hil; injection hg' with hg'; injection hg' with hg'; subst hg'; rw [hq1.out] at q0 q1 q2 q3 q4; simp only at q0 q1 q2 q3 q4; obtain ⟨y1, d0, d1, d2, d3, g0, g1, g2, g3⟩ := hW.to1.b4; replace hW := Lib.hid hW; go_simp; try rfl
  case z66 =>
  simp only [Act.put, List.setIfInBounds_toArray, List.set_cons_succ, List.set_cons_zero, List.getElem_toArray, List.getElem_cons_zero, List.getElem_cons_succ]
  refine hl_one rfl (by kernel_rfl) (fun K hK => ?_)
  go_simp
  refine (HF.out _ (Sep.vq_rq (show Sep _ _ from hS.out))).mono ?_
  rintro e w9 ⟨rfl, b9⟩
  replace hS := Lib.hid ((show Sep _ _ from hS.out).below b9)
  clear b9
  refine hK.out _ _ hS.out ?_
  clear hK K
  try simp only [Act.put, List.setIfInBounds_toArray, List.set_cons_succ, List.set_cons_zero, List.getElem_toArray, List.getElem_cons_zero, List.getElem_cons_succ]
  refine hl_take ?v67 rfl (by kernel_rfl) ?y67 ?z67
  case y67 => intro W hW; skip; replace hW := Lib.hid hW; go_simp; try rfl
  case z67 =>
  simp only [Act.put, List.setIfInBounds_toArray, List.set_cons_succ, List.set_cons_zero, List.getElem_toArray, List.getElem_cons_zero, List.getElem_cons_succ]
  refine hl_take ?v68 rfl (by kernel_rfl) ?y68 ?z68
  case y68 => intro W hW; skip; replace hW := Lib.hid hW; go_simp; try rfl
  case z68 =>
  simp only [Act.put, List.setIfInBounds_toArray, List.set_cons_succ, List.set_cons_zero, List.getElem_toArray, List.getElem_cons_zero, List.getElem_cons_succ]
  refine hl_take ?v69 rfl (by kernel_rfl) ?y69 ?z69
  case y69 => intro W hW; skip; replace hW := Lib.hid hW; go_simp; try rfl
  case z69 =>
  simp only [Act.put, List.setIfInBounds_toArray, List.set_cons_succ, List.set_cons_zero, List.getElem_toArray, List.getElem_cons_zero, List.getElem_cons_succ]
  refine hl_take ?v70 rfl (by kernel_rfl) ?y70 ?z70
  case y70 => intro W hW; change Sep W _ at hW; obtain ⟨g', hg', hgl, hmc, q0, q1, q2, q3, q4, hfz⟩ := hW.vq_at hl1.out hil; injection hg' with hg'; injection hg' with hg'; subst hg'; rw [hq1.out] at q0 q1 q2 q3 q4; simp only at q0 q1 q2 q3 q4; obtain ⟨y1, d0, d1, d2, d3, g0, g1, g2, g3⟩ := hW.to1.b4; replace hW := Lib.hid hW; go_simp; try rfl
  case z70 =>
  simp only [Act.put, List.setIfInBounds_toArray, List.set_cons_succ, List.set_cons_zero, List.getElem_toArray, List.getElem_cons_zero, List.getElem_cons_succ]
  refine hl_one rfl (by kernel_rfl) (fun K hK => ?_)
  go_simp
  refine (HC.out _ (Sep.vq_rq (show Sep _ _ from hS.out))).mono ?_
  rintro e w9 ⟨rfl, b9⟩
  replace hS := Lib.hid ((show Sep _ _ from hS.out).below b9)
  clear b9
  refine hK.out _ _ hS.out ?_
  clear hK K
  try simp only [Act.put, List.setIfInBounds_toArray, List.set_cons_succ, List.set_cons_zero, List.getElem_toArray, List.getElem_cons_zero, List.getElem_cons_succ]
  refine hl_take ?v71 rfl (by kernel_rfl) ?y71 ?z71
  case y71 => intro W hW; skip; replace hW := Lib.hid hW; go_simp; try rfl
  case z71 =>
  simp only [Act.put, List.setIfInBounds_toArray, List.set_cons_succ, List.set_cons_zero, List.getElem_toArray, List.getElem_cons_zero, List.getElem_cons_succ]
  refine hl_take ?v72 rfl (by kernel_rfl) ?y72 ?z72
  case y72 => intro W hW; skip; replace hW := Lib.hid hW; go_simp; try rfl
  case z72 =>
  simp only [Act.put, List.setIfInBounds_toArray, List.set_cons_succ, List.set_cons_zero, List.getElem_toArray, List.getElem_cons_zero, List.getElem_cons_succ]
  refine hl_take ?v73 rfl (by kernel_rfl) ?y73 ?z73
  case y73 => intro W hW; skip; replace hW := Lib.hid hW; go_simp; try rfl
  case z73 =>
  simp only [Act.put, List.setIfInBounds_toArray, List.set_cons_succ, List.set_cons_zero, List.getElem_toArray, List.getElem_cons_zero, List.getElem_cons_succ]
  refine hl_take ?v74 rfl (by kernel_rfl) ?y74 ?z74
  case y74 => intro W hW; skip; replace hW := Lib.hid hW; go_simp; try rfl
  case z74 =>
  simp only [Act.put, List.setIfInBounds_toArray, List.set_cons_succ, List.set_cons_zero, List.getElem_toArray, List.getElem_cons_zero, List.getElem_cons_succ]
  refine hl_done ?_
  clear hS4
  replace hS4 := hS
  clear hS
  obtain ⟨g', hg', hgl, _, q0, q1, q2, q3, q4, hfz⟩ := (show Sep _ _ from hS4.out).vq_at hl1.out hil
  injection hg' with hg'
  injection hg' with hg'
  subst hg'
  rw [hq1.out] at q0 q1 q2 q3 q4
  simp only at q0 q1 q2 q3 q4
  have z4 := hfz (i * 5 + 4)
  obtain ⟨y1, d0, d1, d2, d3, g0, g1, g2, g3⟩ := (show Sep _ _ from hS4.out).to1.b4
  obtain ⟨x1, c0, c1', c2, c3, k0, k1, k2, k3⟩ := (show Sep _ _ from hS4.out).to2.b4
  have n1 := (show Sep _ _ from hS4.out).vq_ne hl1.out
  have n2 := (show Sep _ _ from hS4.out).to2.to1.vq_ne hl1.out
  have n3 := n1.symm
  have n4 := n2.symm
  have n5 := (show Sep _ _ from hS4.out).to1.drop1.blk_ne
  have n6 := n5.symm
  go_wp2_with fail
  refine bodyPost_ret (v := .tuple #[.agg #[.int .i64 t, .int .i64 r, .slice (some ⟨g, 0, none⟩) l.length c1, .int .i64 (n + 1)], .bool false, .int .i64 0]) (by simp [results, Tryz.results13, go_sem, *]) rfl ⟨some ⟨g, 0, none⟩, c1, rfl, ?_⟩
  have hS5 := ((show Sep _ _ from hS4.out).to1.set 3 (.int .i64 (n + 1))).to1.vq_setF hl1.out hil (f := 4) (by omega) (.int .i64 (n + 1)) ⟨id, txn, mode, W1, n + 1⟩ (by rw [hq1.out]; rfl)
  have e5 : l1.set i (⟨id, txn, mode, W1, n + 1⟩ : Rq) = R := by
    have h1 := hR.out
    simp only [upQ, hW1.out] at h1
    rw [← hl1e.out, List.set_set]
    exact h1
  rw [e5] at hS5
  exact (((((hS5.to2.set 0 (.int .i64 t)).set 1 (.int .i64 r)).set 2 (.slice (some ⟨g, 0, none⟩) l.length c1)).set 3 (.int .i64 (n + 1))).tail.drop1.drop1)
end Go.Proofs.YtmacpjnkmkaloaaGreat
