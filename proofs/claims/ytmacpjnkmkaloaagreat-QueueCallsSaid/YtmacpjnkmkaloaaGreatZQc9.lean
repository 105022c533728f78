/-
  Contracts and plain laws that the walk leans on, part 9. No condition.
-/
import Derived.Test.YtmacpjnkmkaloaaGreatZQc8
namespace Go.Proofs.YtmacpjnkmkaloaaGreat
set_option linter.unusedSimpArgs false
set_option linter.unusedVariables false
set_option linter.unnecessarySimpa false
open Go.RowKit
theorem abP_none (t r n : Int) (v : Value) (l : List Rq) (id0 : Int) (w : World) (hv : RQ w v l) (hl : l.length ≤ 1000) (hi : plc l id0 = -1) :
    Calls Tryz.prog 17 #[hval t r v n, .int .i64 id0] w fun e w' => e = .returned (.tuple #[zhd, .int .i64 5]) ∧ Below w.heap.size w w' := by
  have hB := Lib.hid (boxes2 w 26 26 #[.int .i64 t, .int .i64 r, v, .int .i64 n] #[.int .i64 0, .int .i64 0, .slice none 0 0, .int .i64 0])
  have HO := Lib.hid (own_any t r n v l _ (hv.below (two_boxes w #[.int .i64 t, .int .i64 r, v, .int .i64 n] #[.int .i64 0, .int .i64 0, .slice none 0 0, .int .i64 0] 26 26)) hl)
  obtain ⟨a, c, rfl, _⟩ := hv
  unfold hval at *
  go_enter Tryz.func17, Tryz.ntmps17
  go_wp2_with fail
  refine HO.out.mono ?_
  rintro e w1 ⟨a1, c1, rfl, hS⟩
  have hS2 := (hS.graft hB.out).alloc #[.int .i64 t, .int .i64 r, .slice a1 l.length c1, .int .i64 n] 62
  have HP := Lib.hid (place_any t r n (.slice a1 l.length c1) l id0 _ hS2.to1.vq_rq hl)
  rw [show idxF (fun q : Rq => q.id == id0) l 0 = _ from hi] at HP
  unfold hval at HP
  obtain ⟨y1, d0, d1, d2, d3, g0, g1, g2, g3⟩ := hS2.b4
  replace hS2 := Lib.hid hS2
  clear hS HO hB
  go_wp2_with fail
  refine HP.out.mono ?_
  rintro e w2 ⟨rfl, b2⟩
  replace hS2 := Lib.hid (hS2.out.below b2)
  clear b2 HP y1 d0 d1 d2 d3 g0 g1 g2 g3
  obtain ⟨z1, k0, k1, k2, k3, m0, m1, m2, m3⟩ := hS2.out.to2.b4
  go_wp2_with fail
  refine bodyPost_ret (v := .tuple #[.agg #[.int .i64 0, .int .i64 0, .slice none 0 0, .int .i64 0], .int .i64 5]) (by simp [results, Tryz.results17, go_sem, *]) rfl ⟨rfl, ?_⟩
  exact ((((hS2.out.to2.set 0 (.int .i64 0)).set 1 (.int .i64 0)).set 2 (.slice none 0 0)).set 3 (.int .i64 0)).tail.tail.tail.tail.gold
theorem abP_state (t r n : Int) (v : Value) (l : List Rq) (id0 : Int) (w : World) (hv : RQ w v l) (hl : l.length ≤ 1000) (i : Nat) (hi : plc l id0 = i) (hil : i < l.length) (hs : decide (0 < (l.getD i default).since) = false) :
    Calls Tryz.prog 17 #[hval t r v n, .int .i64 id0] w fun e w' => e = .returned (.tuple #[zhd, .int .i64 7]) ∧ Below w.heap.size w w' := by
  have hB := Lib.hid (boxes2 w 26 26 #[.int .i64 t, .int .i64 r, v, .int .i64 n] #[.int .i64 0, .int .i64 0, .slice none 0 0, .int .i64 0])
  have HO := Lib.hid (own_any t r n v l _ (hv.below (two_boxes w #[.int .i64 t, .int .i64 r, v, .int .i64 n] #[.int .i64 0, .int .i64 0, .slice none 0 0, .int .i64 0] 26 26)) hl)
  have i1 : (0 : Int) ≤ (i : Int) := by omega
  have i2 : (i : Int) < (l.length : Int) := by omega
  have d : decide ((i : Int) < 0) = false := by rw [decide_eq_false_iff_not]; omega
  obtain ⟨a, c, rfl, _⟩ := hv
  unfold hval at *
  go_enter Tryz.func17, Tryz.ntmps17
  go_wp2_with fail
  refine HO.out.mono ?_
  rintro e w1 ⟨a1, c1, rfl, hS⟩
  have hS2 := (hS.graft hB.out).alloc #[.int .i64 t, .int .i64 r, .slice a1 l.length c1, .int .i64 n] 62
  have HP := Lib.hid (place_any t r n (.slice a1 l.length c1) l id0 _ hS2.to1.vq_rq hl)
  rw [show idxF (fun q : Rq => q.id == id0) l 0 = _ from hi] at HP
  unfold hval at HP
  obtain ⟨y1, d0, d1, d2, d3, g0, g1, g2, g3⟩ := hS2.b4
  replace hS2 := Lib.hid hS2
  clear hS HO hB
  go_wp2_with fail
  refine HP.out.mono ?_
  rintro e w2 ⟨rfl, b2⟩
  replace hS2 := Lib.hid (hS2.out.below b2)
  clear b2 HP y1 d0 d1 d2 d3 g0 g1 g2 g3
  obtain ⟨g, rfl, hgl, hmc, q0, q1, q2, q3, q4, hfz⟩ := hS2.out.to1.vq_at rfl hil
  obtain ⟨y1, d0, d1, d2, d3, g0, g1, g2, g3⟩ := hS2.out.b4
  have HW := Lib.hid (fun W => waits_any (l.getD i default) W)
  rw [hs] at HW
  have HL := Lib.hid (fun W => holds_any (l.getD i default) W)
  generalize hq : l.getD i default = q at *
  replace hq := Lib.hid hq
  obtain ⟨id, txn, mode, want, since⟩ := q
  unfold Rq.val at HW HL
  simp only at q0 q1 q2 q3 q4 HW HL
  go_wp2_with fail
  refine (HW.out _).mono ?_
  rintro e w3 ⟨rfl, b3⟩
  replace hS2 := Lib.hid (hS2.out.below b3)
  clear b3 HW q0 q1 q2 q3 q4 hfz y1 d0 d1 d2 d3 g0 g1 g2 g3 hgl
  obtain ⟨z1, k0, k1, k2, k3, m0, m1, m2, m3⟩ := hS2.out.to2.b4
  clear HL
  go_wp2_with fail
  refine bodyPost_ret (v := .tuple #[.agg #[.int .i64 0, .int .i64 0, .slice none 0 0, .int .i64 0], .int .i64 7]) (by simp [results, Tryz.results17, go_sem, *]) rfl ⟨rfl, ?_⟩
  exact ((((hS2.out.to2.set 0 (.int .i64 0)).set 1 (.int .i64 0)).set 2 (.slice none 0 0)).set 3 (.int .i64 0)).tail.tail.tail.tail.gold
set_option maxHeartbeats 1000000 in
theorem abP_gone (t r n : Int) (v : Value) (l : List Rq) (id0 : Int) (w : World) (hv : RQ w v l) (hl : l.length ≤ 1000) (i : Nat) (hi : plc l id0 = i) (hil : i < l.length) (hs : decide (0 < (l.getD i default).since) = true) (hm : (l.getD i default).mode = 0) :
    Calls Tryz.prog 17 #[hval t r v n, .int .i64 id0] w fun e w' => ∃ a c, e = .returned (.tuple #[hval t r (.slice a (keepQ (fun q => q.id == id0) l).length c) n, .int .i64 0]) ∧ Sep w' [vq (.slice a (keepQ (fun q => q.id == id0) l).length c) (keepQ (fun q => q.id == id0) l), old w] := by
  have hB := Lib.hid (boxes2 w 26 26 #[.int .i64 t, .int .i64 r, v, .int .i64 n] #[.int .i64 0, .int .i64 0, .slice none 0 0, .int .i64 0])
  have HO := Lib.hid (own_any t r n v l _ (hv.below (two_boxes w #[.int .i64 t, .int .i64 r, v, .int .i64 n] #[.int .i64 0, .int .i64 0, .slice none 0 0, .int .i64 0] 26 26)) hl)
  have i1 : (0 : Int) ≤ (i : Int) := by omega
  have i2 : (i : Int) < (l.length : Int) := by omega
  have d : decide ((i : Int) < 0) = false := by rw [decide_eq_false_iff_not]; omega
  have hm2 : ((l.getD i default).mode != 0) = false := by rw [hm]; rfl
  clear hm
  obtain ⟨a, c, rfl, _⟩ := hv
  unfold hval at *
  go_enter Tryz.func17, Tryz.ntmps17
  go_wp2_with fail
  refine HO.out.mono ?_
  rintro e w1 ⟨a1, c1, rfl, hS⟩
  have hS2 := (hS.graft hB.out).alloc #[.int .i64 t, .int .i64 r, .slice a1 l.length c1, .int .i64 n] 62
  have HP := Lib.hid (place_any t r n (.slice a1 l.length c1) l id0 _ hS2.to1.vq_rq hl)
  rw [show idxF (fun q : Rq => q.id == id0) l 0 = _ from hi] at HP
  unfold hval at HP
  obtain ⟨y1, d0, d1, d2, d3, g0, g1, g2, g3⟩ := hS2.b4
  replace hS2 := Lib.hid hS2
  clear hS HO hB
  go_wp2_with fail
  refine HP.out.mono ?_
  rintro e w2 ⟨rfl, b2⟩
  replace hS2 := Lib.hid (hS2.out.below b2)
  clear b2 HP y1 d0 d1 d2 d3 g0 g1 g2 g3
  obtain ⟨g, rfl, hgl, hmc, q0, q1, q2, q3, q4, hfz⟩ := hS2.out.to1.vq_at rfl hil
  obtain ⟨y1, d0, d1, d2, d3, g0, g1, g2, g3⟩ := hS2.out.b4
  have HW := Lib.hid (fun W => waits_any (l.getD i default) W)
  rw [hs] at HW
  have HL := Lib.hid (fun W => holds_any (l.getD i default) W)
  rw [hm2] at HL
  clear hm2
  generalize hq : l.getD i default = q at *
  replace hq := Lib.hid hq
  obtain ⟨id, txn, mode, want, since⟩ := q
  unfold Rq.val at HW HL
  simp only at q0 q1 q2 q3 q4 HW HL
  go_wp2_with fail
  refine (HW.out _).mono ?_
  rintro e w3 ⟨rfl, b3⟩
  replace hS2 := Lib.hid (hS2.out.below b3)
  clear b3 HW q0 q1 q2 q3 q4 hfz y1 d0 d1 d2 d3 g0 g1 g2 g3 hgl
  obtain ⟨g', hg', hgl, _, q0, q1, q2, q3, q4, hfz⟩ := hS2.out.to1.vq_at rfl hil
  injection hg' with hg'
  injection hg' with hg'
  subst hg'
  rw [hq.out] at q0 q1 q2 q3 q4
  simp only at q0 q1 q2 q3 q4
  obtain ⟨y1, d0, d1, d2, d3, g0, g1, g2, g3⟩ := hS2.out.b4
  go_wp2_with fail
  refine (HL.out _).mono ?_
  rintro e w4 ⟨rfl, b4⟩
  replace hS2 := Lib.hid (hS2.out.below b4)
  clear b4 HL q0 q1 q2 q3 q4 hfz y1 d0 d1 d2 d3 g0 g1 g2 g3 hgl
  obtain ⟨y1, d0, d1, d2, d3, g0, g1, g2, g3⟩ := hS2.out.b4
  have HX := Lib.hid (withoutP_any t r n (some ⟨g, 0, none⟩) l.length c1 l id0 w4 _ hS2.out.to1 rfl hl)
  unfold hval at HX
  generalize hkq : keepQ (fun q => q.id == id0) l = l' at *
  replace hkq := Lib.hid hkq
  go_wp2_with fail
  refine HX.out.mono ?_
  rintro e w5 ⟨rfl, hS3⟩
  obtain ⟨z1, k0, k1, k2, k3, m0, m1, m2, m3⟩ := hS3.to2.b4
  replace hS3 := Lib.hid hS3
  clear HX hS2 y1 d0 d1 d2 d3 g0 g1 g2 g3
  go_wp2_with fail
  refine bodyPost_ret (v := .tuple #[.agg #[.int .i64 t, .int .i64 r, .slice (some ⟨g, 0, none⟩) l'.length c1, .int .i64 n], .int .i64 0]) (by simp [results, Tryz.results17, go_sem, *]) rfl ⟨some ⟨g, 0, none⟩, c1, by rw [hkq.out], ?_⟩
  rw [hkq.out]
  exact (((((hS3.out.to2.set 0 (.int .i64 t)).set 1 (.int .i64 r)).set 2 (.slice (some ⟨g, 0, none⟩) l'.length c1)).set 3 (.int .i64 n)).tail.drop1.drop1)
set_option maxHeartbeats 1000000 in
theorem abP_stay (t r n : Int) (v : Value) (l : List Rq) (id0 : Int) (w : World) (hv : RQ w v l) (hl : l.length ≤ 1000) (i : Nat) (hi : plc l id0 = i) (hil : i < l.length) (hs : decide (0 < (l.getD i default).since) = true) (hm : (l.getD i default).mode ≠ 0) :
    Calls Tryz.prog 17 #[hval t r v n, .int .i64 id0] w fun e w' => ∃ a c, e = .returned (.tuple #[hval t r (.slice a (calm l i).length c) n, .int .i64 0]) ∧ Sep w' [vq (.slice a (calm l i).length c) (calm l i), old w] := by
  obtain ⟨R, hR⟩ : ∃ R, calm l i = R := ⟨_, rfl⟩
  have hRl := Lib.hid (calm_len l i)
  rw [hR]
  rw [hR] at hRl
  rw [hRl.out]
  replace hR := Lib.hid hR
  have hB := Lib.hid (boxes2 w 26 26 #[.int .i64 t, .int .i64 r, v, .int .i64 n] #[.int .i64 0, .int .i64 0, .slice none 0 0, .int .i64 0])
  have HO := Lib.hid (own_any t r n v l _ (hv.below (two_boxes w #[.int .i64 t, .int .i64 r, v, .int .i64 n] #[.int .i64 0, .int .i64 0, .slice none 0 0, .int .i64 0] 26 26)) hl)
  have i1 : (0 : Int) ≤ (i : Int) := by omega
  have i2 : (i : Int) < (l.length : Int) := by omega
  have d : decide ((i : Int) < 0) = false := by rw [decide_eq_false_iff_not]; omega
  have hm2 : ((l.getD i default).mode != 0) = true := by simpa using hm
  clear hm
  obtain ⟨a, c, rfl, _⟩ := hv
  unfold hval at *
  go_enter Tryz.func17, Tryz.ntmps17
  go_wp2_with fail
  refine HO.out.mono ?_
  rintro e w1 ⟨a1, c1, rfl, hS⟩
  have hS2 := (hS.graft hB.out).alloc #[.int .i64 t, .int .i64 r, .slice a1 l.length c1, .int .i64 n] 62
  have HP := Lib.hid (place_any t r n (.slice a1 l.length c1) l id0 _ hS2.to1.vq_rq hl)
  rw [show idxF (fun q : Rq => q.id == id0) l 0 = _ from hi] at HP
  unfold hval at HP
  obtain ⟨y1, d0, d1, d2, d3, g0, g1, g2, g3⟩ := hS2.b4
  replace hS2 := Lib.hid hS2
  clear hS HO hB
  go_wp2_with fail
  refine HP.out.mono ?_
  rintro e w2 ⟨rfl, b2⟩
  replace hS2 := Lib.hid (hS2.out.below b2)
  clear b2 HP y1 d0 d1 d2 d3 g0 g1 g2 g3
  obtain ⟨g, rfl, hgl, hmc, q0, q1, q2, q3, q4, hfz⟩ := hS2.out.to1.vq_at rfl hil
  obtain ⟨y1, d0, d1, d2, d3, g0, g1, g2, g3⟩ := hS2.out.b4
  have HW := Lib.hid (fun W => waits_any (l.getD i default) W)
  rw [hs] at HW
  have HL := Lib.hid (fun W => holds_any (l.getD i default) W)
  rw [hm2] at HL
  clear hm2
  generalize hq : l.getD i default = q at *
  replace hq := Lib.hid hq
  obtain ⟨id, txn, mode, want, since⟩ := q
  unfold Rq.val at HW HL
  simp only at q0 q1 q2 q3 q4 HW HL
  go_wp2_with fail
  refine (HW.out _).mono ?_
  rintro e w3 ⟨rfl, b3⟩
  replace hS2 := Lib.hid (hS2.out.below b3)
  clear b3 HW q0 q1 q2 q3 q4 hfz y1 d0 d1 d2 d3 g0 g1 g2 g3 hgl
  obtain ⟨g', hg', hgl, _, q0, q1, q2, q3, q4, hfz⟩ := hS2.out.to1.vq_at rfl hil
  injection hg' with hg'
  injection hg' with hg'
  subst hg'
  rw [hq.out] at q0 q1 q2 q3 q4
  simp only at q0 q1 q2 q3 q4
  obtain ⟨y1, d0, d1, d2, d3, g0, g1, g2, g3⟩ := hS2.out.b4
  go_wp2_with fail
  refine (HL.out _).mono ?_
  rintro e w4 ⟨rfl, b4⟩
  replace hS2 := Lib.hid (hS2.out.below b4)
  clear b4 HL q0 q1 q2 q3 q4 hfz y1 d0 d1 d2 d3 g0 g1 g2 g3 hgl
  obtain ⟨g', hg', hgl, _, q0, q1, q2, q3, q4, hfz⟩ := hS2.out.to1.vq_at rfl hil
  injection hg' with hg'
  injection hg' with hg'
  subst hg'
  rw [hq.out] at q0 q1 q2 q3 q4
  simp only at q0 q1 q2 q3 q4
  obtain ⟨y1, d0, d1, d2, d3, g0, g1, g2, g3⟩ := hS2.out.b4
  have z3 := hfz (i * 5 + 3)
  have z4 := hfz (i * 5 + 4)
  have n1 := hS2.out.to1.vq_ne rfl
  have n2 := n1.symm
  have n3 := hS2.out.to2.to2.vq_ne rfl
  have n4 := n3.symm
  obtain ⟨x1, e0, e1, e2, e3, f0, f1, f2, f3⟩ := hS2.out.to2.b4
  go_wp2_with fail
  go_region
  have hS3 := (hS2.out.to1.vq_setF rfl hil (f := 3) (by omega) (.int .i64 mode) ⟨id, txn, mode, mode, since⟩ (by rw [hq.out]; rfl)).vq_setF (by simp) hil (f := 4) (by omega) (.int .i64 0) ⟨id, txn, mode, mode, 0⟩ (by rw [getD_set _ _ _ _ hil, if_pos rfl]; rfl)
  have e5 : (l.set i (⟨id, txn, mode, mode, since⟩ : Rq)).set i ⟨id, txn, mode, mode, 0⟩ = R := by
    have h1 := hR.out
    unfold calm at h1
    rw [hq.out] at h1
    rw [List.set_set]
    exact h1
  rw [e5] at hS3
  replace hS3 := Lib.hid hS3.drew
  clear hS2 q0 q1 q2 q3 q4 z3 z4 hfz y1 d0 d1 d2 d3 g0 g1 g2 g3 x1 e0 e1 e2 e3 f0 f1 f2 f3 e5
  generalize World.drew _ = W5 at *
  obtain ⟨y1, d0, d1, d2, d3, g0, g1, g2, g3⟩ := hS3.out.to1.b4
  obtain ⟨x1, e0, e1, e2, e3, f0, f1, f2, f3⟩ := hS3.out.to2.b4
  go_wp2_with fail
  refine bodyPost_ret (v := .tuple #[.agg #[.int .i64 t, .int .i64 r, .slice (some ⟨g, 0, none⟩) l.length c1, .int .i64 n], .int .i64 0]) (by simp [results, Tryz.results17, go_sem, *]) rfl ⟨some ⟨g, 0, none⟩, c1, rfl, ?_⟩
  exact (((((hS3.out.to2.set 0 (.int .i64 t)).set 1 (.int .i64 r)).set 2 (.slice (some ⟨g, 0, none⟩) l.length c1)).set 3 (.int .i64 n)).tail.drop1.drop1)
/-- What is found. -/
def findV (l : List Rq) (id : Int) : Rq × Bool := if plc l id < 0 then (⟨0, 0, 0, 0, 0⟩, false) else (l.getD (plc l id).toNat default, true)
theorem find_none (t r n : Int) (v : Value) (l : List Rq) (id0 : Int) (w : World) (hv : RQ w v l) (hl : l.length ≤ 1000) (hi : plc l id0 = -1) :
    Calls Tryz.prog 21 #[hval t r v n, .int .i64 id0] w fun e w' => e = .returned (.tuple #[(⟨0, 0, 0, 0, 0⟩ : Rq).val, .bool false]) ∧ Below w.heap.size w w' := by
  have hB := Lib.hid (boxes2 w 26 42 #[.int .i64 t, .int .i64 r, v, .int .i64 n] #[.int .i64 0, .int .i64 0, .int .i64 0, .int .i64 0, .int .i64 0])
  have HP := Lib.hid (fun W hb => place_any t r n v l id0 W (hv.below hb) hl)
  rw [show idxF (fun q : Rq => q.id == id0) l 0 = _ from hi] at HP
  obtain ⟨a, c, rfl, _⟩ := hv
  unfold hval Rq.val at *
  go_enter Tryz.func21, Tryz.ntmps21
  go_wp2_with fail
  refine (HP.out _ hB.out.tail.tail.gold).mono ?_
  rintro e w1 ⟨rfl, b1⟩
  replace hB := Lib.hid (hB.out.below b1)
  obtain ⟨_, p0, p1, p2, p3, p4, _⟩ := hB.out.b5
  clear b1
  go_wp2_with fail
  refine bodyPost_ret (v := .tuple #[.agg #[.int .i64 0, .int .i64 0, .int .i64 0, .int .i64 0, .int .i64 0], .bool false]) (by simp [results, Tryz.results21, go_sem, *]) rfl ⟨rfl, ?_⟩
  first | exact hB.out.tail.tail.gold | exact (((((hB.out.set 0 (.int .i64 0)).set 1 (.int .i64 0)).set 2 (.int .i64 0)).set 3 (.int .i64 0)).set 4 (.int .i64 0)).tail.tail.gold
theorem find_some (t r n : Int) (v : Value) (l : List Rq) (id0 : Int) (w : World) (hv : RQ w v l) (hl : l.length ≤ 1000) (i : Nat) (hi : plc l id0 = i) (hil : i < l.length) :
    Calls Tryz.prog 21 #[hval t r v n, .int .i64 id0] w fun e w' => e = .returned (.tuple #[(l.getD i default).val, .bool true]) ∧ Below w.heap.size w w' := by
  have hB := Lib.hid (boxes2 w 26 42 #[.int .i64 t, .int .i64 r, v, .int .i64 n] #[.int .i64 0, .int .i64 0, .int .i64 0, .int .i64 0, .int .i64 0])
  have HP := Lib.hid (fun W hb => place_any t r n v l id0 W (hv.below hb) hl)
  rw [show idxF (fun q : Rq => q.id == id0) l 0 = _ from hi] at HP
  have i1 : (0 : Int) ≤ (i : Int) := by omega
  have i2 : (i : Int) < (l.length : Int) := by omega
  have d : decide ((i : Int) < 0) = false := by rw [decide_eq_false_iff_not]; omega
  obtain ⟨a, c, rfl, _, _, hr⟩ := hv
  obtain ⟨b, off, rfl, hbl, hz⟩ := hr (by omega)
  have hzi := hz i hil
  clear hz hr hil hi
  generalize l.getD i default = q at *
  obtain ⟨id, txn, mode, want, since⟩ := q
  unfold hval Rq.val at *
  simp only at hzi ⊢
  go_enter Tryz.func21, Tryz.ntmps21
  go_wp2_with fail
  refine (HP.out _ hB.out.tail.tail.gold).mono ?_
  rintro e w1 ⟨rfl, b1⟩
  replace hB := Lib.hid (hB.out.below b1)
  obtain ⟨_, p0, p1, p2, p3, p4, f0, f1, f2, f3, f4⟩ := hB.out.b5
  obtain ⟨_, k0, k1, k2, k3, _⟩ := hB.out.to1.b4
  obtain ⟨z0, z1, z2, z3, z4⟩ := hzi
  rw [← hB.out.tail.tail.gold.cell (by exact hbl)] at z0 z1 z2 z3 z4
  clear b1 HP
  go_wp2_with fail
  refine bodyPost_ret (v := .tuple #[.agg #[.int .i64 id, .int .i64 txn, .int .i64 mode, .int .i64 want, .int .i64 since], .bool true]) (by simp [results, Tryz.results21, go_sem, *]) rfl ⟨rfl, ?_⟩
  exact (((((hB.out.set 0 (.int .i64 id)).set 1 (.int .i64 txn)).set 2 (.int .i64 mode)).set 3 (.int .i64 want)).set 4 (.int .i64 since)).tail.tail.gold
end Go.Proofs.YtmacpjnkmkaloaaGreat
namespace Go.Proofs.YtmacpjnkmkaloaaGreat
set_option linter.unusedSimpArgs false
set_option linter.unusedVariables false
set_option linter.unnecessarySimpa false
open Go.RowKit
theorem plc_neg {l : List Rq} {id : Int} (h : plc l id < 0) : plc l id = -1 := by
  rcases idxF_bd (fun q : Rq => q.id == id) l 0 with h' | ⟨j, h1, _, _⟩
  · exact h'
  · unfold plc at h; omega
end Go.Proofs.YtmacpjnkmkaloaaGreat
