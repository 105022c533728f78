/-
  The contracts of the reference's Leave and Abandon. No condition beside requests that can be read.
-/
import Derived.Test.YtmacpjnkmkaloaaQLeave
namespace Go.Proofs.Ytmacpjnkmkaloaa
open Go.RowKit
def zhd : Value := hval 0 0 (.slice none 0 0) 0
theorem boxes2 (w : World) (t0 t1 : TypeId) (b1 b2 : Array Value) : Sep ((w.alloc (.cells b1 t0)).alloc (.cells b2 t1)) [blk (w.heap.size + 1) t1 b2, blk w.heap.size t0 b1, old w] := by
  have := ((Sep.start w).alloc b1 t0).alloc b2 t1
  rw [World.size_alloc] at this
  exact this
theorem leaveR_none (t r n : Int) (v : Value) (l : List Rq) (id0 : Int) (w : World) (hv : RQ w v l) (hl : l.length ≤ 1000) (hi : idxF (fun q => q.id == id0) l 0 = -1) :
    Calls Try.prog 10 #[hval t r v n, .int .i64 id0] w fun e w' => e = .returned (.tuple #[zhd, .int .i64 5]) ∧ Below w.heap.size w w' := by
  have hB := Lib.hid (boxes2 w 26 26 #[.int .i64 t, .int .i64 r, v, .int .i64 n] #[.int .i64 0, .int .i64 0, .slice none 0 0, .int .i64 0])
  have hb2 := two_boxes w #[.int .i64 t, .int .i64 r, v, .int .i64 n] #[.int .i64 0, .int .i64 0, .slice none 0 0, .int .i64 0] 26 26
  have HA := Lib.hid (at_any t r n v l id0 _ (hv.below hb2) hl)
  rw [hi] at HA
  clear hb2 hi
  obtain ⟨a, c, rfl, _⟩ := hv
  unfold hval at *
  go_enter Try.func10, Try.ntmps10
  go_wp2_with fail
  refine HA.out.mono ?_
  rintro e w1 ⟨rfl, b1⟩
  replace hB := Lib.hid (hB.out.below b1)
  obtain ⟨y2, e0, e1, e2, e3, f0, f1, f2, f3⟩ := hB.out.b4
  clear b1 HA
  go_wp2_with fail
  refine bodyPost_ret (v := .tuple #[.agg #[.int .i64 0, .int .i64 0, .slice none 0 0, .int .i64 0], .int .i64 5]) (by simp [results, Try.results10, go_sem, *]) rfl ⟨rfl, ?_⟩
  exact ((((hB.out.set 0 (.int .i64 0)).set 1 (.int .i64 0)).set 2 (.slice none 0 0)).set 3 (.int .i64 0)).tail.tail.gold
theorem leaveR_some (t r n : Int) (v : Value) (l : List Rq) (id0 : Int) (i : Nat) (w : World) (hv : RQ w v l) (hl : l.length ≤ 1000) (hi : idxF (fun q => q.id == id0) l 0 = i) (hil : i < l.length) :
    Calls Try.prog 10 #[hval t r v n, .int .i64 id0] w fun e w' => ∃ a c, e = .returned (.tuple #[hval t r (.slice a (l.eraseIdx i).length c) n, .int .i64 0]) ∧ Sep w' [vq (.slice a (l.eraseIdx i).length c) (l.eraseIdx i), old w] := by
  have hB := Lib.hid (boxes2 w 26 26 #[.int .i64 t, .int .i64 r, v, .int .i64 n] #[.int .i64 0, .int .i64 0, .slice none 0 0, .int .i64 0])
  have hb2 := two_boxes w #[.int .i64 t, .int .i64 r, v, .int .i64 n] #[.int .i64 0, .int .i64 0, .slice none 0 0, .int .i64 0] 26 26
  have HA := Lib.hid (at_any t r n v l id0 _ (hv.below hb2) hl)
  rw [hi] at HA
  have HW := Lib.hid (fun W (hb : Below w.heap.size w W) => withoutR_any t r n v l i W (hv.below hb) hl hil)
  have d : decide ((i : Int) < 0) = false := by rw [decide_eq_false_iff_not]; omega
  clear hb2 hi
  obtain ⟨a, c, rfl, _⟩ := hv
  unfold hval at *
  go_enter Try.func10, Try.ntmps10
  go_wp2_with fail
  refine HA.out.mono ?_
  rintro e w1 ⟨rfl, b1⟩
  replace hB := Lib.hid (hB.out.below b1)
  obtain ⟨y2, e0, e1, e2, e3, f0, f1, f2, f3⟩ := hB.out.b4
  obtain ⟨y3, k0, k1, k2, k3, _⟩ := hB.out.to1.b4
  replace HW := Lib.hid (HW.out w1 hB.out.tail.tail.gold)
  clear b1 HA
  go_wp2_with fail
  refine HW.out.mono ?_
  rintro e w2 ⟨a', c', rfl, hS⟩
  replace hS := Lib.hid (hS.graft hB.out)
  clear HW y2 e0 e1 e2 e3 f0 f1 f2 f3 y3 k0 k1 k2 k3 hB
  obtain ⟨y2, e0, e1, e2, e3, f0, f1, f2, f3⟩ := hS.out.to1.b4
  generalize hz : (l.eraseIdx i).length = z at *
  go_wp2_with fail
  refine bodyPost_ret (v := .tuple #[.agg #[.int .i64 t, .int .i64 r, .slice a' z c', .int .i64 n], .int .i64 0]) (by simp [results, Try.results10, go_sem, *]) rfl ⟨a', c', by rw [hz], ?_⟩
  rw [hz]
  exact (((((hS.out.to1.set 0 (.int .i64 t)).set 1 (.int .i64 r)).set 2 (.slice a' z c')).set 3 (.int .i64 n)).tail.drop1)
/-- What is left of a request that does not wait any more. -/
def calm (l : List Rq) (i : Nat) : List Rq := l.set i { (l.getD i default) with want := (l.getD i default).mode, since := 0 }
theorem calm_len (l : List Rq) (i : Nat) : (calm l i).length = l.length := by simp [calm]
theorem qcells_calm (l : List Rq) (i : Nat) (h : i < l.length) : ((qcells l).set (i * 5 + 3) (.int .i64 (l.getD i default).mode)).set (i * 5 + 4) (.int .i64 0) = qcells (calm l i) := by
  induction l generalizing i with
  | nil => simp at h
  | cons r l ih =>
    cases i with
    | zero => rfl
    | succ i =>
      have ih' := ih i (by simpa using h)
      have e : (r :: l).getD (i + 1) default = l.getD i default := by simp [List.getD]
      unfold calm
      rw [e]
      simp only [List.set_cons_succ]
      unfold calm at ih'
      simp only [qcells, List.flatMap_cons] at ih' ⊢
      rw [← ih']
      rw [List.set_append_right _ _ (by simp [Rq.cells]; omega), List.set_append_right _ _ (by simp [Rq.cells]; omega)]
      simp only [Rq.cells, List.length_cons, List.length_nil]
      rw [show (i + 1) * 5 + 3 - (0 + 1 + 1 + 1 + 1 + 1) = i * 5 + 3 by omega, show (i + 1) * 5 + 4 - (0 + 1 + 1 + 1 + 1 + 1) = i * 5 + 4 by omega]
theorem Sep.vq_calm {w : World} {g m c i : Nat} {l : List Rq} {rs : List Res} (h : Sep w (vq (.slice (some ⟨g, 0, none⟩) m c) l :: rs)) (hl : l.length = m) (hi : i < m) :
    Sep ((w.setCell ⟨g, i * 5 + 3, none⟩ (.int .i64 (l.getD i default).mode)).setCell ⟨g, i * 5 + 4, none⟩ (.int .i64 0)) (vq (.slice (some ⟨g, 0, none⟩) m c) (calm l i) :: rs) := by
  subst hl
  have h1 : Sep w (vec 48 5 (.slice (some ⟨g, 0, none⟩) l.length c) l.length (qcells l) :: rs) := h
  have h2 := (h1.vec_set (k := i * 5 + 3) (by rw [qcells_len]; omega) (.int .i64 (l.getD i default).mode)).vec_set (k := i * 5 + 4) (by rw [List.length_set, qcells_len]; omega) (.int .i64 0)
  rw [qcells_calm l i hi] at h2
  unfold vq
  rw [calm_len]
  exact h2
/-- Abandon's answers: 5 none, 7 no wait, 0. -/
theorem abandonR_none (t r n : Int) (v : Value) (l : List Rq) (id0 : Int) (w : World) (hv : RQ w v l) (hl : l.length ≤ 1000) (hi : idxF (fun q => q.id == id0) l 0 = -1) :
    Calls Try.prog 11 #[hval t r v n, .int .i64 id0] w fun e w' => e = .returned (.tuple #[zhd, .int .i64 5]) ∧ Below w.heap.size w w' := by
  have hB := Lib.hid (boxes2 w 26 26 #[.int .i64 t, .int .i64 r, v, .int .i64 n] #[.int .i64 0, .int .i64 0, .slice none 0 0, .int .i64 0])
  have hb2 := two_boxes w #[.int .i64 t, .int .i64 r, v, .int .i64 n] #[.int .i64 0, .int .i64 0, .slice none 0 0, .int .i64 0] 26 26
  have HA := Lib.hid (at_any t r n v l id0 _ (hv.below hb2) hl)
  rw [hi] at HA
  clear hb2 hi
  obtain ⟨a, c, rfl, _⟩ := hv
  unfold hval at *
  go_enter Try.func11, Try.ntmps11
  go_wp2_with fail
  refine HA.out.mono ?_
  rintro e w1 ⟨rfl, b1⟩
  replace hB := Lib.hid (hB.out.below b1)
  obtain ⟨y2, e0, e1, e2, e3, f0, f1, f2, f3⟩ := hB.out.b4
  clear b1 HA
  go_wp2_with fail
  refine bodyPost_ret (v := .tuple #[.agg #[.int .i64 0, .int .i64 0, .slice none 0 0, .int .i64 0], .int .i64 5]) (by simp [results, Try.results11, go_sem, *]) rfl ⟨rfl, ?_⟩
  exact ((((hB.out.set 0 (.int .i64 0)).set 1 (.int .i64 0)).set 2 (.slice none 0 0)).set 3 (.int .i64 0)).tail.tail.gold
theorem abandonR_calm (t r n : Int) (v : Value) (l : List Rq) (id0 : Int) (i : Nat) (w : World) (hv : RQ w v l) (hl : l.length ≤ 1000) (hi : idxF (fun q => q.id == id0) l 0 = i) (hil : i < l.length) (hs : (l.getD i default).since ≤ 0) :
    Calls Try.prog 11 #[hval t r v n, .int .i64 id0] w fun e w' => e = .returned (.tuple #[zhd, .int .i64 7]) ∧ Below w.heap.size w w' := by
  have hB := Lib.hid (boxes2 w 26 26 #[.int .i64 t, .int .i64 r, v, .int .i64 n] #[.int .i64 0, .int .i64 0, .slice none 0 0, .int .i64 0])
  have hb2 := two_boxes w #[.int .i64 t, .int .i64 r, v, .int .i64 n] #[.int .i64 0, .int .i64 0, .slice none 0 0, .int .i64 0] 26 26
  have HA := Lib.hid (at_any t r n v l id0 _ (hv.below hb2) hl)
  rw [hi] at HA
  have HW := Lib.hid (fun W => waitsR_any (l.getD i default) W)
  rw [decide_eq_false (show ¬ 0 < (l.getD i default).since by omega)] at HW
  have d : decide ((i : Int) < 0) = false := by rw [decide_eq_false_iff_not]; omega
  clear hb2 hi hs
  obtain ⟨a, c, rfl, hlc, _, hr⟩ := hv
  obtain ⟨b, off, rfl, hbl, hz⟩ := hr (by omega)
  obtain ⟨z0, z1, z2, z3, z4⟩ := hz i hil
  clear hr hz
  generalize l.getD i default = q at *
  have i1 : (0 : Int) ≤ (i : Int) := by omega
  have i2 : (i : Int) < (l.length : Int) := by omega
  obtain ⟨id, txn, mode, want, since⟩ := q
  unfold hval at *
  simp only [Rq.val] at HW z0 z1 z2 z3 z4
  generalize l.length = m at *
  go_enter Try.func11, Try.ntmps11
  go_wp2_with fail
  refine HA.out.mono ?_
  rintro e w1 ⟨rfl, b1⟩
  replace hB := Lib.hid (hB.out.below b1)
  obtain ⟨y2, e0, e1, e2, e3, f0, f1, f2, f3⟩ := hB.out.b4
  obtain ⟨y3, k0, k1, k2, k3, _⟩ := hB.out.to1.b4
  rw [← hB.out.tail.tail.gold.cell (by exact hbl)] at z0 z1 z2 z3 z4
  clear b1 HA
  go_wp2_with fail
  refine (HW.out _).mono ?_
  rintro e w2 ⟨rfl, b2⟩
  replace hB := Lib.hid (hB.out.below b2)
  clear b2 HW y2 e0 e1 e2 e3 f0 f1 f2 f3 y3 k0 k1 k2 k3 z0 z1 z2 z3 z4
  obtain ⟨y2, e0, e1, e2, e3, f0, f1, f2, f3⟩ := hB.out.b4
  go_wp2_with fail
  refine bodyPost_ret (v := .tuple #[.agg #[.int .i64 0, .int .i64 0, .slice none 0 0, .int .i64 0], .int .i64 7]) (by simp [results, Try.results11, go_sem, *]) rfl ⟨rfl, ?_⟩
  exact ((((hB.out.set 0 (.int .i64 0)).set 1 (.int .i64 0)).set 2 (.slice none 0 0)).set 3 (.int .i64 0)).tail.tail.gold
theorem abandonR_gone (t r n : Int) (v : Value) (l : List Rq) (id0 : Int) (i : Nat) (w : World) (hv : RQ w v l) (hl : l.length ≤ 1000) (hi : idxF (fun q => q.id == id0) l 0 = i) (hil : i < l.length) (hs : 0 < (l.getD i default).since) (hm : ((l.getD i default).mode != 0) = false) :
    Calls Try.prog 11 #[hval t r v n, .int .i64 id0] w fun e w' => ∃ a c, e = .returned (.tuple #[hval t r (.slice a (l.eraseIdx i).length c) n, .int .i64 0]) ∧ Sep w' [vq (.slice a (l.eraseIdx i).length c) (l.eraseIdx i), old w] := by
  have hB := Lib.hid (boxes2 w 26 26 #[.int .i64 t, .int .i64 r, v, .int .i64 n] #[.int .i64 0, .int .i64 0, .slice none 0 0, .int .i64 0])
  have hb2 := two_boxes w #[.int .i64 t, .int .i64 r, v, .int .i64 n] #[.int .i64 0, .int .i64 0, .slice none 0 0, .int .i64 0] 26 26
  have HA := Lib.hid (at_any t r n v l id0 _ (hv.below hb2) hl)
  rw [hi] at HA
  have HW := Lib.hid (fun W => waitsR_any (l.getD i default) W)
  rw [decide_eq_true (show 0 < (l.getD i default).since by omega)] at HW
  have HH := Lib.hid (fun W => holdsR_any (l.getD i default) W)
  rw [hm] at HH
  have HX' := Lib.hid (fun W (hb : Below w.heap.size w W) => withoutR_any t r n v l i W (hv.below hb) hl hil)
  have d : decide ((i : Int) < 0) = false := by rw [decide_eq_false_iff_not]; omega
  clear hb2 hi hs hm
  obtain ⟨a, c, rfl, hlc, _, hr⟩ := hv
  obtain ⟨b, off, rfl, hbl, hz⟩ := hr (by omega)
  obtain ⟨z0, z1, z2, z3, z4⟩ := hz i hil
  have hz' := Lib.hid (hz i hil)
  clear hr hz
  generalize l.getD i default = q at *
  have i1 : (0 : Int) ≤ (i : Int) := by omega
  have i2 : (i : Int) < (l.length : Int) := by omega
  obtain ⟨id, txn, mode, want, since⟩ := q
  unfold hval at *
  simp only [Rq.val] at HW HH z0 z1 z2 z3 z4
  generalize hlm : l.length = m at *
  replace hlm := Lib.hid hlm
  go_enter Try.func11, Try.ntmps11
  go_wp2_with fail
  refine HA.out.mono ?_
  rintro e w1 ⟨rfl, b1⟩
  replace hB := Lib.hid (hB.out.below b1)
  obtain ⟨y2, e0, e1, e2, e3, f0, f1, f2, f3⟩ := hB.out.b4
  obtain ⟨y3, k0, k1, k2, k3, _⟩ := hB.out.to1.b4
  rw [← hB.out.tail.tail.gold.cell (by exact hbl)] at z0 z1 z2 z3 z4
  clear b1 HA
  go_wp2_with fail
  refine (HW.out _).mono ?_
  rintro e w2 ⟨rfl, b2⟩
  replace hB := Lib.hid (hB.out.below b2)
  clear b2 HW y2 e0 e1 e2 e3 f0 f1 f2 f3 y3 k0 k1 k2 k3 z0 z1 z2 z3 z4
  obtain ⟨y2, e0, e1, e2, e3, f0, f1, f2, f3⟩ := hB.out.b4
  obtain ⟨y3, k0, k1, k2, k3, _⟩ := hB.out.to1.b4
  obtain ⟨z0, z1, z2, z3, z4⟩ := hz'.out
  rw [← hB.out.tail.tail.gold.cell (by exact hbl)] at z0 z1 z2 z3 z4
  try simp only at z0 z1 z2 z3 z4
  go_wp2_with fail
  refine (HH.out _).mono ?_
  rintro e w3 ⟨rfl, b3⟩
  replace hB := Lib.hid (hB.out.below b3)
  clear b3 HH y2 e0 e1 e2 e3 f0 f1 f2 f3 y3 k0 k1 k2 k3 z0 z1 z2 z3 z4
  obtain ⟨y2, e0, e1, e2, e3, f0, f1, f2, f3⟩ := hB.out.b4
  obtain ⟨y3, k0, k1, k2, k3, _⟩ := hB.out.to1.b4
  replace HX' := Lib.hid (HX'.out w3 hB.out.tail.tail.gold)
  go_wp2_with fail
  refine HX'.out.mono ?_
  rintro e w4 ⟨a', c', rfl, hS⟩
  replace hS := Lib.hid (hS.graft hB.out)
  clear HX' y2 e0 e1 e2 e3 f0 f1 f2 f3 y3 k0 k1 k2 k3 hB
  obtain ⟨y2, e0, e1, e2, e3, f0, f1, f2, f3⟩ := hS.out.to1.b4
  generalize hz : (l.eraseIdx i).length = z at *
  go_wp2_with fail
  refine bodyPost_ret (v := .tuple #[.agg #[.int .i64 t, .int .i64 r, .slice a' z c', .int .i64 n], .int .i64 0]) (by simp [results, Try.results11, go_sem, *]) rfl ⟨a', c', by rw [hz], ?_⟩
  rw [hz]
  exact (((((hS.out.to1.set 0 (.int .i64 t)).set 1 (.int .i64 r)).set 2 (.slice a' z c')).set 3 (.int .i64 n)).tail.drop1)
set_option maxHeartbeats 2000000 in
theorem abandonR_stay (t r n : Int) (v : Value) (l : List Rq) (id0 : Int) (i : Nat) (w : World) (hv : RQ w v l) (hl : l.length ≤ 1000) (hi : idxF (fun q => q.id == id0) l 0 = i) (hil : i < l.length) (hs : 0 < (l.getD i default).since) (hm : ((l.getD i default).mode != 0) = true) :
    Calls Try.prog 11 #[hval t r v n, .int .i64 id0] w fun e w' => ∃ a c, e = .returned (.tuple #[hval t r (.slice a (calm l i).length c) n, .int .i64 0]) ∧ Sep w' [vq (.slice a (calm l i).length c) (calm l i), old w] := by
  have hB := Lib.hid (boxes2 w 26 26 #[.int .i64 t, .int .i64 r, v, .int .i64 n] #[.int .i64 0, .int .i64 0, .slice none 0 0, .int .i64 0])
  have hb2 := two_boxes w #[.int .i64 t, .int .i64 r, v, .int .i64 n] #[.int .i64 0, .int .i64 0, .slice none 0 0, .int .i64 0] 26 26
  have HA := Lib.hid (at_any t r n v l id0 _ (hv.below hb2) hl)
  rw [hi] at HA
  have HW := Lib.hid (fun W => waitsR_any (l.getD i default) W)
  rw [decide_eq_true (show 0 < (l.getD i default).since by omega)] at HW
  have HH := Lib.hid (fun W => holdsR_any (l.getD i default) W)
  rw [hm] at HH
  have HX' := Lib.hid (fun W (hb : Below w.heap.size w W) => copied_any t r n v l W (hv.below hb) hl)
  have d : decide ((i : Int) < 0) = false := by rw [decide_eq_false_iff_not]; omega
  clear hb2 hi hs hm
  obtain ⟨a, c, rfl, hlc, _, hr⟩ := hv
  obtain ⟨b, off, rfl, hbl, hz⟩ := hr (by omega)
  obtain ⟨z0, z1, z2, z3, z4⟩ := hz i hil
  have hz' := Lib.hid (hz i hil)
  clear hr hz
  generalize hq : l.getD i default = q at *
  replace hq := Lib.hid hq
  have i1 : (0 : Int) ≤ (i : Int) := by omega
  have i2 : (i : Int) < (l.length : Int) := by omega
  obtain ⟨id, txn, mode, want, since⟩ := q
  unfold hval at *
  simp only [Rq.val] at HW HH z0 z1 z2 z3 z4
  generalize hlm : l.length = m at *
  replace hlm := Lib.hid hlm
  go_enter Try.func11, Try.ntmps11
  go_wp2_with fail
  refine HA.out.mono ?_
  rintro e w1 ⟨rfl, b1⟩
  replace hB := Lib.hid (hB.out.below b1)
  obtain ⟨y2, e0, e1, e2, e3, f0, f1, f2, f3⟩ := hB.out.b4
  obtain ⟨y3, k0, k1, k2, k3, _⟩ := hB.out.to1.b4
  rw [← hB.out.tail.tail.gold.cell (by exact hbl)] at z0 z1 z2 z3 z4
  clear b1 HA
  go_wp2_with fail
  refine (HW.out _).mono ?_
  rintro e w2 ⟨rfl, b2⟩
  replace hB := Lib.hid (hB.out.below b2)
  clear b2 HW y2 e0 e1 e2 e3 f0 f1 f2 f3 y3 k0 k1 k2 k3 z0 z1 z2 z3 z4
  obtain ⟨y2, e0, e1, e2, e3, f0, f1, f2, f3⟩ := hB.out.b4
  obtain ⟨y3, k0, k1, k2, k3, _⟩ := hB.out.to1.b4
  obtain ⟨z0, z1, z2, z3, z4⟩ := hz'.out
  rw [← hB.out.tail.tail.gold.cell (by exact hbl)] at z0 z1 z2 z3 z4
  try simp only at z0 z1 z2 z3 z4
  go_wp2_with fail
  refine (HH.out _).mono ?_
  rintro e w3 ⟨rfl, b3⟩
  replace hB := Lib.hid (hB.out.below b3)
  clear b3 HH y2 e0 e1 e2 e3 f0 f1 f2 f3 y3 k0 k1 k2 k3 z0 z1 z2 z3 z4
  obtain ⟨y2, e0, e1, e2, e3, f0, f1, f2, f3⟩ := hB.out.b4
  obtain ⟨y3, k0, k1, k2, k3, _⟩ := hB.out.to1.b4
  replace HX' := Lib.hid (HX'.out w3 hB.out.tail.tail.gold)
  go_wp2_with fail
  refine HX'.out.mono ?_
  rintro e w4 ⟨a', c', rfl, hS⟩
  replace hS := Lib.hid (hS.graft hB.out)
  clear HX' y2 e0 e1 e2 e3 f0 f1 f2 f3 y3 k0 k1 k2 k3 hB
  have hlt1 := hS.out.to1.gblk.lt
  have hT := Lib.hid (hS.out.alloc #[.int .i64 t, .int .i64 r, .slice a' m c', .int .i64 n] 26)
  obtain ⟨g, rfl, hgl, hmc1, q0, q1, q2, q3, q4, hfz⟩ := hT.out.to1.vq_at hlm.out hil
  have zf3 := hfz (i * 5 + 3)
  have zf4 := hfz (i * 5 + 4)
  have n1 := hT.out.to1.vq_ne hlm.out
  have n2 := Ne.symm n1
  have n3 : w.heap.size + 1 ≠ w4.heap.size := by omega
  have n4 := Ne.symm n3
  have n5 := hT.out.tail.to1.to1.vq_ne hlm.out
  have n6 := Ne.symm n5
  have hS4 := hT.out.to1.vq_calm hlm.out hil
  rw [hq.out] at q0 q1 q2 q3 q4 hS4
  simp only at q0 q1 q2 q3 q4 hS4
  replace hS4 := Lib.hid hS4
  obtain ⟨y1, d0, d1, d2, d3, g0, g1, g2, g3⟩ := hT.out.b4
  obtain ⟨y2, e0, e1, e2, e3, f0, f1, f2, f3⟩ := hT.out.to2.b4
  clear hS hfz
  go_wp2_with fail
  go_region
  all_goals
    go_wp2_with fail
    refine bodyPost_ret (v := .tuple #[.agg #[.int .i64 t, .int .i64 r, .slice (some ⟨g, 0, none⟩) m c', .int .i64 n], .int .i64 0]) (by simp [results, Try.results11, go_sem, *]) rfl ⟨_, c', by rw [calm_len, hlm.out], ?_⟩
    rw [calm_len, hlm.out]
    exact (((((hS4.out.to2.set 0 (.int .i64 t)).set 1 (.int .i64 r)).set 2 (.slice (some ⟨g, 0, none⟩) m c')).set 3 (.int .i64 n)).tail.drop1.drop1).drew
end Go.Proofs.Ytmacpjnkmkaloaa
