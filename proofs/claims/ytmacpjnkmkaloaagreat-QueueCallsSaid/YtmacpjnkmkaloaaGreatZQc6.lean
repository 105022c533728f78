/-
  Contracts and plain laws that the walk leans on, part 6. No condition.
-/
import Derived.Test.YtmacpjnkmkaloaaGreatZQc5
namespace Go.Proofs.YtmacpjnkmkaloaaGreat
set_option linter.unusedSimpArgs false
set_option linter.unusedVariables false
set_option linter.unnecessarySimpa false
open Go.RowKit
theorem withoutP_any (t r n : Int) (a : Option Addr) (m c : Nat) (l : List Rq) (id0 : Int) (w : World) (rs : List Res) (hS : Sep w (vq (.slice a m c) l :: rs)) (hl : l.length = m) (hm : m ≤ 1000) :
    Calls Tryz.prog 58 #[hval t r (.slice a m c) n, .int .i64 id0] w fun e w' => e = .returned (hval t r (.slice a (keepQ (fun q => q.id == id0) l).length c) n) ∧ Sep w' (vq (.slice a (keepQ (fun q => q.id == id0) l).length c) (keepQ (fun q => q.id == id0) l) :: rs) := by
  have h3 : ∀ b0 b1 b2, Sep (((w.alloc (.cells b0 62)).alloc (.cells b1 3)).alloc (.cells b2 26)) (vq (.slice a m c) l :: blk (w.heap.size + 1 + 1) 26 b2 :: blk (w.heap.size + 1) 3 b1 :: blk w.heap.size 62 b0 :: rs) := fun b0 b1 b2 => by
    have := ((hS.alloc b0 62).alloc b1 3).alloc b2 26
    rw [World.size_alloc, World.size_alloc] at this
    exact this.to3
  have HD := Lib.hid (fun b0 b2 => deleteFunc_any a m c l 83 #[.pointer (some ⟨w.heap.size + 1, 0, none⟩)] (fun q => q.id == id0) _ _ (h3 b0 #[.int .i64 id0] b2) hl hm
    (fun W q hW => without1 id0 (w.heap.size + 1) W hW.to1.gblk.lt (hW.to1.gblk.cell 0) W q (Below.refl _ _)) eg_without)
  have eg := eg_without
  replace h3 := Lib.hid h3
  generalize keepQ (fun q => q.id == id0) l = l' at *
  clear hS
  unfold hval
  go_enter Tryz.func58, Tryz.ntmps58
  go_wp2_with fail
  refine (HD.out _ _).mono ?_
  rintro e w1 ⟨rfl, hS1⟩
  obtain ⟨y1, d0, d1, d2, d3, g0, g1, g2, g3⟩ := hS1.to1.b4
  obtain ⟨y2, e0, e1, e2, e3, f0, f1, f2, f3⟩ := hS1.to3.b4
  replace hS1 := Lib.hid hS1
  clear HD h3
  go_wp2_with fail
  refine bodyPost_ret (v := .agg #[.int .i64 t, .int .i64 r, .slice a l'.length c, .int .i64 n]) (by simp [results, Tryz.results58, go_sem, *]) rfl ⟨rfl, ?_⟩
  exact (((((hS1.out.to3.set 2 (.slice a l'.length c)).to2.set 0 (.int .i64 t)).set 1 (.int .i64 r)).set 2 (.slice a l'.length c)).set 3 (.int .i64 n)).tail.tail.drop1
/-- Leave where there is no such request. -/
theorem leaveP_none (t r n : Int) (v : Value) (l : List Rq) (id0 : Int) (w : World) (hv : RQ w v l) (hl : l.length ≤ 1000) (hi : idxF (fun q => q.id == id0) l 0 = -1) :
    Calls Tryz.prog 15 #[hval t r v n, .int .i64 id0] w fun e w' => e = .returned (.tuple #[zhd, .int .i64 5]) ∧ Below w.heap.size w w' := by
  have hB := Lib.hid (boxes2 w 26 26 #[.int .i64 t, .int .i64 r, v, .int .i64 n] #[.int .i64 0, .int .i64 0, .slice none 0 0, .int .i64 0])
  have HO := Lib.hid (own_any t r n v l _ (hv.below (two_boxes w #[.int .i64 t, .int .i64 r, v, .int .i64 n] #[.int .i64 0, .int .i64 0, .slice none 0 0, .int .i64 0] 26 26)) hl)
  obtain ⟨a, c, rfl, _⟩ := hv
  unfold hval at *
  go_enter Tryz.func15, Tryz.ntmps15
  go_wp2_with fail
  refine HO.out.mono ?_
  rintro e w1 ⟨a1, c1, rfl, hS⟩
  have hS2 := (hS.graft hB.out).alloc #[.int .i64 t, .int .i64 r, .slice a1 l.length c1, .int .i64 n] 62
  have HP := Lib.hid (place_any t r n (.slice a1 l.length c1) l id0 _ hS2.to1.vq_rq hl)
  rw [hi] at HP
  unfold hval at HP
  obtain ⟨y1, d0, d1, d2, d3, g0, g1, g2, g3⟩ := hS2.b4
  replace hS2 := Lib.hid hS2
  clear hS HO hi
  go_wp2_with fail
  refine HP.out.mono ?_
  rintro e w2 ⟨rfl, b2⟩
  replace hS2 := Lib.hid (hS2.out.below b2)
  obtain ⟨z1, k0, k1, k2, k3, m0, m1, m2, m3⟩ := hS2.out.to2.b4
  clear b2 HP y1 d0 d1 d2 d3 g0 g1 g2 g3
  go_wp2_with fail
  refine bodyPost_ret (v := .tuple #[.agg #[.int .i64 0, .int .i64 0, .slice none 0 0, .int .i64 0], .int .i64 5]) (by simp [results, Tryz.results15, go_sem, *]) rfl ⟨rfl, ?_⟩
  exact ((((hS2.out.to2.set 0 (.int .i64 0)).set 1 (.int .i64 0)).set 2 (.slice none 0 0)).set 3 (.int .i64 0)).tail.tail.tail.tail.gold
/-- Leave where there is one. -/
theorem leaveP_some (t r n : Int) (v : Value) (l : List Rq) (id0 : Int) (i : Nat) (w : World) (hv : RQ w v l) (hl : l.length ≤ 1000) (hi : idxF (fun q => q.id == id0) l 0 = i) :
    Calls Tryz.prog 15 #[hval t r v n, .int .i64 id0] w fun e w' => ∃ a c, e = .returned (.tuple #[hval t r (.slice a (keepQ (fun q => q.id == id0) l).length c) n, .int .i64 0]) ∧ Sep w' [vq (.slice a (keepQ (fun q => q.id == id0) l).length c) (keepQ (fun q => q.id == id0) l), old w] := by
  have hB := Lib.hid (boxes2 w 26 26 #[.int .i64 t, .int .i64 r, v, .int .i64 n] #[.int .i64 0, .int .i64 0, .slice none 0 0, .int .i64 0])
  have HO := Lib.hid (own_any t r n v l _ (hv.below (two_boxes w #[.int .i64 t, .int .i64 r, v, .int .i64 n] #[.int .i64 0, .int .i64 0, .slice none 0 0, .int .i64 0] 26 26)) hl)
  have d : decide ((i : Int) < 0) = false := by rw [decide_eq_false_iff_not]; omega
  obtain ⟨a, c, rfl, _⟩ := hv
  unfold hval at *
  go_enter Tryz.func15, Tryz.ntmps15
  go_wp2_with fail
  refine HO.out.mono ?_
  rintro e w1 ⟨a1, c1, rfl, hS⟩
  have hS2 := (hS.graft hB.out).alloc #[.int .i64 t, .int .i64 r, .slice a1 l.length c1, .int .i64 n] 62
  have HP := Lib.hid (place_any t r n (.slice a1 l.length c1) l id0 _ hS2.to1.vq_rq hl)
  rw [hi] at HP
  unfold hval at HP
  obtain ⟨y1, d0, d1, d2, d3, g0, g1, g2, g3⟩ := hS2.b4
  replace hS2 := Lib.hid hS2
  clear hS HO hi
  go_wp2_with fail
  refine HP.out.mono ?_
  rintro e w2 ⟨rfl, b2⟩
  replace hS2 := Lib.hid (hS2.out.below b2)
  clear b2 HP y1 d0 d1 d2 d3 g0 g1 g2 g3
  obtain ⟨y1, d0, d1, d2, d3, g0, g1, g2, g3⟩ := hS2.out.b4
  have HW := Lib.hid (withoutP_any t r n a1 l.length c1 l id0 w2 _ hS2.out.to1 rfl hl)
  unfold hval at HW
  generalize hkq : keepQ (fun q => q.id == id0) l = l' at *
  replace hkq := Lib.hid hkq
  go_wp2_with fail
  refine HW.out.mono ?_
  rintro e w3 ⟨rfl, hS3⟩
  obtain ⟨z1, k0, k1, k2, k3, m0, m1, m2, m3⟩ := hS3.to2.b4
  replace hS3 := Lib.hid hS3
  clear HW hS2 y1 d0 d1 d2 d3 g0 g1 g2 g3
  go_wp2_with fail
  refine bodyPost_ret (v := .tuple #[.agg #[.int .i64 t, .int .i64 r, .slice a1 l'.length c1, .int .i64 n], .int .i64 0]) (by simp [results, Tryz.results15, go_sem, *]) rfl ⟨a1, c1, by rw [hkq.out], ?_⟩
  rw [hkq.out]
  exact (((((hS3.out.to2.set 0 (.int .i64 t)).set 1 (.int .i64 r)).set 2 (.slice a1 l'.length c1)).set 3 (.int .i64 n)).tail.drop1.drop1)
end Go.Proofs.YtmacpjnkmkaloaaGreat
namespace Go.Proofs.YtmacpjnkmkaloaaGreat
set_option linter.unusedSimpArgs false
set_option linter.unusedVariables false
set_option linter.unnecessarySimpa false
open Go.RowKit
def askedB (m : Int) : Bool := m != 0 && knownB m
theorem asked_any (m : Int) (w : World) : Calls Tryz.prog 41 #[.int .i64 m] w fun e w' => e = .returned (.bool (askedB m)) ∧ w = w' := by
  have H := Lib.hid (fun W => known_any m W)
  unfold askedB
  cases hm : m != 0 with
  | false =>
    go_enter Tryz.func41, Tryz.ntmps41
    go_wp2_with fail
    all_goals go_ret
    all_goals exact ⟨by simp, rfl⟩
  | true =>
    go_enter Tryz.func41, Tryz.ntmps41
    go_wp2_with fail
    refine (H.out _).mono ?_
    rintro e w1 ⟨rfl, rfl⟩
    go_wp2_with fail
    all_goals go_ret
    all_goals exact ⟨by simp, rfl⟩
theorem keepQ_all (p : Rq → Bool) (l : List Rq) (h : ∀ q ∈ l, p q = false) : keepQ p l = l := by
  unfold keepQ
  rw [List.filter_eq_self]
  intro q hq
  simp [h q hq]
/-- One request is left out. -/
theorem keepQ_erase (l : List Rq) (i : Nat) (id0 : Int) (hd : IdsD l) (hi : i < l.length) (he : (l.getD i default).id = id0) : keepQ (fun q => q.id == id0) l = l.eraseIdx i := by
  have hmem : ∀ q ∈ l.take i, (q.id == id0) = false := by
    intro q hq
    obtain ⟨j, hj, rfl⟩ := List.getElem_of_mem hq
    rw [List.length_take] at hj
    rw [beq_eq_false_iff_ne]
    intro h
    have := hd j i (by omega) hi (by rw [he, ← h]; simp [List.getD, show j < l.length by omega])
    omega
  have hmem2 : ∀ q ∈ l.drop (i + 1), (q.id == id0) = false := by
    intro q hq
    obtain ⟨j, hj, rfl⟩ := List.getElem_of_mem hq
    rw [List.length_drop] at hj
    rw [beq_eq_false_iff_ne]
    intro h
    have := hd (i + 1 + j) i (by omega) hi (by rw [he, ← h]; simp [List.getD, show i + 1 + j < l.length by omega])
    omega
  have hl : l = l.take i ++ (l.getD i default :: l.drop (i + 1)) := by rw [← drop_at l i hi, List.take_append_drop]
  rw [List.eraseIdx_eq_take_drop_succ]
  rw [hl]
  have h1 : keepQ (fun q => q.id == id0) (l.take i ++ (l.getD i default :: l.drop (i + 1))) = keepQ (fun q => q.id == id0) (l.take i) ++ keepQ (fun q => q.id == id0) (l.drop (i + 1)) := by
    unfold keepQ
    rw [List.filter_append, List.filter_cons_of_neg (by simp only [he, beq_self_eq_true]; decide)]
  rw [h1, keepQ_all _ _ hmem, keepQ_all _ _ hmem2, ← hl]
theorem boxes4 (w : World) (t0 t1 t2 t3 : TypeId) (b0 b1 b2 b3 : Array Value) : Sep ((((w.alloc (.cells b0 t0)).alloc (.cells b1 t1)).alloc (.cells b2 t2)).alloc (.cells b3 t3)) [blk (w.heap.size + 1 + 1 + 1) t3 b3, blk (w.heap.size + 1 + 1) t2 b2, blk (w.heap.size + 1) t1 b1, blk w.heap.size t0 b0, old w] := by
  have := ((((Sep.start w).alloc b0 t0).alloc b1 t1).alloc b2 t2).alloc b3 t3
  simpa only [World.size_alloc] using this
set_option maxHeartbeats 1000000 in
/-- Ask of what may not be asked, or by whom. -/
theorem askP_arg (t r n : Int) (v : Value) (l : List Rq) (id0 t0 mo : Int) (w : World) (hv : RQ w v l) (hb : id0 < 0 ∨ askedB mo = false) :
    Calls Tryz.prog 10 #[hval t r v n, .int .i64 id0, .int .i64 t0, .int .i64 mo] w fun e w' => e = .returned (.tuple #[zhd, .bool false, .int .i64 2]) ∧ Below w.heap.size w w' := by
  have hB := Lib.hid (boxes4 w 26 3 3 26 #[.int .i64 t, .int .i64 r, v, .int .i64 n] #[.int .i64 id0] #[.int .i64 t0] #[.int .i64 0, .int .i64 0, .slice none 0 0, .int .i64 0])
  have HA := Lib.hid (fun W => asked_any mo W)
  obtain ⟨a, c, rfl, _⟩ := hv
  unfold hval at *
  by_cases h0 : id0 < 0
  · have d0 : decide (id0 < 0) = true := decide_eq_true h0
    clear h0 hb
    go_enter Tryz.func10, Tryz.ntmps10
    go_wp2_with fail
    all_goals refine bodyPost_ret (v := .tuple #[.agg #[.int .i64 0, .int .i64 0, .slice none 0 0, .int .i64 0], .bool false, .int .i64 2]) (by simp [results, Tryz.results10, go_sem, *]) rfl ⟨rfl, ?_⟩
    all_goals exact hB.out.tail.tail.tail.tail.gold
  · have d0 : decide (id0 < 0) = false := decide_eq_false h0
    rw [hb.resolve_left h0] at HA
    clear h0 hb
    go_enter Tryz.func10, Tryz.ntmps10
    go_wp2_with fail
    refine (HA.out _).mono ?_
    rintro e w1 ⟨rfl, rfl⟩
    go_wp2_with fail
    all_goals refine bodyPost_ret (v := .tuple #[.agg #[.int .i64 0, .int .i64 0, .slice none 0 0, .int .i64 0], .bool false, .int .i64 2]) (by simp [results, Tryz.results10, go_sem, *]) rfl ⟨rfl, ?_⟩
    all_goals exact hB.out.tail.tail.tail.tail.gold
set_option maxHeartbeats 1000000 in
/-- Ask where somebody has the number, or the transaction. -/
theorem askP_twice (t r n : Int) (v : Value) (l : List Rq) (id0 t0 mo : Int) (w : World) (hv : RQ w v l) (hl : l.length ≤ 1000) (h0 : ¬ id0 < 0) (ha : askedB mo = true) (hc : l.any (fun q => q.id == id0 || q.txn == t0) = true) :
    Calls Tryz.prog 10 #[hval t r v n, .int .i64 id0, .int .i64 t0, .int .i64 mo] w fun e w' => e = .returned (.tuple #[zhd, .bool false, .int .i64 4]) ∧ Below w.heap.size w w' := by
  have hB := Lib.hid (boxes4 w 26 3 3 26 #[.int .i64 t, .int .i64 r, v, .int .i64 n] #[.int .i64 id0] #[.int .i64 t0] #[.int .i64 0, .int .i64 0, .slice none 0 0, .int .i64 0])
  have HA := Lib.hid (fun W => asked_any mo W)
  have HC := Lib.hid (contains_any v l 42 #[.pointer (some ⟨w.heap.size + 1, 0, none⟩), .pointer (some ⟨w.heap.size + 1 + 1, 0, none⟩)] (fun q => q.id == id0 || q.txn == t0) _ (hv.below hB.out.tail.tail.tail.tail.gold) hl
    (ask1 id0 t0 (w.heap.size + 1) (w.heap.size + 1 + 1) _ hB.out.to2.gblk.lt (hB.out.to2.gblk.cell 0) hB.out.to1.gblk.lt (hB.out.to1.gblk.cell 0)) eg_ask)
  rw [hc] at HC
  rw [ha] at HA
  have eg := eg_ask
  have d0 : decide (id0 < 0) = false := decide_eq_false h0
  obtain ⟨a, c, rfl, _⟩ := hv
  unfold hval at *
  clear hc ha h0
  go_enter Tryz.func10, Tryz.ntmps10
  go_wp2_with fail
  refine (HA.out _).mono ?_
  rintro e w1 ⟨rfl, rfl⟩
  go_wp2_with fail
  refine HC.out.mono ?_
  rintro e w2 ⟨rfl, b2⟩
  replace hB := Lib.hid (hB.out.below b2)
  obtain ⟨y1, d0', d1, d2, d3, g0, g1, g2, g3⟩ := hB.out.b4
  clear b2 HC
  go_wp2_with fail
  refine bodyPost_ret (v := .tuple #[.agg #[.int .i64 0, .int .i64 0, .slice none 0 0, .int .i64 0], .bool false, .int .i64 4]) (by simp [results, Tryz.results10, go_sem, *]) rfl ⟨rfl, ?_⟩
  exact ((((hB.out.set 0 (.int .i64 0)).set 1 (.int .i64 0)).set 2 (.slice none 0 0)).set 3 (.int .i64 0)).tail.tail.tail.tail.gold
end Go.Proofs.YtmacpjnkmkaloaaGreat
namespace Go.Proofs.YtmacpjnkmkaloaaGreat
set_option linter.unusedSimpArgs false
set_option linter.unusedVariables false
set_option linter.unnecessarySimpa false
open Go.RowKit
/-- Do two requests, the first ahead of the second, not go together? -/
def pairB (a b : Rq) : Bool := ((a.id == b.id || a.txn == b.txn) || (decide (0 < a.since) && a.since == b.since)) || (!(a.mode != 0) && (b.mode != 0 || decide (b.since < a.since))) || ((a.mode != 0 && b.mode != 0) && !comB a.mode b.mode)
def okQB (n : Int) (l : List Rq) (i : Nat) : Bool := rightB (l.getD i default) n && !((l.take i).any fun a => pairB a (l.getD i default))
def checkB (n : Int) (l : List Rq) : Bool := decide (0 ≤ n) && (decide (n ≤ 4611686018427387904) && (List.range l.length).all (okQB n l))
theorem checkB_bad (n : Int) (l : List Rq) (i : Nat) (hi : i < l.length) (h : okQB n l i = false) : checkB n l = false := by
  have : (List.range l.length).all (okQB n l) = false := by
    rw [List.all_eq_false]
    exact ⟨i, List.mem_range.2 hi, by simp [h]⟩
  simp [checkB, this]
theorem checkB_good (n : Int) (l : List Rq) (h0 : ¬ n < 0) (h1 : ¬ 4611686018427387904 < n) (h : ∀ i, i < l.length → okQB n l i = true) : checkB n l = true := by
  have : (List.range l.length).all (okQB n l) = true := by
    rw [List.all_eq_true]
    exact fun i hi => h i (List.mem_range.1 hi)
  simp [checkB, this]; omega
theorem any_take_succ {α : Type} [Inhabited α] (p : α → Bool) (l : List α) (k : Nat) (hk : k < l.length) : (l.take (k + 1)).any p = ((l.take k).any p || p (l.getD k default)) := by
  rw [List.take_add_one, List.any_append]
  simp [List.getD, hk]
theorem any_take_true {α : Type} [Inhabited α] (p : α → Bool) (l : List α) (k i : Nat) (hk : k < l.length) (hki : k < i) (h : p (l.getD k default) = true) : (l.take i).any p = true := by
  rw [List.any_eq_true]
  refine ⟨l.getD k default, ?_, h⟩
  rw [List.mem_iff_getElem]
  exact ⟨k, by rw [List.length_take]; omega, by simp [List.getD, hk]⟩
set_option maxHeartbeats 4000000 in
set_option maxRecDepth 100000 in
theorem checkR_any (t r n : Int) (v : Value) (l : List Rq) (w : World) (hv : RQ w v l) (hl : l.length ≤ 1000) :
    Calls Tryz.prog 7 #[hval t r v n] w fun e w' => e = .returned (.int .i64 (if checkB n l then 0 else 2)) ∧ Below w.heap.size w w' := by
  have h0 : ∀ b0, Sep (w.alloc (.cells b0 26)) [blk w.heap.size 26 b0, old w] := fun b0 => (Sep.start w).alloc b0 26
  have HU := Lib.hid (fun q w => holdsR_any q w)
  have HV := Lib.hid (fun q w => waitsR_any q w)
  have HR := Lib.hid (fun q w => rightR_any q n w)
  have HC := Lib.hid (fun x y w => compatR_any x y w)
  replace h0 := Lib.hid h0
  obtain ⟨a, c, rfl, hlc, _, hr⟩ := hv
  replace hr := Lib.hid hr
  unfold hval
  have hS := Lib.hid (h0.out #[.int .i64 t, .int .i64 r, .slice a l.length c, .int .i64 n])
  clear h0
  by_cases hn0 : n < 0
  · have d0 : decide (n < 0) = true := decide_eq_true hn0
    rw [show checkB n l = false by simp [checkB]; omega]
    clear hn0
    go_enter Tryz.func7, Tryz.ntmps7
    go_wp2_with fail
    go_ret
    exact ⟨rfl, hS.out.to1.gold⟩
  have d0 : decide (n < 0) = false := decide_eq_false hn0
  by_cases hn1 : 4611686018427387904 < n
  · have d1 : decide (4611686018427387904 < n) = true := decide_eq_true hn1
    rw [show checkB n l = false by simp [checkB]; omega]
    clear hn0 hn1
    go_enter Tryz.func7, Tryz.ntmps7
    go_wp2_with fail
    go_ret
    exact ⟨rfl, hS.out.to1.gold⟩
  have d1 : decide (4611686018427387904 < n) = false := decide_eq_false hn1
  have hN := Lib.hid (And.intro hn0 hn1)
  clear hn0 hn1
  generalize hck : (if checkB n l = true then (0 : Int) else 2) = ck
  replace hck := Lib.hid hck
  go_enter Tryz.func7, Tryz.ntmps7
  go_wp2_with fail
  clear d0 d1
  generalize hn : l.length = m at *
  replace hn := Lib.hid hn
  go_loopg [3] m (fun g i wr => ∃ k : Nat, k ≤ m ∧ g = m - k ∧ i = .int .i64 k ∧ Hid (∀ j, j < k → okQB n l j = true) ∧ Hid (Sep wr [blk w.heap.size 26 #[.int .i64 t, .int .i64 r, .slice a m c, .int .i64 n], old w]))
  case atStart => exact ⟨0, Nat.zero_le _, rfl, rfl, (fun j hj => absurd hj (Nat.not_lt_zero j)), hS⟩
  case round =>
    clear hS
    obtain ⟨i, hi, hg, rfl, hA, hS⟩ := hrel
    obtain ⟨x1, _, _, x2, x3, _⟩ := hS.out.b4
    by_cases hlt : i < m
    · obtain ⟨b, off, rfl, hbl, hz⟩ := hr.out (by have := hn.out; omega)
      obtain ⟨z0, z1, z2, z3, z4⟩ := hz i (by have := hn.out; omega)
      have kk : ∀ o, wr.cell? ⟨b, o, none⟩ = w.cell? ⟨b, o, none⟩ := fun o => hS.out.to1.gold.cell (p := ⟨b, o, none⟩) hbl
      rw [← kk] at z0 z1 z2 z3 z4
      have hok := Lib.hid (show okQB n l i = (rightB (l.getD i default) n && !((l.take i).any fun a => pairB a (l.getD i default))) from rfl)
      have hzz := Lib.hid hz
      have hbb := Lib.hid hbl
      clear kk hz hbl
      generalize l.getD i default = q at *
      have HQ := Lib.hid (fun w => HR.out q w)
      have HB := Lib.hid (fun w => HU.out q w)
      have hS2 := Lib.hid (hS.out.alloc q.cells.toArray 42)
      obtain ⟨id, txn, mode, want, since⟩ := q
      simp only [Rq.val] at HQ HB
      simp only [Rq.cells] at hS2
      obtain ⟨_, p0, p1, p2, p3, p4, _⟩ := hS2.out.b5
      obtain ⟨_, _, _, p5, p6, _⟩ := hS2.out.to1.b4
      cases hrb : rightB ⟨id, txn, mode, want, since⟩ n with
      | false =>
        rw [hrb] at HQ
        have E := Lib.hid (checkB_bad n l i (by rw [hn.out]; exact hlt) (by rw [hok.out, hrb]; rfl))
        go_wp2_with fail
        refine (HQ.out _).mono ?_
        rintro e w1 ⟨rfl, b1⟩
        replace hS2 := Lib.hid (hS2.out.below b1)
        clear b1 p0 p1 p2 p3 p4 p5 p6 x1 x2 x3 z0 z1 z2 z3 z4
        go_wp2_with fail
        go_ret
        exact ⟨by rw [← hck.out, E.out]; rfl, hS2.out.tail.tail.gold⟩
      | true =>
        rw [hrb] at HQ
        rw [hrb] at hok
        have hgb := Lib.hid (rfl : wr.heap.size = wr.heap.size)
        go_wp2_with fail
        refine (HQ.out _).mono ?_
        rintro e w1 ⟨rfl, b1⟩
        replace hS2 := Lib.hid (hS2.out.below b1)
        clear b1 p0 p1 p2 p3 p4 p5 p6 x1 x2 x3 z0 z1 z2 z3 z4 HQ hgb hS
        generalize wr.heap.size = gb at *
        go_wp2_with fail
        go_loopg [5] i (fun g k wr => ∃ j : Nat, j ≤ i ∧ g = i - j ∧ k = .int .i64 j ∧ Hid ((l.take j).any (fun a => pairB a ⟨id, txn, mode, want, since⟩) = false) ∧ Hid (Sep wr [blk gb 42 #[.int .i64 id, .int .i64 txn, .int .i64 mode, .int .i64 want, .int .i64 since], blk w.heap.size 26 #[.int .i64 t, .int .i64 r, .slice (some ⟨b, off, none⟩) m c, .int .i64 n], old w]))
        case atStart => exact ⟨0, Nat.zero_le _, rfl, rfl, (show (List.any [] _ = false) from rfl), hS2⟩
        case round =>
          clear hS2
          obtain ⟨j, hj, hg2, rfl, hAny, hS2⟩ := hrel
          obtain ⟨_, p0, p1, p2, p3, p4, _⟩ := hS2.out.b5
          obtain ⟨_, _, _, p5, p6, _⟩ := hS2.out.to1.b4
          by_cases hlt2 : j < i
          · obtain ⟨z0, z1, z2, z3, z4⟩ := hzz.out j (by have := hn.out; omega)
            have kk : ∀ o, wr.cell? ⟨b, o, none⟩ = w.cell? ⟨b, o, none⟩ := fun o => hS2.out.tail.tail.gold.cell (p := ⟨b, o, none⟩) hbb.out
            rw [← kk] at z0 z1 z2 z3 z4
            clear kk
            have hT := Lib.hid (fun h : pairB (l.getD j default) ⟨id, txn, mode, want, since⟩ = true => checkB_bad n l i (by rw [hn.out]; exact hlt) (by rw [hok.out, any_take_true (fun a => pairB a ⟨id, txn, mode, want, since⟩) l j i (by rw [hn.out]; omega) hlt2 h]; rfl))
            have hF := Lib.hid (fun h : pairB (l.getD j default) ⟨id, txn, mode, want, since⟩ = false => show (l.take (j + 1)).any (fun a => pairB a ⟨id, txn, mode, want, since⟩) = false by rw [any_take_succ _ l j (by rw [hn.out]; omega), hAny.out, h]; rfl)
            generalize l.getD j default = q at *
            have HA := Lib.hid (fun w => HU.out q w)
            have HW := Lib.hid (fun w => HV.out q w)
            have HP := Lib.hid (fun w => HC.out q.mode mode w)
            have hS3 := Lib.hid (hS2.out.alloc q.cells.toArray 42)
            obtain ⟨id2, txn2, mode2, want2, since2⟩ := q
            simp only [Rq.val] at HA HW HP
            simp only [Rq.cells] at hS3
            obtain ⟨_, q0, q1, q2, q3, q4, _⟩ := hS3.out.b5
            obtain ⟨_, p0, p1, p2, p3, p4, _⟩ := hS3.out.to1.b5
            obtain ⟨_, _, _, p5, p6, _⟩ := hS3.out.to2.b4
            clear hS2
            cases h1 : id2 == id with
            | true =>
              have E := Lib.hid (hT.out (by simp only [pairB, h1]; first | rfl | (simp; done)))
              clear hT hF
              go_wp2_with fail
              go_ret
              exact ⟨by rw [← hck.out, E.out]; rfl, hS3.out.tail.tail.tail.gold⟩
            | false =>
              cases h2 : txn2 == txn with
              | true =>
                have E := Lib.hid (hT.out (by simp only [pairB, h1, h2]; first | rfl | (simp; done)))
                clear hT hF
                go_wp2_with fail
                go_ret
                exact ⟨by rw [← hck.out, E.out]; rfl, hS3.out.tail.tail.tail.gold⟩
              | false =>
                cases hw : decide (0 < since2) with
                | true =>
                  rw [hw] at HW
                  cases h3 : since2 == since with
                  | true =>
                    have E := Lib.hid (hT.out (by simp only [pairB, h1, h2, hw, h3]; first | rfl | (simp; done)))
                    clear hT hF
                    go_wp2_with fail
                    refine (HW.out _).mono ?_
                    rintro e w2 ⟨rfl, b2⟩
                    replace hS3 := Lib.hid (hS3.out.below b2)
                    clear b2 q0 q1 q2 q3 q4 p0 p1 p2 p3 p4 p5 p6
                    obtain ⟨_, q0, q1, q2, q3, q4, _⟩ := hS3.out.b5
                    obtain ⟨_, p0, p1, p2, p3, p4, _⟩ := hS3.out.to1.b5
                    obtain ⟨_, _, _, p5, p6, _⟩ := hS3.out.to2.b4
                    go_wp2_with fail
                    go_ret
                    exact ⟨by rw [← hck.out, E.out]; rfl, hS3.out.tail.tail.tail.gold⟩
                  | false =>
                    cases h4 : mode2 != 0 with
                    | true =>
                      rw [h4] at HA
                      cases h5 : mode != 0 with
                      | true =>
                        rw [h5] at HB
                        cases h6 : comB mode2 mode with
                        | true =>
                          rw [h6] at HP
                          have E := Lib.hid (hF.out (by simp only [pairB, h1, h2, hw, h3, h4, h5, h6]; first | rfl | (simp; done)))
                          clear hT hF
                          go_wp2_with fail
                          refine (HW.out _).mono ?_
                          rintro e w2 ⟨rfl, b2⟩
                          replace hS3 := Lib.hid (hS3.out.below b2)
                          clear b2 q0 q1 q2 q3 q4 p0 p1 p2 p3 p4 p5 p6
                          obtain ⟨_, q0, q1, q2, q3, q4, _⟩ := hS3.out.b5
                          obtain ⟨_, p0, p1, p2, p3, p4, _⟩ := hS3.out.to1.b5
                          obtain ⟨_, _, _, p5, p6, _⟩ := hS3.out.to2.b4
                          go_wp2_with fail
                          refine (HA.out _).mono ?_
                          rintro e w2 ⟨rfl, b2⟩
                          replace hS3 := Lib.hid (hS3.out.below b2)
                          clear b2 q0 q1 q2 q3 q4 p0 p1 p2 p3 p4 p5 p6
                          obtain ⟨_, q0, q1, q2, q3, q4, _⟩ := hS3.out.b5
                          obtain ⟨_, p0, p1, p2, p3, p4, _⟩ := hS3.out.to1.b5
                          obtain ⟨_, _, _, p5, p6, _⟩ := hS3.out.to2.b4
                          go_wp2_with fail
                          refine (HA.out _).mono ?_
                          rintro e w2 ⟨rfl, b2⟩
                          replace hS3 := Lib.hid (hS3.out.below b2)
                          clear b2 q0 q1 q2 q3 q4 p0 p1 p2 p3 p4 p5 p6
                          obtain ⟨_, q0, q1, q2, q3, q4, _⟩ := hS3.out.b5
                          obtain ⟨_, p0, p1, p2, p3, p4, _⟩ := hS3.out.to1.b5
                          obtain ⟨_, _, _, p5, p6, _⟩ := hS3.out.to2.b4
                          go_wp2_with fail
                          refine (HB.out _).mono ?_
                          rintro e w2 ⟨rfl, b2⟩
                          replace hS3 := Lib.hid (hS3.out.below b2)
                          clear b2 q0 q1 q2 q3 q4 p0 p1 p2 p3 p4 p5 p6
                          obtain ⟨_, q0, q1, q2, q3, q4, _⟩ := hS3.out.b5
                          obtain ⟨_, p0, p1, p2, p3, p4, _⟩ := hS3.out.to1.b5
                          obtain ⟨_, _, _, p5, p6, _⟩ := hS3.out.to2.b4
                          go_wp2_with fail
                          refine (HP.out _).mono ?_
                          rintro e w2 ⟨rfl, b2⟩
                          replace hS3 := Lib.hid (hS3.out.below b2)
                          clear b2 q0 q1 q2 q3 q4 p0 p1 p2 p3 p4 p5 p6
                          obtain ⟨_, q0, q1, q2, q3, q4, _⟩ := hS3.out.b5
                          obtain ⟨_, p0, p1, p2, p3, p4, _⟩ := hS3.out.to1.b5
                          obtain ⟨_, _, _, p5, p6, _⟩ := hS3.out.to2.b4
                          go_wp2_with fail
                          go_roundg (i - (j + 1))
                          case measure => omega
                          case rel => exact ⟨j + 1, by omega, rfl, by go_num, E, hS3.out.tail⟩
                        | false =>
                          rw [h6] at HP
                          have E := Lib.hid (hT.out (by simp only [pairB, h1, h2, hw, h3, h4, h5, h6]; first | rfl | (simp; done)))
                          clear hT hF
                          go_wp2_with fail
                          refine (HW.out _).mono ?_
                          rintro e w2 ⟨rfl, b2⟩
                          replace hS3 := Lib.hid (hS3.out.below b2)
                          clear b2 q0 q1 q2 q3 q4 p0 p1 p2 p3 p4 p5 p6
                          obtain ⟨_, q0, q1, q2, q3, q4, _⟩ := hS3.out.b5
                          obtain ⟨_, p0, p1, p2, p3, p4, _⟩ := hS3.out.to1.b5
                          obtain ⟨_, _, _, p5, p6, _⟩ := hS3.out.to2.b4
                          go_wp2_with fail
                          refine (HA.out _).mono ?_
                          rintro e w2 ⟨rfl, b2⟩
                          replace hS3 := Lib.hid (hS3.out.below b2)
                          clear b2 q0 q1 q2 q3 q4 p0 p1 p2 p3 p4 p5 p6
                          obtain ⟨_, q0, q1, q2, q3, q4, _⟩ := hS3.out.b5
                          obtain ⟨_, p0, p1, p2, p3, p4, _⟩ := hS3.out.to1.b5
                          obtain ⟨_, _, _, p5, p6, _⟩ := hS3.out.to2.b4
                          go_wp2_with fail
                          refine (HA.out _).mono ?_
                          rintro e w2 ⟨rfl, b2⟩
                          replace hS3 := Lib.hid (hS3.out.below b2)
                          clear b2 q0 q1 q2 q3 q4 p0 p1 p2 p3 p4 p5 p6
                          obtain ⟨_, q0, q1, q2, q3, q4, _⟩ := hS3.out.b5
                          obtain ⟨_, p0, p1, p2, p3, p4, _⟩ := hS3.out.to1.b5
                          obtain ⟨_, _, _, p5, p6, _⟩ := hS3.out.to2.b4
                          go_wp2_with fail
                          refine (HB.out _).mono ?_
                          rintro e w2 ⟨rfl, b2⟩
                          replace hS3 := Lib.hid (hS3.out.below b2)
                          clear b2 q0 q1 q2 q3 q4 p0 p1 p2 p3 p4 p5 p6
                          obtain ⟨_, q0, q1, q2, q3, q4, _⟩ := hS3.out.b5
                          obtain ⟨_, p0, p1, p2, p3, p4, _⟩ := hS3.out.to1.b5
                          obtain ⟨_, _, _, p5, p6, _⟩ := hS3.out.to2.b4
                          go_wp2_with fail
                          refine (HP.out _).mono ?_
                          rintro e w2 ⟨rfl, b2⟩
                          replace hS3 := Lib.hid (hS3.out.below b2)
                          clear b2 q0 q1 q2 q3 q4 p0 p1 p2 p3 p4 p5 p6
                          obtain ⟨_, q0, q1, q2, q3, q4, _⟩ := hS3.out.b5
                          obtain ⟨_, p0, p1, p2, p3, p4, _⟩ := hS3.out.to1.b5
                          obtain ⟨_, _, _, p5, p6, _⟩ := hS3.out.to2.b4
                          go_wp2_with fail
                          go_ret
                          exact ⟨by rw [← hck.out, E.out]; rfl, hS3.out.tail.tail.tail.gold⟩
                      | false =>
                        rw [h5] at HB
                        have E := Lib.hid (hF.out (by simp only [pairB, h1, h2, hw, h3, h4, h5]; first | rfl | (simp; done)))
                        clear hT hF
                        go_wp2_with fail
                        refine (HW.out _).mono ?_
                        rintro e w2 ⟨rfl, b2⟩
                        replace hS3 := Lib.hid (hS3.out.below b2)
                        clear b2 q0 q1 q2 q3 q4 p0 p1 p2 p3 p4 p5 p6
                        obtain ⟨_, q0, q1, q2, q3, q4, _⟩ := hS3.out.b5
                        obtain ⟨_, p0, p1, p2, p3, p4, _⟩ := hS3.out.to1.b5
                        obtain ⟨_, _, _, p5, p6, _⟩ := hS3.out.to2.b4
                        go_wp2_with fail
                        refine (HA.out _).mono ?_
                        rintro e w2 ⟨rfl, b2⟩
                        replace hS3 := Lib.hid (hS3.out.below b2)
                        clear b2 q0 q1 q2 q3 q4 p0 p1 p2 p3 p4 p5 p6
                        obtain ⟨_, q0, q1, q2, q3, q4, _⟩ := hS3.out.b5
                        obtain ⟨_, p0, p1, p2, p3, p4, _⟩ := hS3.out.to1.b5
                        obtain ⟨_, _, _, p5, p6, _⟩ := hS3.out.to2.b4
                        go_wp2_with fail
                        refine (HA.out _).mono ?_
                        rintro e w2 ⟨rfl, b2⟩
                        replace hS3 := Lib.hid (hS3.out.below b2)
                        clear b2 q0 q1 q2 q3 q4 p0 p1 p2 p3 p4 p5 p6
                        obtain ⟨_, q0, q1, q2, q3, q4, _⟩ := hS3.out.b5
                        obtain ⟨_, p0, p1, p2, p3, p4, _⟩ := hS3.out.to1.b5
                        obtain ⟨_, _, _, p5, p6, _⟩ := hS3.out.to2.b4
                        go_wp2_with fail
                        refine (HB.out _).mono ?_
                        rintro e w2 ⟨rfl, b2⟩
                        replace hS3 := Lib.hid (hS3.out.below b2)
                        clear b2 q0 q1 q2 q3 q4 p0 p1 p2 p3 p4 p5 p6
                        obtain ⟨_, q0, q1, q2, q3, q4, _⟩ := hS3.out.b5
                        obtain ⟨_, p0, p1, p2, p3, p4, _⟩ := hS3.out.to1.b5
                        obtain ⟨_, _, _, p5, p6, _⟩ := hS3.out.to2.b4
                        go_wp2_with fail
                        go_roundg (i - (j + 1))
                        case measure => omega
                        case rel => exact ⟨j + 1, by omega, rfl, by go_num, E, hS3.out.tail⟩
                    | false =>
                      rw [h4] at HA
                      cases h5 : mode != 0 with
                      | true =>
                        rw [h5] at HB
                        have E := Lib.hid (hT.out (by simp only [pairB, h1, h2, hw, h3, h4, h5]; first | rfl | (simp; done)))
                        clear hT hF
                        go_wp2_with fail
                        refine (HW.out _).mono ?_
                        rintro e w2 ⟨rfl, b2⟩
                        replace hS3 := Lib.hid (hS3.out.below b2)
                        clear b2 q0 q1 q2 q3 q4 p0 p1 p2 p3 p4 p5 p6
                        obtain ⟨_, q0, q1, q2, q3, q4, _⟩ := hS3.out.b5
                        obtain ⟨_, p0, p1, p2, p3, p4, _⟩ := hS3.out.to1.b5
                        obtain ⟨_, _, _, p5, p6, _⟩ := hS3.out.to2.b4
                        go_wp2_with fail
                        refine (HA.out _).mono ?_
                        rintro e w2 ⟨rfl, b2⟩
                        replace hS3 := Lib.hid (hS3.out.below b2)
                        clear b2 q0 q1 q2 q3 q4 p0 p1 p2 p3 p4 p5 p6
                        obtain ⟨_, q0, q1, q2, q3, q4, _⟩ := hS3.out.b5
                        obtain ⟨_, p0, p1, p2, p3, p4, _⟩ := hS3.out.to1.b5
                        obtain ⟨_, _, _, p5, p6, _⟩ := hS3.out.to2.b4
                        go_wp2_with fail
                        refine (HB.out _).mono ?_
                        rintro e w2 ⟨rfl, b2⟩
                        replace hS3 := Lib.hid (hS3.out.below b2)
                        clear b2 q0 q1 q2 q3 q4 p0 p1 p2 p3 p4 p5 p6
                        obtain ⟨_, q0, q1, q2, q3, q4, _⟩ := hS3.out.b5
                        obtain ⟨_, p0, p1, p2, p3, p4, _⟩ := hS3.out.to1.b5
                        obtain ⟨_, _, _, p5, p6, _⟩ := hS3.out.to2.b4
                        go_wp2_with fail
                        go_ret
                        exact ⟨by rw [← hck.out, E.out]; rfl, hS3.out.tail.tail.tail.gold⟩
                      | false =>
                        rw [h5] at HB
                        cases h6 : decide (since < since2) with
                        | true =>
                          have E := Lib.hid (hT.out (by simp only [pairB, h1, h2, hw, h3, h4, h5, h6]; first | rfl | (simp; done)))
                          clear hT hF
                          go_wp2_with fail
                          refine (HW.out _).mono ?_
                          rintro e w2 ⟨rfl, b2⟩
                          replace hS3 := Lib.hid (hS3.out.below b2)
                          clear b2 q0 q1 q2 q3 q4 p0 p1 p2 p3 p4 p5 p6
                          obtain ⟨_, q0, q1, q2, q3, q4, _⟩ := hS3.out.b5
                          obtain ⟨_, p0, p1, p2, p3, p4, _⟩ := hS3.out.to1.b5
                          obtain ⟨_, _, _, p5, p6, _⟩ := hS3.out.to2.b4
                          go_wp2_with fail
                          refine (HA.out _).mono ?_
                          rintro e w2 ⟨rfl, b2⟩
                          replace hS3 := Lib.hid (hS3.out.below b2)
                          clear b2 q0 q1 q2 q3 q4 p0 p1 p2 p3 p4 p5 p6
                          obtain ⟨_, q0, q1, q2, q3, q4, _⟩ := hS3.out.b5
                          obtain ⟨_, p0, p1, p2, p3, p4, _⟩ := hS3.out.to1.b5
                          obtain ⟨_, _, _, p5, p6, _⟩ := hS3.out.to2.b4
                          go_wp2_with fail
                          refine (HB.out _).mono ?_
                          rintro e w2 ⟨rfl, b2⟩
                          replace hS3 := Lib.hid (hS3.out.below b2)
                          clear b2 q0 q1 q2 q3 q4 p0 p1 p2 p3 p4 p5 p6
                          obtain ⟨_, q0, q1, q2, q3, q4, _⟩ := hS3.out.b5
                          obtain ⟨_, p0, p1, p2, p3, p4, _⟩ := hS3.out.to1.b5
                          obtain ⟨_, _, _, p5, p6, _⟩ := hS3.out.to2.b4
                          go_wp2_with fail
                          go_ret
                          exact ⟨by rw [← hck.out, E.out]; rfl, hS3.out.tail.tail.tail.gold⟩
                        | false =>
                          have E := Lib.hid (hF.out (by simp only [pairB, h1, h2, hw, h3, h4, h5, h6]; first | rfl | (simp; done)))
                          clear hT hF
                          go_wp2_with fail
                          refine (HW.out _).mono ?_
                          rintro e w2 ⟨rfl, b2⟩
                          replace hS3 := Lib.hid (hS3.out.below b2)
                          clear b2 q0 q1 q2 q3 q4 p0 p1 p2 p3 p4 p5 p6
                          obtain ⟨_, q0, q1, q2, q3, q4, _⟩ := hS3.out.b5
                          obtain ⟨_, p0, p1, p2, p3, p4, _⟩ := hS3.out.to1.b5
                          obtain ⟨_, _, _, p5, p6, _⟩ := hS3.out.to2.b4
                          go_wp2_with fail
                          refine (HA.out _).mono ?_
                          rintro e w2 ⟨rfl, b2⟩
                          replace hS3 := Lib.hid (hS3.out.below b2)
                          clear b2 q0 q1 q2 q3 q4 p0 p1 p2 p3 p4 p5 p6
                          obtain ⟨_, q0, q1, q2, q3, q4, _⟩ := hS3.out.b5
                          obtain ⟨_, p0, p1, p2, p3, p4, _⟩ := hS3.out.to1.b5
                          obtain ⟨_, _, _, p5, p6, _⟩ := hS3.out.to2.b4
                          go_wp2_with fail
                          refine (HB.out _).mono ?_
                          rintro e w2 ⟨rfl, b2⟩
                          replace hS3 := Lib.hid (hS3.out.below b2)
                          clear b2 q0 q1 q2 q3 q4 p0 p1 p2 p3 p4 p5 p6
                          obtain ⟨_, q0, q1, q2, q3, q4, _⟩ := hS3.out.b5
                          obtain ⟨_, p0, p1, p2, p3, p4, _⟩ := hS3.out.to1.b5
                          obtain ⟨_, _, _, p5, p6, _⟩ := hS3.out.to2.b4
                          go_wp2_with fail
                          refine (HA.out _).mono ?_
                          rintro e w2 ⟨rfl, b2⟩
                          replace hS3 := Lib.hid (hS3.out.below b2)
                          clear b2 q0 q1 q2 q3 q4 p0 p1 p2 p3 p4 p5 p6
                          obtain ⟨_, q0, q1, q2, q3, q4, _⟩ := hS3.out.b5
                          obtain ⟨_, p0, p1, p2, p3, p4, _⟩ := hS3.out.to1.b5
                          obtain ⟨_, _, _, p5, p6, _⟩ := hS3.out.to2.b4
                          go_wp2_with fail
                          go_roundg (i - (j + 1))
                          case measure => omega
                          case rel => exact ⟨j + 1, by omega, rfl, by go_num, E, hS3.out.tail⟩
                | false =>
                  rw [hw] at HW
                  cases h4 : mode2 != 0 with
                  | true =>
                    rw [h4] at HA
                    cases h5 : mode != 0 with
                    | true =>
                      rw [h5] at HB
                      cases h6 : comB mode2 mode with
                      | true =>
                        rw [h6] at HP
                        have E := Lib.hid (hF.out (by simp only [pairB, h1, h2, hw, h4, h5, h6]; first | rfl | (simp; done)))
                        clear hT hF
                        go_wp2_with fail
                        refine (HW.out _).mono ?_
                        rintro e w2 ⟨rfl, b2⟩
                        replace hS3 := Lib.hid (hS3.out.below b2)
                        clear b2 q0 q1 q2 q3 q4 p0 p1 p2 p3 p4 p5 p6
                        obtain ⟨_, q0, q1, q2, q3, q4, _⟩ := hS3.out.b5
                        obtain ⟨_, p0, p1, p2, p3, p4, _⟩ := hS3.out.to1.b5
                        obtain ⟨_, _, _, p5, p6, _⟩ := hS3.out.to2.b4
                        go_wp2_with fail
                        refine (HA.out _).mono ?_
                        rintro e w2 ⟨rfl, b2⟩
                        replace hS3 := Lib.hid (hS3.out.below b2)
                        clear b2 q0 q1 q2 q3 q4 p0 p1 p2 p3 p4 p5 p6
                        obtain ⟨_, q0, q1, q2, q3, q4, _⟩ := hS3.out.b5
                        obtain ⟨_, p0, p1, p2, p3, p4, _⟩ := hS3.out.to1.b5
                        obtain ⟨_, _, _, p5, p6, _⟩ := hS3.out.to2.b4
                        go_wp2_with fail
                        refine (HA.out _).mono ?_
                        rintro e w2 ⟨rfl, b2⟩
                        replace hS3 := Lib.hid (hS3.out.below b2)
                        clear b2 q0 q1 q2 q3 q4 p0 p1 p2 p3 p4 p5 p6
                        obtain ⟨_, q0, q1, q2, q3, q4, _⟩ := hS3.out.b5
                        obtain ⟨_, p0, p1, p2, p3, p4, _⟩ := hS3.out.to1.b5
                        obtain ⟨_, _, _, p5, p6, _⟩ := hS3.out.to2.b4
                        go_wp2_with fail
                        refine (HB.out _).mono ?_
                        rintro e w2 ⟨rfl, b2⟩
                        replace hS3 := Lib.hid (hS3.out.below b2)
                        clear b2 q0 q1 q2 q3 q4 p0 p1 p2 p3 p4 p5 p6
                        obtain ⟨_, q0, q1, q2, q3, q4, _⟩ := hS3.out.b5
                        obtain ⟨_, p0, p1, p2, p3, p4, _⟩ := hS3.out.to1.b5
                        obtain ⟨_, _, _, p5, p6, _⟩ := hS3.out.to2.b4
                        go_wp2_with fail
                        refine (HP.out _).mono ?_
                        rintro e w2 ⟨rfl, b2⟩
                        replace hS3 := Lib.hid (hS3.out.below b2)
                        clear b2 q0 q1 q2 q3 q4 p0 p1 p2 p3 p4 p5 p6
                        obtain ⟨_, q0, q1, q2, q3, q4, _⟩ := hS3.out.b5
                        obtain ⟨_, p0, p1, p2, p3, p4, _⟩ := hS3.out.to1.b5
                        obtain ⟨_, _, _, p5, p6, _⟩ := hS3.out.to2.b4
                        go_wp2_with fail
                        go_roundg (i - (j + 1))
                        case measure => omega
                        case rel => exact ⟨j + 1, by omega, rfl, by go_num, E, hS3.out.tail⟩
                      | false =>
                        rw [h6] at HP
                        have E := Lib.hid (hT.out (by simp only [pairB, h1, h2, hw, h4, h5, h6]; first | rfl | (simp; done)))
                        clear hT hF
                        go_wp2_with fail
                        refine (HW.out _).mono ?_
                        rintro e w2 ⟨rfl, b2⟩
                        replace hS3 := Lib.hid (hS3.out.below b2)
                        clear b2 q0 q1 q2 q3 q4 p0 p1 p2 p3 p4 p5 p6
                        obtain ⟨_, q0, q1, q2, q3, q4, _⟩ := hS3.out.b5
                        obtain ⟨_, p0, p1, p2, p3, p4, _⟩ := hS3.out.to1.b5
                        obtain ⟨_, _, _, p5, p6, _⟩ := hS3.out.to2.b4
                        go_wp2_with fail
                        refine (HA.out _).mono ?_
                        rintro e w2 ⟨rfl, b2⟩
                        replace hS3 := Lib.hid (hS3.out.below b2)
                        clear b2 q0 q1 q2 q3 q4 p0 p1 p2 p3 p4 p5 p6
                        obtain ⟨_, q0, q1, q2, q3, q4, _⟩ := hS3.out.b5
                        obtain ⟨_, p0, p1, p2, p3, p4, _⟩ := hS3.out.to1.b5
                        obtain ⟨_, _, _, p5, p6, _⟩ := hS3.out.to2.b4
                        go_wp2_with fail
                        refine (HA.out _).mono ?_
                        rintro e w2 ⟨rfl, b2⟩
                        replace hS3 := Lib.hid (hS3.out.below b2)
                        clear b2 q0 q1 q2 q3 q4 p0 p1 p2 p3 p4 p5 p6
                        obtain ⟨_, q0, q1, q2, q3, q4, _⟩ := hS3.out.b5
                        obtain ⟨_, p0, p1, p2, p3, p4, _⟩ := hS3.out.to1.b5
                        obtain ⟨_, _, _, p5, p6, _⟩ := hS3.out.to2.b4
                        go_wp2_with fail
                        refine (HB.out _).mono ?_
                        rintro e w2 ⟨rfl, b2⟩
                        replace hS3 := Lib.hid (hS3.out.below b2)
                        clear b2 q0 q1 q2 q3 q4 p0 p1 p2 p3 p4 p5 p6
                        obtain ⟨_, q0, q1, q2, q3, q4, _⟩ := hS3.out.b5
                        obtain ⟨_, p0, p1, p2, p3, p4, _⟩ := hS3.out.to1.b5
                        obtain ⟨_, _, _, p5, p6, _⟩ := hS3.out.to2.b4
                        go_wp2_with fail
                        refine (HP.out _).mono ?_
                        rintro e w2 ⟨rfl, b2⟩
                        replace hS3 := Lib.hid (hS3.out.below b2)
                        clear b2 q0 q1 q2 q3 q4 p0 p1 p2 p3 p4 p5 p6
                        obtain ⟨_, q0, q1, q2, q3, q4, _⟩ := hS3.out.b5
                        obtain ⟨_, p0, p1, p2, p3, p4, _⟩ := hS3.out.to1.b5
                        obtain ⟨_, _, _, p5, p6, _⟩ := hS3.out.to2.b4
                        go_wp2_with fail
                        go_ret
                        exact ⟨by rw [← hck.out, E.out]; rfl, hS3.out.tail.tail.tail.gold⟩
                    | false =>
                      rw [h5] at HB
                      have E := Lib.hid (hF.out (by simp only [pairB, h1, h2, hw, h4, h5]; first | rfl | (simp; done)))
                      clear hT hF
                      go_wp2_with fail
                      refine (HW.out _).mono ?_
                      rintro e w2 ⟨rfl, b2⟩
                      replace hS3 := Lib.hid (hS3.out.below b2)
                      clear b2 q0 q1 q2 q3 q4 p0 p1 p2 p3 p4 p5 p6
                      obtain ⟨_, q0, q1, q2, q3, q4, _⟩ := hS3.out.b5
                      obtain ⟨_, p0, p1, p2, p3, p4, _⟩ := hS3.out.to1.b5
                      obtain ⟨_, _, _, p5, p6, _⟩ := hS3.out.to2.b4
                      go_wp2_with fail
                      refine (HA.out _).mono ?_
                      rintro e w2 ⟨rfl, b2⟩
                      replace hS3 := Lib.hid (hS3.out.below b2)
                      clear b2 q0 q1 q2 q3 q4 p0 p1 p2 p3 p4 p5 p6
                      obtain ⟨_, q0, q1, q2, q3, q4, _⟩ := hS3.out.b5
                      obtain ⟨_, p0, p1, p2, p3, p4, _⟩ := hS3.out.to1.b5
                      obtain ⟨_, _, _, p5, p6, _⟩ := hS3.out.to2.b4
                      go_wp2_with fail
                      refine (HA.out _).mono ?_
                      rintro e w2 ⟨rfl, b2⟩
                      replace hS3 := Lib.hid (hS3.out.below b2)
                      clear b2 q0 q1 q2 q3 q4 p0 p1 p2 p3 p4 p5 p6
                      obtain ⟨_, q0, q1, q2, q3, q4, _⟩ := hS3.out.b5
                      obtain ⟨_, p0, p1, p2, p3, p4, _⟩ := hS3.out.to1.b5
                      obtain ⟨_, _, _, p5, p6, _⟩ := hS3.out.to2.b4
                      go_wp2_with fail
                      refine (HB.out _).mono ?_
                      rintro e w2 ⟨rfl, b2⟩
                      replace hS3 := Lib.hid (hS3.out.below b2)
                      clear b2 q0 q1 q2 q3 q4 p0 p1 p2 p3 p4 p5 p6
                      obtain ⟨_, q0, q1, q2, q3, q4, _⟩ := hS3.out.b5
                      obtain ⟨_, p0, p1, p2, p3, p4, _⟩ := hS3.out.to1.b5
                      obtain ⟨_, _, _, p5, p6, _⟩ := hS3.out.to2.b4
                      go_wp2_with fail
                      go_roundg (i - (j + 1))
                      case measure => omega
                      case rel => exact ⟨j + 1, by omega, rfl, by go_num, E, hS3.out.tail⟩
                  | false =>
                    rw [h4] at HA
                    cases h5 : mode != 0 with
                    | true =>
                      rw [h5] at HB
                      have E := Lib.hid (hT.out (by simp only [pairB, h1, h2, hw, h4, h5]; first | rfl | (simp; done)))
                      clear hT hF
                      go_wp2_with fail
                      refine (HW.out _).mono ?_
                      rintro e w2 ⟨rfl, b2⟩
                      replace hS3 := Lib.hid (hS3.out.below b2)
                      clear b2 q0 q1 q2 q3 q4 p0 p1 p2 p3 p4 p5 p6
                      obtain ⟨_, q0, q1, q2, q3, q4, _⟩ := hS3.out.b5
                      obtain ⟨_, p0, p1, p2, p3, p4, _⟩ := hS3.out.to1.b5
                      obtain ⟨_, _, _, p5, p6, _⟩ := hS3.out.to2.b4
                      go_wp2_with fail
                      refine (HA.out _).mono ?_
                      rintro e w2 ⟨rfl, b2⟩
                      replace hS3 := Lib.hid (hS3.out.below b2)
                      clear b2 q0 q1 q2 q3 q4 p0 p1 p2 p3 p4 p5 p6
                      obtain ⟨_, q0, q1, q2, q3, q4, _⟩ := hS3.out.b5
                      obtain ⟨_, p0, p1, p2, p3, p4, _⟩ := hS3.out.to1.b5
                      obtain ⟨_, _, _, p5, p6, _⟩ := hS3.out.to2.b4
                      go_wp2_with fail
                      refine (HB.out _).mono ?_
                      rintro e w2 ⟨rfl, b2⟩
                      replace hS3 := Lib.hid (hS3.out.below b2)
                      clear b2 q0 q1 q2 q3 q4 p0 p1 p2 p3 p4 p5 p6
                      obtain ⟨_, q0, q1, q2, q3, q4, _⟩ := hS3.out.b5
                      obtain ⟨_, p0, p1, p2, p3, p4, _⟩ := hS3.out.to1.b5
                      obtain ⟨_, _, _, p5, p6, _⟩ := hS3.out.to2.b4
                      go_wp2_with fail
                      go_ret
                      exact ⟨by rw [← hck.out, E.out]; rfl, hS3.out.tail.tail.tail.gold⟩
                    | false =>
                      rw [h5] at HB
                      cases h6 : decide (since < since2) with
                      | true =>
                        have E := Lib.hid (hT.out (by simp only [pairB, h1, h2, hw, h4, h5, h6]; first | rfl | (simp; done)))
                        clear hT hF
                        go_wp2_with fail
                        refine (HW.out _).mono ?_
                        rintro e w2 ⟨rfl, b2⟩
                        replace hS3 := Lib.hid (hS3.out.below b2)
                        clear b2 q0 q1 q2 q3 q4 p0 p1 p2 p3 p4 p5 p6
                        obtain ⟨_, q0, q1, q2, q3, q4, _⟩ := hS3.out.b5
                        obtain ⟨_, p0, p1, p2, p3, p4, _⟩ := hS3.out.to1.b5
                        obtain ⟨_, _, _, p5, p6, _⟩ := hS3.out.to2.b4
                        go_wp2_with fail
                        refine (HA.out _).mono ?_
                        rintro e w2 ⟨rfl, b2⟩
                        replace hS3 := Lib.hid (hS3.out.below b2)
                        clear b2 q0 q1 q2 q3 q4 p0 p1 p2 p3 p4 p5 p6
                        obtain ⟨_, q0, q1, q2, q3, q4, _⟩ := hS3.out.b5
                        obtain ⟨_, p0, p1, p2, p3, p4, _⟩ := hS3.out.to1.b5
                        obtain ⟨_, _, _, p5, p6, _⟩ := hS3.out.to2.b4
                        go_wp2_with fail
                        refine (HB.out _).mono ?_
                        rintro e w2 ⟨rfl, b2⟩
                        replace hS3 := Lib.hid (hS3.out.below b2)
                        clear b2 q0 q1 q2 q3 q4 p0 p1 p2 p3 p4 p5 p6
                        obtain ⟨_, q0, q1, q2, q3, q4, _⟩ := hS3.out.b5
                        obtain ⟨_, p0, p1, p2, p3, p4, _⟩ := hS3.out.to1.b5
                        obtain ⟨_, _, _, p5, p6, _⟩ := hS3.out.to2.b4
                        go_wp2_with fail
                        go_ret
                        exact ⟨by rw [← hck.out, E.out]; rfl, hS3.out.tail.tail.tail.gold⟩
                      | false =>
                        have E := Lib.hid (hF.out (by simp only [pairB, h1, h2, hw, h4, h5, h6]; first | rfl | (simp; done)))
                        clear hT hF
                        go_wp2_with fail
                        refine (HW.out _).mono ?_
                        rintro e w2 ⟨rfl, b2⟩
                        replace hS3 := Lib.hid (hS3.out.below b2)
                        clear b2 q0 q1 q2 q3 q4 p0 p1 p2 p3 p4 p5 p6
                        obtain ⟨_, q0, q1, q2, q3, q4, _⟩ := hS3.out.b5
                        obtain ⟨_, p0, p1, p2, p3, p4, _⟩ := hS3.out.to1.b5
                        obtain ⟨_, _, _, p5, p6, _⟩ := hS3.out.to2.b4
                        go_wp2_with fail
                        refine (HA.out _).mono ?_
                        rintro e w2 ⟨rfl, b2⟩
                        replace hS3 := Lib.hid (hS3.out.below b2)
                        clear b2 q0 q1 q2 q3 q4 p0 p1 p2 p3 p4 p5 p6
                        obtain ⟨_, q0, q1, q2, q3, q4, _⟩ := hS3.out.b5
                        obtain ⟨_, p0, p1, p2, p3, p4, _⟩ := hS3.out.to1.b5
                        obtain ⟨_, _, _, p5, p6, _⟩ := hS3.out.to2.b4
                        go_wp2_with fail
                        refine (HB.out _).mono ?_
                        rintro e w2 ⟨rfl, b2⟩
                        replace hS3 := Lib.hid (hS3.out.below b2)
                        clear b2 q0 q1 q2 q3 q4 p0 p1 p2 p3 p4 p5 p6
                        obtain ⟨_, q0, q1, q2, q3, q4, _⟩ := hS3.out.b5
                        obtain ⟨_, p0, p1, p2, p3, p4, _⟩ := hS3.out.to1.b5
                        obtain ⟨_, _, _, p5, p6, _⟩ := hS3.out.to2.b4
                        go_wp2_with fail
                        refine (HA.out _).mono ?_
                        rintro e w2 ⟨rfl, b2⟩
                        replace hS3 := Lib.hid (hS3.out.below b2)
                        clear b2 q0 q1 q2 q3 q4 p0 p1 p2 p3 p4 p5 p6
                        obtain ⟨_, q0, q1, q2, q3, q4, _⟩ := hS3.out.b5
                        obtain ⟨_, p0, p1, p2, p3, p4, _⟩ := hS3.out.to1.b5
                        obtain ⟨_, _, _, p5, p6, _⟩ := hS3.out.to2.b4
                        go_wp2_with fail
                        go_roundg (i - (j + 1))
                        case measure => omega
                        case rel => exact ⟨j + 1, by omega, rfl, by go_num, E, hS3.out.tail⟩
          · have hj2 : j = i := by omega
            have hokT := Lib.hid (show okQB n l i = true by rw [hok.out, ← hj2, hAny.out]; rfl)
            go_wp2_with fail
            go_roundg (m - (i + 1))
            case measure => omega
            case rel => exact ⟨i + 1, by omega, rfl, by go_num, (fun y hy => by by_cases hyi : y = i; · rw [hyi]; exact hokT.out
                                                                                · exact hA.out y (by omega)), hS2.out.tail⟩
    · have hk2 : i = m := by omega
      have E := Lib.hid (checkB_good n l (by have := hN.out.1; omega) (by have := hN.out.2; omega) (fun j hj => hA.out j (by rw [hn.out] at hj; omega)))
      go_wp2_with fail
      go_ret
      exact ⟨by rw [← hck.out, E.out]; rfl, hS.out.to1.gold⟩
end Go.Proofs.YtmacpjnkmkaloaaGreat
namespace Go.Proofs.YtmacpjnkmkaloaaGreat
set_option linter.unusedSimpArgs false
set_option linter.unusedVariables false
set_option linter.unnecessarySimpa false
open Go.RowKit
theorem checkB_n (n : Int) (l : List Rq) (h : checkB n l = true) : 0 ≤ n ∧ n ≤ 4611686018427387904 := by
  unfold checkB at h
  simp only [Bool.and_eq_true, decide_eq_true_eq] at h
  exact ⟨h.1, h.2.1⟩
theorem checkB_ok (n : Int) (l : List Rq) (h : checkB n l = true) (i : Nat) (hi : i < l.length) : okQB n l i = true := by
  unfold checkB at h
  simp only [Bool.and_eq_true, decide_eq_true_eq] at h
  exact List.all_eq_true.1 h.2.2 i (List.mem_range.2 hi)
theorem okB_right (n : Int) (l : List Rq) (i : Nat) (h : okQB n l i = true) : rightB (l.getD i default) n = true := by
  unfold okQB at h
  simp only [Bool.and_eq_true] at h
  exact h.1
theorem okB_pair (n : Int) (l : List Rq) (i : Nat) (h : okQB n l i = true) (k : Nat) (hk : k < l.length) (hki : k < i) : pairB (l.getD k default) (l.getD i default) = false := by
  unfold okQB at h
  simp only [Bool.and_eq_true, Bool.not_eq_true'] at h
  cases hp : pairB (l.getD k default) (l.getD i default) with
  | false => rfl
  | true =>
    have := any_take_true (fun a => pairB a (l.getD i default)) l k i hk hki hp
    rw [this] at h
    exact absurd h.2 (by simp)
theorem pairB_id (a b : Rq) (h : pairB a b = false) : a.id ≠ b.id ∧ a.txn ≠ b.txn := by
  unfold pairB at h
  simp only [Bool.or_eq_false_iff, beq_eq_false_iff_ne] at h
  exact ⟨h.1.1.1.1, h.1.1.1.2⟩
theorem checkB_ids (n : Int) (l : List Rq) (h : checkB n l = true) : IdsD l := by
  intro i j hi hj he
  rcases Nat.lt_trichotomy i j with hlt | heq | hgt
  · exact absurd he (pairB_id _ _ (okB_pair n l j (checkB_ok n l h j hj) i hi hlt)).1
  · exact heq
  · exact absurd he.symm (pairB_id _ _ (okB_pair n l i (checkB_ok n l h i hi) j hj hgt)).1
end Go.Proofs.YtmacpjnkmkaloaaGreat
