/-
  The contract of asked; what leaving means where numbers are distinct. No condition.
-/
import Derived.Test.YtmacpjnkmkaloaaQLeaveP
namespace Go.Proofs.Ytmacpjnkmkaloaa
open Go.RowKit
def askedB (m : Int) : Bool := m != 0 && knownB m
theorem knownP_any (m : Int) (w : World) : Calls Try.prog 79 #[.int .i64 m] w fun e w' => e = .returned (.bool (knownB m)) ∧ w = w' := known_any m w
theorem asked_any (m : Int) (w : World) : Calls Try.prog 66 #[.int .i64 m] w fun e w' => e = .returned (.bool (askedB m)) ∧ w = w' := by
  have H := Lib.hid (fun W => known_any m W)
  unfold askedB
  cases hm : m != 0 with
  | false =>
    go_enter Try.func66, Try.ntmps66
    go_wp2_with fail
    all_goals go_ret
    all_goals exact ⟨by simp, rfl⟩
  | true =>
    go_enter Try.func66, Try.ntmps66
    go_wp2_with fail
    refine (H.out _).mono ?_
    rintro e w1 ⟨rfl, rfl⟩
    go_wp2_with fail
    all_goals go_ret
    all_goals exact ⟨by simp, rfl⟩
theorem keepQ_all (p : Rq → Bool) (l : List Rq) (h : ∀ q ∈ l, p q = false) : keepQ p l = l := by
  unfold keepQ
  rw [List.filter_eq_self]
  intro q hq
  simp [h q hq]
/-- One request is left out. -/
theorem keepQ_erase (l : List Rq) (i : Nat) (id0 : Int) (hd : IdsD l) (hi : i < l.length) (he : (l.getD i default).id = id0) : keepQ (fun q => q.id == id0) l = l.eraseIdx i := by
  have hmem : ∀ q ∈ l.take i, (q.id == id0) = false := by
    intro q hq
    obtain ⟨j, hj, rfl⟩ := List.getElem_of_mem hq
    rw [List.length_take] at hj
    rw [beq_eq_false_iff_ne]
    intro h
    have := hd j i (by omega) hi (by rw [he, ← h]; simp [List.getD, show j < l.length by omega])
    omega
  have hmem2 : ∀ q ∈ l.drop (i + 1), (q.id == id0) = false := by
    intro q hq
    obtain ⟨j, hj, rfl⟩ := List.getElem_of_mem hq
    rw [List.length_drop] at hj
    rw [beq_eq_false_iff_ne]
    intro h
    have := hd (i + 1 + j) i (by omega) hi (by rw [he, ← h]; simp [List.getD, show i + 1 + j < l.length by omega])
    omega
  have hl : l = l.take i ++ (l.getD i default :: l.drop (i + 1)) := by rw [← drop_at l i hi, List.take_append_drop]
  rw [List.eraseIdx_eq_take_drop_succ]
  rw [hl]
  have h1 : keepQ (fun q => q.id == id0) (l.take i ++ (l.getD i default :: l.drop (i + 1))) = keepQ (fun q => q.id == id0) (l.take i) ++ keepQ (fun q => q.id == id0) (l.drop (i + 1)) := by
    unfold keepQ
    rw [List.filter_append, List.filter_cons_of_neg (by simp only [he, beq_self_eq_true]; decide)]
  rw [h1, keepQ_all _ _ hmem, keepQ_all _ _ hmem2, ← hl]
theorem boxes4 (w : World) (t0 t1 t2 t3 : TypeId) (b0 b1 b2 b3 : Array Value) : Sep ((((w.alloc (.cells b0 t0)).alloc (.cells b1 t1)).alloc (.cells b2 t2)).alloc (.cells b3 t3)) [blk (w.heap.size + 1 + 1 + 1) t3 b3, blk (w.heap.size + 1 + 1) t2 b2, blk (w.heap.size + 1) t1 b1, blk w.heap.size t0 b0, old w] := by
  have := ((((Sep.start w).alloc b0 t0).alloc b1 t1).alloc b2 t2).alloc b3 t3
  simpa only [World.size_alloc] using this
set_option maxHeartbeats 1000000 in
/-- Ask of what may not be asked, or by whom. -/
theorem askP_arg (t r n : Int) (v : Value) (l : List Rq) (id0 t0 mo : Int) (w : World) (hv : RQ w v l) (hb : id0 < 0 ∨ askedB mo = false) :
    Calls Try.prog 30 #[hval t r v n, .int .i64 id0, .int .i64 t0, .int .i64 mo] w fun e w' => e = .returned (.tuple #[zhd, .bool false, .int .i64 2]) ∧ Below w.heap.size w w' := by
  have hB := Lib.hid (boxes4 w 26 3 3 26 #[.int .i64 t, .int .i64 r, v, .int .i64 n] #[.int .i64 id0] #[.int .i64 t0] #[.int .i64 0, .int .i64 0, .slice none 0 0, .int .i64 0])
  have HA := Lib.hid (fun W => asked_any mo W)
  obtain ⟨a, c, rfl, _⟩ := hv
  unfold hval at *
  by_cases h0 : id0 < 0
  · have d0 : decide (id0 < 0) = true := decide_eq_true h0
    clear h0 hb
    go_enter Try.func30, Try.ntmps30
    go_wp2_with fail
    all_goals refine bodyPost_ret (v := .tuple #[.agg #[.int .i64 0, .int .i64 0, .slice none 0 0, .int .i64 0], .bool false, .int .i64 2]) (by simp [results, Try.results30, go_sem, *]) rfl ⟨rfl, ?_⟩
    all_goals exact hB.out.tail.tail.tail.tail.gold
  · have d0 : decide (id0 < 0) = false := decide_eq_false h0
    rw [hb.resolve_left h0] at HA
    clear h0 hb
    go_enter Try.func30, Try.ntmps30
    go_wp2_with fail
    refine (HA.out _).mono ?_
    rintro e w1 ⟨rfl, rfl⟩
    go_wp2_with fail
    all_goals refine bodyPost_ret (v := .tuple #[.agg #[.int .i64 0, .int .i64 0, .slice none 0 0, .int .i64 0], .bool false, .int .i64 2]) (by simp [results, Try.results30, go_sem, *]) rfl ⟨rfl, ?_⟩
    all_goals exact hB.out.tail.tail.tail.tail.gold
set_option maxHeartbeats 1000000 in
/-- Ask where somebody has the number, or the transaction. -/
theorem askP_twice (t r n : Int) (v : Value) (l : List Rq) (id0 t0 mo : Int) (w : World) (hv : RQ w v l) (hl : l.length ≤ 1000) (h0 : ¬ id0 < 0) (ha : askedB mo = true) (hc : l.any (fun q => q.id == id0 || q.txn == t0) = true) :
    Calls Try.prog 30 #[hval t r v n, .int .i64 id0, .int .i64 t0, .int .i64 mo] w fun e w' => e = .returned (.tuple #[zhd, .bool false, .int .i64 4]) ∧ Below w.heap.size w w' := by
  have hB := Lib.hid (boxes4 w 26 3 3 26 #[.int .i64 t, .int .i64 r, v, .int .i64 n] #[.int .i64 id0] #[.int .i64 t0] #[.int .i64 0, .int .i64 0, .slice none 0 0, .int .i64 0])
  have HA := Lib.hid (fun W => asked_any mo W)
  have HC := Lib.hid (contains_any v l 67 #[.pointer (some ⟨w.heap.size + 1, 0, none⟩), .pointer (some ⟨w.heap.size + 1 + 1, 0, none⟩)] (fun q => q.id == id0 || q.txn == t0) _ (hv.below hB.out.tail.tail.tail.tail.gold) hl
    (ask1 id0 t0 (w.heap.size + 1) (w.heap.size + 1 + 1) _ hB.out.to2.gblk.lt (hB.out.to2.gblk.cell 0) hB.out.to1.gblk.lt (hB.out.to1.gblk.cell 0)) eg_ask)
  rw [hc] at HC
  rw [ha] at HA
  have eg := eg_ask
  have d0 : decide (id0 < 0) = false := decide_eq_false h0
  obtain ⟨a, c, rfl, _⟩ := hv
  unfold hval at *
  clear hc ha h0
  go_enter Try.func30, Try.ntmps30
  go_wp2_with fail
  refine (HA.out _).mono ?_
  rintro e w1 ⟨rfl, rfl⟩
  go_wp2_with fail
  refine HC.out.mono ?_
  rintro e w2 ⟨rfl, b2⟩
  replace hB := Lib.hid (hB.out.below b2)
  obtain ⟨y1, d0', d1, d2, d3, g0, g1, g2, g3⟩ := hB.out.b4
  clear b2 HC
  go_wp2_with fail
  refine bodyPost_ret (v := .tuple #[.agg #[.int .i64 0, .int .i64 0, .slice none 0 0, .int .i64 0], .bool false, .int .i64 4]) (by simp [results, Try.results30, go_sem, *]) rfl ⟨rfl, ?_⟩
  exact ((((hB.out.set 0 (.int .i64 0)).set 1 (.int .i64 0)).set 2 (.slice none 0 0)).set 3 (.int .i64 0)).tail.tail.tail.tail.gold
end Go.Proofs.Ytmacpjnkmkaloaa
