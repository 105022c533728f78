/-
  The contract of the program's Hand. No condition beside requests that can be read.
-/
import Derived.Test.YtmacpjnkmkaloaaQAb
namespace Go.Proofs.Ytmacpjnkmkaloaa
open Go.RowKit
def handP (id0 t0 : Int) (q : Rq) : Bool := q.id != id0 && q.txn == t0
theorem hand1 (id0 t0 : Int) (B C : Nat) (w : World) (hB : B < w.heap.size) (hc : w.cell? ⟨B, 0, none⟩ = some (.int .i64 id0)) (hC : C < w.heap.size) (hd : w.cell? ⟨C, 0, none⟩ = some (.int .i64 t0)) :
    PredQ 71 #[.pointer (some ⟨B, 0, none⟩), .pointer (some ⟨C, 0, none⟩)] (handP id0 t0) w := fun W r hb => by
  have c := (hb.cell (p := ⟨B, 0, none⟩) hB).trans hc
  have d := (hb.cell (p := ⟨C, 0, none⟩) hC).trans hd
  have hs := hb.size
  have hl := Nat.lt_of_lt_of_le hB hs
  have hl' := Nat.lt_of_lt_of_le hC hs
  obtain ⟨id, txn, mode, want, since⟩ := r
  show Calls Try.prog 71 #[.agg #[.int .i64 id, .int .i64 txn, .int .i64 mode, .int .i64 want, .int .i64 since], .pointer (some ⟨B, 0, none⟩), .pointer (some ⟨C, 0, none⟩)] W _
  unfold handP
  clear hb hc hd
  cases h1 : id != id0 with
  | true =>
    go_enter Try.func71, Try.ntmps71
    go_wp2
    go_ret
    exact ⟨by simp_all, (Below.refl _ _).alloc (Nat.le_refl _) _⟩
  | false =>
    go_enter Try.func71, Try.ntmps71
    go_wp2
    go_ret
    exact ⟨by simp_all, (Below.refl _ _).alloc (Nat.le_refl _) _⟩
theorem eg_hand : ∀ args w, (callFunc 71 args).run Try.prog w = .ok (.enter 71 args) w := enters_of Try.func71 (by kernel_rfl) rfl
set_option maxHeartbeats 1000000 in
theorem hand_none (t r n : Int) (v : Value) (l : List Rq) (id0 t0 : Int) (w : World) (hv : RQ w v l) (hl : l.length ≤ 1000) (hi : plc l id0 = -1) :
    Calls Try.prog 33 #[hval t r v n, .int .i64 id0, .int .i64 t0] w fun e w' => e = .returned (.tuple #[zhd, .int .i64 5]) ∧ Below w.heap.size w w' := by
  have hB := Lib.hid (boxes4 w 26 3 3 26 #[.int .i64 t, .int .i64 r, v, .int .i64 n] #[.int .i64 id0] #[.int .i64 t0] #[.int .i64 0, .int .i64 0, .slice none 0 0, .int .i64 0])
  have HO := Lib.hid (own_any t r n v l _ (hv.below hB.out.tail.tail.tail.tail.gold) hl)
  obtain ⟨a, c, rfl, _⟩ := hv
  unfold hval at *
  go_enter Try.func33, Try.ntmps33
  go_wp2_with fail
  refine HO.out.mono ?_
  rintro e w1 ⟨a1, c1, rfl, hS⟩
  have hS2 := (hS.graft hB.out).alloc #[.int .i64 t, .int .i64 r, .slice a1 l.length c1, .int .i64 n] 69
  have HP := Lib.hid (place_any t r n (.slice a1 l.length c1) l id0 _ hS2.to1.vq_rq hl)
  rw [show idxF (fun q : Rq => q.id == id0) l 0 = _ from hi] at HP
  unfold hval at HP
  obtain ⟨y1, d0, d1, d2, d3, g0, g1, g2, g3⟩ := hS2.b4
  obtain ⟨_, x4, _⟩ := hS2.to4.b1
  replace hS2 := Lib.hid hS2
  clear hS HO hB
  go_wp2_with fail
  refine HP.out.mono ?_
  rintro e w2 ⟨rfl, b2⟩
  replace hS2 := Lib.hid (hS2.out.below b2)
  clear b2 HP y1 d0 d1 d2 d3 g0 g1 g2 g3 x4
  generalize w1.heap.size = V at *
  obtain ⟨z1, k0, k1, k2, k3, m0, m1, m2, m3⟩ := hS2.out.to2.b4
  go_wp2_with fail
  refine bodyPost_ret (v := .tuple #[.agg #[.int .i64 0, .int .i64 0, .slice none 0 0, .int .i64 0], .int .i64 5]) (by simp [results, Try.results33, go_sem, *]) rfl ⟨rfl, ?_⟩
  exact ((((hS2.out.to2.set 0 (.int .i64 0)).set 1 (.int .i64 0)).set 2 (.slice none 0 0)).set 3 (.int .i64 0)).tail.tail.tail.tail.tail.tail.gold
set_option maxHeartbeats 1000000 in
theorem hand_twice (t r n : Int) (v : Value) (l : List Rq) (id0 t0 : Int) (w : World) (hv : RQ w v l) (hl : l.length ≤ 1000) (i : Nat) (hi : plc l id0 = i) (hil : i < l.length) (hc : l.any (handP id0 t0) = true) :
    Calls Try.prog 33 #[hval t r v n, .int .i64 id0, .int .i64 t0] w fun e w' => e = .returned (.tuple #[zhd, .int .i64 4]) ∧ Below w.heap.size w w' := by
  have hB := Lib.hid (boxes4 w 26 3 3 26 #[.int .i64 t, .int .i64 r, v, .int .i64 n] #[.int .i64 id0] #[.int .i64 t0] #[.int .i64 0, .int .i64 0, .slice none 0 0, .int .i64 0])
  have HO := Lib.hid (own_any t r n v l _ (hv.below hB.out.tail.tail.tail.tail.gold) hl)
  have i1 : (0 : Int) ≤ (i : Int) := by omega
  have i2 : (i : Int) < (l.length : Int) := by omega
  have d : decide ((i : Int) < 0) = false := by rw [decide_eq_false_iff_not]; omega
  have eg := eg_hand
  obtain ⟨a, c, rfl, _⟩ := hv
  unfold hval at *
  go_enter Try.func33, Try.ntmps33
  go_wp2_with fail
  refine HO.out.mono ?_
  rintro e w1 ⟨a1, c1, rfl, hS⟩
  have hS2 := (hS.graft hB.out).alloc #[.int .i64 t, .int .i64 r, .slice a1 l.length c1, .int .i64 n] 69
  have HP := Lib.hid (place_any t r n (.slice a1 l.length c1) l id0 _ hS2.to1.vq_rq hl)
  rw [show idxF (fun q : Rq => q.id == id0) l 0 = _ from hi] at HP
  unfold hval at HP
  obtain ⟨y1, d0, d1, d2, d3, g0, g1, g2, g3⟩ := hS2.b4
  obtain ⟨_, x4, _⟩ := hS2.to4.b1
  replace hS2 := Lib.hid hS2
  clear hS HO hB
  go_wp2_with fail
  refine HP.out.mono ?_
  rintro e w2 ⟨rfl, b2⟩
  replace hS2 := Lib.hid (hS2.out.below b2)
  clear b2 HP y1 d0 d1 d2 d3 g0 g1 g2 g3 x4
  generalize w1.heap.size = V at *
  obtain ⟨y1, d0, d1, d2, d3, g0, g1, g2, g3⟩ := hS2.out.b4
  have HC := Lib.hid (contains_any (.slice a1 l.length c1) l 71 #[.pointer (some ⟨w.heap.size + 1, 0, none⟩), .pointer (some ⟨w.heap.size + 1 + 1, 0, none⟩)] (handP id0 t0) w2 hS2.out.to1.vq_rq hl
    (hand1 id0 t0 (w.heap.size + 1) (w.heap.size + 1 + 1) _ hS2.out.to4.gblk.lt (hS2.out.to4.gblk.cell 0) hS2.out.to3.gblk.lt (hS2.out.to3.gblk.cell 0)) eg_hand)
  rw [hc] at HC
  clear hc
  go_wp2_with fail
  refine HC.out.mono ?_
  rintro e w3 ⟨rfl, b3⟩
  replace hS2 := Lib.hid (hS2.out.below b3)
  clear b3 HC y1 d0 d1 d2 d3 g0 g1 g2 g3
  obtain ⟨z1, k0, k1, k2, k3, m0, m1, m2, m3⟩ := hS2.out.to2.b4
  go_wp2_with fail
  refine bodyPost_ret (v := .tuple #[.agg #[.int .i64 0, .int .i64 0, .slice none 0 0, .int .i64 0], .int .i64 4]) (by simp [results, Try.results33, go_sem, *]) rfl ⟨rfl, ?_⟩
  exact ((((hS2.out.to2.set 0 (.int .i64 0)).set 1 (.int .i64 0)).set 2 (.slice none 0 0)).set 3 (.int .i64 0)).tail.tail.tail.tail.tail.tail.gold
set_option maxHeartbeats 1000000 in
theorem hand_state (t r n : Int) (v : Value) (l : List Rq) (id0 t0 : Int) (w : World) (hv : RQ w v l) (hl : l.length ≤ 1000) (i : Nat) (hi : plc l id0 = i) (hil : i < l.length) (hc : l.any (handP id0 t0) = false) (hs : decide (0 < (l.getD i default).since) = true) :
    Calls Try.prog 33 #[hval t r v n, .int .i64 id0, .int .i64 t0] w fun e w' => e = .returned (.tuple #[zhd, .int .i64 7]) ∧ Below w.heap.size w w' := by
  have hB := Lib.hid (boxes4 w 26 3 3 26 #[.int .i64 t, .int .i64 r, v, .int .i64 n] #[.int .i64 id0] #[.int .i64 t0] #[.int .i64 0, .int .i64 0, .slice none 0 0, .int .i64 0])
  have HO := Lib.hid (own_any t r n v l _ (hv.below hB.out.tail.tail.tail.tail.gold) hl)
  have i1 : (0 : Int) ≤ (i : Int) := by omega
  have i2 : (i : Int) < (l.length : Int) := by omega
  have d : decide ((i : Int) < 0) = false := by rw [decide_eq_false_iff_not]; omega
  have eg := eg_hand
  obtain ⟨a, c, rfl, _⟩ := hv
  unfold hval at *
  go_enter Try.func33, Try.ntmps33
  go_wp2_with fail
  refine HO.out.mono ?_
  rintro e w1 ⟨a1, c1, rfl, hS⟩
  have hS2 := (hS.graft hB.out).alloc #[.int .i64 t, .int .i64 r, .slice a1 l.length c1, .int .i64 n] 69
  have HP := Lib.hid (place_any t r n (.slice a1 l.length c1) l id0 _ hS2.to1.vq_rq hl)
  rw [show idxF (fun q : Rq => q.id == id0) l 0 = _ from hi] at HP
  unfold hval at HP
  obtain ⟨y1, d0, d1, d2, d3, g0, g1, g2, g3⟩ := hS2.b4
  obtain ⟨_, x4, _⟩ := hS2.to4.b1
  replace hS2 := Lib.hid hS2
  clear hS HO hB
  go_wp2_with fail
  refine HP.out.mono ?_
  rintro e w2 ⟨rfl, b2⟩
  replace hS2 := Lib.hid (hS2.out.below b2)
  clear b2 HP y1 d0 d1 d2 d3 g0 g1 g2 g3 x4
  generalize w1.heap.size = V at *
  obtain ⟨y1, d0, d1, d2, d3, g0, g1, g2, g3⟩ := hS2.out.b4
  have HC := Lib.hid (contains_any (.slice a1 l.length c1) l 71 #[.pointer (some ⟨w.heap.size + 1, 0, none⟩), .pointer (some ⟨w.heap.size + 1 + 1, 0, none⟩)] (handP id0 t0) w2 hS2.out.to1.vq_rq hl
    (hand1 id0 t0 (w.heap.size + 1) (w.heap.size + 1 + 1) _ hS2.out.to4.gblk.lt (hS2.out.to4.gblk.cell 0) hS2.out.to3.gblk.lt (hS2.out.to3.gblk.cell 0)) eg_hand)
  rw [hc] at HC
  clear hc
  go_wp2_with fail
  refine HC.out.mono ?_
  rintro e w3 ⟨rfl, b3⟩
  replace hS2 := Lib.hid (hS2.out.below b3)
  clear b3 HC y1 d0 d1 d2 d3 g0 g1 g2 g3
  obtain ⟨g, rfl, hgl, hmc, q0, q1, q2, q3, q4, hfz⟩ := hS2.out.to1.vq_at rfl hil
  obtain ⟨y1, d0, d1, d2, d3, g0, g1, g2, g3⟩ := hS2.out.b4
  have HW := Lib.hid (fun W => waits_any (l.getD i default) W)
  rw [hs] at HW
  generalize hq : l.getD i default = q at *
  replace hq := Lib.hid hq
  obtain ⟨id, txn, mode, want, since⟩ := q
  unfold Rq.val at HW
  simp only at q0 q1 q2 q3 q4 HW
  go_wp2_with fail
  refine (HW.out _).mono ?_
  rintro e w4 ⟨rfl, b4⟩
  replace hS2 := Lib.hid (hS2.out.below b4)
  clear b4 HW q0 q1 q2 q3 q4 hfz y1 d0 d1 d2 d3 g0 g1 g2 g3 hgl
  obtain ⟨z1, k0, k1, k2, k3, m0, m1, m2, m3⟩ := hS2.out.to2.b4
  go_wp2_with fail
  refine bodyPost_ret (v := .tuple #[.agg #[.int .i64 0, .int .i64 0, .slice none 0 0, .int .i64 0], .int .i64 7]) (by simp [results, Try.results33, go_sem, *]) rfl ⟨rfl, ?_⟩
  exact ((((hS2.out.to2.set 0 (.int .i64 0)).set 1 (.int .i64 0)).set 2 (.slice none 0 0)).set 3 (.int .i64 0)).tail.tail.tail.tail.tail.tail.gold
set_option maxHeartbeats 1000000 in
theorem hand_ok (t r n : Int) (v : Value) (l : List Rq) (id0 t0 : Int) (w : World) (hv : RQ w v l) (hl : l.length ≤ 1000) (i : Nat) (hi : plc l id0 = i) (hil : i < l.length)  (hc : l.any (handP id0 t0) = false) (hs : decide (0 < (l.getD i default).since) = false) :
    Calls Try.prog 33 #[hval t r v n, .int .i64 id0, .int .i64 t0] w fun e w' => ∃ a c, e = .returned (.tuple #[hval t r (.slice a l.length c) n, .int .i64 0]) ∧ Sep w' [vq (.slice a l.length c) (l.set i { l.getD i default with txn := t0 }), old w] := by
  obtain ⟨R, hR⟩ : ∃ R, (l.set i { l.getD i default with txn := t0 }) = R := ⟨_, rfl⟩
  rw [hR]
  replace hR := Lib.hid hR
  have hB := Lib.hid (boxes4 w 26 3 3 26 #[.int .i64 t, .int .i64 r, v, .int .i64 n] #[.int .i64 id0] #[.int .i64 t0] #[.int .i64 0, .int .i64 0, .slice none 0 0, .int .i64 0])
  have HO := Lib.hid (own_any t r n v l _ (hv.below hB.out.tail.tail.tail.tail.gold) hl)
  have i1 : (0 : Int) ≤ (i : Int) := by omega
  have i2 : (i : Int) < (l.length : Int) := by omega
  have d : decide ((i : Int) < 0) = false := by rw [decide_eq_false_iff_not]; omega
  have eg := eg_hand
  obtain ⟨a, c, rfl, _⟩ := hv
  unfold hval at *
  go_enter Try.func33, Try.ntmps33
  go_wp2_with fail
  refine HO.out.mono ?_
  rintro e w1 ⟨a1, c1, rfl, hS⟩
  have hS2 := (hS.graft hB.out).alloc #[.int .i64 t, .int .i64 r, .slice a1 l.length c1, .int .i64 n] 69
  have HP := Lib.hid (place_any t r n (.slice a1 l.length c1) l id0 _ hS2.to1.vq_rq hl)
  rw [show idxF (fun q : Rq => q.id == id0) l 0 = _ from hi] at HP
  unfold hval at HP
  obtain ⟨y1, d0, d1, d2, d3, g0, g1, g2, g3⟩ := hS2.b4
  obtain ⟨_, x4, _⟩ := hS2.to4.b1
  replace hS2 := Lib.hid hS2
  clear hS HO hB
  go_wp2_with fail
  refine HP.out.mono ?_
  rintro e w2 ⟨rfl, b2⟩
  replace hS2 := Lib.hid (hS2.out.below b2)
  clear b2 HP y1 d0 d1 d2 d3 g0 g1 g2 g3 x4
  generalize w1.heap.size = V at *
  obtain ⟨y1, d0, d1, d2, d3, g0, g1, g2, g3⟩ := hS2.out.b4
  have HC := Lib.hid (contains_any (.slice a1 l.length c1) l 71 #[.pointer (some ⟨w.heap.size + 1, 0, none⟩), .pointer (some ⟨w.heap.size + 1 + 1, 0, none⟩)] (handP id0 t0) w2 hS2.out.to1.vq_rq hl
    (hand1 id0 t0 (w.heap.size + 1) (w.heap.size + 1 + 1) _ hS2.out.to4.gblk.lt (hS2.out.to4.gblk.cell 0) hS2.out.to3.gblk.lt (hS2.out.to3.gblk.cell 0)) eg_hand)
  rw [hc] at HC
  clear hc
  go_wp2_with fail
  refine HC.out.mono ?_
  rintro e w3 ⟨rfl, b3⟩
  replace hS2 := Lib.hid (hS2.out.below b3)
  clear b3 HC y1 d0 d1 d2 d3 g0 g1 g2 g3
  obtain ⟨g, rfl, hgl, hmc, q0, q1, q2, q3, q4, hfz⟩ := hS2.out.to1.vq_at rfl hil
  obtain ⟨y1, d0, d1, d2, d3, g0, g1, g2, g3⟩ := hS2.out.b4
  have HW := Lib.hid (fun W => waits_any (l.getD i default) W)
  rw [hs] at HW
  generalize hq : l.getD i default = q at *
  replace hq := Lib.hid hq
  obtain ⟨id, txn, mode, want, since⟩ := q
  unfold Rq.val at HW
  simp only at q0 q1 q2 q3 q4 HW
  go_wp2_with fail
  refine (HW.out _).mono ?_
  rintro e w4 ⟨rfl, b4⟩
  replace hS2 := Lib.hid (hS2.out.below b4)
  clear b4 HW q0 q1 q2 q3 q4 hfz y1 d0 d1 d2 d3 g0 g1 g2 g3 hgl
  obtain ⟨g', hg', hgl, _, q0, q1, q2, q3, q4, hfz⟩ := hS2.out.to1.vq_at rfl hil
  injection hg' with hg'
  injection hg' with hg'
  subst hg'
  rw [hq.out] at q0 q1 q2 q3 q4
  simp only at q0 q1 q2 q3 q4
  obtain ⟨y1, d0, d1, d2, d3, g0, g1, g2, g3⟩ := hS2.out.b4
  obtain ⟨_, x4, _⟩ := hS2.out.to3.b1
  obtain ⟨x1, e0, e1, e2, e3, f0, f1, f2, f3⟩ := hS2.out.to2.b4
  have z1 := hfz (i * 5 + 1)
  have n1 := hS2.out.to1.vq_ne rfl
  have n2 := n1.symm
  have n3 := hS2.out.to2.to2.vq_ne rfl
  have n4 := n3.symm
  have n5 := hS2.out.drop1.blk_ne
  have n6 := n5.symm
  go_wp2_with fail
  refine bodyPost_ret (v := .tuple #[.agg #[.int .i64 t, .int .i64 r, .slice (some ⟨g, 0, none⟩) l.length c1, .int .i64 n], .int .i64 0]) (by simp [results, Try.results33, go_sem, *]) rfl ⟨some ⟨g, 0, none⟩, c1, rfl, ?_⟩
  have hS3 := hS2.out.to1.vq_setF rfl hil (f := 1) (by omega) (.int .i64 t0) ⟨id, t0, mode, want, since⟩ (by rw [hq.out]; rfl)
  have e5 : (l.set i (⟨id, t0, mode, want, since⟩ : Rq)) = R := by
    exact hR.out
  rw [e5] at hS3
  exact (((((hS3.to2.set 0 (.int .i64 t)).set 1 (.int .i64 r)).set 2 (.slice (some ⟨g, 0, none⟩) l.length c1)).set 3 (.int .i64 n)).tail.drop1.drop1.drop1.drop1)
end Go.Proofs.Ytmacpjnkmkaloaa
