/-
  Contracts and plain laws that the walk leans on, part 7. No condition.
-/
import Derived.Test.YtmacpjnkmkaloaaGreatZQc6
import Derived.Deep.RegionHeld
namespace Go.Proofs.YtmacpjnkmkaloaaGreat
set_option linter.unusedSimpArgs false
set_option linter.unusedVariables false
set_option linter.unnecessarySimpa false
open Go.RowKit
theorem SrcA.cells (w : World) (cs : Array Value) (t : TypeId) (c : Nat) : SrcA (w.alloc (.cells cs t)) cs.size (.slice (some ⟨w.heap.size, 0, none⟩) 1 c) 1 cs.toList := by
  refine .inr ⟨_, _, rfl, by simp, fun j u hu => ?_⟩
  have h := ((Sep.start w).alloc cs t).gblk.cell j
  rw [Addr.add_lit, Nat.zero_add]
  rw [h, ← hu]
  simp
set_option maxHeartbeats 2000000 in
set_option maxRecDepth 100000 in
theorem askP_grant (t r n : Int) (v : Value) (l : List Rq) (id0 t0 mo : Int) (w : World) (hv : RQ w v l) (hl : l.length ≤ 1000) (h0 : ¬ id0 < 0) (ha : askedB mo = true) (hc : l.any (fun q => q.id == id0 || q.txn == t0) = false)
    (hf : firstI l < 0) (hm : l.any (fitsP ⟨id0, t0, 0, mo, 0⟩) = false) :
    Calls Tryz.prog 10 #[hval t r v n, .int .i64 id0, .int .i64 t0, .int .i64 mo] w fun e w' => ∃ a c, e = .returned (.tuple #[hval t r (.slice a (l.length + 1) c) n, .bool true, .int .i64 0]) ∧ Sep w' [vq (.slice a (l.length + 1) c) (l ++ [⟨id0, t0, mo, mo, 0⟩]), old w] := by
  have hB := Lib.hid (boxes4 w 26 3 3 26 #[.int .i64 t, .int .i64 r, v, .int .i64 n] #[.int .i64 id0] #[.int .i64 t0] #[.int .i64 0, .int .i64 0, .slice none 0 0, .int .i64 0])
  have HA := Lib.hid (fun W => asked_any mo W)
  have HC := Lib.hid (contains_any v l 42 #[.pointer (some ⟨w.heap.size + 1, 0, none⟩), .pointer (some ⟨w.heap.size + 1 + 1, 0, none⟩)] (fun q => q.id == id0 || q.txn == t0) _ (hv.below hB.out.tail.tail.tail.tail.gold) hl
    (ask1 id0 t0 (w.heap.size + 1) (w.heap.size + 1 + 1) _ hB.out.to2.gblk.lt (hB.out.to2.gblk.cell 0) hB.out.to1.gblk.lt (hB.out.to1.gblk.cell 0)) eg_ask)
  have HO := Lib.hid (fun W hb => own_any t r n v l W (hv.below hb) hl)
  rw [hc] at HC
  rw [ha] at HA
  have eg := eg_ask
  have d0 : decide (id0 < 0) = false := decide_eq_false h0
  have df : decide (firstI l < 0) = true := decide_eq_true hf
  replace hm := Lib.hid hm
  obtain ⟨a, c, rfl, _⟩ := hv
  unfold hval at *
  clear hc ha h0 hf
  go_enter Tryz.func10, Tryz.ntmps10
  go_wp2_with fail
  refine (HA.out _).mono ?_
  rintro e w1 ⟨rfl, rfl⟩
  go_wp2_with fail
  refine HC.out.mono ?_
  rintro e w2 ⟨rfl, b2⟩
  replace hB := Lib.hid (hB.out.below b2)
  obtain ⟨y1, x0, x1, x2, x3, _⟩ := hB.out.to3.b4
  obtain ⟨_, x4, _⟩ := hB.out.to2.b1
  obtain ⟨_, x5, _⟩ := hB.out.to1.b1
  clear b2 HC
  go_wp2_with fail
  refine (HO.out _ hB.out.tail.tail.tail.tail.gold).mono ?_
  rintro e w3 ⟨a1, c1, rfl, hS⟩
  have hS1 := Lib.hid ((hS.graft hB.out).alloc #[.int .i64 t, .int .i64 r, .slice a1 l.length c1, .int .i64 n] 62)
  have hS2 := hS1.out.alloc #[.int .i64 id0, .int .i64 t0, .int .i64 0, .int .i64 mo, .int .i64 0] 42
  rw [World.size_alloc] at hS2
  replace hS2 := Lib.hid hS2
  clear hS hB HO x0 x1 x2 x3 x4 x5 y1
  obtain ⟨_, x4, _⟩ := hS1.out.to4.b1
  obtain ⟨_, x5, _⟩ := hS1.out.to3.b1
  obtain ⟨_, p0, p1, p2, p3, p4, _⟩ := hS2.out.b5
  obtain ⟨_, q0, q1, q2, q3, _⟩ := hS2.out.to1.b4
  clear hS1
  have HF := Lib.hid (fun W hb => first_any t r n (.slice a1 l.length c1) l W ((hS2.out.to2.vq_rq).below hb) hl)
  have HT := Lib.hid (fun W hb => fits_any t r n (.slice a1 l.length c1) l ⟨id0, t0, 0, mo, 0⟩ W ((hS2.out.to2.vq_rq).below hb) hl)
  unfold hval at HF HT
  simp only [Rq.val, hm.out, Bool.not_false] at HT
  generalize firstI l = fi at *
  go_wp2_with fail
  refine (HF.out _ (Below.refl _ _)).mono ?_
  rintro e w4 ⟨rfl, b4⟩
  replace HT := Lib.hid (HT.out _ b4)
  replace hS2 := Lib.hid (hS2.out.below b4)
  clear b4 HF p0 p1 p2 p3 p4 q0 q1 q2 q3 x4 x5
  obtain ⟨_, p0, p1, p2, p3, p4, _⟩ := hS2.out.b5
  obtain ⟨_, q0, q1, q2, q3, _⟩ := hS2.out.to1.b4
  go_wp2_with fail
  refine HT.out.mono ?_
  rintro e w5 ⟨rfl, b5⟩
  replace hS2 := Lib.hid (hS2.out.below b5)
  clear b5 HT p0 p1 p2 p3 p4 q0 q1 q2 q3
  obtain ⟨_, p0, p1, p2, p3, p4, _⟩ := hS2.out.b5
  obtain ⟨_, q0, q1, q2, q3, _⟩ := hS2.out.to1.b4
  have hS3 := hS2.out.set 2 (.int .i64 mo)
  replace hS3 := Lib.hid (show Sep _ [blk (w3.heap.size + 1) 42 #[.int .i64 id0, .int .i64 t0, .int .i64 mo, .int .i64 mo, .int .i64 0], _, _, _, _, _, _, _] from hS3)
  obtain ⟨i0, hi0, hz0, hz1, hz2⟩ := info_parts info_req
  have hsrc := Lib.hid (SrcA.cells (w5.setCell ⟨w3.heap.size + 1, 2, none⟩ (.int .i64 mo)) #[.int .i64 id0, .int .i64 t0, .int .i64 mo, .int .i64 mo, .int .i64 0] 42 1)
  have h1 : Hid (∀ u ∈ ([.int .i64 id0, .int .i64 t0, .int .i64 mo, .int .i64 mo, .int .i64 0] : List Value), u.oneCell' = true) := Lib.hid (by simp [Value.oneCell'])
  clear hS2
  rw [World.size_setCell] at hsrc
  go_wp2_with (at_builtin; refine wpList_append_sep (hS3.out.to2.allocG _) rfl _ _ 24 rfl i0 _ 40 Tryz.underlying24 hi0 hz0 hz1 hz2 rfl (by decide) rfl 1 _ hsrc.out h1.out ?c3 ?c4 ?_)
  case c3 => simp only [maxLen]; omega
  case c4 => omega
  intro a' c' w6 hS6
  obtain ⟨u1, u2, u3, u4, u5, u6, u7, u8, u9⟩ := hS6.to2.b4
  obtain ⟨x1, x2, x3, x4, x5, x6, x7, x8, x9⟩ := hS6.to3.b4
  have ne1 := hS6.to2.drop1.drop1.blk_ne
  have ne2 := ne1.symm
  replace hS6 := Lib.hid hS6
  go_wp2_with fail
  refine bodyPost_ret (v := .tuple #[.agg #[.int .i64 t, .int .i64 r, .slice a' (l.length + 1) c', .int .i64 n], .bool true, .int .i64 0]) (by simp [results, Tryz.results10, go_sem, *]) rfl ⟨a', c', rfl, ?_⟩
  have hZ := (((((hS6.out.to2.set 2 (.slice a' (l.length + 1) c')).to3.set 0 (.int .i64 t)).set 1 (.int .i64 r)).set 2 (.slice a' (l.length + 1) c')).set 3 (.int .i64 n))
  have hY := hZ.tail.tail.drop1.drop1.drop1.drop1
  unfold vq
  rw [List.length_append, show qcells (l ++ [(⟨id0, t0, mo, mo, 0⟩ : Rq)]) = qcells l ++ _ from by unfold qcells; rw [List.flatMap_append]]
  exact hY
end Go.Proofs.YtmacpjnkmkaloaaGreat
namespace Go.Proofs.YtmacpjnkmkaloaaGreat
set_option linter.unusedSimpArgs false
set_option linter.unusedVariables false
set_option linter.unnecessarySimpa false
open Go.RowKit
set_option maxHeartbeats 2000000 in
set_option maxRecDepth 100000 in
theorem askP_wait1 (t r n : Int) (v : Value) (l : List Rq) (id0 t0 mo : Int) (w : World) (hv : RQ w v l) (hl : l.length ≤ 1000) (h0 : ¬ id0 < 0) (ha : askedB mo = true) (hc : l.any (fun q => q.id == id0 || q.txn == t0) = false)
    (hf : ¬ firstI l < 0) (hn0 : 0 ≤ n) (hn1 : n ≤ 4611686018427387904) :
    Calls Tryz.prog 10 #[hval t r v n, .int .i64 id0, .int .i64 t0, .int .i64 mo] w fun e w' => ∃ a c, e = .returned (.tuple #[hval t r (.slice a (l.length + 1) c) (n + 1), .bool false, .int .i64 0]) ∧ Sep w' [vq (.slice a (l.length + 1) c) (l ++ [⟨id0, t0, 0, mo, n + 1⟩]), old w] := by
  have hB := Lib.hid (boxes4 w 26 3 3 26 #[.int .i64 t, .int .i64 r, v, .int .i64 n] #[.int .i64 id0] #[.int .i64 t0] #[.int .i64 0, .int .i64 0, .slice none 0 0, .int .i64 0])
  have HA := Lib.hid (fun W => asked_any mo W)
  have HC := Lib.hid (contains_any v l 42 #[.pointer (some ⟨w.heap.size + 1, 0, none⟩), .pointer (some ⟨w.heap.size + 1 + 1, 0, none⟩)] (fun q => q.id == id0 || q.txn == t0) _ (hv.below hB.out.tail.tail.tail.tail.gold) hl
    (ask1 id0 t0 (w.heap.size + 1) (w.heap.size + 1 + 1) _ hB.out.to2.gblk.lt (hB.out.to2.gblk.cell 0) hB.out.to1.gblk.lt (hB.out.to1.gblk.cell 0)) eg_ask)
  have HO := Lib.hid (fun W hb => own_any t r n v l W (hv.below hb) hl)
  rw [hc] at HC
  rw [ha] at HA
  have eg := eg_ask
  have d0 : decide (id0 < 0) = false := decide_eq_false h0
  have df : decide (firstI l < 0) = false := decide_eq_false hf
  obtain ⟨a, c, rfl, _⟩ := hv
  unfold hval at *
  clear hc ha h0 hf
  go_enter Tryz.func10, Tryz.ntmps10
  go_wp2_with fail
  refine (HA.out _).mono ?_
  rintro e w1 ⟨rfl, rfl⟩
  go_wp2_with fail
  refine HC.out.mono ?_
  rintro e w2 ⟨rfl, b2⟩
  replace hB := Lib.hid (hB.out.below b2)
  obtain ⟨y1, x0, x1, x2, x3, _⟩ := hB.out.to3.b4
  obtain ⟨_, x4, _⟩ := hB.out.to2.b1
  obtain ⟨_, x5, _⟩ := hB.out.to1.b1
  clear b2 HC
  go_wp2_with fail
  refine (HO.out _ hB.out.tail.tail.tail.tail.gold).mono ?_
  rintro e w3 ⟨a1, c1, rfl, hS⟩
  have hS1 := Lib.hid ((hS.graft hB.out).alloc #[.int .i64 t, .int .i64 r, .slice a1 l.length c1, .int .i64 n] 62)
  have hS2 := hS1.out.alloc #[.int .i64 id0, .int .i64 t0, .int .i64 0, .int .i64 mo, .int .i64 0] 42
  rw [World.size_alloc] at hS2
  replace hS2 := Lib.hid hS2
  clear hS hB HO x0 x1 x2 x3 x4 x5 y1
  obtain ⟨_, x4, _⟩ := hS1.out.to4.b1
  obtain ⟨_, x5, _⟩ := hS1.out.to3.b1
  obtain ⟨_, p0, p1, p2, p3, p4, _⟩ := hS2.out.b5
  obtain ⟨_, q0, q1, q2, q3, _⟩ := hS2.out.to1.b4
  clear hS1
  have HF := Lib.hid (fun W hb => first_any t r n (.slice a1 l.length c1) l W ((hS2.out.to2.vq_rq).below hb) hl)
  unfold hval at HF
  generalize firstI l = fi at *
  go_wp2_with fail
  refine (HF.out _ (Below.refl _ _)).mono ?_
  rintro e w4 ⟨rfl, b4⟩
  replace hS2 := Lib.hid (hS2.out.below b4)
  clear b4 HF p0 p1 p2 p3 p4 q0 q1 q2 q3 x4 x5
  obtain ⟨_, p0, p1, p2, p3, p4, _⟩ := hS2.out.b5
  obtain ⟨_, q0, q1, q2, q3, _⟩ := hS2.out.to1.b4
  have hS3 := ((hS2.out.to1.set 3 (.int .i64 (n + 1))).to1.set 4 (.int .i64 (n + 1)))
  replace hS3 := Lib.hid (show Sep _ [blk (w3.heap.size + 1) 42 #[.int .i64 id0, .int .i64 t0, .int .i64 0, .int .i64 mo, .int .i64 (n + 1)], blk w3.heap.size 62 #[.int .i64 t, .int .i64 r, .slice a1 l.length c1, .int .i64 (n + 1)], _, _, _, _, _, _] from hS3)
  have ne3 := hS3.out.blk_ne
  have ne4 := ne3.symm
  obtain ⟨i0, hi0, hz0, hz1, hz2⟩ := info_parts info_req
  have hsrc := Lib.hid (SrcA.cells ((w4.setCell ⟨w3.heap.size, 3, none⟩ (.int .i64 (n + 1))).setCell ⟨w3.heap.size + 1, 4, none⟩ (.int .i64 (n + 1))) #[.int .i64 id0, .int .i64 t0, .int .i64 0, .int .i64 mo, .int .i64 (n + 1)] 42 1)
  have h1 : Hid (∀ u ∈ ([.int .i64 id0, .int .i64 t0, .int .i64 0, .int .i64 mo, .int .i64 (n + 1)] : List Value), u.oneCell' = true) := Lib.hid (by simp [Value.oneCell'])
  clear hS2
  rw [World.size_setCell, World.size_setCell] at hsrc
  go_wp2_with (at_builtin; refine wpList_append_sep (hS3.out.to2.allocG _) rfl _ _ 24 rfl i0 _ 40 Tryz.underlying24 hi0 hz0 hz1 hz2 rfl (by decide) rfl 1 _ hsrc.out h1.out ?c3 ?c4 ?_)
  case c3 => simp only [maxLen]; omega
  case c4 => omega
  intro a' c' w6 hS6
  obtain ⟨u1, u2, u3, u4, u5, u6, u7, u8, u9⟩ := hS6.to2.b4
  obtain ⟨x1, x2, x3, x4, x5, x6, x7, x8, x9⟩ := hS6.to3.b4
  have ne1 := hS6.to2.drop1.drop1.blk_ne
  have ne2 := ne1.symm
  replace hS6 := Lib.hid hS6
  go_wp2_with fail
  refine bodyPost_ret (v := .tuple #[.agg #[.int .i64 t, .int .i64 r, .slice a' (l.length + 1) c', .int .i64 (n + 1)], .bool false, .int .i64 0]) (by simp [results, Tryz.results10, go_sem, *]) rfl ⟨a', c', rfl, ?_⟩
  have hZ := (((((hS6.out.to2.set 2 (.slice a' (l.length + 1) c')).to3.set 0 (.int .i64 t)).set 1 (.int .i64 r)).set 2 (.slice a' (l.length + 1) c')).set 3 (.int .i64 (n + 1)))
  have hY := hZ.tail.tail.drop1.drop1.drop1.drop1
  unfold vq
  rw [List.length_append, show qcells (l ++ [(⟨id0, t0, 0, mo, n + 1⟩ : Rq)]) = qcells l ++ _ from by unfold qcells; rw [List.flatMap_append]]
  exact hY
set_option maxHeartbeats 2000000 in
set_option maxRecDepth 100000 in
theorem askP_wait2 (t r n : Int) (v : Value) (l : List Rq) (id0 t0 mo : Int) (w : World) (hv : RQ w v l) (hl : l.length ≤ 1000) (h0 : ¬ id0 < 0) (ha : askedB mo = true) (hc : l.any (fun q => q.id == id0 || q.txn == t0) = false)
    (hf : firstI l < 0) (hm : l.any (fitsP ⟨id0, t0, 0, mo, 0⟩) = true) (hn0 : 0 ≤ n) (hn1 : n ≤ 4611686018427387904) :
    Calls Tryz.prog 10 #[hval t r v n, .int .i64 id0, .int .i64 t0, .int .i64 mo] w fun e w' => ∃ a c, e = .returned (.tuple #[hval t r (.slice a (l.length + 1) c) (n + 1), .bool false, .int .i64 0]) ∧ Sep w' [vq (.slice a (l.length + 1) c) (l ++ [⟨id0, t0, 0, mo, n + 1⟩]), old w] := by
  have hB := Lib.hid (boxes4 w 26 3 3 26 #[.int .i64 t, .int .i64 r, v, .int .i64 n] #[.int .i64 id0] #[.int .i64 t0] #[.int .i64 0, .int .i64 0, .slice none 0 0, .int .i64 0])
  have HA := Lib.hid (fun W => asked_any mo W)
  have HC := Lib.hid (contains_any v l 42 #[.pointer (some ⟨w.heap.size + 1, 0, none⟩), .pointer (some ⟨w.heap.size + 1 + 1, 0, none⟩)] (fun q => q.id == id0 || q.txn == t0) _ (hv.below hB.out.tail.tail.tail.tail.gold) hl
    (ask1 id0 t0 (w.heap.size + 1) (w.heap.size + 1 + 1) _ hB.out.to2.gblk.lt (hB.out.to2.gblk.cell 0) hB.out.to1.gblk.lt (hB.out.to1.gblk.cell 0)) eg_ask)
  have HO := Lib.hid (fun W hb => own_any t r n v l W (hv.below hb) hl)
  rw [hc] at HC
  rw [ha] at HA
  have eg := eg_ask
  have d0 : decide (id0 < 0) = false := decide_eq_false h0
  have df : decide (firstI l < 0) = true := decide_eq_true hf
  replace hm := Lib.hid hm
  obtain ⟨a, c, rfl, _⟩ := hv
  unfold hval at *
  clear hc ha h0 hf
  go_enter Tryz.func10, Tryz.ntmps10
  go_wp2_with fail
  refine (HA.out _).mono ?_
  rintro e w1 ⟨rfl, rfl⟩
  go_wp2_with fail
  refine HC.out.mono ?_
  rintro e w2 ⟨rfl, b2⟩
  replace hB := Lib.hid (hB.out.below b2)
  obtain ⟨y1, x0, x1, x2, x3, _⟩ := hB.out.to3.b4
  obtain ⟨_, x4, _⟩ := hB.out.to2.b1
  obtain ⟨_, x5, _⟩ := hB.out.to1.b1
  clear b2 HC
  go_wp2_with fail
  refine (HO.out _ hB.out.tail.tail.tail.tail.gold).mono ?_
  rintro e w3 ⟨a1, c1, rfl, hS⟩
  have hS1 := Lib.hid ((hS.graft hB.out).alloc #[.int .i64 t, .int .i64 r, .slice a1 l.length c1, .int .i64 n] 62)
  have hS2 := hS1.out.alloc #[.int .i64 id0, .int .i64 t0, .int .i64 0, .int .i64 mo, .int .i64 0] 42
  rw [World.size_alloc] at hS2
  replace hS2 := Lib.hid hS2
  clear hS hB HO x0 x1 x2 x3 x4 x5 y1
  obtain ⟨_, x4, _⟩ := hS1.out.to4.b1
  obtain ⟨_, x5, _⟩ := hS1.out.to3.b1
  obtain ⟨_, p0, p1, p2, p3, p4, _⟩ := hS2.out.b5
  obtain ⟨_, q0, q1, q2, q3, _⟩ := hS2.out.to1.b4
  clear hS1
  have HF := Lib.hid (fun W hb => first_any t r n (.slice a1 l.length c1) l W ((hS2.out.to2.vq_rq).below hb) hl)
  have HT := Lib.hid (fun W hb => fits_any t r n (.slice a1 l.length c1) l ⟨id0, t0, 0, mo, 0⟩ W ((hS2.out.to2.vq_rq).below hb) hl)
  unfold hval at HF HT
  simp only [Rq.val, hm.out, Bool.not_true] at HT
  generalize firstI l = fi at *
  go_wp2_with fail
  refine (HF.out _ (Below.refl _ _)).mono ?_
  rintro e w4 ⟨rfl, b4⟩
  replace HT := Lib.hid (HT.out _ b4)
  replace hS2 := Lib.hid (hS2.out.below b4)
  clear b4 HF p0 p1 p2 p3 p4 q0 q1 q2 q3 x4 x5
  obtain ⟨_, p0, p1, p2, p3, p4, _⟩ := hS2.out.b5
  obtain ⟨_, q0, q1, q2, q3, _⟩ := hS2.out.to1.b4
  go_wp2_with fail
  refine HT.out.mono ?_
  rintro e w5 ⟨rfl, b5⟩
  replace hS2 := Lib.hid (hS2.out.below b5)
  clear b5 HT p0 p1 p2 p3 p4 q0 q1 q2 q3
  obtain ⟨_, p0, p1, p2, p3, p4, _⟩ := hS2.out.b5
  obtain ⟨_, q0, q1, q2, q3, _⟩ := hS2.out.to1.b4
  have hS3 := ((hS2.out.to1.set 3 (.int .i64 (n + 1))).to1.set 4 (.int .i64 (n + 1)))
  replace hS3 := Lib.hid (show Sep _ [blk (w3.heap.size + 1) 42 #[.int .i64 id0, .int .i64 t0, .int .i64 0, .int .i64 mo, .int .i64 (n + 1)], blk w3.heap.size 62 #[.int .i64 t, .int .i64 r, .slice a1 l.length c1, .int .i64 (n + 1)], _, _, _, _, _, _] from hS3)
  have ne3 := hS3.out.blk_ne
  have ne4 := ne3.symm
  obtain ⟨i0, hi0, hz0, hz1, hz2⟩ := info_parts info_req
  have hsrc := Lib.hid (SrcA.cells ((w5.setCell ⟨w3.heap.size, 3, none⟩ (.int .i64 (n + 1))).setCell ⟨w3.heap.size + 1, 4, none⟩ (.int .i64 (n + 1))) #[.int .i64 id0, .int .i64 t0, .int .i64 0, .int .i64 mo, .int .i64 (n + 1)] 42 1)
  have h1 : Hid (∀ u ∈ ([.int .i64 id0, .int .i64 t0, .int .i64 0, .int .i64 mo, .int .i64 (n + 1)] : List Value), u.oneCell' = true) := Lib.hid (by simp [Value.oneCell'])
  clear hS2
  rw [World.size_setCell, World.size_setCell] at hsrc
  go_wp2_with (at_builtin; refine wpList_append_sep (hS3.out.to2.allocG _) rfl _ _ 24 rfl i0 _ 40 Tryz.underlying24 hi0 hz0 hz1 hz2 rfl (by decide) rfl 1 _ hsrc.out h1.out ?c3 ?c4 ?_)
  case c3 => simp only [maxLen]; omega
  case c4 => omega
  intro a' c' w6 hS6
  obtain ⟨u1, u2, u3, u4, u5, u6, u7, u8, u9⟩ := hS6.to2.b4
  obtain ⟨x1, x2, x3, x4, x5, x6, x7, x8, x9⟩ := hS6.to3.b4
  have ne1 := hS6.to2.drop1.drop1.blk_ne
  have ne2 := ne1.symm
  replace hS6 := Lib.hid hS6
  go_wp2_with fail
  refine bodyPost_ret (v := .tuple #[.agg #[.int .i64 t, .int .i64 r, .slice a' (l.length + 1) c', .int .i64 (n + 1)], .bool false, .int .i64 0]) (by simp [results, Tryz.results10, go_sem, *]) rfl ⟨a', c', rfl, ?_⟩
  have hZ := (((((hS6.out.to2.set 2 (.slice a' (l.length + 1) c')).to3.set 0 (.int .i64 t)).set 1 (.int .i64 r)).set 2 (.slice a' (l.length + 1) c')).set 3 (.int .i64 (n + 1)))
  have hY := hZ.tail.tail.drop1.drop1.drop1.drop1
  unfold vq
  rw [List.length_append, show qcells (l ++ [(⟨id0, t0, 0, mo, n + 1⟩ : Rq)]) = qcells l ++ _ from by unfold qcells; rw [List.flatMap_append]]
  exact hY
end Go.Proofs.YtmacpjnkmkaloaaGreat
namespace Go.Proofs.YtmacpjnkmkaloaaGreat
set_option linter.unusedSimpArgs false
set_option linter.unusedVariables false
set_option linter.unnecessarySimpa false
open Go.RowKit
/-- A request by itself, and two, the first ahead of the second. -/
def PR (r : Rq) (n : Int) : Prop := 0 ≤ r.id ∧ knownB r.mode = true ∧ knownB r.want = true ∧ 0 ≤ r.since ∧ r.since ≤ n ∧ (0 < r.since → covB r.mode r.want = false) ∧ (¬ 0 < r.since → r.mode ≠ 0 ∧ r.want = r.mode)
def PP (a b : Rq) : Prop := a.id ≠ b.id ∧ a.txn ≠ b.txn ∧ (0 < a.since → a.since ≠ b.since) ∧ (a.mode = 0 → b.mode = 0 ∧ a.since ≤ b.since) ∧ (a.mode ≠ 0 → b.mode ≠ 0 → comB a.mode b.mode = true)
theorem rightB_iff (r : Rq) (n : Int) : rightB r n = true ↔ PR r n := by
  unfold rightB PR
  by_cases h : 0 < r.since <;> simp [h]
theorem pairB_iff (a b : Rq) : pairB a b = false ↔ PP a b := by
  unfold pairB PP
  by_cases h1 : 0 < a.since <;> by_cases h2 : a.mode = 0 <;> by_cases h3 : b.mode = 0 <;> simp [h1, h2, h3, and_assoc]
/-- A head in order. -/
structure Ord (n : Int) (l : List Rq) : Prop where
  lo : 0 ≤ n
  hi : n ≤ 4611686018427387904
  right : ∀ r ∈ l, PR r n
  pair : ∀ k i, k < i → i < l.length → PP (l.getD k default) (l.getD i default)
theorem getD_mem (l : List Rq) (i : Nat) (h : i < l.length) : l.getD i default ∈ l := by
  rw [show l.getD i default = l[i] by simp [List.getD, h]]
  exact List.getElem_mem h
theorem mem_getD {l : List Rq} {r : Rq} (h : r ∈ l) : ∃ i, i < l.length ∧ l.getD i default = r := by
  obtain ⟨i, hi, rfl⟩ := List.getElem_of_mem h
  exact ⟨i, hi, by simp [List.getD, hi]⟩
theorem ord_iff (n : Int) (l : List Rq) : checkB n l = true ↔ Ord n l := by
  constructor
  · intro h
    obtain ⟨h0, h1⟩ := checkB_n n l h
    refine ⟨h0, h1, fun r hr => ?_, fun k i hk hi => ?_⟩
    · obtain ⟨i, hi, rfl⟩ := mem_getD hr
      exact (rightB_iff _ _).1 (okB_right n l i (checkB_ok n l h i hi))
    · exact (pairB_iff _ _).1 (okB_pair n l i (checkB_ok n l h i hi) k (by omega) hk)
  · intro h
    refine checkB_good n l (by have := h.lo; omega) (by have := h.hi; omega) fun i hi => ?_
    unfold okQB
    rw [(rightB_iff _ _).2 (h.right _ (getD_mem l i hi))]
    simp only [Bool.true_and, Bool.not_eq_true', List.any_eq_false]
    intro a ha
    obtain ⟨k, hk, rfl⟩ := List.getElem_of_mem ha
    rw [List.length_take] at hk
    rw [List.getElem_take]
    have := h.pair k i (by omega) hi
    rw [show l.getD k default = l[k]'(by omega) by simp [List.getD, show k < l.length by omega]] at this
    rw [(pairB_iff _ _).2 this]
    decide
theorem PR.mono {r : Rq} {n n' : Int} (h : PR r n) (hn : n ≤ n') : PR r n' := ⟨h.1, h.2.1, h.2.2.1, h.2.2.2.1, Int.le_trans h.2.2.2.2.1 hn, h.2.2.2.2.2⟩
theorem getD_set (l : List Rq) (i j : Nat) (q : Rq) (h : j < l.length) : (l.set i q).getD j default = if i = j then q else l.getD j default := by
  simp only [List.getD, List.getElem?_set]
  by_cases hij : i = j
  · subst hij
    simp [h]
  · simp [hij]
/-- Who is first. -/
theorem bestK_none (l : List Rq) : ∀ k, bestK l k < 0 → ∀ j, j < k → upB (l.getD j default) = false
  | 0, _, j, h => by omega
  | k+1, h, j, hj => by
    unfold bestK at h
    split at h
    · omega
    · rename_i hc
      by_cases hjk : j = k
      · subst hjk
        cases hu : upB (l.getD j default) with
        | false => rfl
        | true => rw [hu, decide_eq_true h] at hc; exact absurd rfl hc
      · exact bestK_none l k h j (by omega)
/-- The place of a request. -/
def plc (l : List Rq) (id : Int) : Int := idxF (fun q => q.id == id) l 0
def upQ (q : Rq) (m : Int) : Rq := { q with want := supV q.mode m }
theorem plc_spec (l : List Rq) (id : Int) (h : ¬ plc l id < 0) : ∃ i : Nat, plc l id = i ∧ i < l.length ∧ (l.getD i default).id = id := by
  rcases idxF_bd (fun q : Rq => q.id == id) l 0 with h' | ⟨j, h1, h2, h3⟩
  · unfold plc at h; omega
  · exact ⟨j, by unfold plc; rw [h1]; simp, h2, by simpa using h3⟩
end Go.Proofs.YtmacpjnkmkaloaaGreat
namespace Go.Proofs.YtmacpjnkmkaloaaGreat
set_option linter.unusedSimpArgs false
set_option linter.unusedVariables false
set_option linter.unnecessarySimpa false
open Go.RowKit
section
variable {P : Program} {ops : Array Oper} {Q : Exit → Act → World → Prop} {md : Region.Mode} {S : World → Prop}
theorem put_back {v : Value} {d : Option Tmp} (hQ : ∀ c t t' d w, Q (.panic c) ⟨t, d⟩ w → Q (.panic c) ⟨t', d⟩ w) : ∀ c a w, Q (.panic c) (a.put d v) w → Q (.panic c) a w := fun c a w h => by
  obtain ⟨t, e⟩ := a
  cases d with
  | none => exact h
  | some k => exact hQ c _ t e w h
theorem held_begin {id : Nat} {a : Act} {w : World} (S : World → Prop) (hm : P.follows .mixedOrders = true) (hS : S w.drew)
    (h : wpAnyH P .any ops Q S ops.size (Array.replicate ops.size false) a w.drew) : (Code.region id ops true).wp P Q a w := wp_region_held_drew hm hS (fun _ => h)
theorem held_take (i : Nat) (v : Value) {oi : Oper} {fuel : Nat} {listed : Array Bool} {a : Act} {w : World} (hi : ops[i]? = some oi)
    (hs : Region.noSelect ops = true) (hf : Region.free md ops listed i = true) (hr : (Region.ready md ops listed).contains i = true)
    (hQ : ∀ c t t' d w, Q (.panic c) ⟨t, d⟩ w → Q (.panic c) ⟨t', d⟩ w) (hw : Region.wanted oi (yielded ops a.tmps) = true) (hS : S w)
    (hy : ∀ w, S w → (execOp a.eval oi).run P w = .ok (.value v) w)
    (h : wpAnyH P md ops Q S fuel (listed.setIfInBounds i true) (a.put oi.dst v) w) : wpAnyH P md ops Q S (fuel + 1) listed a w :=
  wpAnyH_take hi hs hf hr (put_back hQ) (.inl ⟨hw, hy⟩) hS h
theorem held_skip (i : Nat) {oi : Oper} {fuel : Nat} {listed : Array Bool} {a : Act} {w : World} (hi : ops[i]? = some oi)
    (hs : Region.noSelect ops = true) (hf : Region.free md ops listed i = true) (hr : (Region.ready md ops listed).contains i = true)
    (hQ : ∀ c t t' d w, Q (.panic c) ⟨t, d⟩ w → Q (.panic c) ⟨t', d⟩ w) (hw : Region.wanted oi (yielded ops a.tmps) = false) (hS : S w)
    (h : wpAnyH P md ops Q S fuel (listed.setIfInBounds i true) (a.put oi.dst undef) w) : wpAnyH P md ops Q S (fuel + 1) listed a w :=
  wpAnyH_take hi hs hf hr (put_back hQ) (.inr ⟨hw, rfl⟩) hS h
theorem held_one (i : Nat) {oi : Oper} {fuel : Nat} {listed : Array Bool} {a : Act} {w : World} (hr : Region.ready md ops listed = [i]) (hi : ops[i]? = some oi)
    (hw : Region.wanted oi (yielded ops a.tmps) = true)
    (h : ∀ K : Act → World → Prop, Hid (∀ a w, S w → wpAnyH P md ops Q S fuel (listed.setIfInBounds i true) a w → K a w) → oi.wp P a w K Q) : wpAnyH P md ops Q S (fuel + 1) listed a w :=
  wpAnyH_ready hr (by simp) (AllReadyH.cons hi (fun K hK => by
    rw [if_pos hw]
    exact h K (fun a w hS hW => hK a w hS (fun _ => hW))) AllReadyH.nil)
end
/-- Behind a piece of code: what is handed on, and no panic. -/
def CutQ (R : Act → World → Prop) : Exit → Act → World → Prop
  | .normal, a, w => R a w
  | _, _, _ => False
theorem CutQ.mk {R : Act → World → Prop} {a : Act} {w : World} (h : R a w) : CutQ R .normal a w := h
end Go.Proofs.YtmacpjnkmkaloaaGreat
namespace Go.Proofs.YtmacpjnkmkaloaaGreat
set_option linter.unusedSimpArgs false
set_option linter.unusedVariables false
set_option linter.unnecessarySimpa false
open Go.RowKit
section
variable {P : Program} {ops : Array Oper} {Q : Exit → Act → World → Prop} {md : Region.Mode} {S : World → Prop}
/-- The plan, operation by operation: (i, true): taken first, or passed over; (i, false): alone ready. -/
def HL (P : Program) (ops : Array Oper) (Q : Exit → Act → World → Prop) (S : World → Prop) : List (Nat × Bool) → Act → World → Prop
  | [], a, w => Q .normal a w
  | (i, true) :: r, a, w => ∃ o, ops[i]? = some o ∧
      ((Region.wanted o (yielded ops a.tmps) = true ∧ ∃ v, (∀ W, S W → (execOp a.eval o).run P W = .ok (.value v) W) ∧ HL P ops Q S r (a.put o.dst v) w) ∨
       (Region.wanted o (yielded ops a.tmps) = false ∧ HL P ops Q S r (a.put o.dst undef) w))
  | (i, false) :: r, a, w => ∃ o, ops[i]? = some o ∧
      ((Region.wanted o (yielded ops a.tmps) = true ∧ ∀ K : Act → World → Prop, Hid (∀ a w, S w → HL P ops Q S r a w → K a w) → o.wp P a w K Q) ∨
       (Region.wanted o (yielded ops a.tmps) = false ∧ HL P ops Q S r (a.put o.dst undef) w))
def planOK (md : Region.Mode) (ops : Array Oper) : List (Nat × Bool) → Array Bool → Bool
  | [], l => (Region.ready md ops l).isEmpty
  | (i, true) :: r, l => Region.free md ops l i && (Region.ready md ops l).contains i && planOK md ops r (l.setIfInBounds i true)
  | (i, false) :: r, l => (Region.ready md ops l == [i]) && planOK md ops r (l.setIfInBounds i true)
theorem HL.sound (hs : Region.noSelect ops = true) (hQ : ∀ c t t' d w, Q (.panic c) ⟨t, d⟩ w → Q (.panic c) ⟨t', d⟩ w) : ∀ (p : List (Nat × Bool)) (l : Array Bool) (a : Act) (w : World), planOK md ops p l = true → S w → HL P ops Q S p a w → wpAnyH P md ops Q S p.length l a w
  | [], l, a, w, hp, hS, h => by
    simp only [planOK, List.isEmpty_iff] at hp
    exact wpAnyH_done hp h _
  | (i, true) :: r, l, a, w, hp, hS, h => by
    simp only [planOK, Bool.and_eq_true] at hp
    obtain ⟨o, ho, ⟨hw, v, hy, h⟩ | ⟨hw, h⟩⟩ := h
    · exact held_take i v ho hs hp.1.1 hp.1.2 hQ hw hS hy (HL.sound hs hQ r _ _ _ hp.2 hS h)
    · exact held_skip i ho hs hp.1.1 hp.1.2 hQ hw hS (HL.sound hs hQ r _ _ _ hp.2 hS h)
  | (i, false) :: r, l, a, w, hp, hS, h => by
    simp only [planOK, Bool.and_eq_true, beq_iff_eq] at hp
    obtain ⟨o, ho, ⟨hw, h⟩ | ⟨hw, h⟩⟩ := h
    · exact held_one i hp.1 ho hw (fun K hK => h K (fun a w hS' h' => hK.out a w hS' (HL.sound hs hQ r _ _ _ hp.2 hS' h')))
    · refine wpAnyH_ready hp.1 (by simp) (AllReadyH.cons ho (fun K hK => ?_) AllReadyH.nil)
      rw [if_neg (by rw [hw]; decide)]
      exact hK _ w hS (fun _ => HL.sound hs hQ r _ _ _ hp.2 hS h)
/-- The beginning. -/
theorem hl_begin {id : Nat} {a : Act} {w : World} (S : World → Prop) (p : List (Nat × Bool)) (hm : P.follows .mixedOrders = true) (hs : Region.noSelect ops = true)
    (hp : planOK .any ops p (Array.replicate ops.size false) = true) (hn : p.length = ops.size) (hQ : ∀ c t t' d w, Q (.panic c) ⟨t, d⟩ w → Q (.panic c) ⟨t', d⟩ w) (hS : S w.drew)
    (h : HL P ops Q S p a w.drew) : (Code.region id ops true).wp P Q a w :=
  held_begin S hm hS (by have := HL.sound hs hQ p _ a _ hp hS h; rw [hn] at this; exact this)
theorem hl_take {i : Nat} {r : List (Nat × Bool)} (v : Value) {o : Oper} {a : Act} {w : World} (hi : ops[i]? = some o) (hw : Region.wanted o (yielded ops a.tmps) = true)
    (hy : ∀ W, S W → (execOp a.eval o).run P W = .ok (.value v) W) (h : HL P ops Q S r (a.put o.dst v) w) : HL P ops Q S ((i, true) :: r) a w := ⟨o, hi, .inl ⟨hw, v, hy, h⟩⟩
theorem hl_skip {i : Nat} {r : List (Nat × Bool)} {o : Oper} {a : Act} {w : World} (hi : ops[i]? = some o) (hw : Region.wanted o (yielded ops a.tmps) = false)
    (h : HL P ops Q S r (a.put o.dst undef) w) : HL P ops Q S ((i, true) :: r) a w := ⟨o, hi, .inr ⟨hw, h⟩⟩
theorem hl_skip1 {i : Nat} {r : List (Nat × Bool)} {o : Oper} {a : Act} {w : World} (hi : ops[i]? = some o) (hw : Region.wanted o (yielded ops a.tmps) = false)
    (h : HL P ops Q S r (a.put o.dst undef) w) : HL P ops Q S ((i, false) :: r) a w := ⟨o, hi, .inr ⟨hw, h⟩⟩
theorem hl_one {i : Nat} {r : List (Nat × Bool)} {o : Oper} {a : Act} {w : World} (hi : ops[i]? = some o) (hw : Region.wanted o (yielded ops a.tmps) = true)
    (h : ∀ K : Act → World → Prop, Hid (∀ a w, S w → HL P ops Q S r a w → K a w) → o.wp P a w K Q) : HL P ops Q S ((i, false) :: r) a w := ⟨o, hi, .inl ⟨hw, h⟩⟩
theorem hl_done {a : Act} {w : World} (h : Q .normal a w) : HL P ops Q S [] a w := h
end
end Go.Proofs.YtmacpjnkmkaloaaGreat
namespace Go.Proofs.YtmacpjnkmkaloaaGreat
set_option linter.unusedSimpArgs false
set_option linter.unusedVariables false
set_option linter.unnecessarySimpa false
open Go.RowKit
/-- What an operation waits for, looks at, writes (0: nothing; d + 1: the temporary d). -/
def rowN (ops : Array Oper) (o : Oper) : List Nat × List Nat × Nat :=
  ((o.after.toList.filter (Region.binds .any)).map (·.on), o.looksAt ops, match o.dst with | some d => d + 1 | none => 0)
def rdyN (d : List Nat) (m : Nat) : Bool := d.all fun k => m.testBit k
def apN (x y : List Nat × List Nat × Nat) : Bool :=
  (match x.2.2 with | d + 1 => !(y.2.1.contains d) && y.2.2 != d + 1 | 0 => true) && (match y.2.2 with | d + 1 => !(x.2.1.contains d) | 0 => true)
def allN (f : Nat → List Nat × List Nat × Nat → Bool) : Nat → List (List Nat × List Nat × Nat) → Bool
  | _, [] => true
  | k, x :: r => f k x && allN f (k + 1) r
def planN (tab : List (List Nat × List Nat × Nat)) : List (Nat × Bool) → Nat → Bool
  | [], m => allN (fun j _ => m.testBit j) 0 tab
  | (i, t) :: r, m => match tab[i]? with
    | none => false
    | some x => !m.testBit i && rdyN x.1 m && (if t then allN (fun j y => j == i || m.testBit j || y.1.contains i || apN x y) 0 tab else allN (fun j y => j == i || m.testBit j || !rdyN y.1 m) 0 tab) && planN tab r (m ||| 2 ^ i)
theorem allN_spec {f : Nat → List Nat × List Nat × Nat → Bool} : ∀ {l : List (List Nat × List Nat × Nat)} {k : Nat}, allN f k l = true → ∀ (j : Nat) (x : List Nat × List Nat × Nat), l[j]? = some x → f (k + j) x = true
  | [], _, _, j, x, h => by simp at h
  | y :: r, k, hh, j, x, h => by
    simp only [allN, Bool.and_eq_true] at hh
    cases j with
    | zero => simp at h; subst h; exact hh.1
    | succ j =>
      have := allN_spec hh.2 j x (by simpa using h)
      rwa [show k + 1 + j = k + (j + 1) by omega] at this
theorem filter_one {n i : Nat} {f : Nat → Bool} (hi : i < n) (h : f i = true) (h0 : ∀ j, j < n → j ≠ i → f j = false) : (List.range n).filter f = [i] := by
  induction n with
  | zero => omega
  | succ n ih =>
    rw [List.range_succ, List.filter_append]
    by_cases hn : i = n
    · subst hn
      rw [List.filter_eq_nil_iff.2 (fun j hj => by
        have hj' := List.mem_range.1 hj
        rw [h0 j (by omega) (by omega)]
        decide)]
      simp [h]
    · rw [ih (by omega) (fun j hj => h0 j (by omega))]
      simp [h0 n (by omega) (fun e => hn e.symm)]
section
variable {ops : Array Oper} {l : Array Bool} {m : Nat}
theorem getD_false (hl : ∀ j, j < ops.size → l.getD j true = m.testBit j) (hs : l.size = ops.size) (hm : ∀ j, ops.size ≤ j → m.testBit j = false) (k : Nat) : l.getD k false = m.testBit k := by
  by_cases h : k < ops.size
  · rw [← hl k h]
    simp [Array.getD_eq_getD_getElem?, show k < l.size by omega]
  · rw [hm k (by omega)]
    simp [Array.getD_eq_getD_getElem?, Array.getElem?_eq_none (show l.size ≤ k by omega)]
theorem ready_at (hl : ∀ j, j < ops.size → l.getD j true = m.testBit j) (hs : l.size = ops.size) (hm : ∀ j, ops.size ≤ j → m.testBit j = false) {j : Nat} {o : Oper} (ho : ops[j]? = some o) :
    (!l.getD j true && ((ops[j]?).map fun o => o.after.all fun e => !Region.binds .any e || l.getD e.on false).getD false) = (!m.testBit j && rdyN (rowN ops o).1 m) := by
  have hj : j < ops.size := by
    rcases Nat.lt_or_ge j ops.size with h | h
    · exact h
    · rw [Array.getElem?_eq_none h] at ho; cases ho
  rw [hl j hj, ho]
  simp only [Option.map_some, Option.getD_some, rdyN, rowN]
  congr 1
  rw [← Array.all_toList, List.all_map]
  generalize o.after.toList = es
  induction es with
  | nil => rfl
  | cons e es ih =>
    rw [List.all_cons, ih, List.filter_cons]
    cases hb : Region.binds .any e with
    | true => simp only [Bool.not_true, Bool.false_or, if_true, List.all_cons, Function.comp, getD_false hl hs hm e.on]
    | false => simp
theorem free_at (hl : ∀ j, j < ops.size → l.getD j true = m.testBit j) {tab : List (List Nat × List Nat × Nat)} (ht : ops.toList.map (rowN ops) = tab) {i : Nat} {o : Oper} (hi : ops[i]? = some o)
    (h : allN (fun j y => j == i || m.testBit j || y.1.contains i || apN (rowN ops o) y) 0 tab = true) : Region.free .any ops l i = true := by
  simp only [Region.free, hi, List.all_eq_true, List.mem_range]
  intro j hj
  have ho : ops[j]? = some ops[j] := by simp [hj]
  have hr : tab[j]? = some (rowN ops ops[j]) := by rw [← ht]; simp [hj]
  have := allN_spec h j _ hr
  rw [Nat.zero_add] at this
  rw [ho, hl j hj]
  simp only [Bool.or_eq_true] at this ⊢
  rcases this with (h1 | h1) | h1
  · exact .inl h1
  · refine .inr (.inl ?_)
    have hc : i ∈ (rowN ops ops[j]).1 := by simpa using h1
    simp only [rowN, List.mem_map, List.mem_filter] at hc
    obtain ⟨e, ⟨he, hb⟩, hon⟩ := hc
    rw [Array.any_eq_true']
    exact ⟨e, by simpa using he, by simp [hb, hon]⟩
  · refine .inr (.inr ?_)
    unfold apN at h1
    simp only [rowN] at h1
    unfold Oper.apart
    cases h2 : o.dst <;> cases h3 : ops[j].dst <;> simp_all
theorem planN_sound {tab : List (List Nat × List Nat × Nat)} (ht : ops.toList.map (rowN ops) = tab) : ∀ (p : List (Nat × Bool)) (l : Array Bool) (m : Nat), (∀ j, j < ops.size → l.getD j true = m.testBit j) → l.size = ops.size → (∀ j, ops.size ≤ j → m.testBit j = false) → planN tab p m = true → planOK .any ops p l = true
  | [], l, m, hl, hs, hm, h => by
    simp only [planN] at h
    simp only [planOK, List.isEmpty_iff, Region.ready, List.filter_eq_nil_iff, List.mem_range]
    intro j hj
    have ho : ops[j]? = some ops[j] := by simp [hj]
    have hr : tab[j]? = some (rowN ops ops[j]) := by rw [← ht]; simp [hj]
    have := allN_spec h j _ hr
    rw [Nat.zero_add] at this
    rw [hl j hj, this]
    simp
  | (i, t) :: r, l, m, hl, hs, hm, h => by
    simp only [planN] at h
    cases hx : tab[i]? with
    | none => rw [hx] at h; cases h
    | some x =>
      rw [hx] at h
      simp only [Bool.and_eq_true] at h
      obtain ⟨⟨⟨h1, h2⟩, h3⟩, h4⟩ := h
      have hi : i < ops.size := by
        rcases Nat.lt_or_ge i ops.size with k | k
        · exact k
        · rw [← ht, List.getElem?_eq_none (by simpa using k)] at hx; cases hx
      have ho : ops[i]? = some ops[i] := by simp [hi]
      have hr : x = rowN ops ops[i] := by
        rw [← ht] at hx
        simpa [hi] using hx.symm
      subst hr
      have hl' : ∀ j, j < ops.size → (l.setIfInBounds i true).getD j true = (m ||| 2 ^ i).testBit j := by
        intro j hj
        rw [Nat.testBit_or, Nat.testBit_two_pow]
        by_cases hji : i = j
        · subst hji
          simp [Array.getD_eq_getD_getElem?, show i < l.size by omega]
        · have hq : ((l.setIfInBounds i true)[j]?).getD true = (l[j]?).getD true := by rw [Array.getElem?_setIfInBounds_ne hji]
          rw [Array.getD_eq_getD_getElem?, hq, ← Array.getD_eq_getD_getElem?, hl j hj]
          simp [hji]
      have ih := planN_sound ht r _ _ hl' (by simpa using hs) (fun j hj => by
        rw [Nat.testBit_or, Nat.testBit_two_pow, hm j hj]
        simp
        omega) h4
      have hri : (!l.getD i true && ((ops[i]?).map fun o => o.after.all fun e => !Region.binds .any e || l.getD e.on false).getD false) = true := by
        rw [ready_at hl hs hm ho, h1, h2]; rfl
      cases t with
      | true =>
        simp only [if_true] at h3
        simp only [planOK, Bool.and_eq_true]
        refine ⟨⟨free_at hl ht ho h3, ?_⟩, ih⟩
        rw [List.contains_iff_mem]
        exact List.mem_filter.2 ⟨List.mem_range.2 hi, hri⟩
      | false =>
        rw [if_neg (by decide)] at h3
        simp only [planOK, Bool.and_eq_true, beq_iff_eq]
        refine ⟨filter_one hi hri (fun j hj hne => ?_), ih⟩
        have hoj : ops[j]? = some ops[j] := by simp [hj]
        have hrj : tab[j]? = some (rowN ops ops[j]) := by rw [← ht]; simp [hj]
        have := allN_spec h3 j _ hrj
        rw [Nat.zero_add] at this
        rw [ready_at hl hs hm hoj]
        simp only [Bool.or_eq_true, beq_iff_eq, hne, false_or] at this
        rcases this with k | k
        · rw [k]; rfl
        · rw [Bool.not_eq_true'] at k
          rw [k]; simp
end
theorem hl_begin_n {P : Program} {ops : Array Oper} {Q : Exit → Act → World → Prop} {id : Nat} {a : Act} {w : World} (S : World → Prop) (p : List (Nat × Bool)) (tab : List (List Nat × List Nat × Nat)) (hm : P.follows .mixedOrders = true) (hs : Region.noSelect ops = true)
    (ht : ops.toList.map (rowN ops) = tab) (hp : planN tab p 0 = true) (hn : p.length = ops.size) (hQ : ∀ c t t' d w, Q (.panic c) ⟨t, d⟩ w → Q (.panic c) ⟨t', d⟩ w) (hS : S w.drew)
    (h : HL P ops Q S p a w.drew) : (Code.region id ops true).wp P Q a w :=
  hl_begin S p hm hs (planN_sound ht p _ 0 (fun j hj => by simp [Array.getD_eq_getD_getElem?, hj]) (by simp) (fun j _ => Nat.zero_testBit j) hp) hn hQ hS h
end Go.Proofs.YtmacpjnkmkaloaaGreat
