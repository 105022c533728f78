/-
  Contracts and plain laws that the walk leans on, part 12. No condition.
-/
import Derived.Test.YtmacpjnkmkaloaaGreatZQc11
namespace Go.Proofs.YtmacpjnkmkaloaaGreat
set_option linter.unusedSimpArgs false
set_option linter.unusedVariables false
set_option linter.unnecessarySimpa false
open Go.RowKit
theorem askedR_any (m : Int) (w : World) : Calls Tryz.prog 47 #[.int .i64 m] w fun e w' => e = .returned (.bool (askedB m)) ∧ w = w' := by
  have H := Lib.hid (fun W => knownR_any m W)
  unfold askedB
  cases hm : m != 0 with
  | false =>
    go_enter Tryz.func47, Tryz.ntmps47
    go_wp2_with fail
    all_goals go_ret
    all_goals exact ⟨by simp, rfl⟩
  | true =>
    go_enter Tryz.func47, Tryz.ntmps47
    go_wp2_with fail
    refine (H.out _).mono ?_
    rintro e w1 ⟨rfl, rfl⟩
    go_wp2_with fail
    all_goals go_ret
    all_goals exact ⟨by simp, rfl⟩
theorem boxes2R (w : World) (t0 t1 : TypeId) (b1 b2 : Array Value) : Sep ((w.alloc (.cells b1 t0)).alloc (.cells b2 t1)) [blk (w.heap.size + 1) t1 b2, blk w.heap.size t0 b1, old w] := by
  have := ((Sep.start w).alloc b1 t0).alloc b2 t1
  rwa [World.size_alloc] at this
theorem fits_none (l : List Rq) (id0 t0 mo : Int) (hc : l.any (fun q => q.id == id0 || q.txn == t0) = false) : ∀ k, k ≤ l.length → fitsK l mo (-1) k = !((l.take k).any (fitsP ⟨id0, t0, 0, mo, 0⟩))
  | 0, _ => by simp [fitsK]
  | k+1, hk => by
    rw [fitsK, fits_none l id0 t0 mo hc k (by omega), take_snocQ l k (by omega), List.any_append]
    have h1 := List.any_eq_false.1 hc (l.getD k default) (getD_mem l k (by omega))
    have e : decide ((k : Int) ≠ (-1 : Int)) = ((l.getD k default).id != id0) := by
      rw [Bool.eq_iff_iff]
      simp only [decide_eq_true_eq, bne_iff_ne, ne_eq]
      simp only [Bool.or_eq_true, beq_iff_eq, not_or] at h1
      exact ⟨fun _ => h1.1, fun _ h => by omega⟩
    rw [e]
    simp only [List.any_cons, List.any_nil, Bool.or_false, fitsP, Bool.not_or]
theorem fits_new (l : List Rq) (id0 t0 mo : Int) (hc : l.any (fun q => q.id == id0 || q.txn == t0) = false) : fitsK l mo (-1) l.length = !(l.any (fitsP ⟨id0, t0, 0, mo, 0⟩)) := by
  have := fits_none l id0 t0 mo hc l.length (Nat.le_refl _)
  rwa [List.take_length] at this
set_option maxHeartbeats 1000000 in
theorem askR_arg (t r n : Int) (v : Value) (l : List Rq) (id0 t0 mo : Int) (w : World) (hv : RQ w v l) (hb : id0 < 0 ∨ askedB mo = false) :
    Calls Tryz.prog 12 #[hval t r v n, .int .i64 id0, .int .i64 t0, .int .i64 mo] w fun e w' => e = .returned (.tuple #[zhd, .bool false, .int .i64 2]) ∧ Below w.heap.size w w' := by
  have hB := Lib.hid (boxes2R w 26 26 #[.int .i64 t, .int .i64 r, v, .int .i64 n] #[.int .i64 0, .int .i64 0, .slice none 0 0, .int .i64 0])
  have HA := Lib.hid (fun W => askedR_any mo W)
  obtain ⟨a, c, rfl, _⟩ := hv
  unfold hval at *
  by_cases h0 : id0 < 0
  · have d0 : decide (id0 < 0) = true := decide_eq_true h0
    clear h0 hb
    go_enter Tryz.func12, Tryz.ntmps12
    go_wp2_with fail
    all_goals refine bodyPost_ret (v := .tuple #[.agg #[.int .i64 0, .int .i64 0, .slice none 0 0, .int .i64 0], .bool false, .int .i64 2]) (by simp [results, Tryz.results12, go_sem, *]) rfl ⟨rfl, ?_⟩
    all_goals exact hB.out.tail.tail.gold
  · have d0 : decide (id0 < 0) = false := decide_eq_false h0
    rw [hb.resolve_left h0] at HA
    clear h0 hb
    go_enter Tryz.func12, Tryz.ntmps12
    go_wp2_with fail
    refine (HA.out _).mono ?_
    rintro e w1 ⟨rfl, rfl⟩
    go_wp2_with fail
    all_goals refine bodyPost_ret (v := .tuple #[.agg #[.int .i64 0, .int .i64 0, .slice none 0 0, .int .i64 0], .bool false, .int .i64 2]) (by simp [results, Tryz.results12, go_sem, *]) rfl ⟨rfl, ?_⟩
    all_goals exact hB.out.tail.tail.gold
theorem vq_vec {w : World} {v : Value} {l : List Rq} {m : Nat} {rs : List Res} (h : l.length = m) (hS : Sep w (vq v l :: rs)) : Sep w (vec 42 5 v m (qcells l) :: rs) := by
  unfold vq at hS
  rwa [h] at hS
set_option maxHeartbeats 4000000 in
set_option maxRecDepth 100000 in
theorem askR_twice (t r n : Int) (v : Value) (l : List Rq) (id0 t0 mo : Int) (w : World) (hv : RQ w v l) (hl : l.length ≤ 1000) (h0 : ¬ id0 < 0) (ha : askedB mo = true) (hc : l.any (fun q => q.id == id0 || q.txn == t0) = true) :
    Calls Tryz.prog 12 #[hval t r v n, .int .i64 id0, .int .i64 t0, .int .i64 mo] w fun e w' => e = .returned (.tuple #[zhd, .bool false, .int .i64 4]) ∧ Below w.heap.size w w' := by
  have hB := boxes2R w 26 26 #[.int .i64 t, .int .i64 r, v, .int .i64 n] #[.int .i64 0, .int .i64 0, .slice none 0 0, .int .i64 0]
  have HA := Lib.hid (fun W => askedR_any mo W)
  rw [ha] at HA
  have d0 : decide (id0 < 0) = false := decide_eq_false h0
  have hv2 := Lib.hid hv
  obtain ⟨a, c, rfl, hlc, _, hr⟩ := hv
  replace hB := Lib.hid hB
  replace hr := Lib.hid hr
  replace hlc := Lib.hid hlc
  replace hc := Lib.hid hc
  unfold hval
  clear ha h0
  go_enter Tryz.func12, Tryz.ntmps12
  go_wp2_with fail
  refine (HA.out _).mono ?_
  rintro e w1 ⟨rfl, rfl⟩
  clear HA
  go_wp2_with fail
  generalize hn : l.length = m at *
  replace hn := Lib.hid hn
  go_loopg [11] m (fun g i wr => ∃ k : Nat, k ≤ m ∧ g = m - k ∧ i = .int .i64 k ∧ Hid (∀ j, j < k → ((l.getD j default).id == id0 || (l.getD j default).txn == t0) = false) ∧ Hid (Sep wr [blk (w.heap.size + 1) 26 #[.int .i64 0, .int .i64 0, .slice none 0 0, .int .i64 0], blk w.heap.size 26 #[.int .i64 t, .int .i64 r, .slice a m c, .int .i64 n], old w]))
  case atStart => exact ⟨0, Nat.zero_le _, rfl, rfl, Lib.hid (fun j hj => absurd hj (by omega)), hB⟩
  case round =>
    clear hB
    obtain ⟨k, hk, hg, rfl, he, hS⟩ := hrel
    obtain ⟨x1, b0, b1, b2, b3, _⟩ := hS.out.to1.b4
    obtain ⟨x2, e0, e1, e2, e3, f0, f1, f2, f3⟩ := hS.out.b4
    by_cases hlt : k < m
    · obtain ⟨b, off, rfl, hbl, hz⟩ := hr.out (by omega)
      have z0 := (hz k hlt).1
      have z1 := (hz k hlt).2.1
      rw [← hS.out.tail.tail.gold.cell (by exact hbl)] at z0 z1
      have hek : Hid (((l.getD k default).id == id0 || (l.getD k default).txn == t0) = false → ∀ j, j < k + 1 → ((l.getD j default).id == id0 || (l.getD j default).txn == t0) = false) := Lib.hid (fun h j hj => by
        rcases Nat.lt_succ_iff_lt_or_eq.1 hj with h1 | rfl
        · exact he.out j h1
        · exact h)
      have hmem := Lib.hid (getD_mem l k (by rw [hn.out]; exact hlt))
      clear hz
      generalize l.getD k default = q at *
      have i1 : (0 : Int) ≤ (k : Int) := by omega
      have i2 : (k : Int) < (m : Int) := by omega
      cases hq1 : q.id == id0 with
      | true =>
        go_wp2_with fail
        refine bodyPost_ret (v := .tuple #[.agg #[.int .i64 0, .int .i64 0, .slice none 0 0, .int .i64 0], .bool false, .int .i64 4]) (by simp [results, Tryz.results12, go_sem, *]) rfl ⟨rfl, ((((hS.out.set 0 (.int .i64 0)).set 1 (.int .i64 0)).set 2 (.slice none 0 0)).set 3 (.int .i64 0)).tail.tail.gold⟩
      | false =>
        cases hq2 : q.txn == t0 with
        | true =>
          go_wp2_with fail
          refine bodyPost_ret (v := .tuple #[.agg #[.int .i64 0, .int .i64 0, .slice none 0 0, .int .i64 0], .bool false, .int .i64 4]) (by simp [results, Tryz.results12, go_sem, *]) rfl ⟨rfl, ((((hS.out.set 0 (.int .i64 0)).set 1 (.int .i64 0)).set 2 (.slice none 0 0)).set 3 (.int .i64 0)).tail.tail.gold⟩
        | false =>
          have hek2 := Lib.hid (hek.out (by rw [hq1, hq2]; rfl))
          clear hek he
          go_wp2_with fail
          go_roundg (m - (k + 1))
          case measure => omega
          case rel => exact ⟨k + 1, by omega, rfl, by go_num, hek2, hS⟩
    · have hk2 : k = m := by omega
      exfalso
      obtain ⟨q, hq, hq2⟩ := List.any_eq_true.1 hc.out
      obtain ⟨j, hj, rfl⟩ := mem_getD hq
      have h1 := he.out j (by have := hn.out; omega)
      rw [h1] at hq2
      cases hq2
set_option maxHeartbeats 4000000 in
set_option maxRecDepth 100000 in
theorem askR_grant (t r n : Int) (v : Value) (l : List Rq) (id0 t0 mo : Int) (w : World) (hv : RQ w v l) (hl : l.length ≤ 1000) (h0 : ¬ id0 < 0) (ha : askedB mo = true) (hc : l.any (fun q => q.id == id0 || q.txn == t0) = false) (hu : bestK l l.length < 0) (hw : idxF (fun q : Rq => q.mode == 0) l 0 < 0) (hm : l.any (fitsP ⟨id0, t0, 0, mo, 0⟩) = false) :
    Calls Tryz.prog 12 #[hval t r v n, .int .i64 id0, .int .i64 t0, .int .i64 mo] w fun e w' => ∃ a c, e = .returned (.tuple #[hval t r (.slice a (l.length + 1) c) n, .bool true, .int .i64 0]) ∧ Sep w' [vq (.slice a (l.length + 1) c) (l ++ [⟨id0, t0, mo, mo, 0⟩]), old w] := by
  have hB := boxes2R w 26 26 #[.int .i64 t, .int .i64 r, v, .int .i64 n] #[.int .i64 0, .int .i64 0, .slice none 0 0, .int .i64 0]
  have HA := Lib.hid (fun W => askedR_any mo W)
  rw [ha] at HA
  have d0 : decide (id0 < 0) = false := decide_eq_false h0
  have hfit := Lib.hid (fits_new l id0 t0 mo hc)
  rw [hm] at hfit
  have du : decide (bestK l l.length < 0) = true := decide_eq_true hu
  have dw : decide (idxF (fun q : Rq => q.mode == 0) l 0 < 0) = true := decide_eq_true hw
  have hv2 := Lib.hid hv
  obtain ⟨a, c, rfl, hlc, _, hr⟩ := hv
  replace hB := Lib.hid hB
  replace hr := Lib.hid hr
  replace hlc := Lib.hid hlc
  replace hc := Lib.hid hc
  unfold hval
  clear ha h0
  go_enter Tryz.func12, Tryz.ntmps12
  go_wp2_with fail
  refine (HA.out _).mono ?_
  rintro e w1 ⟨rfl, rfl⟩
  clear HA
  go_wp2_with fail
  generalize hn : l.length = m at *
  replace hn := Lib.hid hn
  go_loopg [11] m (fun g i wr => ∃ k : Nat, k ≤ m ∧ g = m - k ∧ i = .int .i64 k ∧ Hid (∀ j, j < k → ((l.getD j default).id == id0 || (l.getD j default).txn == t0) = false) ∧ Hid (Sep wr [blk (w.heap.size + 1) 26 #[.int .i64 0, .int .i64 0, .slice none 0 0, .int .i64 0], blk w.heap.size 26 #[.int .i64 t, .int .i64 r, .slice a m c, .int .i64 n], old w]))
  case atStart => exact ⟨0, Nat.zero_le _, rfl, rfl, Lib.hid (fun j hj => absurd hj (by omega)), hB⟩
  case round =>
    clear hB
    obtain ⟨k, hk, hg, rfl, he, hS⟩ := hrel
    obtain ⟨x1, b0, b1, b2, b3, _⟩ := hS.out.to1.b4
    obtain ⟨x2, e0, e1, e2, e3, f0, f1, f2, f3⟩ := hS.out.b4
    by_cases hlt : k < m
    · obtain ⟨b, off, rfl, hbl, hz⟩ := hr.out (by omega)
      have z0 := (hz k hlt).1
      have z1 := (hz k hlt).2.1
      rw [← hS.out.tail.tail.gold.cell (by exact hbl)] at z0 z1
      have hek : Hid (((l.getD k default).id == id0 || (l.getD k default).txn == t0) = false → ∀ j, j < k + 1 → ((l.getD j default).id == id0 || (l.getD j default).txn == t0) = false) := Lib.hid (fun h j hj => by
        rcases Nat.lt_succ_iff_lt_or_eq.1 hj with h1 | rfl
        · exact he.out j h1
        · exact h)
      have hmem := Lib.hid (getD_mem l k (by rw [hn.out]; exact hlt))
      clear hz
      generalize l.getD k default = q at *
      have i1 : (0 : Int) ≤ (k : Int) := by omega
      have i2 : (k : Int) < (m : Int) := by omega
      cases hq1 : q.id == id0 with
      | true =>
        exact absurd (List.any_eq_false.1 hc.out q hmem.out) (by simp [hq1])
      | false =>
        cases hq2 : q.txn == t0 with
        | true =>
          exact absurd (List.any_eq_false.1 hc.out q hmem.out) (by simp [hq1, hq2])
        | false =>
          have hek2 := Lib.hid (hek.out (by rw [hq1, hq2]; rfl))
          clear hek he
          go_wp2_with fail
          go_roundg (m - (k + 1))
          case measure => omega
          case rel => exact ⟨k + 1, by omega, rfl, by go_num, hek2, hS⟩
    · have hk2 : k = m := by omega
      clear he hc
      have HO := Lib.hid (fun W hb => copied_any t r n (.slice a m c) l W (hv2.out.below hb) (by rw [hn.out]; exact hl))
      unfold hval at HO
      clear hr hlc
      go_wp2_with fail
      refine (HO.out _ hS.out.tail.tail.gold).mono ?_
      rintro e w3 ⟨a1, c1, rfl, q⟩
      have hS1 := (q.graft hS.out).alloc #[.int .i64 t, .int .i64 r, .slice a1 l.length c1, .int .i64 n] 26
      clear q HO b0 b1 b2 b3 e0 e1 e2 e3 f0 f1 f2 f3 hS x1 x2
      rw [hn.out] at hS1 ⊢
      have hS2 := Lib.hid (show Sep _ [vq (.slice a1 m c1) l, blk w3.heap.size 26 #[.int .i64 t, .int .i64 r, .slice a1 m c1, .int .i64 n], blk (w.heap.size + 1) 26 #[.int .i64 0, .int .i64 0, .slice none 0 0, .int .i64 0], blk w.heap.size 26 #[.int .i64 t, .int .i64 r, .slice a m c, .int .i64 n], old w] from hS1.to1)
      clear hS1
      obtain ⟨_, b0, b1, b2, b3, _⟩ := (hS2.out.bring 3 rfl).b4
      have HU := Lib.hid (fun W hb => upgrading_any t r n (.slice a m c) l W (hv2.out.below hb) (by rw [hn.out]; exact hl))
      have HW := Lib.hid (fun W hb => waiting_any t r n (.slice a m c) l W (hv2.out.below hb) (by rw [hn.out]; exact hl))
      have HF := Lib.hid (fun W hb => fitsR_any t r n (.slice a m c) l mo (-1) W (hv2.out.below hb) (by rw [hn.out]; exact hl))
      unfold hval at HU HW HF
      simp only [hn.out] at HU HF
      rw [hfit.out] at HF
      go_wp2_with fail
      refine (HU.out _ (hS2.out.bring 4 rfl).gold).mono ?_
      rintro e w4 ⟨rfl, q⟩
      replace hS2 := Lib.hid (hS2.out.below q)
      clear q HU b0 b1 b2 b3
      obtain ⟨_, b0, b1, b2, b3, _⟩ := (hS2.out.bring 3 rfl).b4
      obtain ⟨_, p0, p1, p2, p3, g0, g1, g2, g3⟩ := (hS2.out.bring 1 rfl).b4
      obtain ⟨_, e0, e1, e2, e3, f0, f1, f2, f3⟩ := (hS2.out.bring 2 rfl).b4
      have ne1 := ((hS2.out.bring 1 rfl).to1.tail).to1.blk_ne
      have ne2 := ne1.symm
      go_wp2_with fail
      refine (HW.out _ (hS2.out.bring 4 rfl).gold).mono ?_
      rintro e w5 ⟨rfl, q⟩
      replace hS2 := Lib.hid (hS2.out.below q)
      clear q HW b0 b1 b2 b3 p0 p1 p2 p3 g0 g1 g2 g3 e0 e1 e2 e3 f0 f1 f2 f3
      obtain ⟨_, b0, b1, b2, b3, _⟩ := (hS2.out.bring 3 rfl).b4
      obtain ⟨_, p0, p1, p2, p3, g0, g1, g2, g3⟩ := (hS2.out.bring 1 rfl).b4
      obtain ⟨_, e0, e1, e2, e3, f0, f1, f2, f3⟩ := (hS2.out.bring 2 rfl).b4
      go_wp2_with fail
      refine (HF.out _ (hS2.out.bring 4 rfl).gold).mono ?_
      rintro e w6 ⟨rfl, q⟩
      replace hS2 := Lib.hid (hS2.out.below q)
      clear q HF b0 b1 b2 b3 p0 p1 p2 p3 g0 g1 g2 g3 e0 e1 e2 e3 f0 f1 f2 f3
      obtain ⟨_, b0, b1, b2, b3, _⟩ := (hS2.out.bring 3 rfl).b4
      obtain ⟨_, p0, p1, p2, p3, g0, g1, g2, g3⟩ := (hS2.out.bring 1 rfl).b4
      obtain ⟨_, e0, e1, e2, e3, f0, f1, f2, f3⟩ := (hS2.out.bring 2 rfl).b4
      obtain ⟨i0, hi0, hz0, hz1, hz2⟩ := info_parts info_req
      have h1 : Hid (∀ u ∈ ([.int .i64 id0, .int .i64 t0, .int .i64 mo, .int .i64 mo, .int .i64 0] : List Value), u.oneCell' = true) := Lib.hid (by simp [Value.oneCell'])
      have hS3 := Lib.hid (hS2.out.allocG (.cells #[.int .i64 id0, .int .i64 t0, .int .i64 mo, .int .i64 mo, .int .i64 0] 42))
      have hsrc := Lib.hid (SrcA.cells w6 #[.int .i64 id0, .int .i64 t0, .int .i64 mo, .int .i64 mo, .int .i64 0] 42 1)
      have hml := Lib.hid (show m ≤ 1000 from hl)
      go_wp2_with (at_builtin; refine wpList_append_sep (show Sep _ (vec 42 5 (.slice a1 m c1) m (qcells l) :: _) from vq_vec hn.out hS3.out) rfl _ _ 24 rfl i0 _ 40 Tryz.underlying24 hi0 hz0 hz1 hz2 rfl (by decide) rfl 1 _ hsrc.out h1.out (by have := hml.out; simp only [maxLen]; omega) (by have := hml.out; omega) ?_; intro a' c' w7 q; have hS5 := Lib.hid q; clear q b0 b1 b2 b3 p0 p1 p2 p3 g0 g1 g2 g3 e0 e1 e2 e3 f0 f1 f2 f3; obtain ⟨_, p0, p1, p2, p3, g0, g1, g2, g3⟩ := (hS5.out.bring 1 rfl).b4; obtain ⟨_, e0, e1, e2, e3, f0, f1, f2, f3⟩ := (hS5.out.bring 2 rfl).b4)
      have hS6 := (hS5.out.bring 1 rfl).set 2 (.slice a' (m + 1) c')
      have hZ := ((((hS6.bring 2 rfl).set 0 (.int .i64 t)).set 1 (.int .i64 r)).set 2 (.slice a' (m + 1) c')).set 3 (.int .i64 n)
      refine bodyPost_ret (v := .tuple #[.agg #[.int .i64 t, .int .i64 r, .slice a' (m + 1) c', .int .i64 n], .bool true, .int .i64 0]) (by simp [results, Tryz.results12, go_sem, *]) rfl ⟨a', c', by rw [hn.out], ?_⟩
      unfold vq
      rw [List.length_append, hn.out, show qcells (l ++ [(⟨id0, t0, mo, mo, 0⟩ : Rq)]) = qcells l ++ _ from by unfold qcells; rw [List.flatMap_append]]
      exact (hZ.bring 2 rfl).drop1.drop1.drop1
set_option maxHeartbeats 4000000 in
set_option maxRecDepth 100000 in
theorem askR_wait1 (t r n : Int) (v : Value) (l : List Rq) (id0 t0 mo : Int) (w : World) (hv : RQ w v l) (hl : l.length ≤ 1000) (h0 : ¬ id0 < 0) (ha : askedB mo = true) (hc : l.any (fun q => q.id == id0 || q.txn == t0) = false) (hu : ¬ bestK l l.length < 0) (hn0 : 0 ≤ n) (hn1 : n ≤ 4611686018427387904) :
    Calls Tryz.prog 12 #[hval t r v n, .int .i64 id0, .int .i64 t0, .int .i64 mo] w fun e w' => ∃ a c, e = .returned (.tuple #[hval t r (.slice a (l.length + 1) c) (n + 1), .bool false, .int .i64 0]) ∧ Sep w' [vq (.slice a (l.length + 1) c) (l ++ [⟨id0, t0, 0, mo, n + 1⟩]), old w] := by
  have hB := boxes2R w 26 26 #[.int .i64 t, .int .i64 r, v, .int .i64 n] #[.int .i64 0, .int .i64 0, .slice none 0 0, .int .i64 0]
  have HA := Lib.hid (fun W => askedR_any mo W)
  rw [ha] at HA
  have d0 : decide (id0 < 0) = false := decide_eq_false h0
  have hfit := Lib.hid (fits_new l id0 t0 mo hc)
  have du : decide (bestK l l.length < 0) = false := decide_eq_false hu
  have hv2 := Lib.hid hv
  obtain ⟨a, c, rfl, hlc, _, hr⟩ := hv
  replace hB := Lib.hid hB
  replace hr := Lib.hid hr
  replace hlc := Lib.hid hlc
  replace hc := Lib.hid hc
  unfold hval
  clear ha h0
  go_enter Tryz.func12, Tryz.ntmps12
  go_wp2_with fail
  refine (HA.out _).mono ?_
  rintro e w1 ⟨rfl, rfl⟩
  clear HA
  go_wp2_with fail
  generalize hn : l.length = m at *
  replace hn := Lib.hid hn
  go_loopg [11] m (fun g i wr => ∃ k : Nat, k ≤ m ∧ g = m - k ∧ i = .int .i64 k ∧ Hid (∀ j, j < k → ((l.getD j default).id == id0 || (l.getD j default).txn == t0) = false) ∧ Hid (Sep wr [blk (w.heap.size + 1) 26 #[.int .i64 0, .int .i64 0, .slice none 0 0, .int .i64 0], blk w.heap.size 26 #[.int .i64 t, .int .i64 r, .slice a m c, .int .i64 n], old w]))
  case atStart => exact ⟨0, Nat.zero_le _, rfl, rfl, Lib.hid (fun j hj => absurd hj (by omega)), hB⟩
  case round =>
    clear hB
    obtain ⟨k, hk, hg, rfl, he, hS⟩ := hrel
    obtain ⟨x1, b0, b1, b2, b3, _⟩ := hS.out.to1.b4
    obtain ⟨x2, e0, e1, e2, e3, f0, f1, f2, f3⟩ := hS.out.b4
    by_cases hlt : k < m
    · obtain ⟨b, off, rfl, hbl, hz⟩ := hr.out (by omega)
      have z0 := (hz k hlt).1
      have z1 := (hz k hlt).2.1
      rw [← hS.out.tail.tail.gold.cell (by exact hbl)] at z0 z1
      have hek : Hid (((l.getD k default).id == id0 || (l.getD k default).txn == t0) = false → ∀ j, j < k + 1 → ((l.getD j default).id == id0 || (l.getD j default).txn == t0) = false) := Lib.hid (fun h j hj => by
        rcases Nat.lt_succ_iff_lt_or_eq.1 hj with h1 | rfl
        · exact he.out j h1
        · exact h)
      have hmem := Lib.hid (getD_mem l k (by rw [hn.out]; exact hlt))
      clear hz
      generalize l.getD k default = q at *
      have i1 : (0 : Int) ≤ (k : Int) := by omega
      have i2 : (k : Int) < (m : Int) := by omega
      cases hq1 : q.id == id0 with
      | true =>
        exact absurd (List.any_eq_false.1 hc.out q hmem.out) (by simp [hq1])
      | false =>
        cases hq2 : q.txn == t0 with
        | true =>
          exact absurd (List.any_eq_false.1 hc.out q hmem.out) (by simp [hq1, hq2])
        | false =>
          have hek2 := Lib.hid (hek.out (by rw [hq1, hq2]; rfl))
          clear hek he
          go_wp2_with fail
          go_roundg (m - (k + 1))
          case measure => omega
          case rel => exact ⟨k + 1, by omega, rfl, by go_num, hek2, hS⟩
    · have hk2 : k = m := by omega
      clear he hc
      have HO := Lib.hid (fun W hb => copied_any t r n (.slice a m c) l W (hv2.out.below hb) (by rw [hn.out]; exact hl))
      unfold hval at HO
      clear hr hlc
      go_wp2_with fail
      refine (HO.out _ hS.out.tail.tail.gold).mono ?_
      rintro e w3 ⟨a1, c1, rfl, q⟩
      have hS1 := (q.graft hS.out).alloc #[.int .i64 t, .int .i64 r, .slice a1 l.length c1, .int .i64 n] 26
      clear q HO b0 b1 b2 b3 e0 e1 e2 e3 f0 f1 f2 f3 hS x1 x2
      rw [hn.out] at hS1 ⊢
      have hS2 := Lib.hid (show Sep _ [vq (.slice a1 m c1) l, blk w3.heap.size 26 #[.int .i64 t, .int .i64 r, .slice a1 m c1, .int .i64 n], blk (w.heap.size + 1) 26 #[.int .i64 0, .int .i64 0, .slice none 0 0, .int .i64 0], blk w.heap.size 26 #[.int .i64 t, .int .i64 r, .slice a m c, .int .i64 n], old w] from hS1.to1)
      clear hS1
      obtain ⟨_, b0, b1, b2, b3, _⟩ := (hS2.out.bring 3 rfl).b4
      have HU := Lib.hid (fun W hb => upgrading_any t r n (.slice a m c) l W (hv2.out.below hb) (by rw [hn.out]; exact hl))
      have HW := Lib.hid (fun W hb => waiting_any t r n (.slice a m c) l W (hv2.out.below hb) (by rw [hn.out]; exact hl))
      have HF := Lib.hid (fun W hb => fitsR_any t r n (.slice a m c) l mo (-1) W (hv2.out.below hb) (by rw [hn.out]; exact hl))
      unfold hval at HU HW HF
      simp only [hn.out] at HU HF
      rw [hfit.out] at HF
      go_wp2_with fail
      refine (HU.out _ (hS2.out.bring 4 rfl).gold).mono ?_
      rintro e w4 ⟨rfl, q⟩
      replace hS2 := Lib.hid (hS2.out.below q)
      clear q HU b0 b1 b2 b3
      obtain ⟨_, b0, b1, b2, b3, _⟩ := (hS2.out.bring 3 rfl).b4
      obtain ⟨_, p0, p1, p2, p3, g0, g1, g2, g3⟩ := (hS2.out.bring 1 rfl).b4
      obtain ⟨_, e0, e1, e2, e3, f0, f1, f2, f3⟩ := (hS2.out.bring 2 rfl).b4
      have ne1 := ((hS2.out.bring 1 rfl).to1.tail).to1.blk_ne
      have ne2 := ne1.symm
      obtain ⟨i0, hi0, hz0, hz1, hz2⟩ := info_parts info_req
      have h1 : Hid (∀ u ∈ ([.int .i64 id0, .int .i64 t0, .int .i64 0, .int .i64 mo, .int .i64 (n + 1)] : List Value), u.oneCell' = true) := Lib.hid (by simp [Value.oneCell'])
      have hS4 := (hS2.out.bring 1 rfl).set 3 (.int .i64 (n + 1))
      replace hS3 := Lib.hid (show Sep _ [vq (.slice a1 m c1) l, blk w3.heap.size 26 #[.int .i64 t, .int .i64 r, .slice a1 m c1, .int .i64 (n + 1)], blk (w.heap.size + 1) 26 #[.int .i64 0, .int .i64 0, .slice none 0 0, .int .i64 0], blk w.heap.size 26 #[.int .i64 t, .int .i64 r, .slice a m c, .int .i64 n], old w] from hS4.to1.allocG (.cells #[.int .i64 id0, .int .i64 t0, .int .i64 0, .int .i64 mo, .int .i64 (n + 1)] 42))
      clear hS4
      have hsrc := SrcA.cells (w4.setCell ⟨w3.heap.size, 3, none⟩ (.int .i64 (n + 1))) #[.int .i64 id0, .int .i64 t0, .int .i64 0, .int .i64 mo, .int .i64 (n + 1)] 42 1
      rw [World.size_setCell] at hsrc
      replace hsrc := Lib.hid hsrc
      have hml := Lib.hid (show m ≤ 1000 from hl)
      go_wp2_with (at_builtin; refine wpList_append_sep (show Sep _ (vec 42 5 (.slice a1 m c1) m (qcells l) :: _) from vq_vec hn.out hS3.out) rfl _ _ 24 rfl i0 _ 40 Tryz.underlying24 hi0 hz0 hz1 hz2 rfl (by decide) rfl 1 _ hsrc.out h1.out (by have := hml.out; simp only [maxLen]; omega) (by have := hml.out; omega) ?_; intro a' c' w7 q; have hS5 := Lib.hid q; clear q b0 b1 b2 b3 p0 p1 p2 p3 g0 g1 g2 g3 e0 e1 e2 e3 f0 f1 f2 f3; obtain ⟨_, p0, p1, p2, p3, g0, g1, g2, g3⟩ := (hS5.out.bring 1 rfl).b4; obtain ⟨_, e0, e1, e2, e3, f0, f1, f2, f3⟩ := (hS5.out.bring 2 rfl).b4)
      have hS6 := (hS5.out.bring 1 rfl).set 2 (.slice a' (m + 1) c')
      have hZ := ((((hS6.bring 2 rfl).set 0 (.int .i64 t)).set 1 (.int .i64 r)).set 2 (.slice a' (m + 1) c')).set 3 (.int .i64 (n + 1))
      refine bodyPost_ret (v := .tuple #[.agg #[.int .i64 t, .int .i64 r, .slice a' (m + 1) c', .int .i64 (n + 1)], .bool false, .int .i64 0]) (by simp [results, Tryz.results12, go_sem, *]) rfl ⟨a', c', by rw [hn.out], ?_⟩
      unfold vq
      rw [List.length_append, hn.out, show qcells (l ++ [(⟨id0, t0, 0, mo, n + 1⟩ : Rq)]) = qcells l ++ _ from by unfold qcells; rw [List.flatMap_append]]
      exact (hZ.bring 2 rfl).drop1.drop1.drop1
set_option maxHeartbeats 4000000 in
set_option maxRecDepth 100000 in
theorem askR_wait2 (t r n : Int) (v : Value) (l : List Rq) (id0 t0 mo : Int) (w : World) (hv : RQ w v l) (hl : l.length ≤ 1000) (h0 : ¬ id0 < 0) (ha : askedB mo = true) (hc : l.any (fun q => q.id == id0 || q.txn == t0) = false) (hu : bestK l l.length < 0) (hw : ¬ idxF (fun q : Rq => q.mode == 0) l 0 < 0) (hn0 : 0 ≤ n) (hn1 : n ≤ 4611686018427387904) :
    Calls Tryz.prog 12 #[hval t r v n, .int .i64 id0, .int .i64 t0, .int .i64 mo] w fun e w' => ∃ a c, e = .returned (.tuple #[hval t r (.slice a (l.length + 1) c) (n + 1), .bool false, .int .i64 0]) ∧ Sep w' [vq (.slice a (l.length + 1) c) (l ++ [⟨id0, t0, 0, mo, n + 1⟩]), old w] := by
  have hB := boxes2R w 26 26 #[.int .i64 t, .int .i64 r, v, .int .i64 n] #[.int .i64 0, .int .i64 0, .slice none 0 0, .int .i64 0]
  have HA := Lib.hid (fun W => askedR_any mo W)
  rw [ha] at HA
  have d0 : decide (id0 < 0) = false := decide_eq_false h0
  have hfit := Lib.hid (fits_new l id0 t0 mo hc)
  have du : decide (bestK l l.length < 0) = true := decide_eq_true hu
  have dw : decide (idxF (fun q : Rq => q.mode == 0) l 0 < 0) = false := decide_eq_false hw
  have hv2 := Lib.hid hv
  obtain ⟨a, c, rfl, hlc, _, hr⟩ := hv
  replace hB := Lib.hid hB
  replace hr := Lib.hid hr
  replace hlc := Lib.hid hlc
  replace hc := Lib.hid hc
  unfold hval
  clear ha h0
  go_enter Tryz.func12, Tryz.ntmps12
  go_wp2_with fail
  refine (HA.out _).mono ?_
  rintro e w1 ⟨rfl, rfl⟩
  clear HA
  go_wp2_with fail
  generalize hn : l.length = m at *
  replace hn := Lib.hid hn
  go_loopg [11] m (fun g i wr => ∃ k : Nat, k ≤ m ∧ g = m - k ∧ i = .int .i64 k ∧ Hid (∀ j, j < k → ((l.getD j default).id == id0 || (l.getD j default).txn == t0) = false) ∧ Hid (Sep wr [blk (w.heap.size + 1) 26 #[.int .i64 0, .int .i64 0, .slice none 0 0, .int .i64 0], blk w.heap.size 26 #[.int .i64 t, .int .i64 r, .slice a m c, .int .i64 n], old w]))
  case atStart => exact ⟨0, Nat.zero_le _, rfl, rfl, Lib.hid (fun j hj => absurd hj (by omega)), hB⟩
  case round =>
    clear hB
    obtain ⟨k, hk, hg, rfl, he, hS⟩ := hrel
    obtain ⟨x1, b0, b1, b2, b3, _⟩ := hS.out.to1.b4
    obtain ⟨x2, e0, e1, e2, e3, f0, f1, f2, f3⟩ := hS.out.b4
    by_cases hlt : k < m
    · obtain ⟨b, off, rfl, hbl, hz⟩ := hr.out (by omega)
      have z0 := (hz k hlt).1
      have z1 := (hz k hlt).2.1
      rw [← hS.out.tail.tail.gold.cell (by exact hbl)] at z0 z1
      have hek : Hid (((l.getD k default).id == id0 || (l.getD k default).txn == t0) = false → ∀ j, j < k + 1 → ((l.getD j default).id == id0 || (l.getD j default).txn == t0) = false) := Lib.hid (fun h j hj => by
        rcases Nat.lt_succ_iff_lt_or_eq.1 hj with h1 | rfl
        · exact he.out j h1
        · exact h)
      have hmem := Lib.hid (getD_mem l k (by rw [hn.out]; exact hlt))
      clear hz
      generalize l.getD k default = q at *
      have i1 : (0 : Int) ≤ (k : Int) := by omega
      have i2 : (k : Int) < (m : Int) := by omega
      cases hq1 : q.id == id0 with
      | true =>
        exact absurd (List.any_eq_false.1 hc.out q hmem.out) (by simp [hq1])
      | false =>
        cases hq2 : q.txn == t0 with
        | true =>
          exact absurd (List.any_eq_false.1 hc.out q hmem.out) (by simp [hq1, hq2])
        | false =>
          have hek2 := Lib.hid (hek.out (by rw [hq1, hq2]; rfl))
          clear hek he
          go_wp2_with fail
          go_roundg (m - (k + 1))
          case measure => omega
          case rel => exact ⟨k + 1, by omega, rfl, by go_num, hek2, hS⟩
    · have hk2 : k = m := by omega
      clear he hc
      have HO := Lib.hid (fun W hb => copied_any t r n (.slice a m c) l W (hv2.out.below hb) (by rw [hn.out]; exact hl))
      unfold hval at HO
      clear hr hlc
      go_wp2_with fail
      refine (HO.out _ hS.out.tail.tail.gold).mono ?_
      rintro e w3 ⟨a1, c1, rfl, q⟩
      have hS1 := (q.graft hS.out).alloc #[.int .i64 t, .int .i64 r, .slice a1 l.length c1, .int .i64 n] 26
      clear q HO b0 b1 b2 b3 e0 e1 e2 e3 f0 f1 f2 f3 hS x1 x2
      rw [hn.out] at hS1 ⊢
      have hS2 := Lib.hid (show Sep _ [vq (.slice a1 m c1) l, blk w3.heap.size 26 #[.int .i64 t, .int .i64 r, .slice a1 m c1, .int .i64 n], blk (w.heap.size + 1) 26 #[.int .i64 0, .int .i64 0, .slice none 0 0, .int .i64 0], blk w.heap.size 26 #[.int .i64 t, .int .i64 r, .slice a m c, .int .i64 n], old w] from hS1.to1)
      clear hS1
      obtain ⟨_, b0, b1, b2, b3, _⟩ := (hS2.out.bring 3 rfl).b4
      have HU := Lib.hid (fun W hb => upgrading_any t r n (.slice a m c) l W (hv2.out.below hb) (by rw [hn.out]; exact hl))
      have HW := Lib.hid (fun W hb => waiting_any t r n (.slice a m c) l W (hv2.out.below hb) (by rw [hn.out]; exact hl))
      have HF := Lib.hid (fun W hb => fitsR_any t r n (.slice a m c) l mo (-1) W (hv2.out.below hb) (by rw [hn.out]; exact hl))
      unfold hval at HU HW HF
      simp only [hn.out] at HU HF
      rw [hfit.out] at HF
      go_wp2_with fail
      refine (HU.out _ (hS2.out.bring 4 rfl).gold).mono ?_
      rintro e w4 ⟨rfl, q⟩
      replace hS2 := Lib.hid (hS2.out.below q)
      clear q HU b0 b1 b2 b3
      obtain ⟨_, b0, b1, b2, b3, _⟩ := (hS2.out.bring 3 rfl).b4
      obtain ⟨_, p0, p1, p2, p3, g0, g1, g2, g3⟩ := (hS2.out.bring 1 rfl).b4
      obtain ⟨_, e0, e1, e2, e3, f0, f1, f2, f3⟩ := (hS2.out.bring 2 rfl).b4
      have ne1 := ((hS2.out.bring 1 rfl).to1.tail).to1.blk_ne
      have ne2 := ne1.symm
      go_wp2_with fail
      refine (HW.out _ (hS2.out.bring 4 rfl).gold).mono ?_
      rintro e w5 ⟨rfl, q⟩
      replace hS2 := Lib.hid (hS2.out.below q)
      clear q HW b0 b1 b2 b3 p0 p1 p2 p3 g0 g1 g2 g3 e0 e1 e2 e3 f0 f1 f2 f3
      obtain ⟨_, b0, b1, b2, b3, _⟩ := (hS2.out.bring 3 rfl).b4
      obtain ⟨_, p0, p1, p2, p3, g0, g1, g2, g3⟩ := (hS2.out.bring 1 rfl).b4
      obtain ⟨_, e0, e1, e2, e3, f0, f1, f2, f3⟩ := (hS2.out.bring 2 rfl).b4
      obtain ⟨i0, hi0, hz0, hz1, hz2⟩ := info_parts info_req
      have h1 : Hid (∀ u ∈ ([.int .i64 id0, .int .i64 t0, .int .i64 0, .int .i64 mo, .int .i64 (n + 1)] : List Value), u.oneCell' = true) := Lib.hid (by simp [Value.oneCell'])
      have hS4 := (hS2.out.bring 1 rfl).set 3 (.int .i64 (n + 1))
      replace hS3 := Lib.hid (show Sep _ [vq (.slice a1 m c1) l, blk w3.heap.size 26 #[.int .i64 t, .int .i64 r, .slice a1 m c1, .int .i64 (n + 1)], blk (w.heap.size + 1) 26 #[.int .i64 0, .int .i64 0, .slice none 0 0, .int .i64 0], blk w.heap.size 26 #[.int .i64 t, .int .i64 r, .slice a m c, .int .i64 n], old w] from hS4.to1.allocG (.cells #[.int .i64 id0, .int .i64 t0, .int .i64 0, .int .i64 mo, .int .i64 (n + 1)] 42))
      clear hS4
      have hsrc := SrcA.cells (w5.setCell ⟨w3.heap.size, 3, none⟩ (.int .i64 (n + 1))) #[.int .i64 id0, .int .i64 t0, .int .i64 0, .int .i64 mo, .int .i64 (n + 1)] 42 1
      rw [World.size_setCell] at hsrc
      replace hsrc := Lib.hid hsrc
      have hml := Lib.hid (show m ≤ 1000 from hl)
      go_wp2_with (at_builtin; refine wpList_append_sep (show Sep _ (vec 42 5 (.slice a1 m c1) m (qcells l) :: _) from vq_vec hn.out hS3.out) rfl _ _ 24 rfl i0 _ 40 Tryz.underlying24 hi0 hz0 hz1 hz2 rfl (by decide) rfl 1 _ hsrc.out h1.out (by have := hml.out; simp only [maxLen]; omega) (by have := hml.out; omega) ?_; intro a' c' w7 q; have hS5 := Lib.hid q; clear q b0 b1 b2 b3 p0 p1 p2 p3 g0 g1 g2 g3 e0 e1 e2 e3 f0 f1 f2 f3; obtain ⟨_, p0, p1, p2, p3, g0, g1, g2, g3⟩ := (hS5.out.bring 1 rfl).b4; obtain ⟨_, e0, e1, e2, e3, f0, f1, f2, f3⟩ := (hS5.out.bring 2 rfl).b4)
      have hS6 := (hS5.out.bring 1 rfl).set 2 (.slice a' (m + 1) c')
      have hZ := ((((hS6.bring 2 rfl).set 0 (.int .i64 t)).set 1 (.int .i64 r)).set 2 (.slice a' (m + 1) c')).set 3 (.int .i64 (n + 1))
      refine bodyPost_ret (v := .tuple #[.agg #[.int .i64 t, .int .i64 r, .slice a' (m + 1) c', .int .i64 (n + 1)], .bool false, .int .i64 0]) (by simp [results, Tryz.results12, go_sem, *]) rfl ⟨a', c', by rw [hn.out], ?_⟩
      unfold vq
      rw [List.length_append, hn.out, show qcells (l ++ [(⟨id0, t0, 0, mo, n + 1⟩ : Rq)]) = qcells l ++ _ from by unfold qcells; rw [List.flatMap_append]]
      exact (hZ.bring 2 rfl).drop1.drop1.drop1
set_option maxHeartbeats 4000000 in
set_option maxRecDepth 100000 in
theorem askR_wait3 (t r n : Int) (v : Value) (l : List Rq) (id0 t0 mo : Int) (w : World) (hv : RQ w v l) (hl : l.length ≤ 1000) (h0 : ¬ id0 < 0) (ha : askedB mo = true) (hc : l.any (fun q => q.id == id0 || q.txn == t0) = false) (hu : bestK l l.length < 0) (hw : idxF (fun q : Rq => q.mode == 0) l 0 < 0) (hm : l.any (fitsP ⟨id0, t0, 0, mo, 0⟩) = true) (hn0 : 0 ≤ n) (hn1 : n ≤ 4611686018427387904) :
    Calls Tryz.prog 12 #[hval t r v n, .int .i64 id0, .int .i64 t0, .int .i64 mo] w fun e w' => ∃ a c, e = .returned (.tuple #[hval t r (.slice a (l.length + 1) c) (n + 1), .bool false, .int .i64 0]) ∧ Sep w' [vq (.slice a (l.length + 1) c) (l ++ [⟨id0, t0, 0, mo, n + 1⟩]), old w] := by
  have hB := boxes2R w 26 26 #[.int .i64 t, .int .i64 r, v, .int .i64 n] #[.int .i64 0, .int .i64 0, .slice none 0 0, .int .i64 0]
  have HA := Lib.hid (fun W => askedR_any mo W)
  rw [ha] at HA
  have d0 : decide (id0 < 0) = false := decide_eq_false h0
  have hfit := Lib.hid (fits_new l id0 t0 mo hc)
  rw [hm] at hfit
  have du : decide (bestK l l.length < 0) = true := decide_eq_true hu
  have dw : decide (idxF (fun q : Rq => q.mode == 0) l 0 < 0) = true := decide_eq_true hw
  have hv2 := Lib.hid hv
  obtain ⟨a, c, rfl, hlc, _, hr⟩ := hv
  replace hB := Lib.hid hB
  replace hr := Lib.hid hr
  replace hlc := Lib.hid hlc
  replace hc := Lib.hid hc
  unfold hval
  clear ha h0
  go_enter Tryz.func12, Tryz.ntmps12
  go_wp2_with fail
  refine (HA.out _).mono ?_
  rintro e w1 ⟨rfl, rfl⟩
  clear HA
  go_wp2_with fail
  generalize hn : l.length = m at *
  replace hn := Lib.hid hn
  go_loopg [11] m (fun g i wr => ∃ k : Nat, k ≤ m ∧ g = m - k ∧ i = .int .i64 k ∧ Hid (∀ j, j < k → ((l.getD j default).id == id0 || (l.getD j default).txn == t0) = false) ∧ Hid (Sep wr [blk (w.heap.size + 1) 26 #[.int .i64 0, .int .i64 0, .slice none 0 0, .int .i64 0], blk w.heap.size 26 #[.int .i64 t, .int .i64 r, .slice a m c, .int .i64 n], old w]))
  case atStart => exact ⟨0, Nat.zero_le _, rfl, rfl, Lib.hid (fun j hj => absurd hj (by omega)), hB⟩
  case round =>
    clear hB
    obtain ⟨k, hk, hg, rfl, he, hS⟩ := hrel
    obtain ⟨x1, b0, b1, b2, b3, _⟩ := hS.out.to1.b4
    obtain ⟨x2, e0, e1, e2, e3, f0, f1, f2, f3⟩ := hS.out.b4
    by_cases hlt : k < m
    · obtain ⟨b, off, rfl, hbl, hz⟩ := hr.out (by omega)
      have z0 := (hz k hlt).1
      have z1 := (hz k hlt).2.1
      rw [← hS.out.tail.tail.gold.cell (by exact hbl)] at z0 z1
      have hek : Hid (((l.getD k default).id == id0 || (l.getD k default).txn == t0) = false → ∀ j, j < k + 1 → ((l.getD j default).id == id0 || (l.getD j default).txn == t0) = false) := Lib.hid (fun h j hj => by
        rcases Nat.lt_succ_iff_lt_or_eq.1 hj with h1 | rfl
        · exact he.out j h1
        · exact h)
      have hmem := Lib.hid (getD_mem l k (by rw [hn.out]; exact hlt))
      clear hz
      generalize l.getD k default = q at *
      have i1 : (0 : Int) ≤ (k : Int) := by omega
      have i2 : (k : Int) < (m : Int) := by omega
      cases hq1 : q.id == id0 with
      | true =>
        exact absurd (List.any_eq_false.1 hc.out q hmem.out) (by simp [hq1])
      | false =>
        cases hq2 : q.txn == t0 with
        | true =>
          exact absurd (List.any_eq_false.1 hc.out q hmem.out) (by simp [hq1, hq2])
        | false =>
          have hek2 := Lib.hid (hek.out (by rw [hq1, hq2]; rfl))
          clear hek he
          go_wp2_with fail
          go_roundg (m - (k + 1))
          case measure => omega
          case rel => exact ⟨k + 1, by omega, rfl, by go_num, hek2, hS⟩
    · have hk2 : k = m := by omega
      clear he hc
      have HO := Lib.hid (fun W hb => copied_any t r n (.slice a m c) l W (hv2.out.below hb) (by rw [hn.out]; exact hl))
      unfold hval at HO
      clear hr hlc
      go_wp2_with fail
      refine (HO.out _ hS.out.tail.tail.gold).mono ?_
      rintro e w3 ⟨a1, c1, rfl, q⟩
      have hS1 := (q.graft hS.out).alloc #[.int .i64 t, .int .i64 r, .slice a1 l.length c1, .int .i64 n] 26
      clear q HO b0 b1 b2 b3 e0 e1 e2 e3 f0 f1 f2 f3 hS x1 x2
      rw [hn.out] at hS1 ⊢
      have hS2 := Lib.hid (show Sep _ [vq (.slice a1 m c1) l, blk w3.heap.size 26 #[.int .i64 t, .int .i64 r, .slice a1 m c1, .int .i64 n], blk (w.heap.size + 1) 26 #[.int .i64 0, .int .i64 0, .slice none 0 0, .int .i64 0], blk w.heap.size 26 #[.int .i64 t, .int .i64 r, .slice a m c, .int .i64 n], old w] from hS1.to1)
      clear hS1
      obtain ⟨_, b0, b1, b2, b3, _⟩ := (hS2.out.bring 3 rfl).b4
      have HU := Lib.hid (fun W hb => upgrading_any t r n (.slice a m c) l W (hv2.out.below hb) (by rw [hn.out]; exact hl))
      have HW := Lib.hid (fun W hb => waiting_any t r n (.slice a m c) l W (hv2.out.below hb) (by rw [hn.out]; exact hl))
      have HF := Lib.hid (fun W hb => fitsR_any t r n (.slice a m c) l mo (-1) W (hv2.out.below hb) (by rw [hn.out]; exact hl))
      unfold hval at HU HW HF
      simp only [hn.out] at HU HF
      rw [hfit.out] at HF
      go_wp2_with fail
      refine (HU.out _ (hS2.out.bring 4 rfl).gold).mono ?_
      rintro e w4 ⟨rfl, q⟩
      replace hS2 := Lib.hid (hS2.out.below q)
      clear q HU b0 b1 b2 b3
      obtain ⟨_, b0, b1, b2, b3, _⟩ := (hS2.out.bring 3 rfl).b4
      obtain ⟨_, p0, p1, p2, p3, g0, g1, g2, g3⟩ := (hS2.out.bring 1 rfl).b4
      obtain ⟨_, e0, e1, e2, e3, f0, f1, f2, f3⟩ := (hS2.out.bring 2 rfl).b4
      have ne1 := ((hS2.out.bring 1 rfl).to1.tail).to1.blk_ne
      have ne2 := ne1.symm
      go_wp2_with fail
      refine (HW.out _ (hS2.out.bring 4 rfl).gold).mono ?_
      rintro e w5 ⟨rfl, q⟩
      replace hS2 := Lib.hid (hS2.out.below q)
      clear q HW b0 b1 b2 b3 p0 p1 p2 p3 g0 g1 g2 g3 e0 e1 e2 e3 f0 f1 f2 f3
      obtain ⟨_, b0, b1, b2, b3, _⟩ := (hS2.out.bring 3 rfl).b4
      obtain ⟨_, p0, p1, p2, p3, g0, g1, g2, g3⟩ := (hS2.out.bring 1 rfl).b4
      obtain ⟨_, e0, e1, e2, e3, f0, f1, f2, f3⟩ := (hS2.out.bring 2 rfl).b4
      go_wp2_with fail
      refine (HF.out _ (hS2.out.bring 4 rfl).gold).mono ?_
      rintro e w6 ⟨rfl, q⟩
      replace hS2 := Lib.hid (hS2.out.below q)
      clear q HF b0 b1 b2 b3 p0 p1 p2 p3 g0 g1 g2 g3 e0 e1 e2 e3 f0 f1 f2 f3
      obtain ⟨_, b0, b1, b2, b3, _⟩ := (hS2.out.bring 3 rfl).b4
      obtain ⟨_, p0, p1, p2, p3, g0, g1, g2, g3⟩ := (hS2.out.bring 1 rfl).b4
      obtain ⟨_, e0, e1, e2, e3, f0, f1, f2, f3⟩ := (hS2.out.bring 2 rfl).b4
      obtain ⟨i0, hi0, hz0, hz1, hz2⟩ := info_parts info_req
      have h1 : Hid (∀ u ∈ ([.int .i64 id0, .int .i64 t0, .int .i64 0, .int .i64 mo, .int .i64 (n + 1)] : List Value), u.oneCell' = true) := Lib.hid (by simp [Value.oneCell'])
      have hS4 := (hS2.out.bring 1 rfl).set 3 (.int .i64 (n + 1))
      replace hS3 := Lib.hid (show Sep _ [vq (.slice a1 m c1) l, blk w3.heap.size 26 #[.int .i64 t, .int .i64 r, .slice a1 m c1, .int .i64 (n + 1)], blk (w.heap.size + 1) 26 #[.int .i64 0, .int .i64 0, .slice none 0 0, .int .i64 0], blk w.heap.size 26 #[.int .i64 t, .int .i64 r, .slice a m c, .int .i64 n], old w] from hS4.to1.allocG (.cells #[.int .i64 id0, .int .i64 t0, .int .i64 0, .int .i64 mo, .int .i64 (n + 1)] 42))
      clear hS4
      have hsrc := SrcA.cells (w6.setCell ⟨w3.heap.size, 3, none⟩ (.int .i64 (n + 1))) #[.int .i64 id0, .int .i64 t0, .int .i64 0, .int .i64 mo, .int .i64 (n + 1)] 42 1
      rw [World.size_setCell] at hsrc
      replace hsrc := Lib.hid hsrc
      have hml := Lib.hid (show m ≤ 1000 from hl)
      go_wp2_with (at_builtin; refine wpList_append_sep (show Sep _ (vec 42 5 (.slice a1 m c1) m (qcells l) :: _) from vq_vec hn.out hS3.out) rfl _ _ 24 rfl i0 _ 40 Tryz.underlying24 hi0 hz0 hz1 hz2 rfl (by decide) rfl 1 _ hsrc.out h1.out (by have := hml.out; simp only [maxLen]; omega) (by have := hml.out; omega) ?_; intro a' c' w7 q; have hS5 := Lib.hid q; clear q b0 b1 b2 b3 p0 p1 p2 p3 g0 g1 g2 g3 e0 e1 e2 e3 f0 f1 f2 f3; obtain ⟨_, p0, p1, p2, p3, g0, g1, g2, g3⟩ := (hS5.out.bring 1 rfl).b4; obtain ⟨_, e0, e1, e2, e3, f0, f1, f2, f3⟩ := (hS5.out.bring 2 rfl).b4)
      have hS6 := (hS5.out.bring 1 rfl).set 2 (.slice a' (m + 1) c')
      have hZ := ((((hS6.bring 2 rfl).set 0 (.int .i64 t)).set 1 (.int .i64 r)).set 2 (.slice a' (m + 1) c')).set 3 (.int .i64 (n + 1))
      refine bodyPost_ret (v := .tuple #[.agg #[.int .i64 t, .int .i64 r, .slice a' (m + 1) c', .int .i64 (n + 1)], .bool false, .int .i64 0]) (by simp [results, Tryz.results12, go_sem, *]) rfl ⟨a', c', by rw [hn.out], ?_⟩
      unfold vq
      rw [List.length_append, hn.out, show qcells (l ++ [(⟨id0, t0, 0, mo, n + 1⟩ : Rq)]) = qcells l ++ _ from by unfold qcells; rw [List.flatMap_append]]
      exact (hZ.bring 2 rfl).drop1.drop1.drop1
end Go.Proofs.YtmacpjnkmkaloaaGreat
namespace Go.Proofs.YtmacpjnkmkaloaaGreat
set_option linter.unusedSimpArgs false
set_option linter.unusedVariables false
set_option linter.unnecessarySimpa false
open Go.RowKit
def handP (id0 t0 : Int) (q : Rq) : Bool := q.id != id0 && q.txn == t0
theorem hand1 (id0 t0 : Int) (B C : Nat) (w : World) (hB : B < w.heap.size) (hc : w.cell? ⟨B, 0, none⟩ = some (.int .i64 id0)) (hC : C < w.heap.size) (hd : w.cell? ⟨C, 0, none⟩ = some (.int .i64 t0)) :
    PredQ 61 #[.pointer (some ⟨B, 0, none⟩), .pointer (some ⟨C, 0, none⟩)] (handP id0 t0) w := fun W r hb => by
  have c := (hb.cell (p := ⟨B, 0, none⟩) hB).trans hc
  have d := (hb.cell (p := ⟨C, 0, none⟩) hC).trans hd
  have hs := hb.size
  have hl := Nat.lt_of_lt_of_le hB hs
  have hl' := Nat.lt_of_lt_of_le hC hs
  obtain ⟨id, txn, mode, want, since⟩ := r
  show Calls Tryz.prog 61 #[.agg #[.int .i64 id, .int .i64 txn, .int .i64 mode, .int .i64 want, .int .i64 since], .pointer (some ⟨B, 0, none⟩), .pointer (some ⟨C, 0, none⟩)] W _
  unfold handP
  clear hb hc hd
  cases h1 : id != id0 with
  | true =>
    go_enter Tryz.func61, Tryz.ntmps61
    go_wp2
    go_ret
    exact ⟨by simp_all, (Below.refl _ _).alloc (Nat.le_refl _) _⟩
  | false =>
    go_enter Tryz.func61, Tryz.ntmps61
    go_wp2
    go_ret
    exact ⟨by simp_all, (Below.refl _ _).alloc (Nat.le_refl _) _⟩
theorem eg_hand : ∀ args w, (callFunc 61 args).run Tryz.prog w = .ok (.enter 61 args) w := enters_of Tryz.func61 (by kernel_rfl) rfl
set_option maxHeartbeats 1000000 in
theorem hand_none (t r n : Int) (v : Value) (l : List Rq) (id0 t0 : Int) (w : World) (hv : RQ w v l) (hl : l.length ≤ 1000) (hi : plc l id0 = -1) :
    Calls Tryz.prog 19 #[hval t r v n, .int .i64 id0, .int .i64 t0] w fun e w' => e = .returned (.tuple #[zhd, .int .i64 5]) ∧ Below w.heap.size w w' := by
  have hB := Lib.hid (boxes4 w 26 3 3 26 #[.int .i64 t, .int .i64 r, v, .int .i64 n] #[.int .i64 id0] #[.int .i64 t0] #[.int .i64 0, .int .i64 0, .slice none 0 0, .int .i64 0])
  have HO := Lib.hid (own_any t r n v l _ (hv.below hB.out.tail.tail.tail.tail.gold) hl)
  obtain ⟨a, c, rfl, _⟩ := hv
  unfold hval at *
  go_enter Tryz.func19, Tryz.ntmps19
  go_wp2_with fail
  refine HO.out.mono ?_
  rintro e w1 ⟨a1, c1, rfl, hS⟩
  have hS2 := (hS.graft hB.out).alloc #[.int .i64 t, .int .i64 r, .slice a1 l.length c1, .int .i64 n] 62
  have HP := Lib.hid (place_any t r n (.slice a1 l.length c1) l id0 _ hS2.to1.vq_rq hl)
  rw [show idxF (fun q : Rq => q.id == id0) l 0 = _ from hi] at HP
  unfold hval at HP
  obtain ⟨y1, d0, d1, d2, d3, g0, g1, g2, g3⟩ := hS2.b4
  obtain ⟨_, x4, _⟩ := hS2.to4.b1
  replace hS2 := Lib.hid hS2
  clear hS HO hB
  go_wp2_with fail
  refine HP.out.mono ?_
  rintro e w2 ⟨rfl, b2⟩
  replace hS2 := Lib.hid (hS2.out.below b2)
  clear b2 HP y1 d0 d1 d2 d3 g0 g1 g2 g3 x4
  generalize w1.heap.size = V at *
  obtain ⟨z1, k0, k1, k2, k3, m0, m1, m2, m3⟩ := hS2.out.to2.b4
  go_wp2_with fail
  refine bodyPost_ret (v := .tuple #[.agg #[.int .i64 0, .int .i64 0, .slice none 0 0, .int .i64 0], .int .i64 5]) (by simp [results, Tryz.results19, go_sem, *]) rfl ⟨rfl, ?_⟩
  exact ((((hS2.out.to2.set 0 (.int .i64 0)).set 1 (.int .i64 0)).set 2 (.slice none 0 0)).set 3 (.int .i64 0)).tail.tail.tail.tail.tail.tail.gold
set_option maxHeartbeats 1000000 in
theorem hand_twice (t r n : Int) (v : Value) (l : List Rq) (id0 t0 : Int) (w : World) (hv : RQ w v l) (hl : l.length ≤ 1000) (i : Nat) (hi : plc l id0 = i) (hil : i < l.length) (hc : l.any (handP id0 t0) = true) :
    Calls Tryz.prog 19 #[hval t r v n, .int .i64 id0, .int .i64 t0] w fun e w' => e = .returned (.tuple #[zhd, .int .i64 4]) ∧ Below w.heap.size w w' := by
  have hB := Lib.hid (boxes4 w 26 3 3 26 #[.int .i64 t, .int .i64 r, v, .int .i64 n] #[.int .i64 id0] #[.int .i64 t0] #[.int .i64 0, .int .i64 0, .slice none 0 0, .int .i64 0])
  have HO := Lib.hid (own_any t r n v l _ (hv.below hB.out.tail.tail.tail.tail.gold) hl)
  have i1 : (0 : Int) ≤ (i : Int) := by omega
  have i2 : (i : Int) < (l.length : Int) := by omega
  have d : decide ((i : Int) < 0) = false := by rw [decide_eq_false_iff_not]; omega
  have eg := eg_hand
  obtain ⟨a, c, rfl, _⟩ := hv
  unfold hval at *
  go_enter Tryz.func19, Tryz.ntmps19
  go_wp2_with fail
  refine HO.out.mono ?_
  rintro e w1 ⟨a1, c1, rfl, hS⟩
  have hS2 := (hS.graft hB.out).alloc #[.int .i64 t, .int .i64 r, .slice a1 l.length c1, .int .i64 n] 62
  have HP := Lib.hid (place_any t r n (.slice a1 l.length c1) l id0 _ hS2.to1.vq_rq hl)
  rw [show idxF (fun q : Rq => q.id == id0) l 0 = _ from hi] at HP
  unfold hval at HP
  obtain ⟨y1, d0, d1, d2, d3, g0, g1, g2, g3⟩ := hS2.b4
  obtain ⟨_, x4, _⟩ := hS2.to4.b1
  replace hS2 := Lib.hid hS2
  clear hS HO hB
  go_wp2_with fail
  refine HP.out.mono ?_
  rintro e w2 ⟨rfl, b2⟩
  replace hS2 := Lib.hid (hS2.out.below b2)
  clear b2 HP y1 d0 d1 d2 d3 g0 g1 g2 g3 x4
  generalize w1.heap.size = V at *
  obtain ⟨y1, d0, d1, d2, d3, g0, g1, g2, g3⟩ := hS2.out.b4
  have HC := Lib.hid (contains_any (.slice a1 l.length c1) l 61 #[.pointer (some ⟨w.heap.size + 1, 0, none⟩), .pointer (some ⟨w.heap.size + 1 + 1, 0, none⟩)] (handP id0 t0) w2 hS2.out.to1.vq_rq hl
    (hand1 id0 t0 (w.heap.size + 1) (w.heap.size + 1 + 1) _ hS2.out.to4.gblk.lt (hS2.out.to4.gblk.cell 0) hS2.out.to3.gblk.lt (hS2.out.to3.gblk.cell 0)) eg_hand)
  rw [hc] at HC
  clear hc
  go_wp2_with fail
  refine HC.out.mono ?_
  rintro e w3 ⟨rfl, b3⟩
  replace hS2 := Lib.hid (hS2.out.below b3)
  clear b3 HC y1 d0 d1 d2 d3 g0 g1 g2 g3
  obtain ⟨z1, k0, k1, k2, k3, m0, m1, m2, m3⟩ := hS2.out.to2.b4
  go_wp2_with fail
  refine bodyPost_ret (v := .tuple #[.agg #[.int .i64 0, .int .i64 0, .slice none 0 0, .int .i64 0], .int .i64 4]) (by simp [results, Tryz.results19, go_sem, *]) rfl ⟨rfl, ?_⟩
  exact ((((hS2.out.to2.set 0 (.int .i64 0)).set 1 (.int .i64 0)).set 2 (.slice none 0 0)).set 3 (.int .i64 0)).tail.tail.tail.tail.tail.tail.gold
set_option maxHeartbeats 1000000 in
theorem hand_state (t r n : Int) (v : Value) (l : List Rq) (id0 t0 : Int) (w : World) (hv : RQ w v l) (hl : l.length ≤ 1000) (i : Nat) (hi : plc l id0 = i) (hil : i < l.length) (hc : l.any (handP id0 t0) = false) (hs : decide (0 < (l.getD i default).since) = true) :
    Calls Tryz.prog 19 #[hval t r v n, .int .i64 id0, .int .i64 t0] w fun e w' => e = .returned (.tuple #[zhd, .int .i64 7]) ∧ Below w.heap.size w w' := by
  have hB := Lib.hid (boxes4 w 26 3 3 26 #[.int .i64 t, .int .i64 r, v, .int .i64 n] #[.int .i64 id0] #[.int .i64 t0] #[.int .i64 0, .int .i64 0, .slice none 0 0, .int .i64 0])
  have HO := Lib.hid (own_any t r n v l _ (hv.below hB.out.tail.tail.tail.tail.gold) hl)
  have i1 : (0 : Int) ≤ (i : Int) := by omega
  have i2 : (i : Int) < (l.length : Int) := by omega
  have d : decide ((i : Int) < 0) = false := by rw [decide_eq_false_iff_not]; omega
  have eg := eg_hand
  obtain ⟨a, c, rfl, _⟩ := hv
  unfold hval at *
  go_enter Tryz.func19, Tryz.ntmps19
  go_wp2_with fail
  refine HO.out.mono ?_
  rintro e w1 ⟨a1, c1, rfl, hS⟩
  have hS2 := (hS.graft hB.out).alloc #[.int .i64 t, .int .i64 r, .slice a1 l.length c1, .int .i64 n] 62
  have HP := Lib.hid (place_any t r n (.slice a1 l.length c1) l id0 _ hS2.to1.vq_rq hl)
  rw [show idxF (fun q : Rq => q.id == id0) l 0 = _ from hi] at HP
  unfold hval at HP
  obtain ⟨y1, d0, d1, d2, d3, g0, g1, g2, g3⟩ := hS2.b4
  obtain ⟨_, x4, _⟩ := hS2.to4.b1
  replace hS2 := Lib.hid hS2
  clear hS HO hB
  go_wp2_with fail
  refine HP.out.mono ?_
  rintro e w2 ⟨rfl, b2⟩
  replace hS2 := Lib.hid (hS2.out.below b2)
  clear b2 HP y1 d0 d1 d2 d3 g0 g1 g2 g3 x4
  generalize w1.heap.size = V at *
  obtain ⟨y1, d0, d1, d2, d3, g0, g1, g2, g3⟩ := hS2.out.b4
  have HC := Lib.hid (contains_any (.slice a1 l.length c1) l 61 #[.pointer (some ⟨w.heap.size + 1, 0, none⟩), .pointer (some ⟨w.heap.size + 1 + 1, 0, none⟩)] (handP id0 t0) w2 hS2.out.to1.vq_rq hl
    (hand1 id0 t0 (w.heap.size + 1) (w.heap.size + 1 + 1) _ hS2.out.to4.gblk.lt (hS2.out.to4.gblk.cell 0) hS2.out.to3.gblk.lt (hS2.out.to3.gblk.cell 0)) eg_hand)
  rw [hc] at HC
  clear hc
  go_wp2_with fail
  refine HC.out.mono ?_
  rintro e w3 ⟨rfl, b3⟩
  replace hS2 := Lib.hid (hS2.out.below b3)
  clear b3 HC y1 d0 d1 d2 d3 g0 g1 g2 g3
  obtain ⟨g, rfl, hgl, hmc, q0, q1, q2, q3, q4, hfz⟩ := hS2.out.to1.vq_at rfl hil
  obtain ⟨y1, d0, d1, d2, d3, g0, g1, g2, g3⟩ := hS2.out.b4
  have HW := Lib.hid (fun W => waits_any (l.getD i default) W)
  rw [hs] at HW
  generalize hq : l.getD i default = q at *
  replace hq := Lib.hid hq
  obtain ⟨id, txn, mode, want, since⟩ := q
  unfold Rq.val at HW
  simp only at q0 q1 q2 q3 q4 HW
  go_wp2_with fail
  refine (HW.out _).mono ?_
  rintro e w4 ⟨rfl, b4⟩
  replace hS2 := Lib.hid (hS2.out.below b4)
  clear b4 HW q0 q1 q2 q3 q4 hfz y1 d0 d1 d2 d3 g0 g1 g2 g3 hgl
  obtain ⟨z1, k0, k1, k2, k3, m0, m1, m2, m3⟩ := hS2.out.to2.b4
  go_wp2_with fail
  refine bodyPost_ret (v := .tuple #[.agg #[.int .i64 0, .int .i64 0, .slice none 0 0, .int .i64 0], .int .i64 7]) (by simp [results, Tryz.results19, go_sem, *]) rfl ⟨rfl, ?_⟩
  exact ((((hS2.out.to2.set 0 (.int .i64 0)).set 1 (.int .i64 0)).set 2 (.slice none 0 0)).set 3 (.int .i64 0)).tail.tail.tail.tail.tail.tail.gold
set_option maxHeartbeats 1000000 in
theorem hand_ok (t r n : Int) (v : Value) (l : List Rq) (id0 t0 : Int) (w : World) (hv : RQ w v l) (hl : l.length ≤ 1000) (i : Nat) (hi : plc l id0 = i) (hil : i < l.length)  (hc : l.any (handP id0 t0) = false) (hs : decide (0 < (l.getD i default).since) = false) :
    Calls Tryz.prog 19 #[hval t r v n, .int .i64 id0, .int .i64 t0] w fun e w' => ∃ a c, e = .returned (.tuple #[hval t r (.slice a l.length c) n, .int .i64 0]) ∧ Sep w' [vq (.slice a l.length c) (l.set i { l.getD i default with txn := t0 }), old w] := by
  obtain ⟨R, hR⟩ : ∃ R, (l.set i { l.getD i default with txn := t0 }) = R := ⟨_, rfl⟩
  rw [hR]
  replace hR := Lib.hid hR
  have hB := Lib.hid (boxes4 w 26 3 3 26 #[.int .i64 t, .int .i64 r, v, .int .i64 n] #[.int .i64 id0] #[.int .i64 t0] #[.int .i64 0, .int .i64 0, .slice none 0 0, .int .i64 0])
  have HO := Lib.hid (own_any t r n v l _ (hv.below hB.out.tail.tail.tail.tail.gold) hl)
  have i1 : (0 : Int) ≤ (i : Int) := by omega
  have i2 : (i : Int) < (l.length : Int) := by omega
  have d : decide ((i : Int) < 0) = false := by rw [decide_eq_false_iff_not]; omega
  have eg := eg_hand
  obtain ⟨a, c, rfl, _⟩ := hv
  unfold hval at *
  go_enter Tryz.func19, Tryz.ntmps19
  go_wp2_with fail
  refine HO.out.mono ?_
  rintro e w1 ⟨a1, c1, rfl, hS⟩
  have hS2 := (hS.graft hB.out).alloc #[.int .i64 t, .int .i64 r, .slice a1 l.length c1, .int .i64 n] 62
  have HP := Lib.hid (place_any t r n (.slice a1 l.length c1) l id0 _ hS2.to1.vq_rq hl)
  rw [show idxF (fun q : Rq => q.id == id0) l 0 = _ from hi] at HP
  unfold hval at HP
  obtain ⟨y1, d0, d1, d2, d3, g0, g1, g2, g3⟩ := hS2.b4
  obtain ⟨_, x4, _⟩ := hS2.to4.b1
  replace hS2 := Lib.hid hS2
  clear hS HO hB
  go_wp2_with fail
  refine HP.out.mono ?_
  rintro e w2 ⟨rfl, b2⟩
  replace hS2 := Lib.hid (hS2.out.below b2)
  clear b2 HP y1 d0 d1 d2 d3 g0 g1 g2 g3 x4
  generalize w1.heap.size = V at *
  obtain ⟨y1, d0, d1, d2, d3, g0, g1, g2, g3⟩ := hS2.out.b4
  have HC := Lib.hid (contains_any (.slice a1 l.length c1) l 61 #[.pointer (some ⟨w.heap.size + 1, 0, none⟩), .pointer (some ⟨w.heap.size + 1 + 1, 0, none⟩)] (handP id0 t0) w2 hS2.out.to1.vq_rq hl
    (hand1 id0 t0 (w.heap.size + 1) (w.heap.size + 1 + 1) _ hS2.out.to4.gblk.lt (hS2.out.to4.gblk.cell 0) hS2.out.to3.gblk.lt (hS2.out.to3.gblk.cell 0)) eg_hand)
  rw [hc] at HC
  clear hc
  go_wp2_with fail
  refine HC.out.mono ?_
  rintro e w3 ⟨rfl, b3⟩
  replace hS2 := Lib.hid (hS2.out.below b3)
  clear b3 HC y1 d0 d1 d2 d3 g0 g1 g2 g3
  obtain ⟨g, rfl, hgl, hmc, q0, q1, q2, q3, q4, hfz⟩ := hS2.out.to1.vq_at rfl hil
  obtain ⟨y1, d0, d1, d2, d3, g0, g1, g2, g3⟩ := hS2.out.b4
  have HW := Lib.hid (fun W => waits_any (l.getD i default) W)
  rw [hs] at HW
  generalize hq : l.getD i default = q at *
  replace hq := Lib.hid hq
  obtain ⟨id, txn, mode, want, since⟩ := q
  unfold Rq.val at HW
  simp only at q0 q1 q2 q3 q4 HW
  go_wp2_with fail
  refine (HW.out _).mono ?_
  rintro e w4 ⟨rfl, b4⟩
  replace hS2 := Lib.hid (hS2.out.below b4)
  clear b4 HW q0 q1 q2 q3 q4 hfz y1 d0 d1 d2 d3 g0 g1 g2 g3 hgl
  obtain ⟨g', hg', hgl, _, q0, q1, q2, q3, q4, hfz⟩ := hS2.out.to1.vq_at rfl hil
  injection hg' with hg'
  injection hg' with hg'
  subst hg'
  rw [hq.out] at q0 q1 q2 q3 q4
  simp only at q0 q1 q2 q3 q4
  obtain ⟨y1, d0, d1, d2, d3, g0, g1, g2, g3⟩ := hS2.out.b4
  obtain ⟨_, x4, _⟩ := hS2.out.to3.b1
  obtain ⟨x1, e0, e1, e2, e3, f0, f1, f2, f3⟩ := hS2.out.to2.b4
  have z1 := hfz (i * 5 + 1)
  have n1 := hS2.out.to1.vq_ne rfl
  have n2 := n1.symm
  have n3 := hS2.out.to2.to2.vq_ne rfl
  have n4 := n3.symm
  have n5 := hS2.out.drop1.blk_ne
  have n6 := n5.symm
  go_wp2_with fail
  refine bodyPost_ret (v := .tuple #[.agg #[.int .i64 t, .int .i64 r, .slice (some ⟨g, 0, none⟩) l.length c1, .int .i64 n], .int .i64 0]) (by simp [results, Tryz.results19, go_sem, *]) rfl ⟨some ⟨g, 0, none⟩, c1, rfl, ?_⟩
  have hS3 := hS2.out.to1.vq_setF rfl hil (f := 1) (by omega) (.int .i64 t0) ⟨id, t0, mode, want, since⟩ (by rw [hq.out]; rfl)
  have e5 : (l.set i (⟨id, t0, mode, want, since⟩ : Rq)) = R := by
    exact hR.out
  rw [e5] at hS3
  exact (((((hS3.to2.set 0 (.int .i64 t)).set 1 (.int .i64 r)).set 2 (.slice (some ⟨g, 0, none⟩) l.length c1)).set 3 (.int .i64 n)).tail.drop1.drop1.drop1.drop1)
end Go.Proofs.YtmacpjnkmkaloaaGreat
