/-
  Contracts and plain laws that the walk leans on, part 8. No condition.
-/
import Derived.Test.YtcnkmhfcgkbhbaaZNm7
namespace Go.Proofs.Ytcnkmhfcgkbhbaa
set_option linter.unusedSimpArgs false
set_option linter.unusedVariables false
set_option linter.unnecessarySimpa false
open Go.RowKit
set_option maxHeartbeats 2000000 in
theorem sameE_true (u v : Value) (L : List Ed) (w : World) (hn : L.length ≤ 100000) (hu : RL w u 2 L.length (L.flatMap Ed.cells)) (hv : RL w v 2 L.length (L.flatMap Ed.cells)) :
   Calls Try.prog 23 #[u, v] w fun e w' => e = .returned (.bool true) ∧ ∃ m, w' = w.drewN m := by
  have HU := Lib.hid hu
  have HV := Lib.hid hv
  obtain ⟨_, a, c, rfl, _⟩ := hu
  obtain ⟨_, a', c', rfl, _⟩ := hv
  obtain ⟨n, hl⟩ : ∃ n, L.length = n := ⟨_, rfl⟩
  rw [hl] at HU HV hn ⊢
  replace hl := Lib.hid hl
  go_enter Try.func23, Try.ntmps23
  go_wp2
  go_loopw [5] (fun i w1 => ∃ k : Nat, k ≤ n ∧ i = .int .i64 k ∧ ∃ m, w1 = w.drewN m) (fun i _ => n - (intOf i).toNat)
  case atStart => exact ⟨0, Nat.zero_le _, rfl, 0, rfl⟩
  case round =>
    obtain ⟨k, hk, rfl, m, rfl⟩ := hrel
    by_cases hlt : k < n
    · obtain ⟨b, off, rfl, _, hc⟩ := cells_ed HU.out hl.out (by omega)
      obtain ⟨b', off', rfl, _, hc'⟩ := cells_ed HV.out hl.out (by omega)
      have hkl : k < L.length := by rw [hl.out]; exact hlt
      have x0 := hc k _ (List.getElem?_eq_getElem hkl) 0 _ rfl
      have x1 := hc k _ (List.getElem?_eq_getElem hkl) 1 _ rfl
      have y0 := hc' k _ (List.getElem?_eq_getElem hkl) 0 _ rfl
      have y1 := hc' k _ (List.getElem?_eq_getElem hkl) 1 _ rfl
      rw [Nat.add_zero] at x0 y0
      rw [← Nat.add_assoc] at x1 y1
      have hq := fun W => run_neq_ed L[k].from_ L[k].from_ L[k].tgt L[k].tgt W
      rw [eqB_ed_iff, decide_eq_true (And.intro rfl rfl)] at hq
      clear hc hc' HU HV
      generalize L[k] = e at *
      obtain ⟨f, t⟩ := e
      simp only at x0 x1 y0 y1 hq
      have i1 : (0 : Int) ≤ (k : Int) := by omega
      have i2 : (k : Int) < (n : Int) := by omega
      go_wp2_with fail
      go_quiet (fail)
      go_wp2_with fail
      go_roundw
      case rel => exact ⟨k+1, by omega, by go_num, _, rfl⟩
      case measure => simp [intOf]; omega
    · go_wp2
      go_ret
      exact ⟨rfl, _, rfl⟩
end Go.Proofs.Ytcnkmhfcgkbhbaa
namespace Go.Proofs.Ytcnkmhfcgkbhbaa
set_option linter.unusedSimpArgs false
set_option linter.unusedVariables false
set_option linter.unnecessarySimpa false
open Go.RowKit
theorem askedR_any (m : Int) (w : World) : Calls Try.prog 39 #[.int .i64 m] w fun e w' => e = .returned (.bool (askedB m)) ∧ w = w' := by
  have H := Lib.hid (fun W => knownR_any m W)
  unfold askedB
  cases hm : m != 0 with
  | false =>
    go_enter Try.func39, Try.ntmps39
    go_wp2_with fail
    all_goals go_ret
    all_goals exact ⟨by simp, rfl⟩
  | true =>
    go_enter Try.func39, Try.ntmps39
    go_wp2_with fail
    refine (H.out _).mono ?_
    rintro e w1 ⟨rfl, rfl⟩
    go_wp2_with fail
    all_goals go_ret
    all_goals exact ⟨by simp, rfl⟩
theorem boxes2R (w : World) (t0 t1 : TypeId) (b1 b2 : Array Value) : Sep ((w.alloc (.cells b1 t0)).alloc (.cells b2 t1)) [blk (w.heap.size + 1) t1 b2, blk w.heap.size t0 b1, old w] := by
  have := ((Sep.start w).alloc b1 t0).alloc b2 t1
  rwa [World.size_alloc] at this
theorem fits_none (l : List Rq) (id0 t0 mo : Int) (hc : l.any (fun q => q.id == id0 || q.txn == t0) = false) : ∀ k, k ≤ l.length → fitsK l mo (-1) k = !((l.take k).any (fitsP ⟨id0, t0, 0, mo, 0⟩))
  | 0, _ => by simp [fitsK]
  | k+1, hk => by
    rw [fitsK, fits_none l id0 t0 mo hc k (by omega), take_snocQ l k (by omega), List.any_append]
    have h1 := List.any_eq_false.1 hc (l.getD k default) (getD_mem l k (by omega))
    have e : decide ((k : Int) ≠ (-1 : Int)) = ((l.getD k default).id != id0) := by
      rw [Bool.eq_iff_iff]
      simp only [decide_eq_true_eq, bne_iff_ne, ne_eq]
      simp only [Bool.or_eq_true, beq_iff_eq, not_or] at h1
      exact ⟨fun _ => h1.1, fun _ h => by omega⟩
    rw [e]
    simp only [List.any_cons, List.any_nil, Bool.or_false, fitsP, Bool.not_or]
theorem fits_new (l : List Rq) (id0 t0 mo : Int) (hc : l.any (fun q => q.id == id0 || q.txn == t0) = false) : fitsK l mo (-1) l.length = !(l.any (fitsP ⟨id0, t0, 0, mo, 0⟩)) := by
  have := fits_none l id0 t0 mo hc l.length (Nat.le_refl _)
  rwa [List.take_length] at this
theorem vq_vec {w : World} {v : Value} {l : List Rq} {m : Nat} {rs : List Res} (h : l.length = m) (hS : Sep w (vq v l :: rs)) : Sep w (vec 39 5 v m (qcells l) :: rs) := by
  unfold vq at hS
  rwa [h] at hS
set_option maxHeartbeats 4000000 in
set_option maxRecDepth 100000 in
theorem askR_grant (t r n : Int) (v : Value) (l : List Rq) (id0 t0 mo : Int) (w : World) (hv : RQ w v l) (hl : l.length ≤ 1000) (h0 : ¬ id0 < 0) (ha : askedB mo = true) (hc : l.any (fun q => q.id == id0 || q.txn == t0) = false) (hu : bestK l l.length < 0) (hw : idxF (fun q : Rq => q.mode == 0) l 0 < 0) (hm : l.any (fitsP ⟨id0, t0, 0, mo, 0⟩) = false) :
    Calls Try.prog 21 #[hval t r v n, .int .i64 id0, .int .i64 t0, .int .i64 mo] w fun e w' => ∃ a c, e = .returned (.tuple #[hval t r (.slice a (l.length + 1) c) n, .bool true, .int .i64 0]) ∧ Sep w' [vq (.slice a (l.length + 1) c) (l ++ [⟨id0, t0, mo, mo, 0⟩]), old w] := by
  have hB := boxes2R w 29 29 #[.int .i64 t, .int .i64 r, v, .int .i64 n] #[.int .i64 0, .int .i64 0, .slice none 0 0, .int .i64 0]
  have HA := Lib.hid (fun W => askedR_any mo W)
  rw [ha] at HA
  have d0 : decide (id0 < 0) = false := decide_eq_false h0
  have hfit := Lib.hid (fits_new l id0 t0 mo hc)
  rw [hm] at hfit
  have du : decide (bestK l l.length < 0) = true := decide_eq_true hu
  have dw : decide (idxF (fun q : Rq => q.mode == 0) l 0 < 0) = true := decide_eq_true hw
  have hv2 := Lib.hid hv
  obtain ⟨a, c, rfl, hlc, _, hr⟩ := hv
  replace hB := Lib.hid hB
  replace hr := Lib.hid hr
  replace hlc := Lib.hid hlc
  replace hc := Lib.hid hc
  unfold hval
  clear ha h0
  go_enter Try.func21, Try.ntmps21
  go_wp2_with fail
  refine (HA.out _).mono ?_
  rintro e w1 ⟨rfl, rfl⟩
  clear HA
  go_wp2_with fail
  generalize hn : l.length = m at *
  replace hn := Lib.hid hn
  go_loopg [11] m (fun g i wr => ∃ k : Nat, k ≤ m ∧ g = m - k ∧ i = .int .i64 k ∧ Hid (∀ j, j < k → ((l.getD j default).id == id0 || (l.getD j default).txn == t0) = false) ∧ Hid (Sep wr [blk (w.heap.size + 1) 29 #[.int .i64 0, .int .i64 0, .slice none 0 0, .int .i64 0], blk w.heap.size 29 #[.int .i64 t, .int .i64 r, .slice a m c, .int .i64 n], old w]))
  case atStart => exact ⟨0, Nat.zero_le _, rfl, rfl, Lib.hid (fun j hj => absurd hj (by omega)), hB⟩
  case round =>
    clear hB
    obtain ⟨k, hk, hg, rfl, he, hS⟩ := hrel
    obtain ⟨x1, b0, b1, b2, b3, _⟩ := hS.out.to1.b4
    obtain ⟨x2, e0, e1, e2, e3, f0, f1, f2, f3⟩ := hS.out.b4
    by_cases hlt : k < m
    · obtain ⟨b, off, rfl, hbl, hz⟩ := hr.out (by omega)
      have z0 := (hz k hlt).1
      have z1 := (hz k hlt).2.1
      rw [← hS.out.tail.tail.gold.cell (by exact hbl)] at z0 z1
      have hek : Hid (((l.getD k default).id == id0 || (l.getD k default).txn == t0) = false → ∀ j, j < k + 1 → ((l.getD j default).id == id0 || (l.getD j default).txn == t0) = false) := Lib.hid (fun h j hj => by
        rcases Nat.lt_succ_iff_lt_or_eq.1 hj with h1 | rfl
        · exact he.out j h1
        · exact h)
      have hmem := Lib.hid (getD_mem l k (by rw [hn.out]; exact hlt))
      clear hz
      generalize l.getD k default = q at *
      have i1 : (0 : Int) ≤ (k : Int) := by omega
      have i2 : (k : Int) < (m : Int) := by omega
      cases hq1 : q.id == id0 with
      | true =>
        exact absurd (List.any_eq_false.1 hc.out q hmem.out) (by simp [hq1])
      | false =>
        cases hq2 : q.txn == t0 with
        | true =>
          exact absurd (List.any_eq_false.1 hc.out q hmem.out) (by simp [hq1, hq2])
        | false =>
          have hek2 := Lib.hid (hek.out (by rw [hq1, hq2]; rfl))
          clear hek he
          go_wp2_with fail
          go_roundg (m - (k + 1))
          case measure => omega
          case rel => exact ⟨k + 1, by omega, rfl, by go_num, hek2, hS⟩
    · have hk2 : k = m := by omega
      clear he hc
      have HO := Lib.hid (fun W hb => copied_any t r n (.slice a m c) l W (hv2.out.below hb) (by rw [hn.out]; exact hl))
      unfold hval at HO
      clear hr hlc
      go_wp2_with fail
      refine (HO.out _ hS.out.tail.tail.gold).mono ?_
      rintro e w3 ⟨a1, c1, rfl, q⟩
      have hS1 := (q.graft hS.out).alloc #[.int .i64 t, .int .i64 r, .slice a1 l.length c1, .int .i64 n] 29
      clear q HO b0 b1 b2 b3 e0 e1 e2 e3 f0 f1 f2 f3 hS x1 x2
      rw [hn.out] at hS1 ⊢
      have hS2 := Lib.hid (show Sep _ [vq (.slice a1 m c1) l, blk w3.heap.size 29 #[.int .i64 t, .int .i64 r, .slice a1 m c1, .int .i64 n], blk (w.heap.size + 1) 29 #[.int .i64 0, .int .i64 0, .slice none 0 0, .int .i64 0], blk w.heap.size 29 #[.int .i64 t, .int .i64 r, .slice a m c, .int .i64 n], old w] from hS1.to1)
      clear hS1
      obtain ⟨_, b0, b1, b2, b3, _⟩ := (hS2.out.bring 3 rfl).b4
      have HU := Lib.hid (fun W hb => upgrading_any t r n (.slice a m c) l W (hv2.out.below hb) (by rw [hn.out]; exact hl))
      have HW := Lib.hid (fun W hb => waiting_any t r n (.slice a m c) l W (hv2.out.below hb) (by rw [hn.out]; exact hl))
      have HF := Lib.hid (fun W hb => fitsR_any t r n (.slice a m c) l mo (-1) W (hv2.out.below hb) (by rw [hn.out]; exact hl))
      unfold hval at HU HW HF
      simp only [hn.out] at HU HF
      rw [hfit.out] at HF
      go_wp2_with fail
      refine (HU.out _ (hS2.out.bring 4 rfl).gold).mono ?_
      rintro e w4 ⟨rfl, q⟩
      replace hS2 := Lib.hid (hS2.out.below q)
      clear q HU b0 b1 b2 b3
      obtain ⟨_, b0, b1, b2, b3, _⟩ := (hS2.out.bring 3 rfl).b4
      obtain ⟨_, p0, p1, p2, p3, g0, g1, g2, g3⟩ := (hS2.out.bring 1 rfl).b4
      obtain ⟨_, e0, e1, e2, e3, f0, f1, f2, f3⟩ := (hS2.out.bring 2 rfl).b4
      have ne1 := ((hS2.out.bring 1 rfl).to1.tail).to1.blk_ne
      have ne2 := ne1.symm
      go_wp2_with fail
      refine (HW.out _ (hS2.out.bring 4 rfl).gold).mono ?_
      rintro e w5 ⟨rfl, q⟩
      replace hS2 := Lib.hid (hS2.out.below q)
      clear q HW b0 b1 b2 b3 p0 p1 p2 p3 g0 g1 g2 g3 e0 e1 e2 e3 f0 f1 f2 f3
      obtain ⟨_, b0, b1, b2, b3, _⟩ := (hS2.out.bring 3 rfl).b4
      obtain ⟨_, p0, p1, p2, p3, g0, g1, g2, g3⟩ := (hS2.out.bring 1 rfl).b4
      obtain ⟨_, e0, e1, e2, e3, f0, f1, f2, f3⟩ := (hS2.out.bring 2 rfl).b4
      go_wp2_with fail
      refine (HF.out _ (hS2.out.bring 4 rfl).gold).mono ?_
      rintro e w6 ⟨rfl, q⟩
      replace hS2 := Lib.hid (hS2.out.below q)
      clear q HF b0 b1 b2 b3 p0 p1 p2 p3 g0 g1 g2 g3 e0 e1 e2 e3 f0 f1 f2 f3
      obtain ⟨_, b0, b1, b2, b3, _⟩ := (hS2.out.bring 3 rfl).b4
      obtain ⟨_, p0, p1, p2, p3, g0, g1, g2, g3⟩ := (hS2.out.bring 1 rfl).b4
      obtain ⟨_, e0, e1, e2, e3, f0, f1, f2, f3⟩ := (hS2.out.bring 2 rfl).b4
      obtain ⟨i0, hi0, hz0, hz1, hz2⟩ := info_parts info_req
      have h1 : Hid (∀ u ∈ ([.int .i64 id0, .int .i64 t0, .int .i64 mo, .int .i64 mo, .int .i64 0] : List Value), u.oneCell' = true) := Lib.hid (by simp [Value.oneCell'])
      have hS3 := Lib.hid (hS2.out.allocG (.cells #[.int .i64 id0, .int .i64 t0, .int .i64 mo, .int .i64 mo, .int .i64 0] 39))
      have hsrc := Lib.hid (SrcA.cells w6 #[.int .i64 id0, .int .i64 t0, .int .i64 mo, .int .i64 mo, .int .i64 0] 39 1)
      have hml := Lib.hid (show m ≤ 1000 from hl)
      go_wp2_with (at_builtin; refine wpList_append_sep (show Sep _ (vec 39 5 (.slice a1 m c1) m (qcells l) :: _) from vq_vec hn.out hS3.out) rfl _ _ 27 rfl i0 _ 40 Try.underlying27 hi0 hz0 hz1 hz2 rfl (by decide) rfl 1 _ hsrc.out h1.out (by have := hml.out; simp only [maxLen]; omega) (by have := hml.out; omega) ?_; intro a' c' w7 q; have hS5 := Lib.hid q; clear q b0 b1 b2 b3 p0 p1 p2 p3 g0 g1 g2 g3 e0 e1 e2 e3 f0 f1 f2 f3; obtain ⟨_, p0, p1, p2, p3, g0, g1, g2, g3⟩ := (hS5.out.bring 1 rfl).b4; obtain ⟨_, e0, e1, e2, e3, f0, f1, f2, f3⟩ := (hS5.out.bring 2 rfl).b4)
      have hS6 := (hS5.out.bring 1 rfl).set 2 (.slice a' (m + 1) c')
      have hZ := ((((hS6.bring 2 rfl).set 0 (.int .i64 t)).set 1 (.int .i64 r)).set 2 (.slice a' (m + 1) c')).set 3 (.int .i64 n)
      refine bodyPost_ret (v := .tuple #[.agg #[.int .i64 t, .int .i64 r, .slice a' (m + 1) c', .int .i64 n], .bool true, .int .i64 0]) (by simp [results, Try.results21, go_sem, *]) rfl ⟨a', c', by rw [hn.out], ?_⟩
      unfold vq
      rw [List.length_append, hn.out, show qcells (l ++ [(⟨id0, t0, mo, mo, 0⟩ : Rq)]) = qcells l ++ _ from by unfold qcells; rw [List.flatMap_append]]
      exact (hZ.bring 2 rfl).drop1.drop1.drop1
set_option maxHeartbeats 4000000 in
set_option maxRecDepth 100000 in
theorem askR_wait2 (t r n : Int) (v : Value) (l : List Rq) (id0 t0 mo : Int) (w : World) (hv : RQ w v l) (hl : l.length ≤ 1000) (h0 : ¬ id0 < 0) (ha : askedB mo = true) (hc : l.any (fun q => q.id == id0 || q.txn == t0) = false) (hu : bestK l l.length < 0) (hw : ¬ idxF (fun q : Rq => q.mode == 0) l 0 < 0) (hn0 : 0 ≤ n) (hn1 : n ≤ 4611686018427387904) :
    Calls Try.prog 21 #[hval t r v n, .int .i64 id0, .int .i64 t0, .int .i64 mo] w fun e w' => ∃ a c, e = .returned (.tuple #[hval t r (.slice a (l.length + 1) c) (n + 1), .bool false, .int .i64 0]) ∧ Sep w' [vq (.slice a (l.length + 1) c) (l ++ [⟨id0, t0, 0, mo, n + 1⟩]), old w] := by
  have hB := boxes2R w 29 29 #[.int .i64 t, .int .i64 r, v, .int .i64 n] #[.int .i64 0, .int .i64 0, .slice none 0 0, .int .i64 0]
  have HA := Lib.hid (fun W => askedR_any mo W)
  rw [ha] at HA
  have d0 : decide (id0 < 0) = false := decide_eq_false h0
  have hfit := Lib.hid (fits_new l id0 t0 mo hc)
  have du : decide (bestK l l.length < 0) = true := decide_eq_true hu
  have dw : decide (idxF (fun q : Rq => q.mode == 0) l 0 < 0) = false := decide_eq_false hw
  have hv2 := Lib.hid hv
  obtain ⟨a, c, rfl, hlc, _, hr⟩ := hv
  replace hB := Lib.hid hB
  replace hr := Lib.hid hr
  replace hlc := Lib.hid hlc
  replace hc := Lib.hid hc
  unfold hval
  clear ha h0
  go_enter Try.func21, Try.ntmps21
  go_wp2_with fail
  refine (HA.out _).mono ?_
  rintro e w1 ⟨rfl, rfl⟩
  clear HA
  go_wp2_with fail
  generalize hn : l.length = m at *
  replace hn := Lib.hid hn
  go_loopg [11] m (fun g i wr => ∃ k : Nat, k ≤ m ∧ g = m - k ∧ i = .int .i64 k ∧ Hid (∀ j, j < k → ((l.getD j default).id == id0 || (l.getD j default).txn == t0) = false) ∧ Hid (Sep wr [blk (w.heap.size + 1) 29 #[.int .i64 0, .int .i64 0, .slice none 0 0, .int .i64 0], blk w.heap.size 29 #[.int .i64 t, .int .i64 r, .slice a m c, .int .i64 n], old w]))
  case atStart => exact ⟨0, Nat.zero_le _, rfl, rfl, Lib.hid (fun j hj => absurd hj (by omega)), hB⟩
  case round =>
    clear hB
    obtain ⟨k, hk, hg, rfl, he, hS⟩ := hrel
    obtain ⟨x1, b0, b1, b2, b3, _⟩ := hS.out.to1.b4
    obtain ⟨x2, e0, e1, e2, e3, f0, f1, f2, f3⟩ := hS.out.b4
    by_cases hlt : k < m
    · obtain ⟨b, off, rfl, hbl, hz⟩ := hr.out (by omega)
      have z0 := (hz k hlt).1
      have z1 := (hz k hlt).2.1
      rw [← hS.out.tail.tail.gold.cell (by exact hbl)] at z0 z1
      have hek : Hid (((l.getD k default).id == id0 || (l.getD k default).txn == t0) = false → ∀ j, j < k + 1 → ((l.getD j default).id == id0 || (l.getD j default).txn == t0) = false) := Lib.hid (fun h j hj => by
        rcases Nat.lt_succ_iff_lt_or_eq.1 hj with h1 | rfl
        · exact he.out j h1
        · exact h)
      have hmem := Lib.hid (getD_mem l k (by rw [hn.out]; exact hlt))
      clear hz
      generalize l.getD k default = q at *
      have i1 : (0 : Int) ≤ (k : Int) := by omega
      have i2 : (k : Int) < (m : Int) := by omega
      cases hq1 : q.id == id0 with
      | true =>
        exact absurd (List.any_eq_false.1 hc.out q hmem.out) (by simp [hq1])
      | false =>
        cases hq2 : q.txn == t0 with
        | true =>
          exact absurd (List.any_eq_false.1 hc.out q hmem.out) (by simp [hq1, hq2])
        | false =>
          have hek2 := Lib.hid (hek.out (by rw [hq1, hq2]; rfl))
          clear hek he
          go_wp2_with fail
          go_roundg (m - (k + 1))
          case measure => omega
          case rel => exact ⟨k + 1, by omega, rfl, by go_num, hek2, hS⟩
    · have hk2 : k = m := by omega
      clear he hc
      have HO := Lib.hid (fun W hb => copied_any t r n (.slice a m c) l W (hv2.out.below hb) (by rw [hn.out]; exact hl))
      unfold hval at HO
      clear hr hlc
      go_wp2_with fail
      refine (HO.out _ hS.out.tail.tail.gold).mono ?_
      rintro e w3 ⟨a1, c1, rfl, q⟩
      have hS1 := (q.graft hS.out).alloc #[.int .i64 t, .int .i64 r, .slice a1 l.length c1, .int .i64 n] 29
      clear q HO b0 b1 b2 b3 e0 e1 e2 e3 f0 f1 f2 f3 hS x1 x2
      rw [hn.out] at hS1 ⊢
      have hS2 := Lib.hid (show Sep _ [vq (.slice a1 m c1) l, blk w3.heap.size 29 #[.int .i64 t, .int .i64 r, .slice a1 m c1, .int .i64 n], blk (w.heap.size + 1) 29 #[.int .i64 0, .int .i64 0, .slice none 0 0, .int .i64 0], blk w.heap.size 29 #[.int .i64 t, .int .i64 r, .slice a m c, .int .i64 n], old w] from hS1.to1)
      clear hS1
      obtain ⟨_, b0, b1, b2, b3, _⟩ := (hS2.out.bring 3 rfl).b4
      have HU := Lib.hid (fun W hb => upgrading_any t r n (.slice a m c) l W (hv2.out.below hb) (by rw [hn.out]; exact hl))
      have HW := Lib.hid (fun W hb => waiting_any t r n (.slice a m c) l W (hv2.out.below hb) (by rw [hn.out]; exact hl))
      have HF := Lib.hid (fun W hb => fitsR_any t r n (.slice a m c) l mo (-1) W (hv2.out.below hb) (by rw [hn.out]; exact hl))
      unfold hval at HU HW HF
      simp only [hn.out] at HU HF
      rw [hfit.out] at HF
      go_wp2_with fail
      refine (HU.out _ (hS2.out.bring 4 rfl).gold).mono ?_
      rintro e w4 ⟨rfl, q⟩
      replace hS2 := Lib.hid (hS2.out.below q)
      clear q HU b0 b1 b2 b3
      obtain ⟨_, b0, b1, b2, b3, _⟩ := (hS2.out.bring 3 rfl).b4
      obtain ⟨_, p0, p1, p2, p3, g0, g1, g2, g3⟩ := (hS2.out.bring 1 rfl).b4
      obtain ⟨_, e0, e1, e2, e3, f0, f1, f2, f3⟩ := (hS2.out.bring 2 rfl).b4
      have ne1 := ((hS2.out.bring 1 rfl).to1.tail).to1.blk_ne
      have ne2 := ne1.symm
      go_wp2_with fail
      refine (HW.out _ (hS2.out.bring 4 rfl).gold).mono ?_
      rintro e w5 ⟨rfl, q⟩
      replace hS2 := Lib.hid (hS2.out.below q)
      clear q HW b0 b1 b2 b3 p0 p1 p2 p3 g0 g1 g2 g3 e0 e1 e2 e3 f0 f1 f2 f3
      obtain ⟨_, b0, b1, b2, b3, _⟩ := (hS2.out.bring 3 rfl).b4
      obtain ⟨_, p0, p1, p2, p3, g0, g1, g2, g3⟩ := (hS2.out.bring 1 rfl).b4
      obtain ⟨_, e0, e1, e2, e3, f0, f1, f2, f3⟩ := (hS2.out.bring 2 rfl).b4
      obtain ⟨i0, hi0, hz0, hz1, hz2⟩ := info_parts info_req
      have h1 : Hid (∀ u ∈ ([.int .i64 id0, .int .i64 t0, .int .i64 0, .int .i64 mo, .int .i64 (n + 1)] : List Value), u.oneCell' = true) := Lib.hid (by simp [Value.oneCell'])
      have hS4 := (hS2.out.bring 1 rfl).set 3 (.int .i64 (n + 1))
      replace hS3 := Lib.hid (show Sep _ [vq (.slice a1 m c1) l, blk w3.heap.size 29 #[.int .i64 t, .int .i64 r, .slice a1 m c1, .int .i64 (n + 1)], blk (w.heap.size + 1) 29 #[.int .i64 0, .int .i64 0, .slice none 0 0, .int .i64 0], blk w.heap.size 29 #[.int .i64 t, .int .i64 r, .slice a m c, .int .i64 n], old w] from hS4.to1.allocG (.cells #[.int .i64 id0, .int .i64 t0, .int .i64 0, .int .i64 mo, .int .i64 (n + 1)] 39))
      clear hS4
      have hsrc := SrcA.cells (w5.setCell ⟨w3.heap.size, 3, none⟩ (.int .i64 (n + 1))) #[.int .i64 id0, .int .i64 t0, .int .i64 0, .int .i64 mo, .int .i64 (n + 1)] 39 1
      rw [World.size_setCell] at hsrc
      replace hsrc := Lib.hid hsrc
      have hml := Lib.hid (show m ≤ 1000 from hl)
      go_wp2_with (at_builtin; refine wpList_append_sep (show Sep _ (vec 39 5 (.slice a1 m c1) m (qcells l) :: _) from vq_vec hn.out hS3.out) rfl _ _ 27 rfl i0 _ 40 Try.underlying27 hi0 hz0 hz1 hz2 rfl (by decide) rfl 1 _ hsrc.out h1.out (by have := hml.out; simp only [maxLen]; omega) (by have := hml.out; omega) ?_; intro a' c' w7 q; have hS5 := Lib.hid q; clear q b0 b1 b2 b3 p0 p1 p2 p3 g0 g1 g2 g3 e0 e1 e2 e3 f0 f1 f2 f3; obtain ⟨_, p0, p1, p2, p3, g0, g1, g2, g3⟩ := (hS5.out.bring 1 rfl).b4; obtain ⟨_, e0, e1, e2, e3, f0, f1, f2, f3⟩ := (hS5.out.bring 2 rfl).b4)
      have hS6 := (hS5.out.bring 1 rfl).set 2 (.slice a' (m + 1) c')
      have hZ := ((((hS6.bring 2 rfl).set 0 (.int .i64 t)).set 1 (.int .i64 r)).set 2 (.slice a' (m + 1) c')).set 3 (.int .i64 (n + 1))
      refine bodyPost_ret (v := .tuple #[.agg #[.int .i64 t, .int .i64 r, .slice a' (m + 1) c', .int .i64 (n + 1)], .bool false, .int .i64 0]) (by simp [results, Try.results21, go_sem, *]) rfl ⟨a', c', by rw [hn.out], ?_⟩
      unfold vq
      rw [List.length_append, hn.out, show qcells (l ++ [(⟨id0, t0, 0, mo, n + 1⟩ : Rq)]) = qcells l ++ _ from by unfold qcells; rw [List.flatMap_append]]
      exact (hZ.bring 2 rfl).drop1.drop1.drop1
set_option maxHeartbeats 4000000 in
set_option maxRecDepth 100000 in
theorem askR_wait3 (t r n : Int) (v : Value) (l : List Rq) (id0 t0 mo : Int) (w : World) (hv : RQ w v l) (hl : l.length ≤ 1000) (h0 : ¬ id0 < 0) (ha : askedB mo = true) (hc : l.any (fun q => q.id == id0 || q.txn == t0) = false) (hu : bestK l l.length < 0) (hw : idxF (fun q : Rq => q.mode == 0) l 0 < 0) (hm : l.any (fitsP ⟨id0, t0, 0, mo, 0⟩) = true) (hn0 : 0 ≤ n) (hn1 : n ≤ 4611686018427387904) :
    Calls Try.prog 21 #[hval t r v n, .int .i64 id0, .int .i64 t0, .int .i64 mo] w fun e w' => ∃ a c, e = .returned (.tuple #[hval t r (.slice a (l.length + 1) c) (n + 1), .bool false, .int .i64 0]) ∧ Sep w' [vq (.slice a (l.length + 1) c) (l ++ [⟨id0, t0, 0, mo, n + 1⟩]), old w] := by
  have hB := boxes2R w 29 29 #[.int .i64 t, .int .i64 r, v, .int .i64 n] #[.int .i64 0, .int .i64 0, .slice none 0 0, .int .i64 0]
  have HA := Lib.hid (fun W => askedR_any mo W)
  rw [ha] at HA
  have d0 : decide (id0 < 0) = false := decide_eq_false h0
  have hfit := Lib.hid (fits_new l id0 t0 mo hc)
  rw [hm] at hfit
  have du : decide (bestK l l.length < 0) = true := decide_eq_true hu
  have dw : decide (idxF (fun q : Rq => q.mode == 0) l 0 < 0) = true := decide_eq_true hw
  have hv2 := Lib.hid hv
  obtain ⟨a, c, rfl, hlc, _, hr⟩ := hv
  replace hB := Lib.hid hB
  replace hr := Lib.hid hr
  replace hlc := Lib.hid hlc
  replace hc := Lib.hid hc
  unfold hval
  clear ha h0
  go_enter Try.func21, Try.ntmps21
  go_wp2_with fail
  refine (HA.out _).mono ?_
  rintro e w1 ⟨rfl, rfl⟩
  clear HA
  go_wp2_with fail
  generalize hn : l.length = m at *
  replace hn := Lib.hid hn
  go_loopg [11] m (fun g i wr => ∃ k : Nat, k ≤ m ∧ g = m - k ∧ i = .int .i64 k ∧ Hid (∀ j, j < k → ((l.getD j default).id == id0 || (l.getD j default).txn == t0) = false) ∧ Hid (Sep wr [blk (w.heap.size + 1) 29 #[.int .i64 0, .int .i64 0, .slice none 0 0, .int .i64 0], blk w.heap.size 29 #[.int .i64 t, .int .i64 r, .slice a m c, .int .i64 n], old w]))
  case atStart => exact ⟨0, Nat.zero_le _, rfl, rfl, Lib.hid (fun j hj => absurd hj (by omega)), hB⟩
  case round =>
    clear hB
    obtain ⟨k, hk, hg, rfl, he, hS⟩ := hrel
    obtain ⟨x1, b0, b1, b2, b3, _⟩ := hS.out.to1.b4
    obtain ⟨x2, e0, e1, e2, e3, f0, f1, f2, f3⟩ := hS.out.b4
    by_cases hlt : k < m
    · obtain ⟨b, off, rfl, hbl, hz⟩ := hr.out (by omega)
      have z0 := (hz k hlt).1
      have z1 := (hz k hlt).2.1
      rw [← hS.out.tail.tail.gold.cell (by exact hbl)] at z0 z1
      have hek : Hid (((l.getD k default).id == id0 || (l.getD k default).txn == t0) = false → ∀ j, j < k + 1 → ((l.getD j default).id == id0 || (l.getD j default).txn == t0) = false) := Lib.hid (fun h j hj => by
        rcases Nat.lt_succ_iff_lt_or_eq.1 hj with h1 | rfl
        · exact he.out j h1
        · exact h)
      have hmem := Lib.hid (getD_mem l k (by rw [hn.out]; exact hlt))
      clear hz
      generalize l.getD k default = q at *
      have i1 : (0 : Int) ≤ (k : Int) := by omega
      have i2 : (k : Int) < (m : Int) := by omega
      cases hq1 : q.id == id0 with
      | true =>
        exact absurd (List.any_eq_false.1 hc.out q hmem.out) (by simp [hq1])
      | false =>
        cases hq2 : q.txn == t0 with
        | true =>
          exact absurd (List.any_eq_false.1 hc.out q hmem.out) (by simp [hq1, hq2])
        | false =>
          have hek2 := Lib.hid (hek.out (by rw [hq1, hq2]; rfl))
          clear hek he
          go_wp2_with fail
          go_roundg (m - (k + 1))
          case measure => omega
          case rel => exact ⟨k + 1, by omega, rfl, by go_num, hek2, hS⟩
    · have hk2 : k = m := by omega
      clear he hc
      have HO := Lib.hid (fun W hb => copied_any t r n (.slice a m c) l W (hv2.out.below hb) (by rw [hn.out]; exact hl))
      unfold hval at HO
      clear hr hlc
      go_wp2_with fail
      refine (HO.out _ hS.out.tail.tail.gold).mono ?_
      rintro e w3 ⟨a1, c1, rfl, q⟩
      have hS1 := (q.graft hS.out).alloc #[.int .i64 t, .int .i64 r, .slice a1 l.length c1, .int .i64 n] 29
      clear q HO b0 b1 b2 b3 e0 e1 e2 e3 f0 f1 f2 f3 hS x1 x2
      rw [hn.out] at hS1 ⊢
      have hS2 := Lib.hid (show Sep _ [vq (.slice a1 m c1) l, blk w3.heap.size 29 #[.int .i64 t, .int .i64 r, .slice a1 m c1, .int .i64 n], blk (w.heap.size + 1) 29 #[.int .i64 0, .int .i64 0, .slice none 0 0, .int .i64 0], blk w.heap.size 29 #[.int .i64 t, .int .i64 r, .slice a m c, .int .i64 n], old w] from hS1.to1)
      clear hS1
      obtain ⟨_, b0, b1, b2, b3, _⟩ := (hS2.out.bring 3 rfl).b4
      have HU := Lib.hid (fun W hb => upgrading_any t r n (.slice a m c) l W (hv2.out.below hb) (by rw [hn.out]; exact hl))
      have HW := Lib.hid (fun W hb => waiting_any t r n (.slice a m c) l W (hv2.out.below hb) (by rw [hn.out]; exact hl))
      have HF := Lib.hid (fun W hb => fitsR_any t r n (.slice a m c) l mo (-1) W (hv2.out.below hb) (by rw [hn.out]; exact hl))
      unfold hval at HU HW HF
      simp only [hn.out] at HU HF
      rw [hfit.out] at HF
      go_wp2_with fail
      refine (HU.out _ (hS2.out.bring 4 rfl).gold).mono ?_
      rintro e w4 ⟨rfl, q⟩
      replace hS2 := Lib.hid (hS2.out.below q)
      clear q HU b0 b1 b2 b3
      obtain ⟨_, b0, b1, b2, b3, _⟩ := (hS2.out.bring 3 rfl).b4
      obtain ⟨_, p0, p1, p2, p3, g0, g1, g2, g3⟩ := (hS2.out.bring 1 rfl).b4
      obtain ⟨_, e0, e1, e2, e3, f0, f1, f2, f3⟩ := (hS2.out.bring 2 rfl).b4
      have ne1 := ((hS2.out.bring 1 rfl).to1.tail).to1.blk_ne
      have ne2 := ne1.symm
      go_wp2_with fail
      refine (HW.out _ (hS2.out.bring 4 rfl).gold).mono ?_
      rintro e w5 ⟨rfl, q⟩
      replace hS2 := Lib.hid (hS2.out.below q)
      clear q HW b0 b1 b2 b3 p0 p1 p2 p3 g0 g1 g2 g3 e0 e1 e2 e3 f0 f1 f2 f3
      obtain ⟨_, b0, b1, b2, b3, _⟩ := (hS2.out.bring 3 rfl).b4
      obtain ⟨_, p0, p1, p2, p3, g0, g1, g2, g3⟩ := (hS2.out.bring 1 rfl).b4
      obtain ⟨_, e0, e1, e2, e3, f0, f1, f2, f3⟩ := (hS2.out.bring 2 rfl).b4
      go_wp2_with fail
      refine (HF.out _ (hS2.out.bring 4 rfl).gold).mono ?_
      rintro e w6 ⟨rfl, q⟩
      replace hS2 := Lib.hid (hS2.out.below q)
      clear q HF b0 b1 b2 b3 p0 p1 p2 p3 g0 g1 g2 g3 e0 e1 e2 e3 f0 f1 f2 f3
      obtain ⟨_, b0, b1, b2, b3, _⟩ := (hS2.out.bring 3 rfl).b4
      obtain ⟨_, p0, p1, p2, p3, g0, g1, g2, g3⟩ := (hS2.out.bring 1 rfl).b4
      obtain ⟨_, e0, e1, e2, e3, f0, f1, f2, f3⟩ := (hS2.out.bring 2 rfl).b4
      obtain ⟨i0, hi0, hz0, hz1, hz2⟩ := info_parts info_req
      have h1 : Hid (∀ u ∈ ([.int .i64 id0, .int .i64 t0, .int .i64 0, .int .i64 mo, .int .i64 (n + 1)] : List Value), u.oneCell' = true) := Lib.hid (by simp [Value.oneCell'])
      have hS4 := (hS2.out.bring 1 rfl).set 3 (.int .i64 (n + 1))
      replace hS3 := Lib.hid (show Sep _ [vq (.slice a1 m c1) l, blk w3.heap.size 29 #[.int .i64 t, .int .i64 r, .slice a1 m c1, .int .i64 (n + 1)], blk (w.heap.size + 1) 29 #[.int .i64 0, .int .i64 0, .slice none 0 0, .int .i64 0], blk w.heap.size 29 #[.int .i64 t, .int .i64 r, .slice a m c, .int .i64 n], old w] from hS4.to1.allocG (.cells #[.int .i64 id0, .int .i64 t0, .int .i64 0, .int .i64 mo, .int .i64 (n + 1)] 39))
      clear hS4
      have hsrc := SrcA.cells (w6.setCell ⟨w3.heap.size, 3, none⟩ (.int .i64 (n + 1))) #[.int .i64 id0, .int .i64 t0, .int .i64 0, .int .i64 mo, .int .i64 (n + 1)] 39 1
      rw [World.size_setCell] at hsrc
      replace hsrc := Lib.hid hsrc
      have hml := Lib.hid (show m ≤ 1000 from hl)
      go_wp2_with (at_builtin; refine wpList_append_sep (show Sep _ (vec 39 5 (.slice a1 m c1) m (qcells l) :: _) from vq_vec hn.out hS3.out) rfl _ _ 27 rfl i0 _ 40 Try.underlying27 hi0 hz0 hz1 hz2 rfl (by decide) rfl 1 _ hsrc.out h1.out (by have := hml.out; simp only [maxLen]; omega) (by have := hml.out; omega) ?_; intro a' c' w7 q; have hS5 := Lib.hid q; clear q b0 b1 b2 b3 p0 p1 p2 p3 g0 g1 g2 g3 e0 e1 e2 e3 f0 f1 f2 f3; obtain ⟨_, p0, p1, p2, p3, g0, g1, g2, g3⟩ := (hS5.out.bring 1 rfl).b4; obtain ⟨_, e0, e1, e2, e3, f0, f1, f2, f3⟩ := (hS5.out.bring 2 rfl).b4)
      have hS6 := (hS5.out.bring 1 rfl).set 2 (.slice a' (m + 1) c')
      have hZ := ((((hS6.bring 2 rfl).set 0 (.int .i64 t)).set 1 (.int .i64 r)).set 2 (.slice a' (m + 1) c')).set 3 (.int .i64 (n + 1))
      refine bodyPost_ret (v := .tuple #[.agg #[.int .i64 t, .int .i64 r, .slice a' (m + 1) c', .int .i64 (n + 1)], .bool false, .int .i64 0]) (by simp [results, Try.results21, go_sem, *]) rfl ⟨a', c', by rw [hn.out], ?_⟩
      unfold vq
      rw [List.length_append, hn.out, show qcells (l ++ [(⟨id0, t0, 0, mo, n + 1⟩ : Rq)]) = qcells l ++ _ from by unfold qcells; rw [List.flatMap_append]]
      exact (hZ.bring 2 rfl).drop1.drop1.drop1
end Go.Proofs.Ytcnkmhfcgkbhbaa
namespace Go.Proofs.Ytcnkmhfcgkbhbaa
set_option linter.unusedSimpArgs false
set_option linter.unusedVariables false
set_option linter.unnecessarySimpa false
open Go.RowKit
theorem dbN_any (w : World) : Calls Try.prog 22 #[] w fun e w' => e = .returned (.agg #[.int .i64 (-1), .int .i64 (-1)]) ∧ Below w.heap.size w w' := by
  go_enter Try.func22, Try.ntmps22
  go_wp2
  refine bodyPost_ret (v := .agg #[.int .i64 (-1), .int .i64 (-1)]) (by simp [results, Try.results22, go_sem, *]) rfl ⟨rfl, ?_⟩
  exact (Below.refl _ _).alloc (Nat.le_refl _) _
def nA1 : List Rq := [⟨0, 7, 3, 3, 0⟩]
def nA2 : List Rq := [⟨0, 7, 3, 3, 0⟩, ⟨1, 5, 0, 6, 1⟩]
def nA3 : List Rq := [⟨0, 7, 3, 3, 0⟩, ⟨1, 5, 0, 6, 1⟩, ⟨2, 6, 0, 3, 2⟩]
theorem nask1 (w : World) : Calls Try.prog 21 #[.agg #[.int .i64 (-1), .int .i64 (-1), .slice none 0 0, .int .i64 0], .int .i64 0, .int .i64 7, .int .i64 3] w fun e w' => ∃ a c, e = .returned (.tuple #[.agg #[.int .i64 (-1), .int .i64 (-1), .slice a 1 c, .int .i64 0], .bool true, .int .i64 0]) ∧ Sep w' [vq (.slice a 1 c) nA1, old w] :=
  askR_grant (-1) (-1) 0 (.slice none 0 0) [] 0 7 3 w ⟨none, 0, rfl, Nat.le_refl _, fun _ => rfl, fun h => absurd h (by simp)⟩ (by decide) (by decide) (by decide) (by decide) (by decide) (by decide) (by decide)
theorem nask2 (v : Value) (w : World) (hv : RQ w v nA1) : Calls Try.prog 21 #[.agg #[.int .i64 (-1), .int .i64 (-1), v, .int .i64 0], .int .i64 1, .int .i64 5, .int .i64 6] w fun e w' => ∃ a c, e = .returned (.tuple #[.agg #[.int .i64 (-1), .int .i64 (-1), .slice a 2 c, .int .i64 1], .bool false, .int .i64 0]) ∧ Sep w' [vq (.slice a 2 c) nA2, old w] :=
  askR_wait3 (-1) (-1) 0 v nA1 1 5 6 w hv (by decide) (by decide) (by decide) (by decide) (by decide) (by decide) (by decide) (by decide) (by decide)
theorem nask3 (v : Value) (w : World) (hv : RQ w v nA2) : Calls Try.prog 21 #[.agg #[.int .i64 (-1), .int .i64 (-1), v, .int .i64 1], .int .i64 2, .int .i64 6, .int .i64 3] w fun e w' => ∃ a c, e = .returned (.tuple #[.agg #[.int .i64 (-1), .int .i64 (-1), .slice a 3 c, .int .i64 2], .bool false, .int .i64 0]) ∧ Sep w' [vq (.slice a 3 c) nA3, old w] :=
  askR_wait2 (-1) (-1) 1 v nA2 2 6 3 w hv (by decide) (by decide) (by decide) (by decide) (by decide) (by decide) (by decide) (by decide)
def nE : List Ed := [⟨5, 7⟩, ⟨6, 5⟩]
theorem nblk0 : blkV nA3 0 = [] := by unfold blkV; rw [if_neg (by decide), if_neg (by decide)]
theorem nblk1 : blkV nA3 1 = [7] := by
  unfold blkV
  rw [if_neg (by decide), if_pos (by decide), show blkL nA3 (nA3.getD (plc nA3 1).toNat default) = [7] by decide]
  exact nrm_self _ (by simp)
theorem nblk2 : blkV nA3 2 = [5] := by
  unfold blkV
  rw [if_neg (by decide), if_pos (by decide), show blkL nA3 (nA3.getD (plc nA3 2).toNat default) = [5] by decide]
  exact nrm_self _ (by simp)
theorem nhds (t r n : Int) (v : Value) : hdsE [⟨t, r, n, v, nA3⟩] = nE := by
  show quE nA3 ++ [] = nE
  rw [List.append_nil]
  show rqE nA3 ⟨0, 7, 3, 3, 0⟩ ++ (rqE nA3 ⟨1, 5, 0, 6, 1⟩ ++ (rqE nA3 ⟨2, 6, 0, 3, 2⟩ ++ [])) = nE
  unfold rqE
  simp only
  rw [nblk0, nblk1, nblk2]
  rfl
theorem sd_of {L R : List Ed} (hp : R.Pairwise ltE) (hm : ∀ e, e ∈ R ↔ e ∈ L) : sdE L = R := by
  refine ltE_uniq _ _ (sdE_pw _) hp fun e => ?_
  rw [sdE_mem, hm]
theorem nsd : sdE nE = nE := sd_of (by simp [nE, ltE]) (fun e => Iff.rfl)
theorem nsd0 : sdE [] = [] := sd_of List.Pairwise.nil (fun e => Iff.rfl)
theorem nsd1 : sdE [⟨4, 4⟩, ⟨9, 3⟩] = [⟨4, 4⟩, ⟨9, 3⟩] := sd_of (by simp [ltE]) (fun e => Iff.rfl)
theorem nsd2 : sdE [⟨1, 3⟩, ⟨1, 2⟩, ⟨3, 1⟩, ⟨2, 1⟩] = [⟨1, 2⟩, ⟨1, 3⟩, ⟨2, 1⟩, ⟨3, 1⟩] := sd_of (by simp [ltE]) (fun e => by
  simp only [List.mem_cons, List.not_mem_nil, or_false]
  constructor
  · rintro (h | h | h | h) <;> simp [h]
  · rintro (h | h | h | h) <;> simp [h])
theorem nsd3 : sdE [⟨2, 0⟩, ⟨1, 9⟩, ⟨2, 0⟩] = [⟨1, 9⟩, ⟨2, 0⟩] := sd_of (by simp [ltE]) (fun e => by
  simp only [List.mem_cons, List.not_mem_nil, or_false]
  constructor
  · rintro (h | h) <;> simp [h]
  · rintro (h | h | h) <;> simp [h])
theorem ncy : cyc nE = ((cyc nE).1, false) := by
  have : (cyc nE).2 = false := by unfold cyc nxL; rw [nsd]; rfl
  rw [← this]
theorem ncy0 : cyc [] = ((cyc []).1, false) := by
  have : (cyc []).2 = false := by unfold cyc nxL; rw [nsd0]; rfl
  rw [← this]
theorem ncy1 : cyc [⟨4, 4⟩, ⟨9, 3⟩] = ([4], true) := by unfold cyc nxL; rw [nsd1]; rfl
theorem ncy2 : cyc [⟨1, 3⟩, ⟨1, 2⟩, ⟨3, 1⟩, ⟨2, 1⟩] = ([1, 2], true) := by unfold cyc nxL; rw [nsd2]; rfl
theorem rl_bkW {w : World} {g sz n : Nat} {t : TypeId} {cs : Array Value} {rs : List Res} (h : Sep w (blk g t cs :: rs)) (hn : cs.size = n * sz) : RL w (.slice (some ⟨g, 0, none⟩) n n) sz n cs.toList :=
  ⟨by simpa using hn, _, _, rfl, Nat.le_refl _, (fun h => by cases h), fun _ => ⟨g, 0, rfl, h.gblk.lt, fun j u hu => by
    have := h.gblk.cell j
    rw [Nat.zero_add, this]
    simpa using hu⟩⟩
theorem ri_bkW {w : World} {g : Nat} {t : TypeId} {xs : List Int} {cs : Array Value} {rs : List Res} (h : Sep w (blk g t cs :: rs)) (hc : cs.toList = xs.map (Value.int .i64)) (n : Nat) (hn : xs.length = n) : RI w (.slice (some ⟨g, 0, none⟩) n n) xs := by
  subst hn
  refine ⟨_, _, rfl, fun _ => ⟨g, 0, rfl, h.gblk.lt, fun j hj => ?_⟩⟩
  rw [Nat.zero_add, h.gblk.cell j, ← Array.getElem?_toList, hc]
  simp [List.getD, hj]
theorem nrc6 : rcL nE 6 = [5, 7] := by
  have h : (wyN (nxL nE) 6).map (·.1) = [5, 7] := by unfold nxL; rw [nsd]; rfl
  unfold rcL srI
  rw [h]
  exact (sorted_eq (List.Perm.refl _) (by simp)).symm
theorem nrc7 : rcL nE 7 = [] := by
  have h : (wyN (nxL nE) 7).map (·.1) = [] := by unfold nxL; rw [nsd]; rfl
  unfold rcL srI
  rw [h]
  simp
theorem nkeep : keepL (onE 5) nE = [] := by decide
theorem hd_one {w : World} {g : Nat} {tp : TypeId} {t r n : Int} {v : Value} {l : List Rq} {rs : List Res} (h : Sep w (blk g tp #[.int .i64 t, .int .i64 r, v, .int .i64 n] :: rs)) (hq : RQ w v l) : HD w (.slice (some ⟨g, 0, none⟩) 1 1) [⟨t, r, n, v, l⟩] := by
  refine ⟨_, _, rfl, fun _ => ⟨g, 0, rfl, h.b4.1, fun i hi => ?_⟩, fun i hi => ?_⟩
  · obtain rfl : i = 0 := by simpa using hi
    obtain ⟨_, c0, c1, c2, c3, _⟩ := h.b4
    exact ⟨c0, c1, c2, c3⟩
  · obtain rfl : i = 0 := by simpa using hi
    exact hq
set_option maxHeartbeats 8000000 in
set_option maxRecDepth 100000 in
theorem names_walk (w : World) : Calls Try.prog 7 #[] w fun e w' => e = .returned (.bool true) ∧ Below w.heap.size w w' := by
  go_enter Try.func7, Try.ntmps7
  go_wp2_with (go_at_call 8; refine (lives_any _).mono ?_; rintro e w1 ⟨rfl, q⟩; have hS := Lib.hid ((Sep.start w).below q); clear q)
  refine (dbN_any _).mono ?_
  rintro e w2 ⟨rfl, q⟩
  replace hS := Lib.hid (hS.out.below q)
  clear q
  go_wp2_with fail
  refine (nask1 _).mono ?_
  rintro e w3 ⟨a3, c3, rfl, q⟩
  replace hS := Lib.hid ((q.graft hS.out).alloc #[.int .i64 (-1), .int .i64 (-1), .slice a3 1 c3, .int .i64 0] 29)
  clear q
  generalize hB : w3.heap.size = B at *
  obtain ⟨_, d0, d1, d2, d3, f0, f1, f2, f3⟩ := hS.out.b4
  have H2 := Lib.hid (nask2 _ _ hS.out.to1.vq_rq)
  go_wp2_with fail
  refine H2.out.mono ?_
  rintro e w4 ⟨a4, c4, rfl, q⟩
  replace hS := Lib.hid ((q.graft hS.out).to1)
  clear q H2 d0 d1 d2 d3 f0 f1 f2 f3
  obtain ⟨_, d0, d1, d2, d3, f0, f1, f2, f3⟩ := hS.out.b4
  have hS4 := (((hS.out.set 0 (.int .i64 (-1))).set 1 (.int .i64 (-1))).set 2 (.slice a4 2 c4)).set 3 (.int .i64 1)
  replace hS := Lib.hid (show Sep _ [blk B 29 #[.int .i64 (-1), .int .i64 (-1), .slice a4 2 c4, .int .i64 1], vq (.slice a4 2 c4) nA2, _, _] from hS4)
  clear hS4
  have H3 := Lib.hid (nask3 _ _ hS.out.to1.vq_rq)
  go_wp2_with fail
  refine H3.out.mono ?_
  rintro e w5 ⟨a5, c5, rfl, q⟩
  replace hS := Lib.hid ((q.graft hS.out).to1)
  clear q H3 d0 d1 d2 d3 f0 f1 f2 f3
  obtain ⟨_, d0, d1, d2, d3, f0, f1, f2, f3⟩ := hS.out.b4
  have hS4 := (((hS.out.set 0 (.int .i64 (-1))).set 1 (.int .i64 (-1))).set 2 (.slice a5 3 c5)).set 3 (.int .i64 2)
  have hS5 := (show Sep _ [blk B 29 #[.int .i64 (-1), .int .i64 (-1), .slice a5 3 c5, .int .i64 2], vq (.slice a5 3 c5) nA3, _, _, _] from hS4).alloc #[.int .i64 (-1), .int .i64 (-1), .slice a5 3 c5, .int .i64 2] 29
  simp only [World.size_setCell] at hS5
  replace hS := Lib.hid hS5
  clear hS4 hS5
  have HE := edges_any _ _ _ (hd_one hS.out (hS.out.bring 2 rfl).vq_rq) (by show 1 ≤ 8; decide) (by simp [nA3])
  rw [nhds, nsd] at HE
  replace HE := Lib.hid HE
  go_wp2_with fail
  refine HE.out.mono ?_
  rintro e w6 ⟨a6, c6, rfl, q⟩
  simp only [show nE.length = 2 from rfl] at q ⊢
  replace hS := Lib.hid (show Sep _ [vec 41 2 (.slice a6 2 c6) 2 (nE.flatMap Ed.cells), old w] from q.graft hS.out.tail.tail.tail.tail.tail)
  clear q HE d0 d1 d2 d3 f0 f1 f2 f3
  have HC := cycle_any (.slice none 0 0) [] w6 (RL.nil w6 2) (by decide)
  rw [show (cyc ([] : List Ed)).2 = false by rw [ncy0]] at HC
  generalize (cyc ([] : List Ed)).1 = X0 at HC
  replace HC := Lib.hid HC
  go_wp2_with fail
  refine HC.out.mono ?_
  rintro e w7 ⟨a7, c7, rfl, q⟩
  replace hS := Lib.hid ((hS.out.below q.tail.gold).alloc #[.int .i64 4, .int .i64 4, .int .i64 9, .int .i64 3] 41)
  clear q HC
  have HC := cycle_any _ [⟨4, 4⟩, ⟨9, 3⟩] _ (rl_bkW (sz := 2) (n := 2) hS.out rfl) (by decide)
  rw [ncy1] at HC
  replace HC := Lib.hid HC
  go_wp2_with fail
  refine HC.out.mono ?_
  rintro e w8 ⟨a8, c8, rfl, q⟩
  simp only [List.length_cons, List.length_nil] at q ⊢
  replace hS := Lib.hid ((q.graft hS.out.tail).alloc #[.int .i64 1, .int .i64 3, .int .i64 1, .int .i64 2, .int .i64 3, .int .i64 1, .int .i64 2, .int .i64 1] 41)
  clear q HC
  have HC := cycle_any _ [⟨1, 3⟩, ⟨1, 2⟩, ⟨3, 1⟩, ⟨2, 1⟩] _ (rl_bkW (sz := 2) (n := 4) hS.out rfl) (by decide)
  rw [ncy2] at HC
  replace HC := Lib.hid HC
  go_wp2_with fail
  refine HC.out.mono ?_
  rintro e w9 ⟨a9, c9, rfl, q⟩
  simp only [List.length_cons, List.length_nil] at q ⊢
  replace hS := Lib.hid (show Sep w9 [vec 3 1 (.slice a9 2 c9) 2 (([1, 2] : List Int).map (Value.int .i64)), vec 3 1 (.slice a8 1 c8) 1 (([4] : List Int).map (Value.int .i64)), vec 41 2 (.slice a6 2 c6) 2 (nE.flatMap Ed.cells), old w] from q.graft hS.out.tail)
  clear q HC
  -- the edges
  have hT := Lib.hid (hS.out.alloc #[.int .i64 5, .int .i64 7, .int .i64 6, .int .i64 5] 41)
  have A := Lib.hid (sameE_true _ _ nE _ (by decide) (hT.out.bring 3 rfl).vec_rl (rl_bkW (sz := 2) (n := 2) hT.out rfl))
  go_wp2_with fail
  refine A.out.mono ?_
  rintro e _ ⟨rfl, m, rfl⟩
  replace hS := Lib.hid (hT.out.tail.drewN m)
  clear A hT
  generalize World.drewN _ m = w10 at *
  -- the cycles
  have hT := Lib.hid (hS.out.alloc #[.int .i64 4] 3)
  have A := Lib.hid (same_true _ _ [4] _ (by decide) (hT.out.bring 2 rfl).vec_ri (ri_bkW hT.out rfl 1 rfl))
  go_wp2_with fail
  refine A.out.mono ?_
  rintro e _ ⟨rfl, m1, rfl⟩
  replace hS := Lib.hid (hT.out.tail.drewN m1)
  clear A hT
  generalize World.drewN _ m1 = w11 at *
  have hT := Lib.hid (hS.out.alloc #[.int .i64 1, .int .i64 2] 3)
  have A := Lib.hid (same_true _ _ [1, 2] _ (by decide) (hT.out.bring 1 rfl).vec_ri (ri_bkW hT.out rfl 2 rfl))
  go_wp2_with fail
  refine A.out.mono ?_
  rintro e _ ⟨rfl, m2, rfl⟩
  replace hS := Lib.hid (hT.out.tail.drewN m2).tail.tail
  clear A hT
  generalize World.drewN _ m2 = w12 at *
  -- Acyclic
  have A := acyclic_any _ nE _ hS.out.vec_rl (by decide)
  rw [show (cyc nE).2 = false by rw [ncy]] at A
  replace A := Lib.hid A
  go_wp2_with fail
  refine A.out.mono ?_
  rintro e w13 ⟨rfl, q⟩
  replace hS := Lib.hid (hS.out.below q)
  clear q A
  -- Reach
  have A := reachL_any _ nE 6 _ hS.out.vec_rl (by decide)
  rw [nrc6] at A
  replace A := Lib.hid A
  go_wp2_with fail
  refine A.out.mono ?_
  rintro e w14 ⟨a14, c14, rfl, q⟩
  simp only [List.length_cons, List.length_nil] at q ⊢
  have hT := Lib.hid ((q.graft hS.out).alloc #[.int .i64 5, .int .i64 7] 3)
  clear q A hS
  have A := Lib.hid (same_true _ _ [5, 7] _ (by decide) hT.out.to1.vec_ri (ri_bkW hT.out rfl 2 rfl))
  go_wp2_with fail
  refine A.out.mono ?_
  rintro e _ ⟨rfl, m3, rfl⟩
  have hS := Lib.hid (hT.out.tail.drewN m3).tail
  clear A hT
  generalize World.drewN _ m3 = w15 at *
  have A := reachL_any _ nE 7 _ hS.out.vec_rl (by decide)
  rw [nrc7] at A
  replace A := Lib.hid A
  go_wp2_with fail
  refine A.out.mono ?_
  rintro e w16 ⟨a16, c16, rfl, q⟩
  simp only [List.length_nil] at q ⊢
  replace hS := Lib.hid (hS.out.below q.tail.gold)
  clear q A
  -- Without
  have A := without_any _ nE 5 _ hS.out.vec_rl (by decide)
  rw [nkeep] at A
  replace A := Lib.hid A
  go_wp2_with fail
  refine A.out.mono ?_
  rintro e w17 ⟨a17, c17, rfl, q⟩
  simp only [List.length_nil] at q ⊢
  have hT := Lib.hid ((q.graft hS.out).alloc #[] 41)
  clear q A hS
  have A := Lib.hid (sameE_true _ _ [] _ (by decide) hT.out.to1.vec_rl (rl_bkW (sz := 2) (n := 0) hT.out rfl))
  go_wp2_with fail
  refine A.out.mono ?_
  rintro e _ ⟨rfl, m4, rfl⟩
  have hS := Lib.hid (hT.out.tail.drewN m4).tail.tail
  clear A hT
  generalize World.drewN _ m4 = w18 at *
  -- Sorted
  replace hS := Lib.hid (hS.out.alloc #[.int .i64 2, .int .i64 0, .int .i64 1, .int .i64 9, .int .i64 2, .int .i64 0] 41)
  have A := sorted_any _ [⟨2, 0⟩, ⟨1, 9⟩, ⟨2, 0⟩] _ (rl_bkW (sz := 2) (n := 3) hS.out rfl) (by decide)
  rw [nsd3] at A
  replace A := Lib.hid A
  go_wp2_with fail
  refine A.out.mono ?_
  rintro e w19 ⟨a19, c19, rfl, q⟩
  simp only [List.length_cons, List.length_nil] at q ⊢
  have hT := Lib.hid ((q.graft hS.out.tail).alloc #[.int .i64 1, .int .i64 9, .int .i64 2, .int .i64 0] 41)
  clear q A hS
  have A := Lib.hid (sameE_true _ _ [⟨1, 9⟩, ⟨2, 0⟩] _ (by decide) hT.out.to1.vec_rl (rl_bkW (sz := 2) (n := 2) hT.out rfl))
  go_wp2_with fail
  refine A.out.mono ?_
  rintro e _ ⟨rfl, m5, rfl⟩
  have hS := Lib.hid (hT.out.tail.drewN m5).tail
  clear A hT
  generalize World.drewN _ m5 = w20 at *
  go_wp2_with fail
  go_ret
  exact ⟨rfl, hS.out.gold⟩
end Go.Proofs.Ytcnkmhfcgkbhbaa
