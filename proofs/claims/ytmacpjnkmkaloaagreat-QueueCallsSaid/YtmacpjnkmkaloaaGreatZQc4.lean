/-
  Contracts and plain laws that the walk leans on, part 4. No condition.
-/
import Derived.Test.YtmacpjnkmkaloaaGreatZQc3
import Derived.Laws.StructEq
namespace Go.Proofs.YtmacpjnkmkaloaaGreat
set_option linter.unusedSimpArgs false
set_option linter.unusedVariables false
set_option linter.unnecessarySimpa false
open Go.RowKit
theorem holdsR_any (r : Rq) (w : World) : Calls Tryz.prog 38 #[r.val] w fun e w' => e = .returned (.bool (r.mode != 0)) ∧ Below w.heap.size w w' := by
  obtain ⟨id, txn, mode, want, since⟩ := r
  unfold Rq.val
  go_enter Tryz.func38, Tryz.ntmps38
  go_wp2
  go_ret
  exact ⟨rfl, (Below.refl _ _).alloc (Nat.le_refl _) _⟩
theorem waitsR_any (r : Rq) (w : World) : Calls Tryz.prog 37 #[r.val] w fun e w' => e = .returned (.bool (decide (0 < r.since))) ∧ Below w.heap.size w w' := by
  obtain ⟨id, txn, mode, want, since⟩ := r
  unfold Rq.val
  go_enter Tryz.func37, Tryz.ntmps37
  go_wp2
  go_ret
  exact ⟨rfl, (Below.refl _ _).alloc (Nat.le_refl _) _⟩
set_option maxHeartbeats 1000000 in
theorem at_any (t r n : Int) (v : Value) (l : List Rq) (id0 : Int) (w : World) (hv : RQ w v l) (hl : l.length ≤ 1000) :
    Calls Tryz.prog 56 #[hval t r v n, .int .i64 id0] w fun e w' => e = .returned (.int .i64 (idxF (fun q => q.id == id0) l 0)) ∧ Below w.heap.size w w' := by
  have h0 : ∀ b0, Sep (w.alloc (.cells b0 26)) [blk w.heap.size 26 b0, old w] := fun b0 => (Sep.start w).alloc b0 26
  replace h0 := Lib.hid h0
  obtain ⟨a, c, rfl, hlc, _, hr⟩ := hv
  replace hr := Lib.hid hr
  unfold hval
  go_enter Tryz.func56, Tryz.ntmps56
  go_wp2_with fail
  have hS := Lib.hid (h0.out #[.int .i64 t, .int .i64 r, .slice a l.length c, .int .i64 n])
  clear h0
  generalize hn : l.length = m at *
  replace hn := Lib.hid hn
  generalize hp : (fun q : Rq => q.id == id0) = p at *
  replace hp := Lib.hid hp
  go_loopg [5] m (fun g i wr => ∃ k : Nat, k ≤ m ∧ g = m - k ∧ i = .int .i64 k ∧ Hid (idxF p l 0 = idxF p (l.drop k) k) ∧ Hid (Sep wr [blk w.heap.size 26 #[.int .i64 t, .int .i64 r, .slice a m c, .int .i64 n], old w]))
  case atStart => exact ⟨0, Nat.zero_le _, rfl, rfl, rfl, hS⟩
  case round =>
    clear hS
    obtain ⟨k, hk, hg, rfl, he, hS⟩ := hrel
    obtain ⟨x1, d0, d1, x2, d3, _⟩ := hS.out.b4
    by_cases hlt : k < m
    · obtain ⟨b, off, rfl, hbl, hz⟩ := hr.out (by have := hn.out; omega)
      have z0 := (hz k (by have := hn.out; omega)).1
      rw [← hS.out.to1.gold.cell (by exact hbl)] at z0
      have E := Lib.hid (drop_at l k (by rw [hn.out]; exact hlt))
      have hpq := Lib.hid (show p (l.getD k default) = ((l.getD k default).id == id0) by rw [← hp.out])
      clear hz hr
      generalize l.getD k default = q at *
      cases hc : q.id == id0 with
      | true =>
        have E2 := Lib.hid (show idxF p l 0 = (k : Int) by rw [he.out, E.out]; simp only [idxF, hpq.out, hc, if_true])
        go_wp2_with fail
        go_ret
        exact ⟨by have h := E2.out; rw [← hp.out] at h; rw [h]; rfl, hS.out.to1.gold⟩
      | false =>
        have E2 := Lib.hid (show idxF p l 0 = idxF p (l.drop (k + 1)) (k + 1) by rw [he.out, E.out]; simp only [idxF, hpq.out, hc]; rfl)
        go_wp2_with fail
        go_roundg (m - (k + 1))
        case measure => omega
        case rel => exact ⟨k + 1, by omega, rfl, by go_num, E2, hS⟩
    · have hk2 : k = m := by omega
      have E := Lib.hid (show idxF p l 0 = -1 by rw [he.out, List.drop_eq_nil_of_le (by rw [hn.out]; omega)]; rfl)
      clear he
      go_wp2_with fail
      go_ret
      exact ⟨by have h := E.out; rw [← hp.out] at h; rw [h]; rfl, hS.out.to1.gold⟩
set_option maxHeartbeats 1000000 in
theorem waiting_any (t r n : Int) (v : Value) (l : List Rq) (w : World) (hv : RQ w v l) (hl : l.length ≤ 1000) :
    Calls Tryz.prog 50 #[hval t r v n] w fun e w' => e = .returned (.int .i64 (idxF (fun q => q.mode == 0) l 0)) ∧ Below w.heap.size w w' := by
  have h0 : ∀ b0, Sep (w.alloc (.cells b0 26)) [blk w.heap.size 26 b0, old w] := fun b0 => (Sep.start w).alloc b0 26
  replace h0 := Lib.hid h0
  have HU := Lib.hid (fun q w => holdsR_any q w)
  obtain ⟨a, c, rfl, hlc, _, hr⟩ := hv
  replace hr := Lib.hid hr
  unfold hval
  go_enter Tryz.func50, Tryz.ntmps50
  go_wp2_with fail
  have hS := Lib.hid (h0.out #[.int .i64 t, .int .i64 r, .slice a l.length c, .int .i64 n])
  clear h0
  generalize hn : l.length = m at *
  replace hn := Lib.hid hn
  generalize hp : (fun q : Rq => q.mode == 0) = p at *
  replace hp := Lib.hid hp
  go_loopg [3] m (fun g i wr => ∃ k : Nat, k ≤ m ∧ g = m - k ∧ i = .int .i64 k ∧ Hid (idxF p l 0 = idxF p (l.drop k) k) ∧ Hid (Sep wr [blk w.heap.size 26 #[.int .i64 t, .int .i64 r, .slice a m c, .int .i64 n], old w]))
  case atStart => exact ⟨0, Nat.zero_le _, rfl, rfl, rfl, hS⟩
  case round =>
    clear hS
    obtain ⟨k, hk, hg, rfl, he, hS⟩ := hrel
    obtain ⟨x1, d0, d1, x2, d3, _⟩ := hS.out.b4
    by_cases hlt : k < m
    · obtain ⟨b, off, rfl, hbl, hz⟩ := hr.out (by have := hn.out; omega)
      obtain ⟨z0, z1, z2, z3, z4⟩ := hz k (by have := hn.out; omega)
      have kk : ∀ o, wr.cell? ⟨b, o, none⟩ = w.cell? ⟨b, o, none⟩ := fun o => hS.out.to1.gold.cell (p := ⟨b, o, none⟩) hbl
      rw [← kk] at z0 z1 z2 z3 z4
      have E := Lib.hid (drop_at l k (by rw [hn.out]; exact hlt))
      have hpq := Lib.hid (show p (l.getD k default) = ((l.getD k default).mode == 0) by rw [← hp.out])
      clear hz hr kk
      generalize l.getD k default = q at *
      have HQ := Lib.hid (HU.out q wr)
      obtain ⟨id, txn, mode, want, since⟩ := q
      simp only [Rq.val] at HQ z0 z1 z2 z3 z4 hpq
      cases hc : mode == 0 with
      | true =>
        have E2 := Lib.hid (show idxF p l 0 = (k : Int) by rw [he.out, E.out]; simp only [idxF, hpq.out, hc, if_true])
        have hc' : (mode != 0) = false := by simp [bne, hc]
        rw [hc'] at HQ
        clear hc hc'
        go_wp2_with fail
        refine HQ.out.mono ?_
        rintro e w1 ⟨rfl, b1⟩
        replace hS := Lib.hid (hS.out.below b1)
        clear b1 HQ z0 z1 z2 z3 z4 x1 d0 d1 x2 d3
        go_wp2_with fail
        go_ret
        exact ⟨by have h := E2.out; rw [← hp.out] at h; rw [h]; rfl, hS.out.to1.gold⟩
      | false =>
        have E2 := Lib.hid (show idxF p l 0 = idxF p (l.drop (k + 1)) (k + 1) by rw [he.out, E.out]; simp only [idxF, hpq.out, hc]; rfl)
        have hc' : (mode != 0) = true := by simp [bne, hc]
        rw [hc'] at HQ
        clear hc hc'
        go_wp2_with fail
        refine HQ.out.mono ?_
        rintro e w1 ⟨rfl, b1⟩
        replace hS := Lib.hid (hS.out.below b1)
        clear b1 HQ z0 z1 z2 z3 z4 x1 d0 d1 x2 d3
        go_wp2_with fail
        go_roundg (m - (k + 1))
        case measure => omega
        case rel => exact ⟨k + 1, by omega, rfl, by go_num, E2, hS⟩
    · have hk2 : k = m := by omega
      have E := Lib.hid (show idxF p l 0 = -1 by rw [he.out, List.drop_eq_nil_of_le (by rw [hn.out]; omega)]; rfl)
      clear he
      go_wp2_with fail
      go_ret
      exact ⟨by have h := E.out; rw [← hp.out] at h; rw [h]; rfl, hS.out.to1.gold⟩
set_option maxHeartbeats 4000000 in
theorem upgrading_any (t r n : Int) (v : Value) (l : List Rq) (w : World) (hv : RQ w v l) (hl : l.length ≤ 1000) :
    Calls Tryz.prog 49 #[hval t r v n] w fun e w' => e = .returned (.int .i64 (bestK l l.length)) ∧ Below w.heap.size w w' := by
  have h0 : ∀ b0, Sep (w.alloc (.cells b0 26)) [blk w.heap.size 26 b0, old w] := fun b0 => (Sep.start w).alloc b0 26
  have HU := Lib.hid (fun q w => holdsR_any q w)
  have HV := Lib.hid (fun q w => waitsR_any q w)
  replace h0 := Lib.hid h0
  obtain ⟨a, c, rfl, hlc, _, hr⟩ := hv
  replace hr := Lib.hid hr
  unfold hval
  go_enter Tryz.func49, Tryz.ntmps49
  go_wp2_with fail
  have hS := Lib.hid (h0.out #[.int .i64 t, .int .i64 r, .slice a l.length c, .int .i64 n])
  clear h0
  generalize hn : l.length = m at *
  replace hn := Lib.hid hn
  go_loopg [3, 4] m (fun g s3 i wr => ∃ k : Nat, k ≤ m ∧ g = m - k ∧ i = .int .i64 k ∧ s3 = .int .i64 (bestK l k) ∧ Hid (Sep wr [blk w.heap.size 26 #[.int .i64 t, .int .i64 r, .slice a m c, .int .i64 n], old w]))
  case atStart => exact ⟨0, Nat.zero_le _, rfl, rfl, rfl, hS⟩
  case round =>
    clear hS
    obtain ⟨k, hk, hg, rfl, rfl, hS⟩ := hrel
    obtain ⟨x1, _, _, x2, _⟩ := hS.out.b4
    by_cases hlt : k < m
    · obtain ⟨b, off, rfl, hbl, hz⟩ := hr.out (by have := hn.out; omega)
      obtain ⟨z0, z1, z2, z3, z4⟩ := hz k (by have := hn.out; omega)
      have kk : ∀ o, wr.cell? ⟨b, o, none⟩ = w.cell? ⟨b, o, none⟩ := fun o => hS.out.to1.gold.cell (p := ⟨b, o, none⟩) hbl
      rw [← kk] at z0 z1 z2 z3 z4
      have E := Lib.hid (show bestK l (k + 1) = if upB (l.getD k default) && (decide (bestK l k < 0) || decide ((l.getD k default).since < (l.getD (bestK l k).toNat default).since)) then (k : Int) else bestK l k from rfl)
      have hbd := bestK_bd l k
      have hzz := Lib.hid hz
      clear kk hz hr
      generalize l.getD k default = q at *
      generalize bestK l k = best at *
      have HQ := Lib.hid (fun w => HU.out q w)
      have HW := Lib.hid (fun w => HV.out q w)
      have hS2 := Lib.hid (hS.out.alloc q.cells.toArray 42)
      obtain ⟨id, txn, mode, want, since⟩ := q
      simp only [Rq.val] at HQ HW
      simp only [Rq.cells] at hS2
      obtain ⟨_, p0, p1, p2, p3, p4, _⟩ := hS2.out.b5
      obtain ⟨_, _, _, p5, _⟩ := hS2.out.to1.b4
      cases hm0 : mode != 0 with
      | false =>
        have E2 := Lib.hid (show bestK l (k + 1) = best by rw [E.out]; simp only [upB, hm0]; rfl)
        rw [hm0] at HQ
        clear E
        go_wp2_with fail
        refine wp_region_any (by kernel_rfl) ?_
        change wpAny _ _ _ _ _ _ _ (World.drew _)
        refine wpAny_ready (rs := [0]) (by kernel_rfl) (by simp) ?_
        refine AllReady.cons rfl (fun K hK => ?_) AllReady.nil
        go_simp
        refine hK _ _ ?_
        clear hK K
        refine wpAny_ready (rs := [1]) (by kernel_rfl) (by simp) ?_
        refine AllReady.cons rfl (fun K hK => ?_) AllReady.nil
        go_simp
        go_wp2_with (go_at_call 38; refine (HQ.out _).mono ?_; rintro e w1 ⟨rfl, b1⟩; have hS3 := Lib.hid ((show Sep _ [blk wr.heap.size 42 #[.int .i64 id, .int .i64 txn, .int .i64 mode, .int .i64 want, .int .i64 since], blk w.heap.size 26 #[.int .i64 t, .int .i64 r, .slice (some ⟨b, off, none⟩) m c, .int .i64 n], old w] from by first | exact hS2.out | exact hS2.out.drew).below b1); obtain ⟨_, r0, r1, r2, r3, r4, _⟩ := hS3.out.b5; obtain ⟨_, _, _, v2, _⟩ := hS3.out.to1.b4; clear b1)
        refine reg_take 2 (.bool false) rfl (by kernel_rfl) (by kernel_rfl) (by kernel_rfl) (fun _ _ _ _ _ h => h) (by kernel_rfl) (fun w => by go_simp; try with_reducible rfl) ?_
        simp only [Act.put, List.setIfInBounds_toArray, List.set_cons_succ, List.set_cons_zero, List.getElem_toArray, List.getElem_cons_zero, List.getElem_cons_succ]
        refine reg_skip 3 rfl (by kernel_rfl) (by kernel_rfl) (by kernel_rfl) (fun _ _ _ _ _ h => h) (by kernel_rfl) ?_
        simp only [Act.put, List.setIfInBounds_toArray, List.set_cons_succ, List.set_cons_zero, List.getElem_toArray, List.getElem_cons_zero, List.getElem_cons_succ]
        refine reg_skip 4 rfl (by kernel_rfl) (by kernel_rfl) (by kernel_rfl) (fun _ _ _ _ _ h => h) (by kernel_rfl) ?_
        simp only [Act.put, List.setIfInBounds_toArray, List.set_cons_succ, List.set_cons_zero, List.getElem_toArray, List.getElem_cons_zero, List.getElem_cons_succ]
        refine reg_take 5 (.bool false) rfl (by kernel_rfl) (by kernel_rfl) (by kernel_rfl) (fun _ _ _ _ _ h => h) (by kernel_rfl) (fun w => by go_simp; try with_reducible rfl) ?_
        simp only [Act.put, List.setIfInBounds_toArray, List.set_cons_succ, List.set_cons_zero, List.getElem_toArray, List.getElem_cons_zero, List.getElem_cons_succ]
        refine reg_take 6 (.bool false) rfl (by kernel_rfl) (by kernel_rfl) (by kernel_rfl) (fun _ _ _ _ _ h => h) (by kernel_rfl) (fun w => by go_simp; try with_reducible rfl) ?_
        simp only [Act.put, List.setIfInBounds_toArray, List.set_cons_succ, List.set_cons_zero, List.getElem_toArray, List.getElem_cons_zero, List.getElem_cons_succ]
        refine reg_skip 7 rfl (by kernel_rfl) (by kernel_rfl) (by kernel_rfl) (fun _ _ _ _ _ h => h) (by kernel_rfl) ?_
        simp only [Act.put, List.setIfInBounds_toArray, List.set_cons_succ, List.set_cons_zero, List.getElem_toArray, List.getElem_cons_zero, List.getElem_cons_succ]
        refine reg_skip 8 rfl (by kernel_rfl) (by kernel_rfl) (by kernel_rfl) (fun _ _ _ _ _ h => h) (by kernel_rfl) ?_
        simp only [Act.put, List.setIfInBounds_toArray, List.set_cons_succ, List.set_cons_zero, List.getElem_toArray, List.getElem_cons_zero, List.getElem_cons_succ]
        refine reg_skip 9 rfl (by kernel_rfl) (by kernel_rfl) (by kernel_rfl) (fun _ _ _ _ _ h => h) (by kernel_rfl) ?_
        simp only [Act.put, List.setIfInBounds_toArray, List.set_cons_succ, List.set_cons_zero, List.getElem_toArray, List.getElem_cons_zero, List.getElem_cons_succ]
        refine reg_skip 10 rfl (by kernel_rfl) (by kernel_rfl) (by kernel_rfl) (fun _ _ _ _ _ h => h) (by kernel_rfl) ?_
        simp only [Act.put, List.setIfInBounds_toArray, List.set_cons_succ, List.set_cons_zero, List.getElem_toArray, List.getElem_cons_zero, List.getElem_cons_succ]
        refine reg_skip 11 rfl (by kernel_rfl) (by kernel_rfl) (by kernel_rfl) (fun _ _ _ _ _ h => h) (by kernel_rfl) ?_
        simp only [Act.put, List.setIfInBounds_toArray, List.set_cons_succ, List.set_cons_zero, List.getElem_toArray, List.getElem_cons_zero, List.getElem_cons_succ]
        refine reg_skip 12 rfl (by kernel_rfl) (by kernel_rfl) (by kernel_rfl) (fun _ _ _ _ _ h => h) (by kernel_rfl) ?_
        simp only [Act.put, List.setIfInBounds_toArray, List.set_cons_succ, List.set_cons_zero, List.getElem_toArray, List.getElem_cons_zero, List.getElem_cons_succ]
        refine reg_skip 13 rfl (by kernel_rfl) (by kernel_rfl) (by kernel_rfl) (fun _ _ _ _ _ h => h) (by kernel_rfl) ?_
        simp only [Act.put, List.setIfInBounds_toArray, List.set_cons_succ, List.set_cons_zero, List.getElem_toArray, List.getElem_cons_zero, List.getElem_cons_succ]
        refine reg_skip 14 rfl (by kernel_rfl) (by kernel_rfl) (by kernel_rfl) (fun _ _ _ _ _ h => h) (by kernel_rfl) ?_
        simp only [Act.put, List.setIfInBounds_toArray, List.set_cons_succ, List.set_cons_zero, List.getElem_toArray, List.getElem_cons_zero, List.getElem_cons_succ]
        refine reg_skip 15 rfl (by kernel_rfl) (by kernel_rfl) (by kernel_rfl) (fun _ _ _ _ _ h => h) (by kernel_rfl) ?_
        simp only [Act.put, List.setIfInBounds_toArray, List.set_cons_succ, List.set_cons_zero, List.getElem_toArray, List.getElem_cons_zero, List.getElem_cons_succ]
        refine reg_skip 16 rfl (by kernel_rfl) (by kernel_rfl) (by kernel_rfl) (fun _ _ _ _ _ h => h) (by kernel_rfl) ?_
        simp only [Act.put, List.setIfInBounds_toArray, List.set_cons_succ, List.set_cons_zero, List.getElem_toArray, List.getElem_cons_zero, List.getElem_cons_succ]
        refine reg_skip 17 rfl (by kernel_rfl) (by kernel_rfl) (by kernel_rfl) (fun _ _ _ _ _ h => h) (by kernel_rfl) ?_
        simp only [Act.put, List.setIfInBounds_toArray, List.set_cons_succ, List.set_cons_zero, List.getElem_toArray, List.getElem_cons_zero, List.getElem_cons_succ]
        refine reg_skip 18 rfl (by kernel_rfl) (by kernel_rfl) (by kernel_rfl) (fun _ _ _ _ _ h => h) (by kernel_rfl) ?_
        simp only [Act.put, List.setIfInBounds_toArray, List.set_cons_succ, List.set_cons_zero, List.getElem_toArray, List.getElem_cons_zero, List.getElem_cons_succ]
        refine reg_skip 19 rfl (by kernel_rfl) (by kernel_rfl) (by kernel_rfl) (fun _ _ _ _ _ h => h) (by kernel_rfl) ?_
        simp only [Act.put, List.setIfInBounds_toArray, List.set_cons_succ, List.set_cons_zero, List.getElem_toArray, List.getElem_cons_zero, List.getElem_cons_succ]
        refine reg_take 20 (.bool false) rfl (by kernel_rfl) (by kernel_rfl) (by kernel_rfl) (fun _ _ _ _ _ h => h) (by kernel_rfl) (fun w => by go_simp; try with_reducible rfl) ?_
        simp only [Act.put, List.setIfInBounds_toArray, List.set_cons_succ, List.set_cons_zero, List.getElem_toArray, List.getElem_cons_zero, List.getElem_cons_succ]
        refine wpAny_done (by kernel_rfl) ?_ _
        go_wp2_with fail
        go_roundg (m - (k + 1))
        case measure => omega
        case rel => exact ⟨k + 1, by omega, rfl, by go_num, by rw [E2.out], hS3.out.tail⟩
      | true =>
        rw [hm0] at HQ
        cases hs0 : decide (0 < since) with
        | false =>
          have E2 := Lib.hid (show bestK l (k + 1) = best by rw [E.out]; simp only [upB, hs0, Bool.and_false]; rfl)
          rw [hs0] at HW
          clear E
          go_wp2_with fail
          refine wp_region_any (by kernel_rfl) ?_
          change wpAny _ _ _ _ _ _ _ (World.drew _)
          refine wpAny_ready (rs := [0]) (by kernel_rfl) (by simp) ?_
          refine AllReady.cons rfl (fun K hK => ?_) AllReady.nil
          go_simp
          refine hK _ _ ?_
          clear hK K
          refine wpAny_ready (rs := [1]) (by kernel_rfl) (by simp) ?_
          refine AllReady.cons rfl (fun K hK => ?_) AllReady.nil
          go_simp
          go_wp2_with (go_at_call 38; refine (HQ.out _).mono ?_; rintro e w1 ⟨rfl, b1⟩; have hS3 := Lib.hid ((show Sep _ [blk wr.heap.size 42 #[.int .i64 id, .int .i64 txn, .int .i64 mode, .int .i64 want, .int .i64 since], blk w.heap.size 26 #[.int .i64 t, .int .i64 r, .slice (some ⟨b, off, none⟩) m c, .int .i64 n], old w] from by first | exact hS2.out | exact hS2.out.drew).below b1); obtain ⟨_, r0, r1, r2, r3, r4, _⟩ := hS3.out.b5; obtain ⟨_, _, _, v2, _⟩ := hS3.out.to1.b4; clear b1)
          refine reg_take 2 (.bool true) rfl (by kernel_rfl) (by kernel_rfl) (by kernel_rfl) (fun _ _ _ _ _ h => h) (by kernel_rfl) (fun w => by go_simp; try with_reducible rfl) ?_
          simp only [Act.put, List.setIfInBounds_toArray, List.set_cons_succ, List.set_cons_zero, List.getElem_toArray, List.getElem_cons_zero, List.getElem_cons_succ]
          refine wpAny_ready (rs := [3]) (by kernel_rfl) (by simp) ?_
          refine AllReady.cons rfl (fun K hK => ?_) AllReady.nil
          go_simp
          refine hK _ _ ?_
          clear hK K
          refine wpAny_ready (rs := [4]) (by kernel_rfl) (by simp) ?_
          refine AllReady.cons rfl (fun K hK => ?_) AllReady.nil
          go_simp
          go_wp2_with (go_at_call 37; refine (HW.out _).mono ?_; rintro e w2 ⟨rfl, b2⟩; have hS4 := Lib.hid (hS3.out.below b2); obtain ⟨_, s0, s1, s2, s3, s4, _⟩ := hS4.out.b5; obtain ⟨_, _, _, s5, _⟩ := hS4.out.to1.b4; clear b2)
          refine reg_take 5 (.bool false) rfl (by kernel_rfl) (by kernel_rfl) (by kernel_rfl) (fun _ _ _ _ _ h => h) (by kernel_rfl) (fun w => by go_simp; try with_reducible rfl) ?_
          simp only [Act.put, List.setIfInBounds_toArray, List.set_cons_succ, List.set_cons_zero, List.getElem_toArray, List.getElem_cons_zero, List.getElem_cons_succ]
          refine reg_take 6 (.bool false) rfl (by kernel_rfl) (by kernel_rfl) (by kernel_rfl) (fun _ _ _ _ _ h => h) (by kernel_rfl) (fun w => by go_simp; try with_reducible rfl) ?_
          simp only [Act.put, List.setIfInBounds_toArray, List.set_cons_succ, List.set_cons_zero, List.getElem_toArray, List.getElem_cons_zero, List.getElem_cons_succ]
          refine reg_skip 7 rfl (by kernel_rfl) (by kernel_rfl) (by kernel_rfl) (fun _ _ _ _ _ h => h) (by kernel_rfl) ?_
          simp only [Act.put, List.setIfInBounds_toArray, List.set_cons_succ, List.set_cons_zero, List.getElem_toArray, List.getElem_cons_zero, List.getElem_cons_succ]
          refine reg_skip 8 rfl (by kernel_rfl) (by kernel_rfl) (by kernel_rfl) (fun _ _ _ _ _ h => h) (by kernel_rfl) ?_
          simp only [Act.put, List.setIfInBounds_toArray, List.set_cons_succ, List.set_cons_zero, List.getElem_toArray, List.getElem_cons_zero, List.getElem_cons_succ]
          refine reg_skip 9 rfl (by kernel_rfl) (by kernel_rfl) (by kernel_rfl) (fun _ _ _ _ _ h => h) (by kernel_rfl) ?_
          simp only [Act.put, List.setIfInBounds_toArray, List.set_cons_succ, List.set_cons_zero, List.getElem_toArray, List.getElem_cons_zero, List.getElem_cons_succ]
          refine reg_skip 10 rfl (by kernel_rfl) (by kernel_rfl) (by kernel_rfl) (fun _ _ _ _ _ h => h) (by kernel_rfl) ?_
          simp only [Act.put, List.setIfInBounds_toArray, List.set_cons_succ, List.set_cons_zero, List.getElem_toArray, List.getElem_cons_zero, List.getElem_cons_succ]
          refine reg_skip 11 rfl (by kernel_rfl) (by kernel_rfl) (by kernel_rfl) (fun _ _ _ _ _ h => h) (by kernel_rfl) ?_
          simp only [Act.put, List.setIfInBounds_toArray, List.set_cons_succ, List.set_cons_zero, List.getElem_toArray, List.getElem_cons_zero, List.getElem_cons_succ]
          refine reg_skip 12 rfl (by kernel_rfl) (by kernel_rfl) (by kernel_rfl) (fun _ _ _ _ _ h => h) (by kernel_rfl) ?_
          simp only [Act.put, List.setIfInBounds_toArray, List.set_cons_succ, List.set_cons_zero, List.getElem_toArray, List.getElem_cons_zero, List.getElem_cons_succ]
          refine reg_skip 13 rfl (by kernel_rfl) (by kernel_rfl) (by kernel_rfl) (fun _ _ _ _ _ h => h) (by kernel_rfl) ?_
          simp only [Act.put, List.setIfInBounds_toArray, List.set_cons_succ, List.set_cons_zero, List.getElem_toArray, List.getElem_cons_zero, List.getElem_cons_succ]
          refine reg_skip 14 rfl (by kernel_rfl) (by kernel_rfl) (by kernel_rfl) (fun _ _ _ _ _ h => h) (by kernel_rfl) ?_
          simp only [Act.put, List.setIfInBounds_toArray, List.set_cons_succ, List.set_cons_zero, List.getElem_toArray, List.getElem_cons_zero, List.getElem_cons_succ]
          refine reg_skip 15 rfl (by kernel_rfl) (by kernel_rfl) (by kernel_rfl) (fun _ _ _ _ _ h => h) (by kernel_rfl) ?_
          simp only [Act.put, List.setIfInBounds_toArray, List.set_cons_succ, List.set_cons_zero, List.getElem_toArray, List.getElem_cons_zero, List.getElem_cons_succ]
          refine reg_skip 16 rfl (by kernel_rfl) (by kernel_rfl) (by kernel_rfl) (fun _ _ _ _ _ h => h) (by kernel_rfl) ?_
          simp only [Act.put, List.setIfInBounds_toArray, List.set_cons_succ, List.set_cons_zero, List.getElem_toArray, List.getElem_cons_zero, List.getElem_cons_succ]
          refine reg_skip 17 rfl (by kernel_rfl) (by kernel_rfl) (by kernel_rfl) (fun _ _ _ _ _ h => h) (by kernel_rfl) ?_
          simp only [Act.put, List.setIfInBounds_toArray, List.set_cons_succ, List.set_cons_zero, List.getElem_toArray, List.getElem_cons_zero, List.getElem_cons_succ]
          refine reg_skip 18 rfl (by kernel_rfl) (by kernel_rfl) (by kernel_rfl) (fun _ _ _ _ _ h => h) (by kernel_rfl) ?_
          simp only [Act.put, List.setIfInBounds_toArray, List.set_cons_succ, List.set_cons_zero, List.getElem_toArray, List.getElem_cons_zero, List.getElem_cons_succ]
          refine reg_skip 19 rfl (by kernel_rfl) (by kernel_rfl) (by kernel_rfl) (fun _ _ _ _ _ h => h) (by kernel_rfl) ?_
          simp only [Act.put, List.setIfInBounds_toArray, List.set_cons_succ, List.set_cons_zero, List.getElem_toArray, List.getElem_cons_zero, List.getElem_cons_succ]
          refine reg_take 20 (.bool false) rfl (by kernel_rfl) (by kernel_rfl) (by kernel_rfl) (fun _ _ _ _ _ h => h) (by kernel_rfl) (fun w => by go_simp; try with_reducible rfl) ?_
          simp only [Act.put, List.setIfInBounds_toArray, List.set_cons_succ, List.set_cons_zero, List.getElem_toArray, List.getElem_cons_zero, List.getElem_cons_succ]
          refine wpAny_done (by kernel_rfl) ?_ _
          go_wp2_with fail
          go_roundg (m - (k + 1))
          case measure => omega
          case rel => exact ⟨k + 1, by omega, rfl, by go_num, by rw [E2.out], hS4.out.tail⟩
        | true =>
          rw [hs0] at HW
          have hu : upB ⟨id, txn, mode, want, since⟩ = true := by simp only [upB, hm0, hs0]; rfl
          by_cases hb0 : best < 0
          · have E2 := Lib.hid (show bestK l (k + 1) = (k : Int) by rw [E.out, hu, decide_eq_true hb0]; rfl)
            have d0 : decide (best < 0) = true := by simpa using hb0
            clear E hb0 hu
            go_wp2_with fail
            refine wp_region_any (by kernel_rfl) ?_
            change wpAny _ _ _ _ _ _ _ (World.drew _)
            refine wpAny_ready (rs := [0]) (by kernel_rfl) (by simp) ?_
            refine AllReady.cons rfl (fun K hK => ?_) AllReady.nil
            go_simp
            refine hK _ _ ?_
            clear hK K
            refine wpAny_ready (rs := [1]) (by kernel_rfl) (by simp) ?_
            refine AllReady.cons rfl (fun K hK => ?_) AllReady.nil
            go_simp
            go_wp2_with (go_at_call 38; refine (HQ.out _).mono ?_; rintro e w1 ⟨rfl, b1⟩; have hS3 := Lib.hid ((show Sep _ [blk wr.heap.size 42 #[.int .i64 id, .int .i64 txn, .int .i64 mode, .int .i64 want, .int .i64 since], blk w.heap.size 26 #[.int .i64 t, .int .i64 r, .slice (some ⟨b, off, none⟩) m c, .int .i64 n], old w] from by first | exact hS2.out | exact hS2.out.drew).below b1); obtain ⟨_, r0, r1, r2, r3, r4, _⟩ := hS3.out.b5; obtain ⟨_, _, _, v2, _⟩ := hS3.out.to1.b4; clear b1)
            refine reg_take 2 (.bool true) rfl (by kernel_rfl) (by kernel_rfl) (by kernel_rfl) (fun _ _ _ _ _ h => h) (by kernel_rfl) (fun w => by go_simp; try with_reducible rfl) ?_
            simp only [Act.put, List.setIfInBounds_toArray, List.set_cons_succ, List.set_cons_zero, List.getElem_toArray, List.getElem_cons_zero, List.getElem_cons_succ]
            refine wpAny_ready (rs := [3]) (by kernel_rfl) (by simp) ?_
            refine AllReady.cons rfl (fun K hK => ?_) AllReady.nil
            go_simp
            refine hK _ _ ?_
            clear hK K
            refine wpAny_ready (rs := [4]) (by kernel_rfl) (by simp) ?_
            refine AllReady.cons rfl (fun K hK => ?_) AllReady.nil
            go_simp
            go_wp2_with (go_at_call 37; refine (HW.out _).mono ?_; rintro e w2 ⟨rfl, b2⟩; have hS4 := Lib.hid (hS3.out.below b2); obtain ⟨_, s0, s1, s2, s3, s4, _⟩ := hS4.out.b5; obtain ⟨_, _, _, s5, _⟩ := hS4.out.to1.b4; clear b2)
            refine reg_take 5 (.bool true) rfl (by kernel_rfl) (by kernel_rfl) (by kernel_rfl) (fun _ _ _ _ _ h => h) (by kernel_rfl) (fun w => by go_simp; try with_reducible rfl) ?_
            simp only [Act.put, List.setIfInBounds_toArray, List.set_cons_succ, List.set_cons_zero, List.getElem_toArray, List.getElem_cons_zero, List.getElem_cons_succ]
            refine reg_take 6 (.bool true) rfl (by kernel_rfl) (by kernel_rfl) (by kernel_rfl) (fun _ _ _ _ _ h => h) (by kernel_rfl) (fun w => by go_simp; try with_reducible rfl) ?_
            simp only [Act.put, List.setIfInBounds_toArray, List.set_cons_succ, List.set_cons_zero, List.getElem_toArray, List.getElem_cons_zero, List.getElem_cons_succ]
            refine reg_take 7 (.int .i64 best) rfl (by kernel_rfl) (by kernel_rfl) (by kernel_rfl) (fun _ _ _ _ _ h => h) (by kernel_rfl) (fun w => by go_simp; try with_reducible rfl) ?_
            simp only [Act.put, List.setIfInBounds_toArray, List.set_cons_succ, List.set_cons_zero, List.getElem_toArray, List.getElem_cons_zero, List.getElem_cons_succ]
            refine reg_take 8 (.bool true) rfl (by kernel_rfl) (by kernel_rfl) (by kernel_rfl) (fun _ _ _ _ _ h => h) (by kernel_rfl) (fun w => by go_simp; try with_reducible rfl) ?_
            simp only [Act.put, List.setIfInBounds_toArray, List.set_cons_succ, List.set_cons_zero, List.getElem_toArray, List.getElem_cons_zero, List.getElem_cons_succ]
            refine reg_take 9 (.bool true) rfl (by kernel_rfl) (by kernel_rfl) (by kernel_rfl) (fun _ _ _ _ _ h => h) (by kernel_rfl) (fun w => by go_simp; try with_reducible rfl) ?_
            simp only [Act.put, List.setIfInBounds_toArray, List.set_cons_succ, List.set_cons_zero, List.getElem_toArray, List.getElem_cons_zero, List.getElem_cons_succ]
            refine reg_skip 10 rfl (by kernel_rfl) (by kernel_rfl) (by kernel_rfl) (fun _ _ _ _ _ h => h) (by kernel_rfl) ?_
            simp only [Act.put, List.setIfInBounds_toArray, List.set_cons_succ, List.set_cons_zero, List.getElem_toArray, List.getElem_cons_zero, List.getElem_cons_succ]
            refine reg_skip 11 rfl (by kernel_rfl) (by kernel_rfl) (by kernel_rfl) (fun _ _ _ _ _ h => h) (by kernel_rfl) ?_
            simp only [Act.put, List.setIfInBounds_toArray, List.set_cons_succ, List.set_cons_zero, List.getElem_toArray, List.getElem_cons_zero, List.getElem_cons_succ]
            refine reg_skip 12 rfl (by kernel_rfl) (by kernel_rfl) (by kernel_rfl) (fun _ _ _ _ _ h => h) (by kernel_rfl) ?_
            simp only [Act.put, List.setIfInBounds_toArray, List.set_cons_succ, List.set_cons_zero, List.getElem_toArray, List.getElem_cons_zero, List.getElem_cons_succ]
            refine reg_skip 13 rfl (by kernel_rfl) (by kernel_rfl) (by kernel_rfl) (fun _ _ _ _ _ h => h) (by kernel_rfl) ?_
            simp only [Act.put, List.setIfInBounds_toArray, List.set_cons_succ, List.set_cons_zero, List.getElem_toArray, List.getElem_cons_zero, List.getElem_cons_succ]
            refine reg_skip 14 rfl (by kernel_rfl) (by kernel_rfl) (by kernel_rfl) (fun _ _ _ _ _ h => h) (by kernel_rfl) ?_
            simp only [Act.put, List.setIfInBounds_toArray, List.set_cons_succ, List.set_cons_zero, List.getElem_toArray, List.getElem_cons_zero, List.getElem_cons_succ]
            refine reg_skip 15 rfl (by kernel_rfl) (by kernel_rfl) (by kernel_rfl) (fun _ _ _ _ _ h => h) (by kernel_rfl) ?_
            simp only [Act.put, List.setIfInBounds_toArray, List.set_cons_succ, List.set_cons_zero, List.getElem_toArray, List.getElem_cons_zero, List.getElem_cons_succ]
            refine reg_skip 16 rfl (by kernel_rfl) (by kernel_rfl) (by kernel_rfl) (fun _ _ _ _ _ h => h) (by kernel_rfl) ?_
            simp only [Act.put, List.setIfInBounds_toArray, List.set_cons_succ, List.set_cons_zero, List.getElem_toArray, List.getElem_cons_zero, List.getElem_cons_succ]
            refine reg_skip 17 rfl (by kernel_rfl) (by kernel_rfl) (by kernel_rfl) (fun _ _ _ _ _ h => h) (by kernel_rfl) ?_
            simp only [Act.put, List.setIfInBounds_toArray, List.set_cons_succ, List.set_cons_zero, List.getElem_toArray, List.getElem_cons_zero, List.getElem_cons_succ]
            refine reg_skip 18 rfl (by kernel_rfl) (by kernel_rfl) (by kernel_rfl) (fun _ _ _ _ _ h => h) (by kernel_rfl) ?_
            simp only [Act.put, List.setIfInBounds_toArray, List.set_cons_succ, List.set_cons_zero, List.getElem_toArray, List.getElem_cons_zero, List.getElem_cons_succ]
            refine reg_take 19 (.bool true) rfl (by kernel_rfl) (by kernel_rfl) (by kernel_rfl) (fun _ _ _ _ _ h => h) (by kernel_rfl) (fun w => by go_simp; try with_reducible rfl) ?_
            simp only [Act.put, List.setIfInBounds_toArray, List.set_cons_succ, List.set_cons_zero, List.getElem_toArray, List.getElem_cons_zero, List.getElem_cons_succ]
            refine reg_take 20 (.bool true) rfl (by kernel_rfl) (by kernel_rfl) (by kernel_rfl) (fun _ _ _ _ _ h => h) (by kernel_rfl) (fun w => by go_simp; try with_reducible rfl) ?_
            simp only [Act.put, List.setIfInBounds_toArray, List.set_cons_succ, List.set_cons_zero, List.getElem_toArray, List.getElem_cons_zero, List.getElem_cons_succ]
            refine wpAny_done (by kernel_rfl) ?_ _
            go_wp2_with fail
            go_roundg (m - (k + 1))
            case measure => omega
            case rel => exact ⟨k + 1, by omega, rfl, by go_num, by rw [E2.out], hS4.out.tail⟩
          · obtain ⟨bq, rfl⟩ := Int.eq_ofNat_of_zero_le (show 0 ≤ best by omega)
            have hzb := (hzz.out bq (by have := hn.out; omega)).2.2.2.2
            have zb0 := (hS2.out.to2.gold.cell (p := ⟨b, off + bq * 5 + 4, none⟩) hbl).trans hzb
            rw [Int.toNat_natCast] at E
            have E2 := Lib.hid (show bestK l (k + 1) = if decide (since < (l.getD bq default).since) then (k : Int) else bq by rw [E.out, hu, decide_eq_false hb0]; rfl)
            have d0 : decide ((bq : Int) < 0) = false := by simp
            have i1 : (0 : Int) ≤ (bq : Int) := by omega
            have i2 : (bq : Int) < (m : Int) := by omega
            clear E hb0 hu
            generalize (l.getD bq default).since = sb at *
            by_cases hc : since < sb
            · have d1 : decide (since < sb) = true := by simpa using hc
              have E3 := Lib.hid (show bestK l (k + 1) = (k : Int) by rw [E2.out, if_pos d1])
              clear hc E2
              go_wp2_with fail
              go_region_held3 (fun w' => w'.cell? ⟨wr.heap.size, 0, none⟩ = some (.int .i64 id) ∧ w'.cell? ⟨wr.heap.size, 1, none⟩ = some (.int .i64 txn) ∧ w'.cell? ⟨wr.heap.size, 2, none⟩ = some (.int .i64 mode) ∧ w'.cell? ⟨wr.heap.size, 3, none⟩ = some (.int .i64 want) ∧ w'.cell? ⟨wr.heap.size, 4, none⟩ = some (.int .i64 since) ∧ w'.cell? ⟨w.heap.size, 2, none⟩ = some (.slice (some ⟨b, off, none⟩) m c) ∧ w'.cell? ⟨b, off + bq * 5 + 4, none⟩ = some (.int .i64 sb)) (exact ⟨by assumption, by assumption, by assumption, by assumption, by assumption, by assumption, by assumption⟩)
                (first | (go_at_call 38; refine (HQ.out _).mono ?_; rintro e w1 ⟨rfl, b1⟩; have hS3 := Lib.hid ((show Sep _ [blk wr.heap.size 42 #[.int .i64 id, .int .i64 txn, .int .i64 mode, .int .i64 want, .int .i64 since], blk w.heap.size 26 #[.int .i64 t, .int .i64 r, .slice (some ⟨b, off, none⟩) m c, .int .i64 n], old w] from by first | exact hS2.out | exact hS2.out.drew).below b1); obtain ⟨_, r0, r1, r2, r3, r4, _⟩ := hS3.out.b5; obtain ⟨_, _, _, v2, _⟩ := hS3.out.to1.b4; have zb1 := (hS3.out.to2.gold.cell (p := ⟨b, off + bq * 5 + 4, none⟩) hbl).trans hzb; clear b1) | (go_at_call 37; refine (HW.out _).mono ?_; rintro e w2 ⟨rfl, b2⟩; have hS4 := Lib.hid (hS3.out.below b2); obtain ⟨_, s0, s1, s2, s3, s4, _⟩ := hS4.out.b5; obtain ⟨_, _, _, s5, _⟩ := hS4.out.to1.b4; have zb2 := (hS4.out.to2.gold.cell (p := ⟨b, off + bq * 5 + 4, none⟩) hbl).trans hzb; clear b2))
              go_wp2_with fail
              go_roundg (m - (k + 1))
              case measure => omega
              case rel => exact ⟨k + 1, by omega, rfl, by go_num, by rw [E3.out], hS4.out.tail⟩
            · have d1 : decide (since < sb) = false := by simpa using hc
              have E3 := Lib.hid (show bestK l (k + 1) = (bq : Int) by rw [E2.out, if_neg (by rw [d1]; decide)])
              clear hc E2
              go_wp2_with fail
              go_region_held3 (fun w' => w'.cell? ⟨wr.heap.size, 0, none⟩ = some (.int .i64 id) ∧ w'.cell? ⟨wr.heap.size, 1, none⟩ = some (.int .i64 txn) ∧ w'.cell? ⟨wr.heap.size, 2, none⟩ = some (.int .i64 mode) ∧ w'.cell? ⟨wr.heap.size, 3, none⟩ = some (.int .i64 want) ∧ w'.cell? ⟨wr.heap.size, 4, none⟩ = some (.int .i64 since) ∧ w'.cell? ⟨w.heap.size, 2, none⟩ = some (.slice (some ⟨b, off, none⟩) m c) ∧ w'.cell? ⟨b, off + bq * 5 + 4, none⟩ = some (.int .i64 sb)) (exact ⟨by assumption, by assumption, by assumption, by assumption, by assumption, by assumption, by assumption⟩)
                (first | (go_at_call 38; refine (HQ.out _).mono ?_; rintro e w1 ⟨rfl, b1⟩; have hS3 := Lib.hid ((show Sep _ [blk wr.heap.size 42 #[.int .i64 id, .int .i64 txn, .int .i64 mode, .int .i64 want, .int .i64 since], blk w.heap.size 26 #[.int .i64 t, .int .i64 r, .slice (some ⟨b, off, none⟩) m c, .int .i64 n], old w] from by first | exact hS2.out | exact hS2.out.drew).below b1); obtain ⟨_, r0, r1, r2, r3, r4, _⟩ := hS3.out.b5; obtain ⟨_, _, _, v2, _⟩ := hS3.out.to1.b4; have zb1 := (hS3.out.to2.gold.cell (p := ⟨b, off + bq * 5 + 4, none⟩) hbl).trans hzb; clear b1) | (go_at_call 37; refine (HW.out _).mono ?_; rintro e w2 ⟨rfl, b2⟩; have hS4 := Lib.hid (hS3.out.below b2); obtain ⟨_, s0, s1, s2, s3, s4, _⟩ := hS4.out.b5; obtain ⟨_, _, _, s5, _⟩ := hS4.out.to1.b4; have zb2 := (hS4.out.to2.gold.cell (p := ⟨b, off + bq * 5 + 4, none⟩) hbl).trans hzb; clear b2))
              go_wp2_with fail
              go_roundg (m - (k + 1))
              case measure => omega
              case rel => exact ⟨k + 1, by omega, rfl, by go_num, by rw [E3.out], hS4.out.tail⟩
    · obtain rfl : k = m := by omega
      have bel := Lib.hid hS.out.tail.gold
      clear hS
      go_wp2_with fail
      go_ret
      exact ⟨by rw [hn.out]; rfl, bel.out⟩
/-- Nobody of the first k but one is in the way. -/
def fitsK (l : List Rq) (mo but : Int) : Nat → Bool
  | 0 => true
  | k+1 => fitsK l mo but k && !(decide ((k : Int) ≠ but) && ((l.getD k default).mode != 0 && !comB (l.getD k default).mode mo))
theorem fitsK_down (l : List Rq) (mo but : Int) (k : Nat) (h : fitsK l mo but k = false) : ∀ d, fitsK l mo but (k + d) = false
  | 0 => h
  | d+1 => by rw [show k + (d + 1) = (k + d) + 1 from rfl, fitsK, fitsK_down l mo but k h d]; rfl
set_option maxHeartbeats 1000000 in
theorem fitsR_any (t r n : Int) (v : Value) (l : List Rq) (mo but : Int) (w : World) (hv : RQ w v l) (hl : l.length ≤ 1000) :
    Calls Tryz.prog 51 #[hval t r v n, .int .i64 mo, .int .i64 but] w fun e w' => e = .returned (.bool (fitsK l mo but l.length)) ∧ Below w.heap.size w w' := by
  have h0 : ∀ b0, Sep (w.alloc (.cells b0 26)) [blk w.heap.size 26 b0, old w] := fun b0 => (Sep.start w).alloc b0 26
  replace h0 := Lib.hid h0
  have HU := Lib.hid (fun q w => holdsR_any q w)
  obtain ⟨a, c, rfl, hlc, _, hr⟩ := hv
  replace hr := Lib.hid hr
  unfold hval
  go_enter Tryz.func51, Tryz.ntmps51
  go_wp2_with fail
  have hS := Lib.hid (h0.out #[.int .i64 t, .int .i64 r, .slice a l.length c, .int .i64 n])
  clear h0
  generalize hn : l.length = m at *
  replace hn := Lib.hid hn
  go_loopg [7] m (fun g i wr => ∃ k : Nat, k ≤ m ∧ g = m - k ∧ i = .int .i64 k ∧ Hid (fitsK l mo but k = true) ∧ Hid (Sep wr [blk w.heap.size 26 #[.int .i64 t, .int .i64 r, .slice a m c, .int .i64 n], old w]))
  case atStart => exact ⟨0, Nat.zero_le _, rfl, rfl, rfl, hS⟩
  case round =>
    clear hS
    obtain ⟨k, hk, hg, rfl, he, hS⟩ := hrel
    obtain ⟨x1, d0, d1, x2, d3, _⟩ := hS.out.b4
    by_cases hlt : k < m
    · obtain ⟨b, off, rfl, hbl, hz⟩ := hr.out (by have := hn.out; omega)
      obtain ⟨z0, z1, z2, z3, z4⟩ := hz k (by have := hn.out; omega)
      have hz2 := z2
      have kk : ∀ o, wr.cell? ⟨b, o, none⟩ = w.cell? ⟨b, o, none⟩ := fun o => hS.out.to1.gold.cell (p := ⟨b, o, none⟩) hbl
      rw [← kk] at z0 z1 z2 z3 z4
      have E := Lib.hid (show fitsK l mo but (k + 1) = (fitsK l mo but k && !(decide ((k : Int) ≠ but) && ((l.getD k default).mode != 0 && !comB (l.getD k default).mode mo))) from rfl)
      have hdn := Lib.hid (fun (h : fitsK l mo but (k + 1) = false) => show fitsK l mo but l.length = false by
        have := fitsK_down l mo but (k + 1) h (l.length - (k + 1))
        rwa [show k + 1 + (l.length - (k + 1)) = l.length by have := hn.out; omega] at this)
      clear hz hr kk
      generalize l.getD k default = q at *
      have HQ := Lib.hid (HU.out q wr)
      have HC := Lib.hid (fun w => compatR_any q.mode mo w)
      obtain ⟨id, txn, mode, want, since⟩ := q
      simp only [Rq.val] at HQ HC E hz2 z0 z1 z2 z3 z4
      replace hz2 := Lib.hid hz2
      cases hb : ((k : Int) != but) with
      | false =>
        have hbb : (k : Int) = but := by simpa using hb
        have E2 := Lib.hid (show fitsK l mo but (k + 1) = true by rw [E.out, he.out]; simp [hbb])
        clear hbb E
        go_wp2_with fail
        go_roundg (m - (k + 1))
        case measure => omega
        case rel => exact ⟨k + 1, by omega, rfl, by go_num, E2, hS⟩
      | true =>
        have hbb : ¬ (k : Int) = but := by simpa using hb
        cases hm : mode != 0 with
        | false =>
          have E2 := Lib.hid (show fitsK l mo but (k + 1) = true by rw [E.out, he.out]; simp only [hm]; simp)
          rw [hm] at HQ
          clear hbb E
          go_wp2_with fail
          refine HQ.out.mono ?_
          rintro e w1 ⟨rfl, b1⟩
          replace hS := Lib.hid (hS.out.below b1)
          obtain ⟨x1', d0', d1', x2', d3', _⟩ := hS.out.b4
          have y2 := (hS.out.to1.gold.cell (p := ⟨b, off + k * 5 + 2, none⟩) hbl).trans hz2.out
          clear b1 HQ z0 z1 z2 z3 z4 x1 d0 d1 x2 d3
          go_wp2_with fail
          go_roundg (m - (k + 1))
          case measure => omega
          case rel => exact ⟨k + 1, by omega, rfl, by go_num, E2, hS⟩
        | true =>
          rw [hm] at HQ
          cases hc : comB mode mo with
          | true =>
            have E2 := Lib.hid (show fitsK l mo but (k + 1) = true by rw [E.out, he.out]; simp only [hm, hc]; simp)
            rw [hc] at HC
            clear hbb E
            go_wp2_with fail
            refine HQ.out.mono ?_
            rintro e w1 ⟨rfl, b1⟩
            replace hS := Lib.hid (hS.out.below b1)
            obtain ⟨x1', d0', d1', x2', d3', _⟩ := hS.out.b4
            have y2 := (hS.out.to1.gold.cell (p := ⟨b, off + k * 5 + 2, none⟩) hbl).trans hz2.out
            clear b1 HQ z0 z1 z2 z3 z4 x1 d0 d1 x2 d3
            go_wp2_with fail
            refine (HC.out _).mono ?_
            rintro e w2 ⟨rfl, b2⟩
            replace hS := Lib.hid (hS.out.below b2)
            clear b2 x1' d0' d1' x2' d3' y2
            go_wp2_with fail
            go_roundg (m - (k + 1))
            case measure => omega
            case rel => exact ⟨k + 1, by omega, rfl, by go_num, E2, hS⟩
          | false =>
            have E2 := Lib.hid (show fitsK l mo but l.length = false from hdn.out (by rw [E.out]; simp only [hm, hc]; simp [hbb]))
            rw [hc] at HC
            clear hbb E
            go_wp2_with fail
            refine HQ.out.mono ?_
            rintro e w1 ⟨rfl, b1⟩
            replace hS := Lib.hid (hS.out.below b1)
            obtain ⟨x1', d0', d1', x2', d3', _⟩ := hS.out.b4
            have y2 := (hS.out.to1.gold.cell (p := ⟨b, off + k * 5 + 2, none⟩) hbl).trans hz2.out
            clear b1 HQ z0 z1 z2 z3 z4 x1 d0 d1 x2 d3
            go_wp2_with fail
            refine (HC.out _).mono ?_
            rintro e w2 ⟨rfl, b2⟩
            replace hS := Lib.hid (hS.out.below b2)
            clear b2 x1' d0' d1' x2' d3' y2
            go_wp2_with fail
            go_ret
            exact ⟨by rw [E2.out]; rfl, hS.out.to1.gold⟩
    · obtain rfl : k = m := by omega
      have bel := Lib.hid hS.out.tail.gold
      clear hS
      go_wp2_with fail
      go_ret
      exact ⟨by rw [hn.out, he.out]; rfl, bel.out⟩
end Go.Proofs.YtmacpjnkmkaloaaGreat
namespace Go.Proofs.YtmacpjnkmkaloaaGreat
set_option linter.unusedSimpArgs false
set_option linter.unusedVariables false
set_option linter.unnecessarySimpa false
open Go.RowKit
theorem fresh_row (w : World) : Sep (w.alloc (.cells #[] 42)) [vec 42 5 (.slice (some ⟨w.heap.size, 0, none⟩) 0 0) 0 [], old w] :=
  (Sep.start w).vec_new (World.ownsRow_made w #[] 0 (Nat.le_refl _) (Nat.zero_le _) rfl) ((Below.refl _ _).alloc (Nat.le_refl _) _)
theorem ownK_any (v : Value) (l : List Rq) (w : World) (hv : RQ w v l) (hl : l.length ≤ 1000) :
    Calls Tryz.prog 46 #[v] w fun e w' => ∃ a c, e = .returned (.slice a l.length c) ∧ Sep w' [vq (.slice a l.length c) l, old w] := by
  have hS := Lib.hid hv.src
  have h1 := Lib.hid (qcells_one l)
  obtain ⟨a, c, rfl, hc, hna, hr⟩ := hv
  obtain ⟨i0, hi, hz0, hz1, hz2⟩ := info_parts info_req
  clear hr hna
  have hE := Lib.hid (fresh_row w)
  have hS2 := Lib.hid (show SrcA (w.alloc (.cells #[] 42)) 5 (.slice a l.length c) l.length (qcells l) from hS.out.below ((Below.refl _ _).alloc (Nat.le_refl _) _))
  generalize hn : l.length = n at *
  replace hn := Lib.hid hn
  go_enter Tryz.func46, Tryz.ntmps46
  go_wp2_with (at_builtin; refine wpList_append_sep hE.out rfl _ _ 24 rfl i0 _ 40 Tryz.underlying24 hi hz0 hz1 hz2 rfl (by decide) rfl n (qcells l) hS2.out h1.out ?c3 ?c4 ?_)
  case c3 => simp only [maxLen]; omega
  case c4 => omega
  intro a' c' w1 hS1
  replace hS1 := Lib.hid hS1
  go_wp2_with fail
  go_ret
  exact ⟨a', c', by simp, by unfold vq; rw [hn.out]; exact hS1.out⟩
theorem ownHead_any (t r n : Int) (v : Value) (l : List Rq) (w : World) (hv : RQ w v l) (hl : l.length ≤ 1000) :
    Calls Tryz.prog 11 #[hval t r v n] w fun e w' => ∃ a c, e = .returned (hval t r (.slice a l.length c) n) ∧ Sep w' [vq (.slice a l.length c) l, old w] := by
  have h0 : ∀ b1 b2, Sep ((w.alloc (.cells b1 26)).alloc (.cells b2 26)) [blk (w.heap.size + 1) 26 b2, blk w.heap.size 26 b1, old w] := fun b1 b2 => by
    have := ((Sep.start w).alloc b1 26).alloc b2 26
    rw [World.size_alloc] at this
    exact this
  have H := Lib.hid (fun b1 b2 => ownK_any v l ((w.alloc (.cells b1 26)).alloc (.cells b2 26)) (hv.below (two_boxes _ _ _ _ _)) hl)
  replace h0 := Lib.hid h0
  obtain ⟨a, c, rfl, _⟩ := hv
  unfold hval
  go_enter Tryz.func11, Tryz.ntmps11
  go_wp2_with fail
  refine (H.out _ _).mono ?_
  rintro e w1 ⟨a', c', rfl, hS⟩
  have hT := hS.graft (h0.out _ _)
  clear H h0
  obtain ⟨z1, d0, d1, d2, d3, g0, g1, g2, g3⟩ := hT.to1.b4
  obtain ⟨z2, c0, c1, c2, c3, _, _, f2, _⟩ := hT.to2.b4
  replace hT := Lib.hid hT
  clear hS
  go_wp2_with fail
  refine bodyPost_ret (v := .agg #[.int .i64 t, .int .i64 r, .slice a' l.length c', .int .i64 n]) (by simp [results, Tryz.results11, go_sem, *]) rfl ⟨_, _, rfl, ?_⟩
  exact ((((((hT.out.to2.set 2 _).to2.set 0 _).set 1 _).set 2 _).set 3 _)).tail.tail
theorem copied_any (t r n : Int) (v : Value) (l : List Rq) (w : World) (hv : RQ w v l) (hl : l.length ≤ 1000) :
    Calls Tryz.prog 48 #[hval t r v n] w fun e w' => ∃ a c, e = .returned (hval t r (.slice a l.length c) n) ∧ Sep w' [vq (.slice a l.length c) l, old w] := by
  have h0 : ∀ b1 b2, Sep ((w.alloc (.cells b1 26)).alloc (.cells b2 26)) [blk (w.heap.size + 1) 26 b2, blk w.heap.size 26 b1, old w] := fun b1 b2 => by
    have := ((Sep.start w).alloc b1 26).alloc b2 26
    rw [World.size_alloc] at this
    exact this
  have hS0 := hv.src
  have h1 := Lib.hid (qcells_one l)
  obtain ⟨i0, hi, hz0, hz1, hz2⟩ := info_parts info_req
  obtain ⟨a, c, rfl, _⟩ := hv
  have hT0 := h0 #[.int .i64 t, .int .i64 r, .slice a l.length c, .int .i64 n] #[.int .i64 0, .int .i64 0, .slice none 0 0, .int .i64 0]
  have hE := (fresh_row ((w.alloc (.cells #[.int .i64 t, .int .i64 r, .slice a l.length c, .int .i64 n] 26)).alloc (.cells #[.int .i64 0, .int .i64 0, .slice none 0 0, .int .i64 0] 26))).graft hT0
  rw [World.size_alloc, World.size_alloc] at hE
  have hS2 := Lib.hid (hS0.below (two_boxes w #[.int .i64 t, .int .i64 r, .slice a l.length c, .int .i64 n] #[.int .i64 0, .int .i64 0, .slice none 0 0, .int .i64 0] 26 26 |>.alloc (by simp; omega) (.cells #[] 42)))
  replace hE := Lib.hid hE
  clear h0 hT0 hS0
  unfold hval
  generalize hn : l.length = m at *
  replace hn := Lib.hid hn
  go_enter Tryz.func48, Tryz.ntmps48
  go_wp2_with (at_builtin; refine wpList_append_sep hE.out rfl _ _ 24 rfl i0 _ 40 Tryz.underlying24 hi hz0 hz1 hz2 rfl (by decide) rfl m (qcells l) hS2.out h1.out ?c3 ?c4 ?_)
  case c3 => simp only [maxLen]; omega
  case c4 => omega
  intro a' c' w1 hS1
  have hT : Sep w1 [vq (.slice a' m c') l, blk (w.heap.size + 1) 26 #[.int .i64 0, .int .i64 0, .slice none 0 0, .int .i64 0], blk w.heap.size 26 #[.int .i64 t, .int .i64 r, .slice a m c, .int .i64 n], old w] := by
    unfold vq
    rw [hn.out]
    simpa using hS1
  have hS := trivial
  clear hS1 hE hS2
  obtain ⟨z1, d0, d1, d2, d3, g0, g1, g2, g3⟩ := hT.to1.b4
  obtain ⟨z2, c0, c1, c2, c3, _, _, f2, _⟩ := hT.to2.b4
  replace hT := Lib.hid hT
  clear hS
  go_wp2_with fail
  refine bodyPost_ret (v := .agg #[.int .i64 t, .int .i64 r, .slice a' m c', .int .i64 n]) (by simp [results, Tryz.results48, go_sem, *]) rfl ⟨_, _, rfl, ?_⟩
  exact ((((((hT.out.to2.set 2 _).to2.set 0 _).set 1 _).set 2 _).set 3 _)).tail.tail
/-- No two requests have one number. -/
def IdsD (l : List Rq) : Prop := ∀ i j, i < l.length → j < l.length → (l.getD i default).id = (l.getD j default).id → i = j
theorem take_snocQ (l : List Rq) (k : Nat) (h : k < l.length) : l.take (k + 1) = l.take k ++ [l.getD k default] := by
  rw [List.take_succ_eq_append_getElem h]; simp [List.getD, h]
end Go.Proofs.YtmacpjnkmkaloaaGreat
namespace Go.Proofs.YtmacpjnkmkaloaaGreat
set_option linter.unusedSimpArgs false
set_option linter.unusedVariables false
set_option linter.unnecessarySimpa false
open Go.RowKit
theorem held48 : Tryz.prog.stoodInHeld 42 = false := by kernel_rfl
theorem und48 : Tryz.prog.underlying 42 = some (.struct (Tryz.prog.fieldsOf 42)) := by kernel_rfl
theorem held23 : Tryz.prog.stoodInHeld 23 = false := by kernel_rfl
theorem und23 : Tryz.prog.underlying 23 = some (.struct (Tryz.prog.fieldsOf 23)) := by kernel_rfl
theorem names48 : (Tryz.prog.fieldsOf 42).toList.map (fun f => (f.name == "_", f.type, f.offset)) = [(false, 3, 0), (false, 3, 1), (false, 27, 2), (false, 27, 3), (false, 3, 4)] := by kernel_rfl
theorem fields48 : ∃ f0 f1 f2 f3 f4 : Field, (Tryz.prog.fieldsOf 42).toList = [f0, f1, f2, f3, f4] ∧ (f0.name == "_") = false ∧ (f1.name == "_") = false ∧ (f2.name == "_") = false ∧ (f3.name == "_") = false ∧ (f4.name == "_") = false ∧
    f0.type = 3 ∧ f1.type = 3 ∧ f2.type = 27 ∧ f3.type = 27 ∧ f4.type = 3 ∧ f0.offset = 0 ∧ f1.offset = 1 ∧ f2.offset = 2 ∧ f3.offset = 3 ∧ f4.offset = 4 := by
  have h := names48
  generalize (Tryz.prog.fieldsOf 42).toList = fs at h ⊢
  have hlen := congrArg List.length h
  rcases fs with _ | ⟨f0, _ | ⟨f1, _ | ⟨f2, _ | ⟨f3, _ | ⟨f4, _ | ⟨f5, fs⟩⟩⟩⟩⟩⟩ <;> simp at hlen
  · simp only [List.map_cons, List.map_nil, List.cons.injEq, Prod.mk.injEq, and_true] at h
    obtain ⟨⟨a0, b0, c0⟩, ⟨a1, b1, c1⟩, ⟨a2, b2, c2⟩, ⟨a3, b3, c3⟩, ⟨a4, b4, c4⟩⟩ := h
    exact ⟨f0, f1, f2, f3, f4, rfl, a0, a1, a2, a3, a4, b0, b1, b2, b3, b4, c0, c1, c2, c3, c4⟩
theorem names23 : (Tryz.prog.fieldsOf 23).toList.map (fun f => (f.name == "_", f.type, f.offset)) = [(false, 3, 0), (false, 3, 1)] := by kernel_rfl
theorem fields23 : ∃ f0 f1 : Field, (Tryz.prog.fieldsOf 23).toList = [f0, f1] ∧ (f0.name == "_") = false ∧ (f1.name == "_") = false ∧ f0.type = 3 ∧ f1.type = 3 ∧ f0.offset = 0 ∧ f1.offset = 1 := by
  have h := names23
  generalize (Tryz.prog.fieldsOf 23).toList = fs at h ⊢
  have hlen := congrArg List.length h
  rcases fs with _ | ⟨f0, _ | ⟨f1, _ | ⟨f2, fs⟩⟩⟩ <;> simp at hlen
  · simp only [List.map_cons, List.map_nil, List.cons.injEq, Prod.mk.injEq, and_true] at h
    obtain ⟨⟨a0, b0, c0⟩, ⟨a1, b1, c1⟩⟩ := h
    exact ⟨f0, f1, rfl, a0, a1, b0, b1, c0, c1⟩
theorem equalIn_req (d : Nat) (a0 a1 a2 a3 a4 b0 b1 b2 b3 b4 : Int) (w : World) :
    (Op.equalIn (d + 2) 42 (.agg #[.int .i64 a0, .int .i64 a1, .int .i64 a2, .int .i64 a3, .int .i64 a4]) (.agg #[.int .i64 b0, .int .i64 b1, .int .i64 b2, .int .i64 b3, .int .i64 b4])).run Tryz.prog w =
      .ok (a0 == b0 && (a1 == b1 && (a2 == b2 && (a3 == b3 && a4 == b4)))) w := by
  rw [run_equalIn_struct (P := Tryz.prog) w (d + 1) 42 _ _ und48 held48]
  obtain ⟨f0, f1, f2, f3, f4, hl, n0, n1, n2, n3, n4, t0, t1, t2, t3, t4, o0, o1, o2, o3, o4⟩ := fields48
  rw [hl]
  have m0 : Tryz.prog.underlying 3 = some (.int .i64) := Tryz.underlying3
  have m1 : Tryz.prog.underlying 27 = some (.int .i64) := Tryz.underlying27
  simp only [beq_eq_false_iff_ne] at n0 n1 n2 n3 n4
  simp only [Op.eqFields, n0, n1, n2, n3, n4, t0, t1, t2, t3, t4, o0, o1, o2, o3, o4, ne_eq, not_false_eq_true, if_true]
  simp [part, isAgg, run_underlying m0, run_underlying m1, run_equalIn_int, m0, m1]
  by_cases h0 : a0 = b0 <;> by_cases h1 : a1 = b1 <;> by_cases h2 : a2 = b2 <;> by_cases h3 : a3 = b3 <;> by_cases h4 : a4 = b4 <;> simp [h0, h1, h2, h3, h4]
theorem equalIn_name (d : Nat) (a0 a1 b0 b1 : Int) (w : World) :
    (Op.equalIn (d + 2) 23 (.agg #[.int .i64 a0, .int .i64 a1]) (.agg #[.int .i64 b0, .int .i64 b1])).run Tryz.prog w = .ok (a0 == b0 && a1 == b1) w := by
  rw [run_equalIn_struct (P := Tryz.prog) w (d + 1) 23 _ _ und23 held23]
  obtain ⟨f0, f1, hl, n0, n1, t0, t1, o0, o1⟩ := fields23
  rw [hl]
  have m0 : Tryz.prog.underlying 3 = some (.int .i64) := Tryz.underlying3
  simp only [beq_eq_false_iff_ne] at n0 n1
  simp only [Op.eqFields, n0, n1, t0, t1, o0, o1, ne_eq, not_false_eq_true, if_true]
  simp [part, isAgg, run_underlying m0, run_equalIn_int, m0]
  by_cases h0 : a0 = b0 <;> by_cases h1 : a1 = b1 <;> simp [h0, h1]
def reqB (a0 a1 a2 a3 a4 b0 b1 b2 b3 b4 : Int) : Bool := a0 == b0 && (a1 == b1 && (a2 == b2 && (a3 == b3 && a4 == b4)))
theorem reqB_eq (a b : Rq) : reqB a.id a.txn a.mode a.want a.since b.id b.txn b.mode b.want b.since = decide (a = b) := by
  obtain ⟨a0, a1, a2, a3, a4⟩ := a
  obtain ⟨b0, b1, b2, b3, b4⟩ := b
  rw [Bool.eq_iff_iff]
  simp [reqB]
theorem run_neq_req (a0 a1 a2 a3 a4 b0 b1 b2 b3 b4 : Int) (w : World) :
    (binOp .neq 42 (.agg #[.int .i64 a0, .int .i64 a1, .int .i64 a2, .int .i64 a3, .int .i64 a4]) (.agg #[.int .i64 b0, .int .i64 b1, .int .i64 b2, .int .i64 b3, .int .i64 b4])).run Tryz.prog w = .ok (.bool !(reqB a0 a1 a2 a3 a4 b0 b1 b2 b3 b4)) w := by
  have h := equalIn_req 9998 a0 a1 a2 a3 a4 b0 b1 b2 b3 b4 w
  simp only [binOp]
  simp [Op.equal, Op.maxDepth, h, reqB]
theorem run_eql_req (a0 a1 a2 a3 a4 b0 b1 b2 b3 b4 : Int) (w : World) :
    (binOp .eql 42 (.agg #[.int .i64 a0, .int .i64 a1, .int .i64 a2, .int .i64 a3, .int .i64 a4]) (.agg #[.int .i64 b0, .int .i64 b1, .int .i64 b2, .int .i64 b3, .int .i64 b4])).run Tryz.prog w = .ok (.bool (reqB a0 a1 a2 a3 a4 b0 b1 b2 b3 b4)) w := by
  have h := equalIn_req 9998 a0 a1 a2 a3 a4 b0 b1 b2 b3 b4 w
  simp only [binOp]
  simp [Op.equal, Op.maxDepth, h, reqB]
theorem run_neq_name (a0 a1 b0 b1 : Int) (w : World) :
    (binOp .neq 23 (.agg #[.int .i64 a0, .int .i64 a1]) (.agg #[.int .i64 b0, .int .i64 b1])).run Tryz.prog w = .ok (.bool !(a0 == b0 && a1 == b1)) w := by
  have h := equalIn_name 9998 a0 a1 b0 b1 w
  simp only [binOp]
  simp [Op.equal, Op.maxDepth, h]
/-- Two heads of one name, whose requests read as one list, are the same. -/
theorem sameR_true (t r n : Int) (u v : Value) (l : List Rq) (w : World) (hu : RQ w u l) (hv : RQ w v l) (hl : l.length ≤ 1000) :
    Calls Tryz.prog 9 #[hval t r u n, hval t r v n] w fun e w' => e = .returned (.bool true) ∧ Below w.heap.size w w' := by
  have h0 : ∀ b0 b1, Sep ((w.alloc (.cells b0 26)).alloc (.cells b1 26)) [blk (w.heap.size + 1) 26 b1, blk w.heap.size 26 b0, old w] := fun b1 b2 => by
    have := ((Sep.start w).alloc b1 26).alloc b2 26
    rw [World.size_alloc] at this
    exact this
  replace h0 := Lib.hid h0
  have hn1 := fun a0 a1 b0 b1 w => run_neq_name a0 a1 b0 b1 w
  have hn2 := fun a0 a1 a2 a3 a4 b0 b1 b2 b3 b4 w => run_neq_req a0 a1 a2 a3 a4 b0 b1 b2 b3 b4 w
  obtain ⟨a, c, rfl, hlc, _, hr⟩ := hu
  obtain ⟨a', c', rfl, hlc', _, hr'⟩ := hv
  replace hr := Lib.hid hr
  replace hr' := Lib.hid hr'
  unfold hval
  go_enter Tryz.func9, Tryz.ntmps9
  go_wp2_with fail
  have hS := Lib.hid (h0.out #[.int .i64 t, .int .i64 r, .slice a l.length c, .int .i64 n] #[.int .i64 t, .int .i64 r, .slice a' l.length c', .int .i64 n])
  clear h0
  generalize hn : l.length = m at *
  replace hn := Lib.hid hn
  go_loopg [5] m (fun g i wr => ∃ k : Nat, k ≤ m ∧ g = m - k ∧ i = .int .i64 k ∧ Hid (Sep wr [blk (w.heap.size + 1) 26 #[.int .i64 t, .int .i64 r, .slice a' m c', .int .i64 n], blk w.heap.size 26 #[.int .i64 t, .int .i64 r, .slice a m c, .int .i64 n], old w]))
  case atStart => exact ⟨0, Nat.zero_le _, rfl, rfl, hS⟩
  case round =>
    clear hS
    obtain ⟨k, hk, hg, rfl, hS⟩ := hrel
    obtain ⟨x1, d0, d1, x2, d3, _⟩ := hS.out.b4
    obtain ⟨y1, e0, e1, y2, e3, _⟩ := hS.out.to1.b4
    by_cases hlt : k < m
    · obtain ⟨b, off, rfl, hbl, hz⟩ := hr.out (by have := hn.out; omega)
      obtain ⟨b', off', rfl, hbl', hz'⟩ := hr'.out (by have := hn.out; omega)
      obtain ⟨z0, z1, z2, z3, z4⟩ := hz k (by have := hn.out; omega)
      obtain ⟨v0, v1, v2, v3, v4⟩ := hz' k (by have := hn.out; omega)
      rw [← hS.out.to2.gold.cell (by exact hbl)] at z0 z1 z2 z3 z4
      rw [← hS.out.to2.gold.cell (by exact hbl')] at v0 v1 v2 v3 v4
      have hself := reqB_eq (l.getD k default) (l.getD k default)
      clear hz hr hz' hr'
      generalize l.getD k default = q at *
      obtain ⟨id, txn, mode, want, since⟩ := q
      simp only [decide_true] at hself z0 z1 z2 z3 z4 v0 v1 v2 v3 v4
      go_wp2_with fail
      go_quiet (fail)
      go_wp2_with fail
      go_roundg (m - (k + 1))
      case measure => omega
      case rel => exact ⟨k + 1, by omega, rfl, by go_num, Lib.hid (hS.out.drewN _)⟩
    · have hk2 : k = m := by omega
      go_wp2_with fail
      go_ret
      exact ⟨rfl, hS.out.to2.gold⟩
end Go.Proofs.YtmacpjnkmkaloaaGreat
