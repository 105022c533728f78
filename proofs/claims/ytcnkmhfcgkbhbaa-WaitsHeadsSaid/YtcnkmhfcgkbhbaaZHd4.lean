/-
  Contracts and plain laws that the walk leans on, part 4. No condition.
-/
import Derived.Test.YtcnkmhfcgkbhbaaZHd3
namespace Go.Proofs.Ytcnkmhfcgkbhbaa
open Go.RowKit
theorem holdsR_any (r : Rq) (w : World) : Calls Try.prog 45 #[r.val] w fun e w' => e = .returned (.bool (r.mode != 0)) ∧ Below w.heap.size w w' := by
  obtain ⟨id, txn, mode, want, since⟩ := r
  unfold Rq.val
  go_enter Try.func45, Try.ntmps45
  go_wp2
  go_ret
  exact ⟨rfl, (Below.refl _ _).alloc (Nat.le_refl _) _⟩
theorem waitsR_any (r : Rq) (w : World) : Calls Try.prog 44 #[r.val] w fun e w' => e = .returned (.bool (decide (0 < r.since))) ∧ Below w.heap.size w w' := by
  obtain ⟨id, txn, mode, want, since⟩ := r
  unfold Rq.val
  go_enter Try.func44, Try.ntmps44
  go_wp2
  go_ret
  exact ⟨rfl, (Below.refl _ _).alloc (Nat.le_refl _) _⟩
set_option maxHeartbeats 1000000 in
theorem waiting_any (t r n : Int) (v : Value) (l : List Rq) (w : World) (hv : RQ w v l) (hl : l.length ≤ 1000) :
    Calls Try.prog 29 #[hval t r v n] w fun e w' => e = .returned (.int .i64 (idxF (fun q => q.mode == 0) l 0)) ∧ Below w.heap.size w w' := by
  have h0 : ∀ b0, Sep (w.alloc (.cells b0 29)) [blk w.heap.size 29 b0, old w] := fun b0 => (Sep.start w).alloc b0 29
  replace h0 := Lib.hid h0
  have HU := Lib.hid (fun q w => holdsR_any q w)
  obtain ⟨a, c, rfl, hlc, _, hr⟩ := hv
  replace hr := Lib.hid hr
  unfold hval
  go_enter Try.func29, Try.ntmps29
  go_wp2_with fail
  have hS := Lib.hid (h0.out #[.int .i64 t, .int .i64 r, .slice a l.length c, .int .i64 n])
  clear h0
  generalize hn : l.length = m at *
  replace hn := Lib.hid hn
  generalize hp : (fun q : Rq => q.mode == 0) = p at *
  replace hp := Lib.hid hp
  go_loopg [3] m (fun g i wr => ∃ k : Nat, k ≤ m ∧ g = m - k ∧ i = .int .i64 k ∧ Hid (idxF p l 0 = idxF p (l.drop k) k) ∧ Hid (Sep wr [blk w.heap.size 29 #[.int .i64 t, .int .i64 r, .slice a m c, .int .i64 n], old w]))
  case atStart => exact ⟨0, Nat.zero_le _, rfl, rfl, rfl, hS⟩
  case round =>
    clear hS
    obtain ⟨k, hk, hg, rfl, he, hS⟩ := hrel
    obtain ⟨x1, d0, d1, x2, d3, _⟩ := hS.out.b4
    by_cases hlt : k < m
    · obtain ⟨b, off, rfl, hbl, hz⟩ := hr.out (by have := hn.out; omega)
      obtain ⟨z0, z1, z2, z3, z4⟩ := hz k (by have := hn.out; omega)
      have kk : ∀ o, wr.cell? ⟨b, o, none⟩ = w.cell? ⟨b, o, none⟩ := fun o => hS.out.to1.gold.cell (p := ⟨b, o, none⟩) hbl
      rw [← kk] at z0 z1 z2 z3 z4
      have E := Lib.hid (drop_at l k (by rw [hn.out]; exact hlt))
      have hpq := Lib.hid (show p (l.getD k default) = ((l.getD k default).mode == 0) by rw [← hp.out])
      clear hz hr kk
      generalize l.getD k default = q at *
      have HQ := Lib.hid (HU.out q wr)
      obtain ⟨id, txn, mode, want, since⟩ := q
      simp only [Rq.val] at HQ z0 z1 z2 z3 z4 hpq
      cases hc : mode == 0 with
      | true =>
        have E2 := Lib.hid (show idxF p l 0 = (k : Int) by rw [he.out, E.out]; simp only [idxF, hpq.out, hc, if_true])
        have hc' : (mode != 0) = false := by simp [bne, hc]
        rw [hc'] at HQ
        clear hc hc'
        go_wp2_with fail
        refine HQ.out.mono ?_
        rintro e w1 ⟨rfl, b1⟩
        replace hS := Lib.hid (hS.out.below b1)
        clear b1 HQ z0 z1 z2 z3 z4 x1 d0 d1 x2 d3
        go_wp2_with fail
        go_ret
        exact ⟨by have h := E2.out; rw [← hp.out] at h; rw [h]; rfl, hS.out.to1.gold⟩
      | false =>
        have E2 := Lib.hid (show idxF p l 0 = idxF p (l.drop (k + 1)) (k + 1) by rw [he.out, E.out]; simp only [idxF, hpq.out, hc]; rfl)
        have hc' : (mode != 0) = true := by simp [bne, hc]
        rw [hc'] at HQ
        clear hc hc'
        go_wp2_with fail
        refine HQ.out.mono ?_
        rintro e w1 ⟨rfl, b1⟩
        replace hS := Lib.hid (hS.out.below b1)
        clear b1 HQ z0 z1 z2 z3 z4 x1 d0 d1 x2 d3
        go_wp2_with fail
        go_roundg (m - (k + 1))
        case measure => omega
        case rel => exact ⟨k + 1, by omega, rfl, by go_num, E2, hS⟩
    · have hk2 : k = m := by omega
      have E := Lib.hid (show idxF p l 0 = -1 by rw [he.out, List.drop_eq_nil_of_le (by rw [hn.out]; omega)]; rfl)
      clear he
      go_wp2_with fail
      go_ret
      exact ⟨by have h := E.out; rw [← hp.out] at h; rw [h]; rfl, hS.out.to1.gold⟩
set_option maxHeartbeats 4000000 in
theorem upgrading_any (t r n : Int) (v : Value) (l : List Rq) (w : World) (hv : RQ w v l) (hl : l.length ≤ 1000) :
    Calls Try.prog 28 #[hval t r v n] w fun e w' => e = .returned (.int .i64 (bestK l l.length)) ∧ Below w.heap.size w w' := by
  have h0 : ∀ b0, Sep (w.alloc (.cells b0 29)) [blk w.heap.size 29 b0, old w] := fun b0 => (Sep.start w).alloc b0 29
  have HU := Lib.hid (fun q w => holdsR_any q w)
  have HV := Lib.hid (fun q w => waitsR_any q w)
  replace h0 := Lib.hid h0
  obtain ⟨a, c, rfl, hlc, _, hr⟩ := hv
  replace hr := Lib.hid hr
  unfold hval
  go_enter Try.func28, Try.ntmps28
  go_wp2_with fail
  have hS := Lib.hid (h0.out #[.int .i64 t, .int .i64 r, .slice a l.length c, .int .i64 n])
  clear h0
  generalize hn : l.length = m at *
  replace hn := Lib.hid hn
  go_loopg [3, 4] m (fun g s3 i wr => ∃ k : Nat, k ≤ m ∧ g = m - k ∧ i = .int .i64 k ∧ s3 = .int .i64 (bestK l k) ∧ Hid (Sep wr [blk w.heap.size 29 #[.int .i64 t, .int .i64 r, .slice a m c, .int .i64 n], old w]))
  case atStart => exact ⟨0, Nat.zero_le _, rfl, rfl, rfl, hS⟩
  case round =>
    clear hS
    obtain ⟨k, hk, hg, rfl, rfl, hS⟩ := hrel
    obtain ⟨x1, _, _, x2, _⟩ := hS.out.b4
    by_cases hlt : k < m
    · obtain ⟨b, off, rfl, hbl, hz⟩ := hr.out (by have := hn.out; omega)
      obtain ⟨z0, z1, z2, z3, z4⟩ := hz k (by have := hn.out; omega)
      have kk : ∀ o, wr.cell? ⟨b, o, none⟩ = w.cell? ⟨b, o, none⟩ := fun o => hS.out.to1.gold.cell (p := ⟨b, o, none⟩) hbl
      rw [← kk] at z0 z1 z2 z3 z4
      have E := Lib.hid (show bestK l (k + 1) = if upB (l.getD k default) && (decide (bestK l k < 0) || decide ((l.getD k default).since < (l.getD (bestK l k).toNat default).since)) then (k : Int) else bestK l k from rfl)
      have hbd := bestK_bd l k
      have hzz := Lib.hid hz
      clear kk hz hr
      generalize l.getD k default = q at *
      generalize bestK l k = best at *
      have HQ := Lib.hid (fun w => HU.out q w)
      have HW := Lib.hid (fun w => HV.out q w)
      have hS2 := Lib.hid (hS.out.alloc q.cells.toArray 39)
      obtain ⟨id, txn, mode, want, since⟩ := q
      simp only [Rq.val] at HQ HW
      simp only [Rq.cells] at hS2
      obtain ⟨_, p0, p1, p2, p3, p4, _⟩ := hS2.out.b5
      obtain ⟨_, _, _, p5, _⟩ := hS2.out.to1.b4
      cases hm0 : mode != 0 with
      | false =>
        have E2 := Lib.hid (show bestK l (k + 1) = best by rw [E.out]; simp only [upB, hm0]; rfl)
        rw [hm0] at HQ
        clear E
        go_wp2_with fail
        refine wp_region_any (by kernel_rfl) ?_
        change wpAny _ _ _ _ _ _ _ (World.drew _)
        refine wpAny_ready (rs := [0]) (by kernel_rfl) (by simp) ?_
        refine AllReady.cons rfl (fun K hK => ?_) AllReady.nil
        go_simp
        refine hK _ _ ?_
        clear hK K
        refine wpAny_ready (rs := [1]) (by kernel_rfl) (by simp) ?_
        refine AllReady.cons rfl (fun K hK => ?_) AllReady.nil
        go_simp
        go_wp2_with (go_at_call 45; refine (HQ.out _).mono ?_; rintro e w1 ⟨rfl, b1⟩; have hS3 := Lib.hid ((show Sep _ [blk wr.heap.size 39 #[.int .i64 id, .int .i64 txn, .int .i64 mode, .int .i64 want, .int .i64 since], blk w.heap.size 29 #[.int .i64 t, .int .i64 r, .slice (some ⟨b, off, none⟩) m c, .int .i64 n], old w] from by first | exact hS2.out | exact hS2.out.drew).below b1); obtain ⟨_, r0, r1, r2, r3, r4, _⟩ := hS3.out.b5; obtain ⟨_, _, _, v2, _⟩ := hS3.out.to1.b4; clear b1)
        refine reg_take 2 (.bool false) rfl (by kernel_rfl) (by kernel_rfl) (by kernel_rfl) (fun _ _ _ _ _ h => h) (by kernel_rfl) (fun w => by go_simp; try with_reducible rfl) ?_
        simp only [Act.put, List.setIfInBounds_toArray, List.set_cons_succ, List.set_cons_zero, List.getElem_toArray, List.getElem_cons_zero, List.getElem_cons_succ]
        refine reg_skip 3 rfl (by kernel_rfl) (by kernel_rfl) (by kernel_rfl) (fun _ _ _ _ _ h => h) (by kernel_rfl) ?_
        simp only [Act.put, List.setIfInBounds_toArray, List.set_cons_succ, List.set_cons_zero, List.getElem_toArray, List.getElem_cons_zero, List.getElem_cons_succ]
        refine reg_skip 4 rfl (by kernel_rfl) (by kernel_rfl) (by kernel_rfl) (fun _ _ _ _ _ h => h) (by kernel_rfl) ?_
        simp only [Act.put, List.setIfInBounds_toArray, List.set_cons_succ, List.set_cons_zero, List.getElem_toArray, List.getElem_cons_zero, List.getElem_cons_succ]
        refine reg_take 5 (.bool false) rfl (by kernel_rfl) (by kernel_rfl) (by kernel_rfl) (fun _ _ _ _ _ h => h) (by kernel_rfl) (fun w => by go_simp; try with_reducible rfl) ?_
        simp only [Act.put, List.setIfInBounds_toArray, List.set_cons_succ, List.set_cons_zero, List.getElem_toArray, List.getElem_cons_zero, List.getElem_cons_succ]
        refine reg_take 6 (.bool false) rfl (by kernel_rfl) (by kernel_rfl) (by kernel_rfl) (fun _ _ _ _ _ h => h) (by kernel_rfl) (fun w => by go_simp; try with_reducible rfl) ?_
        simp only [Act.put, List.setIfInBounds_toArray, List.set_cons_succ, List.set_cons_zero, List.getElem_toArray, List.getElem_cons_zero, List.getElem_cons_succ]
        refine reg_skip 7 rfl (by kernel_rfl) (by kernel_rfl) (by kernel_rfl) (fun _ _ _ _ _ h => h) (by kernel_rfl) ?_
        simp only [Act.put, List.setIfInBounds_toArray, List.set_cons_succ, List.set_cons_zero, List.getElem_toArray, List.getElem_cons_zero, List.getElem_cons_succ]
        refine reg_skip 8 rfl (by kernel_rfl) (by kernel_rfl) (by kernel_rfl) (fun _ _ _ _ _ h => h) (by kernel_rfl) ?_
        simp only [Act.put, List.setIfInBounds_toArray, List.set_cons_succ, List.set_cons_zero, List.getElem_toArray, List.getElem_cons_zero, List.getElem_cons_succ]
        refine reg_skip 9 rfl (by kernel_rfl) (by kernel_rfl) (by kernel_rfl) (fun _ _ _ _ _ h => h) (by kernel_rfl) ?_
        simp only [Act.put, List.setIfInBounds_toArray, List.set_cons_succ, List.set_cons_zero, List.getElem_toArray, List.getElem_cons_zero, List.getElem_cons_succ]
        refine reg_skip 10 rfl (by kernel_rfl) (by kernel_rfl) (by kernel_rfl) (fun _ _ _ _ _ h => h) (by kernel_rfl) ?_
        simp only [Act.put, List.setIfInBounds_toArray, List.set_cons_succ, List.set_cons_zero, List.getElem_toArray, List.getElem_cons_zero, List.getElem_cons_succ]
        refine reg_skip 11 rfl (by kernel_rfl) (by kernel_rfl) (by kernel_rfl) (fun _ _ _ _ _ h => h) (by kernel_rfl) ?_
        simp only [Act.put, List.setIfInBounds_toArray, List.set_cons_succ, List.set_cons_zero, List.getElem_toArray, List.getElem_cons_zero, List.getElem_cons_succ]
        refine reg_skip 12 rfl (by kernel_rfl) (by kernel_rfl) (by kernel_rfl) (fun _ _ _ _ _ h => h) (by kernel_rfl) ?_
        simp only [Act.put, List.setIfInBounds_toArray, List.set_cons_succ, List.set_cons_zero, List.getElem_toArray, List.getElem_cons_zero, List.getElem_cons_succ]
        refine reg_skip 13 rfl (by kernel_rfl) (by kernel_rfl) (by kernel_rfl) (fun _ _ _ _ _ h => h) (by kernel_rfl) ?_
        simp only [Act.put, List.setIfInBounds_toArray, List.set_cons_succ, List.set_cons_zero, List.getElem_toArray, List.getElem_cons_zero, List.getElem_cons_succ]
        refine reg_skip 14 rfl (by kernel_rfl) (by kernel_rfl) (by kernel_rfl) (fun _ _ _ _ _ h => h) (by kernel_rfl) ?_
        simp only [Act.put, List.setIfInBounds_toArray, List.set_cons_succ, List.set_cons_zero, List.getElem_toArray, List.getElem_cons_zero, List.getElem_cons_succ]
        refine reg_skip 15 rfl (by kernel_rfl) (by kernel_rfl) (by kernel_rfl) (fun _ _ _ _ _ h => h) (by kernel_rfl) ?_
        simp only [Act.put, List.setIfInBounds_toArray, List.set_cons_succ, List.set_cons_zero, List.getElem_toArray, List.getElem_cons_zero, List.getElem_cons_succ]
        refine reg_skip 16 rfl (by kernel_rfl) (by kernel_rfl) (by kernel_rfl) (fun _ _ _ _ _ h => h) (by kernel_rfl) ?_
        simp only [Act.put, List.setIfInBounds_toArray, List.set_cons_succ, List.set_cons_zero, List.getElem_toArray, List.getElem_cons_zero, List.getElem_cons_succ]
        refine reg_skip 17 rfl (by kernel_rfl) (by kernel_rfl) (by kernel_rfl) (fun _ _ _ _ _ h => h) (by kernel_rfl) ?_
        simp only [Act.put, List.setIfInBounds_toArray, List.set_cons_succ, List.set_cons_zero, List.getElem_toArray, List.getElem_cons_zero, List.getElem_cons_succ]
        refine reg_skip 18 rfl (by kernel_rfl) (by kernel_rfl) (by kernel_rfl) (fun _ _ _ _ _ h => h) (by kernel_rfl) ?_
        simp only [Act.put, List.setIfInBounds_toArray, List.set_cons_succ, List.set_cons_zero, List.getElem_toArray, List.getElem_cons_zero, List.getElem_cons_succ]
        refine reg_skip 19 rfl (by kernel_rfl) (by kernel_rfl) (by kernel_rfl) (fun _ _ _ _ _ h => h) (by kernel_rfl) ?_
        simp only [Act.put, List.setIfInBounds_toArray, List.set_cons_succ, List.set_cons_zero, List.getElem_toArray, List.getElem_cons_zero, List.getElem_cons_succ]
        refine reg_take 20 (.bool false) rfl (by kernel_rfl) (by kernel_rfl) (by kernel_rfl) (fun _ _ _ _ _ h => h) (by kernel_rfl) (fun w => by go_simp; try with_reducible rfl) ?_
        simp only [Act.put, List.setIfInBounds_toArray, List.set_cons_succ, List.set_cons_zero, List.getElem_toArray, List.getElem_cons_zero, List.getElem_cons_succ]
        refine wpAny_done (by kernel_rfl) ?_ _
        go_wp2_with fail
        go_roundg (m - (k + 1))
        case measure => omega
        case rel => exact ⟨k + 1, by omega, rfl, by go_num, by rw [E2.out], hS3.out.tail⟩
      | true =>
        rw [hm0] at HQ
        cases hs0 : decide (0 < since) with
        | false =>
          have E2 := Lib.hid (show bestK l (k + 1) = best by rw [E.out]; simp only [upB, hs0, Bool.and_false]; rfl)
          rw [hs0] at HW
          clear E
          go_wp2_with fail
          refine wp_region_any (by kernel_rfl) ?_
          change wpAny _ _ _ _ _ _ _ (World.drew _)
          refine wpAny_ready (rs := [0]) (by kernel_rfl) (by simp) ?_
          refine AllReady.cons rfl (fun K hK => ?_) AllReady.nil
          go_simp
          refine hK _ _ ?_
          clear hK K
          refine wpAny_ready (rs := [1]) (by kernel_rfl) (by simp) ?_
          refine AllReady.cons rfl (fun K hK => ?_) AllReady.nil
          go_simp
          go_wp2_with (go_at_call 45; refine (HQ.out _).mono ?_; rintro e w1 ⟨rfl, b1⟩; have hS3 := Lib.hid ((show Sep _ [blk wr.heap.size 39 #[.int .i64 id, .int .i64 txn, .int .i64 mode, .int .i64 want, .int .i64 since], blk w.heap.size 29 #[.int .i64 t, .int .i64 r, .slice (some ⟨b, off, none⟩) m c, .int .i64 n], old w] from by first | exact hS2.out | exact hS2.out.drew).below b1); obtain ⟨_, r0, r1, r2, r3, r4, _⟩ := hS3.out.b5; obtain ⟨_, _, _, v2, _⟩ := hS3.out.to1.b4; clear b1)
          refine reg_take 2 (.bool true) rfl (by kernel_rfl) (by kernel_rfl) (by kernel_rfl) (fun _ _ _ _ _ h => h) (by kernel_rfl) (fun w => by go_simp; try with_reducible rfl) ?_
          simp only [Act.put, List.setIfInBounds_toArray, List.set_cons_succ, List.set_cons_zero, List.getElem_toArray, List.getElem_cons_zero, List.getElem_cons_succ]
          refine wpAny_ready (rs := [3]) (by kernel_rfl) (by simp) ?_
          refine AllReady.cons rfl (fun K hK => ?_) AllReady.nil
          go_simp
          refine hK _ _ ?_
          clear hK K
          refine wpAny_ready (rs := [4]) (by kernel_rfl) (by simp) ?_
          refine AllReady.cons rfl (fun K hK => ?_) AllReady.nil
          go_simp
          go_wp2_with (go_at_call 44; refine (HW.out _).mono ?_; rintro e w2 ⟨rfl, b2⟩; have hS4 := Lib.hid (hS3.out.below b2); obtain ⟨_, s0, s1, s2, s3, s4, _⟩ := hS4.out.b5; obtain ⟨_, _, _, s5, _⟩ := hS4.out.to1.b4; clear b2)
          refine reg_take 5 (.bool false) rfl (by kernel_rfl) (by kernel_rfl) (by kernel_rfl) (fun _ _ _ _ _ h => h) (by kernel_rfl) (fun w => by go_simp; try with_reducible rfl) ?_
          simp only [Act.put, List.setIfInBounds_toArray, List.set_cons_succ, List.set_cons_zero, List.getElem_toArray, List.getElem_cons_zero, List.getElem_cons_succ]
          refine reg_take 6 (.bool false) rfl (by kernel_rfl) (by kernel_rfl) (by kernel_rfl) (fun _ _ _ _ _ h => h) (by kernel_rfl) (fun w => by go_simp; try with_reducible rfl) ?_
          simp only [Act.put, List.setIfInBounds_toArray, List.set_cons_succ, List.set_cons_zero, List.getElem_toArray, List.getElem_cons_zero, List.getElem_cons_succ]
          refine reg_skip 7 rfl (by kernel_rfl) (by kernel_rfl) (by kernel_rfl) (fun _ _ _ _ _ h => h) (by kernel_rfl) ?_
          simp only [Act.put, List.setIfInBounds_toArray, List.set_cons_succ, List.set_cons_zero, List.getElem_toArray, List.getElem_cons_zero, List.getElem_cons_succ]
          refine reg_skip 8 rfl (by kernel_rfl) (by kernel_rfl) (by kernel_rfl) (fun _ _ _ _ _ h => h) (by kernel_rfl) ?_
          simp only [Act.put, List.setIfInBounds_toArray, List.set_cons_succ, List.set_cons_zero, List.getElem_toArray, List.getElem_cons_zero, List.getElem_cons_succ]
          refine reg_skip 9 rfl (by kernel_rfl) (by kernel_rfl) (by kernel_rfl) (fun _ _ _ _ _ h => h) (by kernel_rfl) ?_
          simp only [Act.put, List.setIfInBounds_toArray, List.set_cons_succ, List.set_cons_zero, List.getElem_toArray, List.getElem_cons_zero, List.getElem_cons_succ]
          refine reg_skip 10 rfl (by kernel_rfl) (by kernel_rfl) (by kernel_rfl) (fun _ _ _ _ _ h => h) (by kernel_rfl) ?_
          simp only [Act.put, List.setIfInBounds_toArray, List.set_cons_succ, List.set_cons_zero, List.getElem_toArray, List.getElem_cons_zero, List.getElem_cons_succ]
          refine reg_skip 11 rfl (by kernel_rfl) (by kernel_rfl) (by kernel_rfl) (fun _ _ _ _ _ h => h) (by kernel_rfl) ?_
          simp only [Act.put, List.setIfInBounds_toArray, List.set_cons_succ, List.set_cons_zero, List.getElem_toArray, List.getElem_cons_zero, List.getElem_cons_succ]
          refine reg_skip 12 rfl (by kernel_rfl) (by kernel_rfl) (by kernel_rfl) (fun _ _ _ _ _ h => h) (by kernel_rfl) ?_
          simp only [Act.put, List.setIfInBounds_toArray, List.set_cons_succ, List.set_cons_zero, List.getElem_toArray, List.getElem_cons_zero, List.getElem_cons_succ]
          refine reg_skip 13 rfl (by kernel_rfl) (by kernel_rfl) (by kernel_rfl) (fun _ _ _ _ _ h => h) (by kernel_rfl) ?_
          simp only [Act.put, List.setIfInBounds_toArray, List.set_cons_succ, List.set_cons_zero, List.getElem_toArray, List.getElem_cons_zero, List.getElem_cons_succ]
          refine reg_skip 14 rfl (by kernel_rfl) (by kernel_rfl) (by kernel_rfl) (fun _ _ _ _ _ h => h) (by kernel_rfl) ?_
          simp only [Act.put, List.setIfInBounds_toArray, List.set_cons_succ, List.set_cons_zero, List.getElem_toArray, List.getElem_cons_zero, List.getElem_cons_succ]
          refine reg_skip 15 rfl (by kernel_rfl) (by kernel_rfl) (by kernel_rfl) (fun _ _ _ _ _ h => h) (by kernel_rfl) ?_
          simp only [Act.put, List.setIfInBounds_toArray, List.set_cons_succ, List.set_cons_zero, List.getElem_toArray, List.getElem_cons_zero, List.getElem_cons_succ]
          refine reg_skip 16 rfl (by kernel_rfl) (by kernel_rfl) (by kernel_rfl) (fun _ _ _ _ _ h => h) (by kernel_rfl) ?_
          simp only [Act.put, List.setIfInBounds_toArray, List.set_cons_succ, List.set_cons_zero, List.getElem_toArray, List.getElem_cons_zero, List.getElem_cons_succ]
          refine reg_skip 17 rfl (by kernel_rfl) (by kernel_rfl) (by kernel_rfl) (fun _ _ _ _ _ h => h) (by kernel_rfl) ?_
          simp only [Act.put, List.setIfInBounds_toArray, List.set_cons_succ, List.set_cons_zero, List.getElem_toArray, List.getElem_cons_zero, List.getElem_cons_succ]
          refine reg_skip 18 rfl (by kernel_rfl) (by kernel_rfl) (by kernel_rfl) (fun _ _ _ _ _ h => h) (by kernel_rfl) ?_
          simp only [Act.put, List.setIfInBounds_toArray, List.set_cons_succ, List.set_cons_zero, List.getElem_toArray, List.getElem_cons_zero, List.getElem_cons_succ]
          refine reg_skip 19 rfl (by kernel_rfl) (by kernel_rfl) (by kernel_rfl) (fun _ _ _ _ _ h => h) (by kernel_rfl) ?_
          simp only [Act.put, List.setIfInBounds_toArray, List.set_cons_succ, List.set_cons_zero, List.getElem_toArray, List.getElem_cons_zero, List.getElem_cons_succ]
          refine reg_take 20 (.bool false) rfl (by kernel_rfl) (by kernel_rfl) (by kernel_rfl) (fun _ _ _ _ _ h => h) (by kernel_rfl) (fun w => by go_simp; try with_reducible rfl) ?_
          simp only [Act.put, List.setIfInBounds_toArray, List.set_cons_succ, List.set_cons_zero, List.getElem_toArray, List.getElem_cons_zero, List.getElem_cons_succ]
          refine wpAny_done (by kernel_rfl) ?_ _
          go_wp2_with fail
          go_roundg (m - (k + 1))
          case measure => omega
          case rel => exact ⟨k + 1, by omega, rfl, by go_num, by rw [E2.out], hS4.out.tail⟩
        | true =>
          rw [hs0] at HW
          have hu : upB ⟨id, txn, mode, want, since⟩ = true := by simp only [upB, hm0, hs0]; rfl
          by_cases hb0 : best < 0
          · have E2 := Lib.hid (show bestK l (k + 1) = (k : Int) by rw [E.out, hu, decide_eq_true hb0]; rfl)
            have d0 : decide (best < 0) = true := by simpa using hb0
            clear E hb0 hu
            go_wp2_with fail
            refine wp_region_any (by kernel_rfl) ?_
            change wpAny _ _ _ _ _ _ _ (World.drew _)
            refine wpAny_ready (rs := [0]) (by kernel_rfl) (by simp) ?_
            refine AllReady.cons rfl (fun K hK => ?_) AllReady.nil
            go_simp
            refine hK _ _ ?_
            clear hK K
            refine wpAny_ready (rs := [1]) (by kernel_rfl) (by simp) ?_
            refine AllReady.cons rfl (fun K hK => ?_) AllReady.nil
            go_simp
            go_wp2_with (go_at_call 45; refine (HQ.out _).mono ?_; rintro e w1 ⟨rfl, b1⟩; have hS3 := Lib.hid ((show Sep _ [blk wr.heap.size 39 #[.int .i64 id, .int .i64 txn, .int .i64 mode, .int .i64 want, .int .i64 since], blk w.heap.size 29 #[.int .i64 t, .int .i64 r, .slice (some ⟨b, off, none⟩) m c, .int .i64 n], old w] from by first | exact hS2.out | exact hS2.out.drew).below b1); obtain ⟨_, r0, r1, r2, r3, r4, _⟩ := hS3.out.b5; obtain ⟨_, _, _, v2, _⟩ := hS3.out.to1.b4; clear b1)
            refine reg_take 2 (.bool true) rfl (by kernel_rfl) (by kernel_rfl) (by kernel_rfl) (fun _ _ _ _ _ h => h) (by kernel_rfl) (fun w => by go_simp; try with_reducible rfl) ?_
            simp only [Act.put, List.setIfInBounds_toArray, List.set_cons_succ, List.set_cons_zero, List.getElem_toArray, List.getElem_cons_zero, List.getElem_cons_succ]
            refine wpAny_ready (rs := [3]) (by kernel_rfl) (by simp) ?_
            refine AllReady.cons rfl (fun K hK => ?_) AllReady.nil
            go_simp
            refine hK _ _ ?_
            clear hK K
            refine wpAny_ready (rs := [4]) (by kernel_rfl) (by simp) ?_
            refine AllReady.cons rfl (fun K hK => ?_) AllReady.nil
            go_simp
            go_wp2_with (go_at_call 44; refine (HW.out _).mono ?_; rintro e w2 ⟨rfl, b2⟩; have hS4 := Lib.hid (hS3.out.below b2); obtain ⟨_, s0, s1, s2, s3, s4, _⟩ := hS4.out.b5; obtain ⟨_, _, _, s5, _⟩ := hS4.out.to1.b4; clear b2)
            refine reg_take 5 (.bool true) rfl (by kernel_rfl) (by kernel_rfl) (by kernel_rfl) (fun _ _ _ _ _ h => h) (by kernel_rfl) (fun w => by go_simp; try with_reducible rfl) ?_
            simp only [Act.put, List.setIfInBounds_toArray, List.set_cons_succ, List.set_cons_zero, List.getElem_toArray, List.getElem_cons_zero, List.getElem_cons_succ]
            refine reg_take 6 (.bool true) rfl (by kernel_rfl) (by kernel_rfl) (by kernel_rfl) (fun _ _ _ _ _ h => h) (by kernel_rfl) (fun w => by go_simp; try with_reducible rfl) ?_
            simp only [Act.put, List.setIfInBounds_toArray, List.set_cons_succ, List.set_cons_zero, List.getElem_toArray, List.getElem_cons_zero, List.getElem_cons_succ]
            refine reg_take 7 (.int .i64 best) rfl (by kernel_rfl) (by kernel_rfl) (by kernel_rfl) (fun _ _ _ _ _ h => h) (by kernel_rfl) (fun w => by go_simp; try with_reducible rfl) ?_
            simp only [Act.put, List.setIfInBounds_toArray, List.set_cons_succ, List.set_cons_zero, List.getElem_toArray, List.getElem_cons_zero, List.getElem_cons_succ]
            refine reg_take 8 (.bool true) rfl (by kernel_rfl) (by kernel_rfl) (by kernel_rfl) (fun _ _ _ _ _ h => h) (by kernel_rfl) (fun w => by go_simp; try with_reducible rfl) ?_
            simp only [Act.put, List.setIfInBounds_toArray, List.set_cons_succ, List.set_cons_zero, List.getElem_toArray, List.getElem_cons_zero, List.getElem_cons_succ]
            refine reg_take 9 (.bool true) rfl (by kernel_rfl) (by kernel_rfl) (by kernel_rfl) (fun _ _ _ _ _ h => h) (by kernel_rfl) (fun w => by go_simp; try with_reducible rfl) ?_
            simp only [Act.put, List.setIfInBounds_toArray, List.set_cons_succ, List.set_cons_zero, List.getElem_toArray, List.getElem_cons_zero, List.getElem_cons_succ]
            refine reg_skip 10 rfl (by kernel_rfl) (by kernel_rfl) (by kernel_rfl) (fun _ _ _ _ _ h => h) (by kernel_rfl) ?_
            simp only [Act.put, List.setIfInBounds_toArray, List.set_cons_succ, List.set_cons_zero, List.getElem_toArray, List.getElem_cons_zero, List.getElem_cons_succ]
            refine reg_skip 11 rfl (by kernel_rfl) (by kernel_rfl) (by kernel_rfl) (fun _ _ _ _ _ h => h) (by kernel_rfl) ?_
            simp only [Act.put, List.setIfInBounds_toArray, List.set_cons_succ, List.set_cons_zero, List.getElem_toArray, List.getElem_cons_zero, List.getElem_cons_succ]
            refine reg_skip 12 rfl (by kernel_rfl) (by kernel_rfl) (by kernel_rfl) (fun _ _ _ _ _ h => h) (by kernel_rfl) ?_
            simp only [Act.put, List.setIfInBounds_toArray, List.set_cons_succ, List.set_cons_zero, List.getElem_toArray, List.getElem_cons_zero, List.getElem_cons_succ]
            refine reg_skip 13 rfl (by kernel_rfl) (by kernel_rfl) (by kernel_rfl) (fun _ _ _ _ _ h => h) (by kernel_rfl) ?_
            simp only [Act.put, List.setIfInBounds_toArray, List.set_cons_succ, List.set_cons_zero, List.getElem_toArray, List.getElem_cons_zero, List.getElem_cons_succ]
            refine reg_skip 14 rfl (by kernel_rfl) (by kernel_rfl) (by kernel_rfl) (fun _ _ _ _ _ h => h) (by kernel_rfl) ?_
            simp only [Act.put, List.setIfInBounds_toArray, List.set_cons_succ, List.set_cons_zero, List.getElem_toArray, List.getElem_cons_zero, List.getElem_cons_succ]
            refine reg_skip 15 rfl (by kernel_rfl) (by kernel_rfl) (by kernel_rfl) (fun _ _ _ _ _ h => h) (by kernel_rfl) ?_
            simp only [Act.put, List.setIfInBounds_toArray, List.set_cons_succ, List.set_cons_zero, List.getElem_toArray, List.getElem_cons_zero, List.getElem_cons_succ]
            refine reg_skip 16 rfl (by kernel_rfl) (by kernel_rfl) (by kernel_rfl) (fun _ _ _ _ _ h => h) (by kernel_rfl) ?_
            simp only [Act.put, List.setIfInBounds_toArray, List.set_cons_succ, List.set_cons_zero, List.getElem_toArray, List.getElem_cons_zero, List.getElem_cons_succ]
            refine reg_skip 17 rfl (by kernel_rfl) (by kernel_rfl) (by kernel_rfl) (fun _ _ _ _ _ h => h) (by kernel_rfl) ?_
            simp only [Act.put, List.setIfInBounds_toArray, List.set_cons_succ, List.set_cons_zero, List.getElem_toArray, List.getElem_cons_zero, List.getElem_cons_succ]
            refine reg_skip 18 rfl (by kernel_rfl) (by kernel_rfl) (by kernel_rfl) (fun _ _ _ _ _ h => h) (by kernel_rfl) ?_
            simp only [Act.put, List.setIfInBounds_toArray, List.set_cons_succ, List.set_cons_zero, List.getElem_toArray, List.getElem_cons_zero, List.getElem_cons_succ]
            refine reg_take 19 (.bool true) rfl (by kernel_rfl) (by kernel_rfl) (by kernel_rfl) (fun _ _ _ _ _ h => h) (by kernel_rfl) (fun w => by go_simp; try with_reducible rfl) ?_
            simp only [Act.put, List.setIfInBounds_toArray, List.set_cons_succ, List.set_cons_zero, List.getElem_toArray, List.getElem_cons_zero, List.getElem_cons_succ]
            refine reg_take 20 (.bool true) rfl (by kernel_rfl) (by kernel_rfl) (by kernel_rfl) (fun _ _ _ _ _ h => h) (by kernel_rfl) (fun w => by go_simp; try with_reducible rfl) ?_
            simp only [Act.put, List.setIfInBounds_toArray, List.set_cons_succ, List.set_cons_zero, List.getElem_toArray, List.getElem_cons_zero, List.getElem_cons_succ]
            refine wpAny_done (by kernel_rfl) ?_ _
            go_wp2_with fail
            go_roundg (m - (k + 1))
            case measure => omega
            case rel => exact ⟨k + 1, by omega, rfl, by go_num, by rw [E2.out], hS4.out.tail⟩
          · obtain ⟨bq, rfl⟩ := Int.eq_ofNat_of_zero_le (show 0 ≤ best by omega)
            have hzb := (hzz.out bq (by have := hn.out; omega)).2.2.2.2
            have zb0 := (hS2.out.to2.gold.cell (p := ⟨b, off + bq * 5 + 4, none⟩) hbl).trans hzb
            rw [Int.toNat_natCast] at E
            have E2 := Lib.hid (show bestK l (k + 1) = if decide (since < (l.getD bq default).since) then (k : Int) else bq by rw [E.out, hu, decide_eq_false hb0]; rfl)
            have d0 : decide ((bq : Int) < 0) = false := by simp
            have i1 : (0 : Int) ≤ (bq : Int) := by omega
            have i2 : (bq : Int) < (m : Int) := by omega
            clear E hb0 hu
            generalize (l.getD bq default).since = sb at *
            by_cases hc : since < sb
            · have d1 : decide (since < sb) = true := by simpa using hc
              have E3 := Lib.hid (show bestK l (k + 1) = (k : Int) by rw [E2.out, if_pos d1])
              clear hc E2
              go_wp2_with fail
              go_region_held3 (fun w' => w'.cell? ⟨wr.heap.size, 0, none⟩ = some (.int .i64 id) ∧ w'.cell? ⟨wr.heap.size, 1, none⟩ = some (.int .i64 txn) ∧ w'.cell? ⟨wr.heap.size, 2, none⟩ = some (.int .i64 mode) ∧ w'.cell? ⟨wr.heap.size, 3, none⟩ = some (.int .i64 want) ∧ w'.cell? ⟨wr.heap.size, 4, none⟩ = some (.int .i64 since) ∧ w'.cell? ⟨w.heap.size, 2, none⟩ = some (.slice (some ⟨b, off, none⟩) m c) ∧ w'.cell? ⟨b, off + bq * 5 + 4, none⟩ = some (.int .i64 sb)) (exact ⟨by assumption, by assumption, by assumption, by assumption, by assumption, by assumption, by assumption⟩)
                (first | (go_at_call 45; refine (HQ.out _).mono ?_; rintro e w1 ⟨rfl, b1⟩; have hS3 := Lib.hid ((show Sep _ [blk wr.heap.size 39 #[.int .i64 id, .int .i64 txn, .int .i64 mode, .int .i64 want, .int .i64 since], blk w.heap.size 29 #[.int .i64 t, .int .i64 r, .slice (some ⟨b, off, none⟩) m c, .int .i64 n], old w] from by first | exact hS2.out | exact hS2.out.drew).below b1); obtain ⟨_, r0, r1, r2, r3, r4, _⟩ := hS3.out.b5; obtain ⟨_, _, _, v2, _⟩ := hS3.out.to1.b4; have zb1 := (hS3.out.to2.gold.cell (p := ⟨b, off + bq * 5 + 4, none⟩) hbl).trans hzb; clear b1) | (go_at_call 44; refine (HW.out _).mono ?_; rintro e w2 ⟨rfl, b2⟩; have hS4 := Lib.hid (hS3.out.below b2); obtain ⟨_, s0, s1, s2, s3, s4, _⟩ := hS4.out.b5; obtain ⟨_, _, _, s5, _⟩ := hS4.out.to1.b4; have zb2 := (hS4.out.to2.gold.cell (p := ⟨b, off + bq * 5 + 4, none⟩) hbl).trans hzb; clear b2))
              go_wp2_with fail
              go_roundg (m - (k + 1))
              case measure => omega
              case rel => exact ⟨k + 1, by omega, rfl, by go_num, by rw [E3.out], hS4.out.tail⟩
            · have d1 : decide (since < sb) = false := by simpa using hc
              have E3 := Lib.hid (show bestK l (k + 1) = (bq : Int) by rw [E2.out, if_neg (by rw [d1]; decide)])
              clear hc E2
              go_wp2_with fail
              go_region_held3 (fun w' => w'.cell? ⟨wr.heap.size, 0, none⟩ = some (.int .i64 id) ∧ w'.cell? ⟨wr.heap.size, 1, none⟩ = some (.int .i64 txn) ∧ w'.cell? ⟨wr.heap.size, 2, none⟩ = some (.int .i64 mode) ∧ w'.cell? ⟨wr.heap.size, 3, none⟩ = some (.int .i64 want) ∧ w'.cell? ⟨wr.heap.size, 4, none⟩ = some (.int .i64 since) ∧ w'.cell? ⟨w.heap.size, 2, none⟩ = some (.slice (some ⟨b, off, none⟩) m c) ∧ w'.cell? ⟨b, off + bq * 5 + 4, none⟩ = some (.int .i64 sb)) (exact ⟨by assumption, by assumption, by assumption, by assumption, by assumption, by assumption, by assumption⟩)
                (first | (go_at_call 45; refine (HQ.out _).mono ?_; rintro e w1 ⟨rfl, b1⟩; have hS3 := Lib.hid ((show Sep _ [blk wr.heap.size 39 #[.int .i64 id, .int .i64 txn, .int .i64 mode, .int .i64 want, .int .i64 since], blk w.heap.size 29 #[.int .i64 t, .int .i64 r, .slice (some ⟨b, off, none⟩) m c, .int .i64 n], old w] from by first | exact hS2.out | exact hS2.out.drew).below b1); obtain ⟨_, r0, r1, r2, r3, r4, _⟩ := hS3.out.b5; obtain ⟨_, _, _, v2, _⟩ := hS3.out.to1.b4; have zb1 := (hS3.out.to2.gold.cell (p := ⟨b, off + bq * 5 + 4, none⟩) hbl).trans hzb; clear b1) | (go_at_call 44; refine (HW.out _).mono ?_; rintro e w2 ⟨rfl, b2⟩; have hS4 := Lib.hid (hS3.out.below b2); obtain ⟨_, s0, s1, s2, s3, s4, _⟩ := hS4.out.b5; obtain ⟨_, _, _, s5, _⟩ := hS4.out.to1.b4; have zb2 := (hS4.out.to2.gold.cell (p := ⟨b, off + bq * 5 + 4, none⟩) hbl).trans hzb; clear b2))
              go_wp2_with fail
              go_roundg (m - (k + 1))
              case measure => omega
              case rel => exact ⟨k + 1, by omega, rfl, by go_num, by rw [E3.out], hS4.out.tail⟩
    · obtain rfl : k = m := by omega
      have bel := Lib.hid hS.out.tail.gold
      clear hS
      go_wp2_with fail
      go_ret
      exact ⟨by rw [hn.out]; rfl, bel.out⟩
/-- Nobody of the first k but one is in the way. -/
def fitsK (l : List Rq) (mo but : Int) : Nat → Bool
  | 0 => true
  | k+1 => fitsK l mo but k && !(decide ((k : Int) ≠ but) && ((l.getD k default).mode != 0 && !comB (l.getD k default).mode mo))
theorem fitsK_down (l : List Rq) (mo but : Int) (k : Nat) (h : fitsK l mo but k = false) : ∀ d, fitsK l mo but (k + d) = false
  | 0 => h
  | d+1 => by rw [show k + (d + 1) = (k + d) + 1 from rfl, fitsK, fitsK_down l mo but k h d]; rfl
set_option maxHeartbeats 1000000 in
theorem fitsR_any (t r n : Int) (v : Value) (l : List Rq) (mo but : Int) (w : World) (hv : RQ w v l) (hl : l.length ≤ 1000) :
    Calls Try.prog 30 #[hval t r v n, .int .i64 mo, .int .i64 but] w fun e w' => e = .returned (.bool (fitsK l mo but l.length)) ∧ Below w.heap.size w w' := by
  have h0 : ∀ b0, Sep (w.alloc (.cells b0 29)) [blk w.heap.size 29 b0, old w] := fun b0 => (Sep.start w).alloc b0 29
  replace h0 := Lib.hid h0
  have HU := Lib.hid (fun q w => holdsR_any q w)
  obtain ⟨a, c, rfl, hlc, _, hr⟩ := hv
  replace hr := Lib.hid hr
  unfold hval
  go_enter Try.func30, Try.ntmps30
  go_wp2_with fail
  have hS := Lib.hid (h0.out #[.int .i64 t, .int .i64 r, .slice a l.length c, .int .i64 n])
  clear h0
  generalize hn : l.length = m at *
  replace hn := Lib.hid hn
  go_loopg [7] m (fun g i wr => ∃ k : Nat, k ≤ m ∧ g = m - k ∧ i = .int .i64 k ∧ Hid (fitsK l mo but k = true) ∧ Hid (Sep wr [blk w.heap.size 29 #[.int .i64 t, .int .i64 r, .slice a m c, .int .i64 n], old w]))
  case atStart => exact ⟨0, Nat.zero_le _, rfl, rfl, rfl, hS⟩
  case round =>
    clear hS
    obtain ⟨k, hk, hg, rfl, he, hS⟩ := hrel
    obtain ⟨x1, d0, d1, x2, d3, _⟩ := hS.out.b4
    by_cases hlt : k < m
    · obtain ⟨b, off, rfl, hbl, hz⟩ := hr.out (by have := hn.out; omega)
      obtain ⟨z0, z1, z2, z3, z4⟩ := hz k (by have := hn.out; omega)
      have hz2 := z2
      have kk : ∀ o, wr.cell? ⟨b, o, none⟩ = w.cell? ⟨b, o, none⟩ := fun o => hS.out.to1.gold.cell (p := ⟨b, o, none⟩) hbl
      rw [← kk] at z0 z1 z2 z3 z4
      have E := Lib.hid (show fitsK l mo but (k + 1) = (fitsK l mo but k && !(decide ((k : Int) ≠ but) && ((l.getD k default).mode != 0 && !comB (l.getD k default).mode mo))) from rfl)
      have hdn := Lib.hid (fun (h : fitsK l mo but (k + 1) = false) => show fitsK l mo but l.length = false by
        have := fitsK_down l mo but (k + 1) h (l.length - (k + 1))
        rwa [show k + 1 + (l.length - (k + 1)) = l.length by have := hn.out; omega] at this)
      clear hz hr kk
      generalize l.getD k default = q at *
      have HQ := Lib.hid (HU.out q wr)
      have HC := Lib.hid (fun w => compatR_any q.mode mo w)
      obtain ⟨id, txn, mode, want, since⟩ := q
      simp only [Rq.val] at HQ HC E hz2 z0 z1 z2 z3 z4
      replace hz2 := Lib.hid hz2
      cases hb : ((k : Int) != but) with
      | false =>
        have hbb : (k : Int) = but := by simpa using hb
        have E2 := Lib.hid (show fitsK l mo but (k + 1) = true by rw [E.out, he.out]; simp [hbb])
        clear hbb E
        go_wp2_with fail
        go_roundg (m - (k + 1))
        case measure => omega
        case rel => exact ⟨k + 1, by omega, rfl, by go_num, E2, hS⟩
      | true =>
        have hbb : ¬ (k : Int) = but := by simpa using hb
        cases hm : mode != 0 with
        | false =>
          have E2 := Lib.hid (show fitsK l mo but (k + 1) = true by rw [E.out, he.out]; simp only [hm]; simp)
          rw [hm] at HQ
          clear hbb E
          go_wp2_with fail
          refine HQ.out.mono ?_
          rintro e w1 ⟨rfl, b1⟩
          replace hS := Lib.hid (hS.out.below b1)
          obtain ⟨x1', d0', d1', x2', d3', _⟩ := hS.out.b4
          have y2 := (hS.out.to1.gold.cell (p := ⟨b, off + k * 5 + 2, none⟩) hbl).trans hz2.out
          clear b1 HQ z0 z1 z2 z3 z4 x1 d0 d1 x2 d3
          go_wp2_with fail
          go_roundg (m - (k + 1))
          case measure => omega
          case rel => exact ⟨k + 1, by omega, rfl, by go_num, E2, hS⟩
        | true =>
          rw [hm] at HQ
          cases hc : comB mode mo with
          | true =>
            have E2 := Lib.hid (show fitsK l mo but (k + 1) = true by rw [E.out, he.out]; simp only [hm, hc]; simp)
            rw [hc] at HC
            clear hbb E
            go_wp2_with fail
            refine HQ.out.mono ?_
            rintro e w1 ⟨rfl, b1⟩
            replace hS := Lib.hid (hS.out.below b1)
            obtain ⟨x1', d0', d1', x2', d3', _⟩ := hS.out.b4
            have y2 := (hS.out.to1.gold.cell (p := ⟨b, off + k * 5 + 2, none⟩) hbl).trans hz2.out
            clear b1 HQ z0 z1 z2 z3 z4 x1 d0 d1 x2 d3
            go_wp2_with fail
            refine (HC.out _).mono ?_
            rintro e w2 ⟨rfl, b2⟩
            replace hS := Lib.hid (hS.out.below b2)
            clear b2 x1' d0' d1' x2' d3' y2
            go_wp2_with fail
            go_roundg (m - (k + 1))
            case measure => omega
            case rel => exact ⟨k + 1, by omega, rfl, by go_num, E2, hS⟩
          | false =>
            have E2 := Lib.hid (show fitsK l mo but l.length = false from hdn.out (by rw [E.out]; simp only [hm, hc]; simp [hbb]))
            rw [hc] at HC
            clear hbb E
            go_wp2_with fail
            refine HQ.out.mono ?_
            rintro e w1 ⟨rfl, b1⟩
            replace hS := Lib.hid (hS.out.below b1)
            obtain ⟨x1', d0', d1', x2', d3', _⟩ := hS.out.b4
            have y2 := (hS.out.to1.gold.cell (p := ⟨b, off + k * 5 + 2, none⟩) hbl).trans hz2.out
            clear b1 HQ z0 z1 z2 z3 z4 x1 d0 d1 x2 d3
            go_wp2_with fail
            refine (HC.out _).mono ?_
            rintro e w2 ⟨rfl, b2⟩
            replace hS := Lib.hid (hS.out.below b2)
            clear b2 x1' d0' d1' x2' d3' y2
            go_wp2_with fail
            go_ret
            exact ⟨by rw [E2.out]; rfl, hS.out.to1.gold⟩
    · obtain rfl : k = m := by omega
      have bel := Lib.hid hS.out.tail.gold
      clear hS
      go_wp2_with fail
      go_ret
      exact ⟨by rw [hn.out, he.out]; rfl, bel.out⟩
end Go.Proofs.Ytcnkmhfcgkbhbaa
