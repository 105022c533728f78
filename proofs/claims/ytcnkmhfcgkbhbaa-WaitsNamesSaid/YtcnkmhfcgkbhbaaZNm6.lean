/-
  Contracts and plain laws that the walk leans on, part 6. No condition.
-/
import Derived.Test.YtcnkmhfcgkbhbaaZNm5
import Derived.Laws.StructEq
import Derived.Deep.RegionLaw
namespace Go.Proofs.Ytcnkmhfcgkbhbaa
set_option linter.unusedSimpArgs false
set_option linter.unusedVariables false
set_option linter.unnecessarySimpa false
open Go.RowKit
theorem knownR_any (m : Int) (w : World) : Calls Try.prog 56 #[.int .i64 m] w fun e w' => e = .returned (.bool (knownB m)) ∧ w = w' := by
  unfold knownB
  by_cases h1 : 0 ≤ m
  · by_cases h2 : m ≤ 6
    · rw [show decide (0 ≤ m ∧ m ≤ 6) = true by simp [h1, h2]]
      go_enter Try.func56, Try.ntmps56
      go_wp2
      go_ret
      exact ⟨rfl, rfl⟩
    · rw [show decide (0 ≤ m ∧ m ≤ 6) = false by simp [h2]]
      go_enter Try.func56, Try.ntmps56
      go_wp2
      go_ret
      exact ⟨rfl, rfl⟩
  · rw [show decide (0 ≤ m ∧ m ≤ 6) = false by simp [h1]]
    go_enter Try.func56, Try.ntmps56
    go_wp2
    go_ret
    exact ⟨rfl, rfl⟩
def pl (b : Bool) : UInt8 := if b then 43 else 46
/-- Seven signs: a + where the modes agree. -/
def signs (f : Nat → Bool) : ByteArray := ⟨#[pl (f 0), pl (f 1), pl (f 2), pl (f 3), pl (f 4), pl (f 5), pl (f 6)]⟩
def comRow (k : Nat) : ByteArray := signs (fun b => comB k b)
theorem row_any (k : Nat) (hk : k < 7) (w : World) : Calls Try.prog 60 #[.int .i64 k] w fun e w' => e = .returned (.string (comRow k)) ∧ Below w.heap.size w w' := by
  have : k = 0 ∨ k = 1 ∨ k = 2 ∨ k = 3 ∨ k = 4 ∨ k = 5 ∨ k = 6 := by omega
  rcases this with rfl | rfl | rfl | rfl | rfl | rfl | rfl
  · have E := Lib.hid (show comRow 0 = ⟨#[43, 43, 43, 43, 43, 43, 43]⟩ by decide +kernel)
    go_enter Try.func60, Try.ntmps60
    go_wp2
    go_ret
    exact ⟨by rw [E.out]; rfl, (Below.refl _ _).alloc (Nat.le_refl _) _⟩
  · have E := Lib.hid (show comRow 1 = ⟨#[43, 43, 43, 43, 43, 43, 46]⟩ by decide +kernel)
    go_enter Try.func60, Try.ntmps60
    go_wp2
    go_ret
    exact ⟨by rw [E.out]; rfl, (Below.refl _ _).alloc (Nat.le_refl _) _⟩
  · have E := Lib.hid (show comRow 2 = ⟨#[43, 43, 43, 46, 46, 46, 46]⟩ by decide +kernel)
    go_enter Try.func60, Try.ntmps60
    go_wp2
    go_ret
    exact ⟨by rw [E.out]; rfl, (Below.refl _ _).alloc (Nat.le_refl _) _⟩
  · have E := Lib.hid (show comRow 3 = ⟨#[43, 43, 46, 43, 46, 43, 46]⟩ by decide +kernel)
    go_enter Try.func60, Try.ntmps60
    go_wp2
    go_ret
    exact ⟨by rw [E.out]; rfl, (Below.refl _ _).alloc (Nat.le_refl _) _⟩
  · have E := Lib.hid (show comRow 4 = ⟨#[43, 43, 46, 46, 46, 46, 46]⟩ by decide +kernel)
    go_enter Try.func60, Try.ntmps60
    go_wp2
    go_ret
    exact ⟨by rw [E.out]; rfl, (Below.refl _ _).alloc (Nat.le_refl _) _⟩
  · have E := Lib.hid (show comRow 5 = ⟨#[43, 43, 46, 43, 46, 46, 46]⟩ by decide +kernel)
    go_enter Try.func60, Try.ntmps60
    go_wp2
    go_ret
    exact ⟨by rw [E.out]; rfl, (Below.refl _ _).alloc (Nat.le_refl _) _⟩
  · have E := Lib.hid (show comRow 6 = ⟨#[43, 46, 46, 46, 46, 46, 46]⟩ by decide +kernel)
    go_enter Try.func60, Try.ntmps60
    go_wp2
    go_ret
    exact ⟨by rw [E.out]; rfl, (Below.refl _ _).alloc (Nat.le_refl _) _⟩
theorem signs_at (f : Nat → Bool) (b : Nat) (hb : b < 7) (h : b < (signs f).size) : (((signs f)[b].toNat : Int) == 43) = f b := by
  have : b = 0 ∨ b = 1 ∨ b = 2 ∨ b = 3 ∨ b = 4 ∨ b = 5 ∨ b = 6 := by omega
  rcases this with rfl | rfl | rfl | rfl | rfl | rfl | rfl
  · show (((pl (f 0)).toNat : Int) == 43) = f 0
    cases f 0 <;> rfl
  · show (((pl (f 1)).toNat : Int) == 43) = f 1
    cases f 1 <;> rfl
  · show (((pl (f 2)).toNat : Int) == 43) = f 2
    cases f 2 <;> rfl
  · show (((pl (f 3)).toNat : Int) == 43) = f 3
    cases f 3 <;> rfl
  · show (((pl (f 4)).toNat : Int) == 43) = f 4
    cases f 4 <;> rfl
  · show (((pl (f 5)).toNat : Int) == 43) = f 5
    cases f 5 <;> rfl
  · show (((pl (f 6)).toNat : Int) == 43) = f 6
    cases f 6 <;> rfl
theorem compatR_any (a b : Int) (w : World) : Calls Try.prog 46 #[.int .i64 a, .int .i64 b] w fun e w' => e = .returned (.bool (comB a b)) ∧ Below w.heap.size w w' := by
  have Ka := Lib.hid (fun W => knownR_any a W)
  have Kb := Lib.hid (fun W => knownR_any b W)
  cases ha : knownB a with
  | false =>
    rw [show comB a b = false by simp [comB, tabB, ha]]
    rw [ha] at Ka
    go_enter Try.func46, Try.ntmps46
    go_wp2_with fail
    refine (Ka.out _).mono ?_
    rintro e w' ⟨rfl, rfl⟩
    go_wp2_with fail
    go_ret
    exact ⟨rfl, Below.refl _ _⟩
  | true =>
    rw [ha] at Ka
    cases hb : knownB b with
    | false =>
      rw [show comB a b = false by simp [comB, tabB, hb]]
      rw [hb] at Kb
      go_enter Try.func46, Try.ntmps46
      go_wp2_with fail
      refine (Ka.out _).mono ?_
      rintro e w' ⟨rfl, rfl⟩
      go_wp2_with fail
      refine (Kb.out _).mono ?_
      rintro e w' ⟨rfl, rfl⟩
      go_wp2_with fail
      go_ret
      exact ⟨rfl, Below.refl _ _⟩
    | true =>
      rw [hb] at Kb
      obtain ⟨i, rfl, hi⟩ := known_nat ha
      obtain ⟨j, rfl, hj⟩ := known_nat hb
      have R := Lib.hid (fun W => row_any i hi W)
      have hz : (comRow i).size = 7 := rfl
      have hA := Lib.hid (fun h => signs_at (fun b => comB i b) j hj h)
      have i1 : (0 : Int) ≤ (j : Int) := by omega
      have i2 : (j : Int) < 7 := by omega
      go_enter Try.func46, Try.ntmps46
      go_wp2_with fail
      refine (Ka.out _).mono ?_
      rintro e w' ⟨rfl, rfl⟩
      go_wp2_with fail
      refine (Kb.out _).mono ?_
      rintro e w' ⟨rfl, rfl⟩
      go_wp2_with fail
      refine (R.out _).mono ?_
      rintro e w1 ⟨rfl, b1⟩
      go_wp2_with fail
      go_ret
      refine ⟨?_, b1⟩
      rw [← hA.out (by show j < 7; exact hj)]
      rfl
end Go.Proofs.Ytcnkmhfcgkbhbaa
namespace Go.Proofs.Ytcnkmhfcgkbhbaa
set_option linter.unusedSimpArgs false
set_option linter.unusedVariables false
set_option linter.unnecessarySimpa false
open Go.RowKit
theorem holdsR_any (r : Rq) (w : World) : Calls Try.prog 45 #[r.val] w fun e w' => e = .returned (.bool (r.mode != 0)) ∧ Below w.heap.size w w' := by
  obtain ⟨id, txn, mode, want, since⟩ := r
  unfold Rq.val
  go_enter Try.func45, Try.ntmps45
  go_wp2
  go_ret
  exact ⟨rfl, (Below.refl _ _).alloc (Nat.le_refl _) _⟩
theorem waitsR_any (r : Rq) (w : World) : Calls Try.prog 44 #[r.val] w fun e w' => e = .returned (.bool (decide (0 < r.since))) ∧ Below w.heap.size w w' := by
  obtain ⟨id, txn, mode, want, since⟩ := r
  unfold Rq.val
  go_enter Try.func44, Try.ntmps44
  go_wp2
  go_ret
  exact ⟨rfl, (Below.refl _ _).alloc (Nat.le_refl _) _⟩
set_option maxHeartbeats 1000000 in
theorem waiting_any (t r n : Int) (v : Value) (l : List Rq) (w : World) (hv : RQ w v l) (hl : l.length ≤ 1000) :
    Calls Try.prog 29 #[hval t r v n] w fun e w' => e = .returned (.int .i64 (idxF (fun q => q.mode == 0) l 0)) ∧ Below w.heap.size w w' := by
  have h0 : ∀ b0, Sep (w.alloc (.cells b0 29)) [blk w.heap.size 29 b0, old w] := fun b0 => (Sep.start w).alloc b0 29
  replace h0 := Lib.hid h0
  have HU := Lib.hid (fun q w => holdsR_any q w)
  obtain ⟨a, c, rfl, hlc, _, hr⟩ := hv
  replace hr := Lib.hid hr
  unfold hval
  go_enter Try.func29, Try.ntmps29
  go_wp2_with fail
  have hS := Lib.hid (h0.out #[.int .i64 t, .int .i64 r, .slice a l.length c, .int .i64 n])
  clear h0
  generalize hn : l.length = m at *
  replace hn := Lib.hid hn
  generalize hp : (fun q : Rq => q.mode == 0) = p at *
  replace hp := Lib.hid hp
  go_loopg [3] m (fun g i wr => ∃ k : Nat, k ≤ m ∧ g = m - k ∧ i = .int .i64 k ∧ Hid (idxF p l 0 = idxF p (l.drop k) k) ∧ Hid (Sep wr [blk w.heap.size 29 #[.int .i64 t, .int .i64 r, .slice a m c, .int .i64 n], old w]))
  case atStart => exact ⟨0, Nat.zero_le _, rfl, rfl, rfl, hS⟩
  case round =>
    clear hS
    obtain ⟨k, hk, hg, rfl, he, hS⟩ := hrel
    obtain ⟨x1, d0, d1, x2, d3, _⟩ := hS.out.b4
    by_cases hlt : k < m
    · obtain ⟨b, off, rfl, hbl, hz⟩ := hr.out (by have := hn.out; omega)
      obtain ⟨z0, z1, z2, z3, z4⟩ := hz k (by have := hn.out; omega)
      have kk : ∀ o, wr.cell? ⟨b, o, none⟩ = w.cell? ⟨b, o, none⟩ := fun o => hS.out.to1.gold.cell (p := ⟨b, o, none⟩) hbl
      rw [← kk] at z0 z1 z2 z3 z4
      have E := Lib.hid (drop_at l k (by rw [hn.out]; exact hlt))
      have hpq := Lib.hid (show p (l.getD k default) = ((l.getD k default).mode == 0) by rw [← hp.out])
      clear hz hr kk
      generalize l.getD k default = q at *
      have HQ := Lib.hid (HU.out q wr)
      obtain ⟨id, txn, mode, want, since⟩ := q
      simp only [Rq.val] at HQ z0 z1 z2 z3 z4 hpq
      cases hc : mode == 0 with
      | true =>
        have E2 := Lib.hid (show idxF p l 0 = (k : Int) by rw [he.out, E.out]; simp only [idxF, hpq.out, hc, if_true])
        have hc' : (mode != 0) = false := by simp [bne, hc]
        rw [hc'] at HQ
        clear hc hc'
        go_wp2_with fail
        refine HQ.out.mono ?_
        rintro e w1 ⟨rfl, b1⟩
        replace hS := Lib.hid (hS.out.below b1)
        clear b1 HQ z0 z1 z2 z3 z4 x1 d0 d1 x2 d3
        go_wp2_with fail
        go_ret
        exact ⟨by have h := E2.out; rw [← hp.out] at h; rw [h]; rfl, hS.out.to1.gold⟩
      | false =>
        have E2 := Lib.hid (show idxF p l 0 = idxF p (l.drop (k + 1)) (k + 1) by rw [he.out, E.out]; simp only [idxF, hpq.out, hc]; rfl)
        have hc' : (mode != 0) = true := by simp [bne, hc]
        rw [hc'] at HQ
        clear hc hc'
        go_wp2_with fail
        refine HQ.out.mono ?_
        rintro e w1 ⟨rfl, b1⟩
        replace hS := Lib.hid (hS.out.below b1)
        clear b1 HQ z0 z1 z2 z3 z4 x1 d0 d1 x2 d3
        go_wp2_with fail
        go_roundg (m - (k + 1))
        case measure => omega
        case rel => exact ⟨k + 1, by omega, rfl, by go_num, E2, hS⟩
    · have hk2 : k = m := by omega
      have E := Lib.hid (show idxF p l 0 = -1 by rw [he.out, List.drop_eq_nil_of_le (by rw [hn.out]; omega)]; rfl)
      clear he
      go_wp2_with fail
      go_ret
      exact ⟨by have h := E.out; rw [← hp.out] at h; rw [h]; rfl, hS.out.to1.gold⟩
set_option maxHeartbeats 4000000 in
theorem upgrading_any (t r n : Int) (v : Value) (l : List Rq) (w : World) (hv : RQ w v l) (hl : l.length ≤ 1000) :
    Calls Try.prog 28 #[hval t r v n] w fun e w' => e = .returned (.int .i64 (bestK l l.length)) ∧ Below w.heap.size w w' := by
  have h0 : ∀ b0, Sep (w.alloc (.cells b0 29)) [blk w.heap.size 29 b0, old w] := fun b0 => (Sep.start w).alloc b0 29
  have HU := Lib.hid (fun q w => holdsR_any q w)
  have HV := Lib.hid (fun q w => waitsR_any q w)
  replace h0 := Lib.hid h0
  obtain ⟨a, c, rfl, hlc, _, hr⟩ := hv
  replace hr := Lib.hid hr
  unfold hval
  go_enter Try.func28, Try.ntmps28
  go_wp2_with fail
  have hS := Lib.hid (h0.out #[.int .i64 t, .int .i64 r, .slice a l.length c, .int .i64 n])
  clear h0
  generalize hn : l.length = m at *
  replace hn := Lib.hid hn
  go_loopg [3, 4] m (fun g s3 i wr => ∃ k : Nat, k ≤ m ∧ g = m - k ∧ i = .int .i64 k ∧ s3 = .int .i64 (bestK l k) ∧ Hid (Sep wr [blk w.heap.size 29 #[.int .i64 t, .int .i64 r, .slice a m c, .int .i64 n], old w]))
  case atStart => exact ⟨0, Nat.zero_le _, rfl, rfl, rfl, hS⟩
  case round =>
    clear hS
    obtain ⟨k, hk, hg, rfl, rfl, hS⟩ := hrel
    obtain ⟨x1, _, _, x2, _⟩ := hS.out.b4
    by_cases hlt : k < m
    · obtain ⟨b, off, rfl, hbl, hz⟩ := hr.out (by have := hn.out; omega)
      obtain ⟨z0, z1, z2, z3, z4⟩ := hz k (by have := hn.out; omega)
      have kk : ∀ o, wr.cell? ⟨b, o, none⟩ = w.cell? ⟨b, o, none⟩ := fun o => hS.out.to1.gold.cell (p := ⟨b, o, none⟩) hbl
      rw [← kk] at z0 z1 z2 z3 z4
      have E := Lib.hid (show bestK l (k + 1) = if upB (l.getD k default) && (decide (bestK l k < 0) || decide ((l.getD k default).since < (l.getD (bestK l k).toNat default).since)) then (k : Int) else bestK l k from rfl)
      have hbd := bestK_bd l k
      have hzz := Lib.hid hz
      clear kk hz hr
      generalize l.getD k default = q at *
      generalize bestK l k = best at *
      have HQ := Lib.hid (fun w => HU.out q w)
      have HW := Lib.hid (fun w => HV.out q w)
      have hS2 := Lib.hid (hS.out.alloc q.cells.toArray 39)
      obtain ⟨id, txn, mode, want, since⟩ := q
      simp only [Rq.val] at HQ HW
      simp only [Rq.cells] at hS2
      obtain ⟨_, p0, p1, p2, p3, p4, _⟩ := hS2.out.b5
      obtain ⟨_, _, _, p5, _⟩ := hS2.out.to1.b4
      cases hm0 : mode != 0 with
      | false =>
        have E2 := Lib.hid (show bestK l (k + 1) = best by rw [E.out]; simp only [upB, hm0]; rfl)
        rw [hm0] at HQ
        clear E
        go_wp2_with fail
        refine wp_region_any (by kernel_rfl) ?_
        change wpAny _ _ _ _ _ _ _ (World.drew _)
        refine wpAny_ready (rs := [0]) (by kernel_rfl) (by simp) ?_
        refine AllReady.cons rfl (fun K hK => ?_) AllReady.nil
        go_simp
        refine hK _ _ ?_
        clear hK K
        refine wpAny_ready (rs := [1]) (by kernel_rfl) (by simp) ?_
        refine AllReady.cons rfl (fun K hK => ?_) AllReady.nil
        go_simp
        go_wp2_with (go_at_call 45; refine (HQ.out _).mono ?_; rintro e w1 ⟨rfl, b1⟩; have hS3 := Lib.hid ((show Sep _ [blk wr.heap.size 39 #[.int .i64 id, .int .i64 txn, .int .i64 mode, .int .i64 want, .int .i64 since], blk w.heap.size 29 #[.int .i64 t, .int .i64 r, .slice (some ⟨b, off, none⟩) m c, .int .i64 n], old w] from by first | exact hS2.out | exact hS2.out.drew).below b1); obtain ⟨_, r0, r1, r2, r3, r4, _⟩ := hS3.out.b5; obtain ⟨_, _, _, v2, _⟩ := hS3.out.to1.b4; clear b1)
        refine reg_take 2 (.bool false) rfl (by kernel_rfl) (by kernel_rfl) (by kernel_rfl) (fun _ _ _ _ _ h => h) (by kernel_rfl) (fun w => by go_simp; try with_reducible rfl) ?_
        simp only [Act.put, List.setIfInBounds_toArray, List.set_cons_succ, List.set_cons_zero, List.getElem_toArray, List.getElem_cons_zero, List.getElem_cons_succ]
        refine reg_skip 3 rfl (by kernel_rfl) (by kernel_rfl) (by kernel_rfl) (fun _ _ _ _ _ h => h) (by kernel_rfl) ?_
        simp only [Act.put, List.setIfInBounds_toArray, List.set_cons_succ, List.set_cons_zero, List.getElem_toArray, List.getElem_cons_zero, List.getElem_cons_succ]
        refine reg_skip 4 rfl (by kernel_rfl) (by kernel_rfl) (by kernel_rfl) (fun _ _ _ _ _ h => h) (by kernel_rfl) ?_
        simp only [Act.put, List.setIfInBounds_toArray, List.set_cons_succ, List.set_cons_zero, List.getElem_toArray, List.getElem_cons_zero, List.getElem_cons_succ]
        refine reg_take 5 (.bool false) rfl (by kernel_rfl) (by kernel_rfl) (by kernel_rfl) (fun _ _ _ _ _ h => h) (by kernel_rfl) (fun w => by go_simp; try with_reducible rfl) ?_
        simp only [Act.put, List.setIfInBounds_toArray, List.set_cons_succ, List.set_cons_zero, List.getElem_toArray, List.getElem_cons_zero, List.getElem_cons_succ]
        refine reg_take 6 (.bool false) rfl (by kernel_rfl) (by kernel_rfl) (by kernel_rfl) (fun _ _ _ _ _ h => h) (by kernel_rfl) (fun w => by go_simp; try with_reducible rfl) ?_
        simp only [Act.put, List.setIfInBounds_toArray, List.set_cons_succ, List.set_cons_zero, List.getElem_toArray, List.getElem_cons_zero, List.getElem_cons_succ]
        refine reg_skip 7 rfl (by kernel_rfl) (by kernel_rfl) (by kernel_rfl) (fun _ _ _ _ _ h => h) (by kernel_rfl) ?_
        simp only [Act.put, List.setIfInBounds_toArray, List.set_cons_succ, List.set_cons_zero, List.getElem_toArray, List.getElem_cons_zero, List.getElem_cons_succ]
        refine reg_skip 8 rfl (by kernel_rfl) (by kernel_rfl) (by kernel_rfl) (fun _ _ _ _ _ h => h) (by kernel_rfl) ?_
        simp only [Act.put, List.setIfInBounds_toArray, List.set_cons_succ, List.set_cons_zero, List.getElem_toArray, List.getElem_cons_zero, List.getElem_cons_succ]
        refine reg_skip 9 rfl (by kernel_rfl) (by kernel_rfl) (by kernel_rfl) (fun _ _ _ _ _ h => h) (by kernel_rfl) ?_
        simp only [Act.put, List.setIfInBounds_toArray, List.set_cons_succ, List.set_cons_zero, List.getElem_toArray, List.getElem_cons_zero, List.getElem_cons_succ]
        refine reg_skip 10 rfl (by kernel_rfl) (by kernel_rfl) (by kernel_rfl) (fun _ _ _ _ _ h => h) (by kernel_rfl) ?_
        simp only [Act.put, List.setIfInBounds_toArray, List.set_cons_succ, List.set_cons_zero, List.getElem_toArray, List.getElem_cons_zero, List.getElem_cons_succ]
        refine reg_skip 11 rfl (by kernel_rfl) (by kernel_rfl) (by kernel_rfl) (fun _ _ _ _ _ h => h) (by kernel_rfl) ?_
        simp only [Act.put, List.setIfInBounds_toArray, List.set_cons_succ, List.set_cons_zero, List.getElem_toArray, List.getElem_cons_zero, List.getElem_cons_succ]
        refine reg_skip 12 rfl (by kernel_rfl) (by kernel_rfl) (by kernel_rfl) (fun _ _ _ _ _ h => h) (by kernel_rfl) ?_
        simp only [Act.put, List.setIfInBounds_toArray, List.set_cons_succ, List.set_cons_zero, List.getElem_toArray, List.getElem_cons_zero, List.getElem_cons_succ]
        refine reg_skip 13 rfl (by kernel_rfl) (by kernel_rfl) (by kernel_rfl) (fun _ _ _ _ _ h => h) (by kernel_rfl) ?_
        simp only [Act.put, List.setIfInBounds_toArray, List.set_cons_succ, List.set_cons_zero, List.getElem_toArray, List.getElem_cons_zero, List.getElem_cons_succ]
        refine reg_skip 14 rfl (by kernel_rfl) (by kernel_rfl) (by kernel_rfl) (fun _ _ _ _ _ h => h) (by kernel_rfl) ?_
        simp only [Act.put, List.setIfInBounds_toArray, List.set_cons_succ, List.set_cons_zero, List.getElem_toArray, List.getElem_cons_zero, List.getElem_cons_succ]
        refine reg_skip 15 rfl (by kernel_rfl) (by kernel_rfl) (by kernel_rfl) (fun _ _ _ _ _ h => h) (by kernel_rfl) ?_
        simp only [Act.put, List.setIfInBounds_toArray, List.set_cons_succ, List.set_cons_zero, List.getElem_toArray, List.getElem_cons_zero, List.getElem_cons_succ]
        refine reg_skip 16 rfl (by kernel_rfl) (by kernel_rfl) (by kernel_rfl) (fun _ _ _ _ _ h => h) (by kernel_rfl) ?_
        simp only [Act.put, List.setIfInBounds_toArray, List.set_cons_succ, List.set_cons_zero, List.getElem_toArray, List.getElem_cons_zero, List.getElem_cons_succ]
        refine reg_skip 17 rfl (by kernel_rfl) (by kernel_rfl) (by kernel_rfl) (fun _ _ _ _ _ h => h) (by kernel_rfl) ?_
        simp only [Act.put, List.setIfInBounds_toArray, List.set_cons_succ, List.set_cons_zero, List.getElem_toArray, List.getElem_cons_zero, List.getElem_cons_succ]
        refine reg_skip 18 rfl (by kernel_rfl) (by kernel_rfl) (by kernel_rfl) (fun _ _ _ _ _ h => h) (by kernel_rfl) ?_
        simp only [Act.put, List.setIfInBounds_toArray, List.set_cons_succ, List.set_cons_zero, List.getElem_toArray, List.getElem_cons_zero, List.getElem_cons_succ]
        refine reg_skip 19 rfl (by kernel_rfl) (by kernel_rfl) (by kernel_rfl) (fun _ _ _ _ _ h => h) (by kernel_rfl) ?_
        simp only [Act.put, List.setIfInBounds_toArray, List.set_cons_succ, List.set_cons_zero, List.getElem_toArray, List.getElem_cons_zero, List.getElem_cons_succ]
        refine reg_take 20 (.bool false) rfl (by kernel_rfl) (by kernel_rfl) (by kernel_rfl) (fun _ _ _ _ _ h => h) (by kernel_rfl) (fun w => by go_simp; try with_reducible rfl) ?_
        simp only [Act.put, List.setIfInBounds_toArray, List.set_cons_succ, List.set_cons_zero, List.getElem_toArray, List.getElem_cons_zero, List.getElem_cons_succ]
        refine wpAny_done (by kernel_rfl) ?_ _
        go_wp2_with fail
        go_roundg (m - (k + 1))
        case measure => omega
        case rel => exact ⟨k + 1, by omega, rfl, by go_num, by rw [E2.out], hS3.out.tail⟩
      | true =>
        rw [hm0] at HQ
        cases hs0 : decide (0 < since) with
        | false =>
          have E2 := Lib.hid (show bestK l (k + 1) = best by rw [E.out]; simp only [upB, hs0, Bool.and_false]; rfl)
          rw [hs0] at HW
          clear E
          go_wp2_with fail
          refine wp_region_any (by kernel_rfl) ?_
          change wpAny _ _ _ _ _ _ _ (World.drew _)
          refine wpAny_ready (rs := [0]) (by kernel_rfl) (by simp) ?_
          refine AllReady.cons rfl (fun K hK => ?_) AllReady.nil
          go_simp
          refine hK _ _ ?_
          clear hK K
          refine wpAny_ready (rs := [1]) (by kernel_rfl) (by simp) ?_
          refine AllReady.cons rfl (fun K hK => ?_) AllReady.nil
          go_simp
          go_wp2_with (go_at_call 45; refine (HQ.out _).mono ?_; rintro e w1 ⟨rfl, b1⟩; have hS3 := Lib.hid ((show Sep _ [blk wr.heap.size 39 #[.int .i64 id, .int .i64 txn, .int .i64 mode, .int .i64 want, .int .i64 since], blk w.heap.size 29 #[.int .i64 t, .int .i64 r, .slice (some ⟨b, off, none⟩) m c, .int .i64 n], old w] from by first | exact hS2.out | exact hS2.out.drew).below b1); obtain ⟨_, r0, r1, r2, r3, r4, _⟩ := hS3.out.b5; obtain ⟨_, _, _, v2, _⟩ := hS3.out.to1.b4; clear b1)
          refine reg_take 2 (.bool true) rfl (by kernel_rfl) (by kernel_rfl) (by kernel_rfl) (fun _ _ _ _ _ h => h) (by kernel_rfl) (fun w => by go_simp; try with_reducible rfl) ?_
          simp only [Act.put, List.setIfInBounds_toArray, List.set_cons_succ, List.set_cons_zero, List.getElem_toArray, List.getElem_cons_zero, List.getElem_cons_succ]
          refine wpAny_ready (rs := [3]) (by kernel_rfl) (by simp) ?_
          refine AllReady.cons rfl (fun K hK => ?_) AllReady.nil
          go_simp
          refine hK _ _ ?_
          clear hK K
          refine wpAny_ready (rs := [4]) (by kernel_rfl) (by simp) ?_
          refine AllReady.cons rfl (fun K hK => ?_) AllReady.nil
          go_simp
          go_wp2_with (go_at_call 44; refine (HW.out _).mono ?_; rintro e w2 ⟨rfl, b2⟩; have hS4 := Lib.hid (hS3.out.below b2); obtain ⟨_, s0, s1, s2, s3, s4, _⟩ := hS4.out.b5; obtain ⟨_, _, _, s5, _⟩ := hS4.out.to1.b4; clear b2)
          refine reg_take 5 (.bool false) rfl (by kernel_rfl) (by kernel_rfl) (by kernel_rfl) (fun _ _ _ _ _ h => h) (by kernel_rfl) (fun w => by go_simp; try with_reducible rfl) ?_
          simp only [Act.put, List.setIfInBounds_toArray, List.set_cons_succ, List.set_cons_zero, List.getElem_toArray, List.getElem_cons_zero, List.getElem_cons_succ]
          refine reg_take 6 (.bool false) rfl (by kernel_rfl) (by kernel_rfl) (by kernel_rfl) (fun _ _ _ _ _ h => h) (by kernel_rfl) (fun w => by go_simp; try with_reducible rfl) ?_
          simp only [Act.put, List.setIfInBounds_toArray, List.set_cons_succ, List.set_cons_zero, List.getElem_toArray, List.getElem_cons_zero, List.getElem_cons_succ]
          refine reg_skip 7 rfl (by kernel_rfl) (by kernel_rfl) (by kernel_rfl) (fun _ _ _ _ _ h => h) (by kernel_rfl) ?_
          simp only [Act.put, List.setIfInBounds_toArray, List.set_cons_succ, List.set_cons_zero, List.getElem_toArray, List.getElem_cons_zero, List.getElem_cons_succ]
          refine reg_skip 8 rfl (by kernel_rfl) (by kernel_rfl) (by kernel_rfl) (fun _ _ _ _ _ h => h) (by kernel_rfl) ?_
          simp only [Act.put, List.setIfInBounds_toArray, List.set_cons_succ, List.set_cons_zero, List.getElem_toArray, List.getElem_cons_zero, List.getElem_cons_succ]
          refine reg_skip 9 rfl (by kernel_rfl) (by kernel_rfl) (by kernel_rfl) (fun _ _ _ _ _ h => h) (by kernel_rfl) ?_
          simp only [Act.put, List.setIfInBounds_toArray, List.set_cons_succ, List.set_cons_zero, List.getElem_toArray, List.getElem_cons_zero, List.getElem_cons_succ]
          refine reg_skip 10 rfl (by kernel_rfl) (by kernel_rfl) (by kernel_rfl) (fun _ _ _ _ _ h => h) (by kernel_rfl) ?_
          simp only [Act.put, List.setIfInBounds_toArray, List.set_cons_succ, List.set_cons_zero, List.getElem_toArray, List.getElem_cons_zero, List.getElem_cons_succ]
          refine reg_skip 11 rfl (by kernel_rfl) (by kernel_rfl) (by kernel_rfl) (fun _ _ _ _ _ h => h) (by kernel_rfl) ?_
          simp only [Act.put, List.setIfInBounds_toArray, List.set_cons_succ, List.set_cons_zero, List.getElem_toArray, List.getElem_cons_zero, List.getElem_cons_succ]
          refine reg_skip 12 rfl (by kernel_rfl) (by kernel_rfl) (by kernel_rfl) (fun _ _ _ _ _ h => h) (by kernel_rfl) ?_
          simp only [Act.put, List.setIfInBounds_toArray, List.set_cons_succ, List.set_cons_zero, List.getElem_toArray, List.getElem_cons_zero, List.getElem_cons_succ]
          refine reg_skip 13 rfl (by kernel_rfl) (by kernel_rfl) (by kernel_rfl) (fun _ _ _ _ _ h => h) (by kernel_rfl) ?_
          simp only [Act.put, List.setIfInBounds_toArray, List.set_cons_succ, List.set_cons_zero, List.getElem_toArray, List.getElem_cons_zero, List.getElem_cons_succ]
          refine reg_skip 14 rfl (by kernel_rfl) (by kernel_rfl) (by kernel_rfl) (fun _ _ _ _ _ h => h) (by kernel_rfl) ?_
          simp only [Act.put, List.setIfInBounds_toArray, List.set_cons_succ, List.set_cons_zero, List.getElem_toArray, List.getElem_cons_zero, List.getElem_cons_succ]
          refine reg_skip 15 rfl (by kernel_rfl) (by kernel_rfl) (by kernel_rfl) (fun _ _ _ _ _ h => h) (by kernel_rfl) ?_
          simp only [Act.put, List.setIfInBounds_toArray, List.set_cons_succ, List.set_cons_zero, List.getElem_toArray, List.getElem_cons_zero, List.getElem_cons_succ]
          refine reg_skip 16 rfl (by kernel_rfl) (by kernel_rfl) (by kernel_rfl) (fun _ _ _ _ _ h => h) (by kernel_rfl) ?_
          simp only [Act.put, List.setIfInBounds_toArray, List.set_cons_succ, List.set_cons_zero, List.getElem_toArray, List.getElem_cons_zero, List.getElem_cons_succ]
          refine reg_skip 17 rfl (by kernel_rfl) (by kernel_rfl) (by kernel_rfl) (fun _ _ _ _ _ h => h) (by kernel_rfl) ?_
          simp only [Act.put, List.setIfInBounds_toArray, List.set_cons_succ, List.set_cons_zero, List.getElem_toArray, List.getElem_cons_zero, List.getElem_cons_succ]
          refine reg_skip 18 rfl (by kernel_rfl) (by kernel_rfl) (by kernel_rfl) (fun _ _ _ _ _ h => h) (by kernel_rfl) ?_
          simp only [Act.put, List.setIfInBounds_toArray, List.set_cons_succ, List.set_cons_zero, List.getElem_toArray, List.getElem_cons_zero, List.getElem_cons_succ]
          refine reg_skip 19 rfl (by kernel_rfl) (by kernel_rfl) (by kernel_rfl) (fun _ _ _ _ _ h => h) (by kernel_rfl) ?_
          simp only [Act.put, List.setIfInBounds_toArray, List.set_cons_succ, List.set_cons_zero, List.getElem_toArray, List.getElem_cons_zero, List.getElem_cons_succ]
          refine reg_take 20 (.bool false) rfl (by kernel_rfl) (by kernel_rfl) (by kernel_rfl) (fun _ _ _ _ _ h => h) (by kernel_rfl) (fun w => by go_simp; try with_reducible rfl) ?_
          simp only [Act.put, List.setIfInBounds_toArray, List.set_cons_succ, List.set_cons_zero, List.getElem_toArray, List.getElem_cons_zero, List.getElem_cons_succ]
          refine wpAny_done (by kernel_rfl) ?_ _
          go_wp2_with fail
          go_roundg (m - (k + 1))
          case measure => omega
          case rel => exact ⟨k + 1, by omega, rfl, by go_num, by rw [E2.out], hS4.out.tail⟩
        | true =>
          rw [hs0] at HW
          have hu : upB ⟨id, txn, mode, want, since⟩ = true := by simp only [upB, hm0, hs0]; rfl
          by_cases hb0 : best < 0
          · have E2 := Lib.hid (show bestK l (k + 1) = (k : Int) by rw [E.out, hu, decide_eq_true hb0]; rfl)
            have d0 : decide (best < 0) = true := by simpa using hb0
            clear E hb0 hu
            go_wp2_with fail
            refine wp_region_any (by kernel_rfl) ?_
            change wpAny _ _ _ _ _ _ _ (World.drew _)
            refine wpAny_ready (rs := [0]) (by kernel_rfl) (by simp) ?_
            refine AllReady.cons rfl (fun K hK => ?_) AllReady.nil
            go_simp
            refine hK _ _ ?_
            clear hK K
            refine wpAny_ready (rs := [1]) (by kernel_rfl) (by simp) ?_
            refine AllReady.cons rfl (fun K hK => ?_) AllReady.nil
            go_simp
            go_wp2_with (go_at_call 45; refine (HQ.out _).mono ?_; rintro e w1 ⟨rfl, b1⟩; have hS3 := Lib.hid ((show Sep _ [blk wr.heap.size 39 #[.int .i64 id, .int .i64 txn, .int .i64 mode, .int .i64 want, .int .i64 since], blk w.heap.size 29 #[.int .i64 t, .int .i64 r, .slice (some ⟨b, off, none⟩) m c, .int .i64 n], old w] from by first | exact hS2.out | exact hS2.out.drew).below b1); obtain ⟨_, r0, r1, r2, r3, r4, _⟩ := hS3.out.b5; obtain ⟨_, _, _, v2, _⟩ := hS3.out.to1.b4; clear b1)
            refine reg_take 2 (.bool true) rfl (by kernel_rfl) (by kernel_rfl) (by kernel_rfl) (fun _ _ _ _ _ h => h) (by kernel_rfl) (fun w => by go_simp; try with_reducible rfl) ?_
            simp only [Act.put, List.setIfInBounds_toArray, List.set_cons_succ, List.set_cons_zero, List.getElem_toArray, List.getElem_cons_zero, List.getElem_cons_succ]
            refine wpAny_ready (rs := [3]) (by kernel_rfl) (by simp) ?_
            refine AllReady.cons rfl (fun K hK => ?_) AllReady.nil
            go_simp
            refine hK _ _ ?_
            clear hK K
            refine wpAny_ready (rs := [4]) (by kernel_rfl) (by simp) ?_
            refine AllReady.cons rfl (fun K hK => ?_) AllReady.nil
            go_simp
            go_wp2_with (go_at_call 44; refine (HW.out _).mono ?_; rintro e w2 ⟨rfl, b2⟩; have hS4 := Lib.hid (hS3.out.below b2); obtain ⟨_, s0, s1, s2, s3, s4, _⟩ := hS4.out.b5; obtain ⟨_, _, _, s5, _⟩ := hS4.out.to1.b4; clear b2)
            refine reg_take 5 (.bool true) rfl (by kernel_rfl) (by kernel_rfl) (by kernel_rfl) (fun _ _ _ _ _ h => h) (by kernel_rfl) (fun w => by go_simp; try with_reducible rfl) ?_
            simp only [Act.put, List.setIfInBounds_toArray, List.set_cons_succ, List.set_cons_zero, List.getElem_toArray, List.getElem_cons_zero, List.getElem_cons_succ]
            refine reg_take 6 (.bool true) rfl (by kernel_rfl) (by kernel_rfl) (by kernel_rfl) (fun _ _ _ _ _ h => h) (by kernel_rfl) (fun w => by go_simp; try with_reducible rfl) ?_
            simp only [Act.put, List.setIfInBounds_toArray, List.set_cons_succ, List.set_cons_zero, List.getElem_toArray, List.getElem_cons_zero, List.getElem_cons_succ]
            refine reg_take 7 (.int .i64 best) rfl (by kernel_rfl) (by kernel_rfl) (by kernel_rfl) (fun _ _ _ _ _ h => h) (by kernel_rfl) (fun w => by go_simp; try with_reducible rfl) ?_
            simp only [Act.put, List.setIfInBounds_toArray, List.set_cons_succ, List.set_cons_zero, List.getElem_toArray, List.getElem_cons_zero, List.getElem_cons_succ]
            refine reg_take 8 (.bool true) rfl (by kernel_rfl) (by kernel_rfl) (by kernel_rfl) (fun _ _ _ _ _ h => h) (by kernel_rfl) (fun w => by go_simp; try with_reducible rfl) ?_
            simp only [Act.put, List.setIfInBounds_toArray, List.set_cons_succ, List.set_cons_zero, List.getElem_toArray, List.getElem_cons_zero, List.getElem_cons_succ]
            refine reg_take 9 (.bool true) rfl (by kernel_rfl) (by kernel_rfl) (by kernel_rfl) (fun _ _ _ _ _ h => h) (by kernel_rfl) (fun w => by go_simp; try with_reducible rfl) ?_
            simp only [Act.put, List.setIfInBounds_toArray, List.set_cons_succ, List.set_cons_zero, List.getElem_toArray, List.getElem_cons_zero, List.getElem_cons_succ]
            refine reg_skip 10 rfl (by kernel_rfl) (by kernel_rfl) (by kernel_rfl) (fun _ _ _ _ _ h => h) (by kernel_rfl) ?_
            simp only [Act.put, List.setIfInBounds_toArray, List.set_cons_succ, List.set_cons_zero, List.getElem_toArray, List.getElem_cons_zero, List.getElem_cons_succ]
            refine reg_skip 11 rfl (by kernel_rfl) (by kernel_rfl) (by kernel_rfl) (fun _ _ _ _ _ h => h) (by kernel_rfl) ?_
            simp only [Act.put, List.setIfInBounds_toArray, List.set_cons_succ, List.set_cons_zero, List.getElem_toArray, List.getElem_cons_zero, List.getElem_cons_succ]
            refine reg_skip 12 rfl (by kernel_rfl) (by kernel_rfl) (by kernel_rfl) (fun _ _ _ _ _ h => h) (by kernel_rfl) ?_
            simp only [Act.put, List.setIfInBounds_toArray, List.set_cons_succ, List.set_cons_zero, List.getElem_toArray, List.getElem_cons_zero, List.getElem_cons_succ]
            refine reg_skip 13 rfl (by kernel_rfl) (by kernel_rfl) (by kernel_rfl) (fun _ _ _ _ _ h => h) (by kernel_rfl) ?_
            simp only [Act.put, List.setIfInBounds_toArray, List.set_cons_succ, List.set_cons_zero, List.getElem_toArray, List.getElem_cons_zero, List.getElem_cons_succ]
            refine reg_skip 14 rfl (by kernel_rfl) (by kernel_rfl) (by kernel_rfl) (fun _ _ _ _ _ h => h) (by kernel_rfl) ?_
            simp only [Act.put, List.setIfInBounds_toArray, List.set_cons_succ, List.set_cons_zero, List.getElem_toArray, List.getElem_cons_zero, List.getElem_cons_succ]
            refine reg_skip 15 rfl (by kernel_rfl) (by kernel_rfl) (by kernel_rfl) (fun _ _ _ _ _ h => h) (by kernel_rfl) ?_
            simp only [Act.put, List.setIfInBounds_toArray, List.set_cons_succ, List.set_cons_zero, List.getElem_toArray, List.getElem_cons_zero, List.getElem_cons_succ]
            refine reg_skip 16 rfl (by kernel_rfl) (by kernel_rfl) (by kernel_rfl) (fun _ _ _ _ _ h => h) (by kernel_rfl) ?_
            simp only [Act.put, List.setIfInBounds_toArray, List.set_cons_succ, List.set_cons_zero, List.getElem_toArray, List.getElem_cons_zero, List.getElem_cons_succ]
            refine reg_skip 17 rfl (by kernel_rfl) (by kernel_rfl) (by kernel_rfl) (fun _ _ _ _ _ h => h) (by kernel_rfl) ?_
            simp only [Act.put, List.setIfInBounds_toArray, List.set_cons_succ, List.set_cons_zero, List.getElem_toArray, List.getElem_cons_zero, List.getElem_cons_succ]
            refine reg_skip 18 rfl (by kernel_rfl) (by kernel_rfl) (by kernel_rfl) (fun _ _ _ _ _ h => h) (by kernel_rfl) ?_
            simp only [Act.put, List.setIfInBounds_toArray, List.set_cons_succ, List.set_cons_zero, List.getElem_toArray, List.getElem_cons_zero, List.getElem_cons_succ]
            refine reg_take 19 (.bool true) rfl (by kernel_rfl) (by kernel_rfl) (by kernel_rfl) (fun _ _ _ _ _ h => h) (by kernel_rfl) (fun w => by go_simp; try with_reducible rfl) ?_
            simp only [Act.put, List.setIfInBounds_toArray, List.set_cons_succ, List.set_cons_zero, List.getElem_toArray, List.getElem_cons_zero, List.getElem_cons_succ]
            refine reg_take 20 (.bool true) rfl (by kernel_rfl) (by kernel_rfl) (by kernel_rfl) (fun _ _ _ _ _ h => h) (by kernel_rfl) (fun w => by go_simp; try with_reducible rfl) ?_
            simp only [Act.put, List.setIfInBounds_toArray, List.set_cons_succ, List.set_cons_zero, List.getElem_toArray, List.getElem_cons_zero, List.getElem_cons_succ]
            refine wpAny_done (by kernel_rfl) ?_ _
            go_wp2_with fail
            go_roundg (m - (k + 1))
            case measure => omega
            case rel => exact ⟨k + 1, by omega, rfl, by go_num, by rw [E2.out], hS4.out.tail⟩
          · obtain ⟨bq, rfl⟩ := Int.eq_ofNat_of_zero_le (show 0 ≤ best by omega)
            have hzb := (hzz.out bq (by have := hn.out; omega)).2.2.2.2
            have zb0 := (hS2.out.to2.gold.cell (p := ⟨b, off + bq * 5 + 4, none⟩) hbl).trans hzb
            rw [Int.toNat_natCast] at E
            have E2 := Lib.hid (show bestK l (k + 1) = if decide (since < (l.getD bq default).since) then (k : Int) else bq by rw [E.out, hu, decide_eq_false hb0]; rfl)
            have d0 : decide ((bq : Int) < 0) = false := by simp
            have i1 : (0 : Int) ≤ (bq : Int) := by omega
            have i2 : (bq : Int) < (m : Int) := by omega
            clear E hb0 hu
            generalize (l.getD bq default).since = sb at *
            by_cases hc : since < sb
            · have d1 : decide (since < sb) = true := by simpa using hc
              have E3 := Lib.hid (show bestK l (k + 1) = (k : Int) by rw [E2.out, if_pos d1])
              clear hc E2
              go_wp2_with fail
              go_region_held3 (fun w' => w'.cell? ⟨wr.heap.size, 0, none⟩ = some (.int .i64 id) ∧ w'.cell? ⟨wr.heap.size, 1, none⟩ = some (.int .i64 txn) ∧ w'.cell? ⟨wr.heap.size, 2, none⟩ = some (.int .i64 mode) ∧ w'.cell? ⟨wr.heap.size, 3, none⟩ = some (.int .i64 want) ∧ w'.cell? ⟨wr.heap.size, 4, none⟩ = some (.int .i64 since) ∧ w'.cell? ⟨w.heap.size, 2, none⟩ = some (.slice (some ⟨b, off, none⟩) m c) ∧ w'.cell? ⟨b, off + bq * 5 + 4, none⟩ = some (.int .i64 sb)) (exact ⟨by assumption, by assumption, by assumption, by assumption, by assumption, by assumption, by assumption⟩)
                (first | (go_at_call 45; refine (HQ.out _).mono ?_; rintro e w1 ⟨rfl, b1⟩; have hS3 := Lib.hid ((show Sep _ [blk wr.heap.size 39 #[.int .i64 id, .int .i64 txn, .int .i64 mode, .int .i64 want, .int .i64 since], blk w.heap.size 29 #[.int .i64 t, .int .i64 r, .slice (some ⟨b, off, none⟩) m c, .int .i64 n], old w] from by first | exact hS2.out | exact hS2.out.drew).below b1); obtain ⟨_, r0, r1, r2, r3, r4, _⟩ := hS3.out.b5; obtain ⟨_, _, _, v2, _⟩ := hS3.out.to1.b4; have zb1 := (hS3.out.to2.gold.cell (p := ⟨b, off + bq * 5 + 4, none⟩) hbl).trans hzb; clear b1) | (go_at_call 44; refine (HW.out _).mono ?_; rintro e w2 ⟨rfl, b2⟩; have hS4 := Lib.hid (hS3.out.below b2); obtain ⟨_, s0, s1, s2, s3, s4, _⟩ := hS4.out.b5; obtain ⟨_, _, _, s5, _⟩ := hS4.out.to1.b4; have zb2 := (hS4.out.to2.gold.cell (p := ⟨b, off + bq * 5 + 4, none⟩) hbl).trans hzb; clear b2))
              go_wp2_with fail
              go_roundg (m - (k + 1))
              case measure => omega
              case rel => exact ⟨k + 1, by omega, rfl, by go_num, by rw [E3.out], hS4.out.tail⟩
            · have d1 : decide (since < sb) = false := by simpa using hc
              have E3 := Lib.hid (show bestK l (k + 1) = (bq : Int) by rw [E2.out, if_neg (by rw [d1]; decide)])
              clear hc E2
              go_wp2_with fail
              go_region_held3 (fun w' => w'.cell? ⟨wr.heap.size, 0, none⟩ = some (.int .i64 id) ∧ w'.cell? ⟨wr.heap.size, 1, none⟩ = some (.int .i64 txn) ∧ w'.cell? ⟨wr.heap.size, 2, none⟩ = some (.int .i64 mode) ∧ w'.cell? ⟨wr.heap.size, 3, none⟩ = some (.int .i64 want) ∧ w'.cell? ⟨wr.heap.size, 4, none⟩ = some (.int .i64 since) ∧ w'.cell? ⟨w.heap.size, 2, none⟩ = some (.slice (some ⟨b, off, none⟩) m c) ∧ w'.cell? ⟨b, off + bq * 5 + 4, none⟩ = some (.int .i64 sb)) (exact ⟨by assumption, by assumption, by assumption, by assumption, by assumption, by assumption, by assumption⟩)
                (first | (go_at_call 45; refine (HQ.out _).mono ?_; rintro e w1 ⟨rfl, b1⟩; have hS3 := Lib.hid ((show Sep _ [blk wr.heap.size 39 #[.int .i64 id, .int .i64 txn, .int .i64 mode, .int .i64 want, .int .i64 since], blk w.heap.size 29 #[.int .i64 t, .int .i64 r, .slice (some ⟨b, off, none⟩) m c, .int .i64 n], old w] from by first | exact hS2.out | exact hS2.out.drew).below b1); obtain ⟨_, r0, r1, r2, r3, r4, _⟩ := hS3.out.b5; obtain ⟨_, _, _, v2, _⟩ := hS3.out.to1.b4; have zb1 := (hS3.out.to2.gold.cell (p := ⟨b, off + bq * 5 + 4, none⟩) hbl).trans hzb; clear b1) | (go_at_call 44; refine (HW.out _).mono ?_; rintro e w2 ⟨rfl, b2⟩; have hS4 := Lib.hid (hS3.out.below b2); obtain ⟨_, s0, s1, s2, s3, s4, _⟩ := hS4.out.b5; obtain ⟨_, _, _, s5, _⟩ := hS4.out.to1.b4; have zb2 := (hS4.out.to2.gold.cell (p := ⟨b, off + bq * 5 + 4, none⟩) hbl).trans hzb; clear b2))
              go_wp2_with fail
              go_roundg (m - (k + 1))
              case measure => omega
              case rel => exact ⟨k + 1, by omega, rfl, by go_num, by rw [E3.out], hS4.out.tail⟩
    · obtain rfl : k = m := by omega
      have bel := Lib.hid hS.out.tail.gold
      clear hS
      go_wp2_with fail
      go_ret
      exact ⟨by rw [hn.out]; rfl, bel.out⟩
/-- Nobody of the first k but one is in the way. -/
def fitsK (l : List Rq) (mo but : Int) : Nat → Bool
  | 0 => true
  | k+1 => fitsK l mo but k && !(decide ((k : Int) ≠ but) && ((l.getD k default).mode != 0 && !comB (l.getD k default).mode mo))
theorem fitsK_down (l : List Rq) (mo but : Int) (k : Nat) (h : fitsK l mo but k = false) : ∀ d, fitsK l mo but (k + d) = false
  | 0 => h
  | d+1 => by rw [show k + (d + 1) = (k + d) + 1 from rfl, fitsK, fitsK_down l mo but k h d]; rfl
set_option maxHeartbeats 1000000 in
theorem fitsR_any (t r n : Int) (v : Value) (l : List Rq) (mo but : Int) (w : World) (hv : RQ w v l) (hl : l.length ≤ 1000) :
    Calls Try.prog 30 #[hval t r v n, .int .i64 mo, .int .i64 but] w fun e w' => e = .returned (.bool (fitsK l mo but l.length)) ∧ Below w.heap.size w w' := by
  have h0 : ∀ b0, Sep (w.alloc (.cells b0 29)) [blk w.heap.size 29 b0, old w] := fun b0 => (Sep.start w).alloc b0 29
  replace h0 := Lib.hid h0
  have HU := Lib.hid (fun q w => holdsR_any q w)
  obtain ⟨a, c, rfl, hlc, _, hr⟩ := hv
  replace hr := Lib.hid hr
  unfold hval
  go_enter Try.func30, Try.ntmps30
  go_wp2_with fail
  have hS := Lib.hid (h0.out #[.int .i64 t, .int .i64 r, .slice a l.length c, .int .i64 n])
  clear h0
  generalize hn : l.length = m at *
  replace hn := Lib.hid hn
  go_loopg [7] m (fun g i wr => ∃ k : Nat, k ≤ m ∧ g = m - k ∧ i = .int .i64 k ∧ Hid (fitsK l mo but k = true) ∧ Hid (Sep wr [blk w.heap.size 29 #[.int .i64 t, .int .i64 r, .slice a m c, .int .i64 n], old w]))
  case atStart => exact ⟨0, Nat.zero_le _, rfl, rfl, rfl, hS⟩
  case round =>
    clear hS
    obtain ⟨k, hk, hg, rfl, he, hS⟩ := hrel
    obtain ⟨x1, d0, d1, x2, d3, _⟩ := hS.out.b4
    by_cases hlt : k < m
    · obtain ⟨b, off, rfl, hbl, hz⟩ := hr.out (by have := hn.out; omega)
      obtain ⟨z0, z1, z2, z3, z4⟩ := hz k (by have := hn.out; omega)
      have hz2 := z2
      have kk : ∀ o, wr.cell? ⟨b, o, none⟩ = w.cell? ⟨b, o, none⟩ := fun o => hS.out.to1.gold.cell (p := ⟨b, o, none⟩) hbl
      rw [← kk] at z0 z1 z2 z3 z4
      have E := Lib.hid (show fitsK l mo but (k + 1) = (fitsK l mo but k && !(decide ((k : Int) ≠ but) && ((l.getD k default).mode != 0 && !comB (l.getD k default).mode mo))) from rfl)
      have hdn := Lib.hid (fun (h : fitsK l mo but (k + 1) = false) => show fitsK l mo but l.length = false by
        have := fitsK_down l mo but (k + 1) h (l.length - (k + 1))
        rwa [show k + 1 + (l.length - (k + 1)) = l.length by have := hn.out; omega] at this)
      clear hz hr kk
      generalize l.getD k default = q at *
      have HQ := Lib.hid (HU.out q wr)
      have HC := Lib.hid (fun w => compatR_any q.mode mo w)
      obtain ⟨id, txn, mode, want, since⟩ := q
      simp only [Rq.val] at HQ HC E hz2 z0 z1 z2 z3 z4
      replace hz2 := Lib.hid hz2
      cases hb : ((k : Int) != but) with
      | false =>
        have hbb : (k : Int) = but := by simpa using hb
        have E2 := Lib.hid (show fitsK l mo but (k + 1) = true by rw [E.out, he.out]; simp [hbb])
        clear hbb E
        go_wp2_with fail
        go_roundg (m - (k + 1))
        case measure => omega
        case rel => exact ⟨k + 1, by omega, rfl, by go_num, E2, hS⟩
      | true =>
        have hbb : ¬ (k : Int) = but := by simpa using hb
        cases hm : mode != 0 with
        | false =>
          have E2 := Lib.hid (show fitsK l mo but (k + 1) = true by rw [E.out, he.out]; simp only [hm]; simp)
          rw [hm] at HQ
          clear hbb E
          go_wp2_with fail
          refine HQ.out.mono ?_
          rintro e w1 ⟨rfl, b1⟩
          replace hS := Lib.hid (hS.out.below b1)
          obtain ⟨x1', d0', d1', x2', d3', _⟩ := hS.out.b4
          have y2 := (hS.out.to1.gold.cell (p := ⟨b, off + k * 5 + 2, none⟩) hbl).trans hz2.out
          clear b1 HQ z0 z1 z2 z3 z4 x1 d0 d1 x2 d3
          go_wp2_with fail
          go_roundg (m - (k + 1))
          case measure => omega
          case rel => exact ⟨k + 1, by omega, rfl, by go_num, E2, hS⟩
        | true =>
          rw [hm] at HQ
          cases hc : comB mode mo with
          | true =>
            have E2 := Lib.hid (show fitsK l mo but (k + 1) = true by rw [E.out, he.out]; simp only [hm, hc]; simp)
            rw [hc] at HC
            clear hbb E
            go_wp2_with fail
            refine HQ.out.mono ?_
            rintro e w1 ⟨rfl, b1⟩
            replace hS := Lib.hid (hS.out.below b1)
            obtain ⟨x1', d0', d1', x2', d3', _⟩ := hS.out.b4
            have y2 := (hS.out.to1.gold.cell (p := ⟨b, off + k * 5 + 2, none⟩) hbl).trans hz2.out
            clear b1 HQ z0 z1 z2 z3 z4 x1 d0 d1 x2 d3
            go_wp2_with fail
            refine (HC.out _).mono ?_
            rintro e w2 ⟨rfl, b2⟩
            replace hS := Lib.hid (hS.out.below b2)
            clear b2 x1' d0' d1' x2' d3' y2
            go_wp2_with fail
            go_roundg (m - (k + 1))
            case measure => omega
            case rel => exact ⟨k + 1, by omega, rfl, by go_num, E2, hS⟩
          | false =>
            have E2 := Lib.hid (show fitsK l mo but l.length = false from hdn.out (by rw [E.out]; simp only [hm, hc]; simp [hbb]))
            rw [hc] at HC
            clear hbb E
            go_wp2_with fail
            refine HQ.out.mono ?_
            rintro e w1 ⟨rfl, b1⟩
            replace hS := Lib.hid (hS.out.below b1)
            obtain ⟨x1', d0', d1', x2', d3', _⟩ := hS.out.b4
            have y2 := (hS.out.to1.gold.cell (p := ⟨b, off + k * 5 + 2, none⟩) hbl).trans hz2.out
            clear b1 HQ z0 z1 z2 z3 z4 x1 d0 d1 x2 d3
            go_wp2_with fail
            refine (HC.out _).mono ?_
            rintro e w2 ⟨rfl, b2⟩
            replace hS := Lib.hid (hS.out.below b2)
            clear b2 x1' d0' d1' x2' d3' y2
            go_wp2_with fail
            go_ret
            exact ⟨by rw [E2.out]; rfl, hS.out.to1.gold⟩
    · obtain rfl : k = m := by omega
      have bel := Lib.hid hS.out.tail.gold
      clear hS
      go_wp2_with fail
      go_ret
      exact ⟨by rw [hn.out, he.out]; rfl, bel.out⟩
end Go.Proofs.Ytcnkmhfcgkbhbaa
namespace Go.Proofs.Ytcnkmhfcgkbhbaa
set_option linter.unusedSimpArgs false
set_option linter.unusedVariables false
set_option linter.unnecessarySimpa false
open Go.RowKit
theorem fresh_row (w : World) : Sep (w.alloc (.cells #[] 39)) [vec 39 5 (.slice (some ⟨w.heap.size, 0, none⟩) 0 0) 0 [], old w] :=
  (Sep.start w).vec_new (World.ownsRow_made w #[] 0 (Nat.le_refl _) (Nat.zero_le _) rfl) ((Below.refl _ _).alloc (Nat.le_refl _) _)
theorem copied_any (t r n : Int) (v : Value) (l : List Rq) (w : World) (hv : RQ w v l) (hl : l.length ≤ 1000) :
    Calls Try.prog 27 #[hval t r v n] w fun e w' => ∃ a c, e = .returned (hval t r (.slice a l.length c) n) ∧ Sep w' [vq (.slice a l.length c) l, old w] := by
  have h0 : ∀ b1 b2, Sep ((w.alloc (.cells b1 29)).alloc (.cells b2 29)) [blk (w.heap.size + 1) 29 b2, blk w.heap.size 29 b1, old w] := fun b1 b2 => by
    have := ((Sep.start w).alloc b1 29).alloc b2 29
    rw [World.size_alloc] at this
    exact this
  have hS0 := hv.src
  have h1 := Lib.hid (qcells_one l)
  obtain ⟨i0, hi, hz0, hz1, hz2⟩ := info_parts info_req
  obtain ⟨a, c, rfl, _⟩ := hv
  have hT0 := h0 #[.int .i64 t, .int .i64 r, .slice a l.length c, .int .i64 n] #[.int .i64 0, .int .i64 0, .slice none 0 0, .int .i64 0]
  have hE := (fresh_row ((w.alloc (.cells #[.int .i64 t, .int .i64 r, .slice a l.length c, .int .i64 n] 29)).alloc (.cells #[.int .i64 0, .int .i64 0, .slice none 0 0, .int .i64 0] 29))).graft hT0
  rw [World.size_alloc, World.size_alloc] at hE
  have hS2 := Lib.hid (hS0.below (two_boxes w #[.int .i64 t, .int .i64 r, .slice a l.length c, .int .i64 n] #[.int .i64 0, .int .i64 0, .slice none 0 0, .int .i64 0] 29 29 |>.alloc (by simp; omega) (.cells #[] 39)))
  replace hE := Lib.hid hE
  clear h0 hT0 hS0
  unfold hval
  generalize hn : l.length = m at *
  replace hn := Lib.hid hn
  go_enter Try.func27, Try.ntmps27
  go_wp2_with (at_builtin; refine wpList_append_sep hE.out rfl _ _ 27 rfl i0 _ 40 Try.underlying27 hi hz0 hz1 hz2 rfl (by decide) rfl m (qcells l) hS2.out h1.out ?c3 ?c4 ?_)
  case c3 => simp only [maxLen]; omega
  case c4 => omega
  intro a' c' w1 hS1
  have hT : Sep w1 [vq (.slice a' m c') l, blk (w.heap.size + 1) 29 #[.int .i64 0, .int .i64 0, .slice none 0 0, .int .i64 0], blk w.heap.size 29 #[.int .i64 t, .int .i64 r, .slice a m c, .int .i64 n], old w] := by
    unfold vq
    rw [hn.out]
    simpa using hS1
  have hS := trivial
  clear hS1 hE hS2
  obtain ⟨z1, d0, d1, d2, d3, g0, g1, g2, g3⟩ := hT.to1.b4
  obtain ⟨z2, c0, c1, c2, c3, _, _, f2, _⟩ := hT.to2.b4
  replace hT := Lib.hid hT
  clear hS
  go_wp2_with fail
  refine bodyPost_ret (v := .agg #[.int .i64 t, .int .i64 r, .slice a' m c', .int .i64 n]) (by simp [results, Try.results27, go_sem, *]) rfl ⟨_, _, rfl, ?_⟩
  exact ((((((hT.out.to2.set 2 _).to2.set 0 _).set 1 _).set 2 _).set 3 _)).tail.tail
theorem take_snocQ (l : List Rq) (k : Nat) (h : k < l.length) : l.take (k + 1) = l.take k ++ [l.getD k default] := by
  rw [List.take_succ_eq_append_getElem h]; simp [List.getD, h]
end Go.Proofs.Ytcnkmhfcgkbhbaa
namespace Go.Proofs.Ytcnkmhfcgkbhbaa
set_option linter.unusedSimpArgs false
set_option linter.unusedVariables false
set_option linter.unnecessarySimpa false
open Go.RowKit
theorem boxes2 (w : World) (t0 t1 : TypeId) (b1 b2 : Array Value) : Sep ((w.alloc (.cells b1 t0)).alloc (.cells b2 t1)) [blk (w.heap.size + 1) t1 b2, blk w.heap.size t0 b1, old w] := by
  have := ((Sep.start w).alloc b1 t0).alloc b2 t1
  rw [World.size_alloc] at this
  exact this
end Go.Proofs.Ytcnkmhfcgkbhbaa
namespace Go.Proofs.Ytcnkmhfcgkbhbaa
set_option linter.unusedSimpArgs false
set_option linter.unusedVariables false
set_option linter.unnecessarySimpa false
open Go.RowKit
end Go.Proofs.Ytcnkmhfcgkbhbaa
namespace Go.Proofs.Ytcnkmhfcgkbhbaa
set_option linter.unusedSimpArgs false
set_option linter.unusedVariables false
set_option linter.unnecessarySimpa false
open Go.RowKit
def askedB (m : Int) : Bool := m != 0 && knownB m
end Go.Proofs.Ytcnkmhfcgkbhbaa
namespace Go.Proofs.Ytcnkmhfcgkbhbaa
set_option linter.unusedSimpArgs false
set_option linter.unusedVariables false
set_option linter.unnecessarySimpa false
open Go.RowKit
theorem SrcA.cells (w : World) (cs : Array Value) (t : TypeId) (c : Nat) : SrcA (w.alloc (.cells cs t)) cs.size (.slice (some ⟨w.heap.size, 0, none⟩) 1 c) 1 cs.toList := by
  refine .inr ⟨_, _, rfl, by simp, fun j u hu => ?_⟩
  have h := ((Sep.start w).alloc cs t).gblk.cell j
  rw [Addr.add_lit, Nat.zero_add]
  rw [h, ← hu]
  simp
end Go.Proofs.Ytcnkmhfcgkbhbaa
namespace Go.Proofs.Ytcnkmhfcgkbhbaa
set_option linter.unusedSimpArgs false
set_option linter.unusedVariables false
set_option linter.unnecessarySimpa false
open Go.RowKit
end Go.Proofs.Ytcnkmhfcgkbhbaa
namespace Go.Proofs.Ytcnkmhfcgkbhbaa
set_option linter.unusedSimpArgs false
set_option linter.unusedVariables false
set_option linter.unnecessarySimpa false
open Go.RowKit
/-- A request by itself, and two, the first ahead of the second. -/
def PR (r : Rq) (n : Int) : Prop := 0 ≤ r.id ∧ knownB r.mode = true ∧ knownB r.want = true ∧ 0 ≤ r.since ∧ r.since ≤ n ∧ (0 < r.since → covB r.mode r.want = false) ∧ (¬ 0 < r.since → r.mode ≠ 0 ∧ r.want = r.mode)
theorem getD_mem (l : List Rq) (i : Nat) (h : i < l.length) : l.getD i default ∈ l := by
  rw [show l.getD i default = l[i] by simp [List.getD, h]]
  exact List.getElem_mem h
theorem PR.mono {r : Rq} {n n' : Int} (h : PR r n) (hn : n ≤ n') : PR r n' := ⟨h.1, h.2.1, h.2.2.1, h.2.2.2.1, Int.le_trans h.2.2.2.2.1 hn, h.2.2.2.2.2⟩
/-- The place of a request. -/
def plc (l : List Rq) (id : Int) : Int := idxF (fun q => q.id == id) l 0
theorem plc_spec (l : List Rq) (id : Int) (h : ¬ plc l id < 0) : ∃ i : Nat, plc l id = i ∧ i < l.length ∧ (l.getD i default).id = id := by
  rcases idxF_bd (fun q : Rq => q.id == id) l 0 with h' | ⟨j, h1, h2, h3⟩
  · unfold plc at h; omega
  · exact ⟨j, by unfold plc; rw [h1]; simp, h2, by simpa using h3⟩
end Go.Proofs.Ytcnkmhfcgkbhbaa
namespace Go.Proofs.Ytcnkmhfcgkbhbaa
set_option linter.unusedSimpArgs false
set_option linter.unusedVariables false
set_option linter.unnecessarySimpa false
open Go.RowKit
theorem find_none (t r n : Int) (v : Value) (l : List Rq) (id0 : Int) (w : World) (hv : RQ w v l) (hl : l.length ≤ 1000) (hi : plc l id0 = -1) :
    Calls Try.prog 47 #[hval t r v n, .int .i64 id0] w fun e w' => e = .returned (.tuple #[(⟨0, 0, 0, 0, 0⟩ : Rq).val, .bool false]) ∧ Below w.heap.size w w' := by
  have hB := Lib.hid (boxes2 w 29 39 #[.int .i64 t, .int .i64 r, v, .int .i64 n] #[.int .i64 0, .int .i64 0, .int .i64 0, .int .i64 0, .int .i64 0])
  have HP := Lib.hid (fun W hb => place_any t r n v l id0 W (hv.below hb) hl)
  rw [show idxF (fun q : Rq => q.id == id0) l 0 = _ from hi] at HP
  obtain ⟨a, c, rfl, _⟩ := hv
  unfold hval Rq.val at *
  go_enter Try.func47, Try.ntmps47
  go_wp2_with fail
  refine (HP.out _ hB.out.tail.tail.gold).mono ?_
  rintro e w1 ⟨rfl, b1⟩
  replace hB := Lib.hid (hB.out.below b1)
  obtain ⟨_, p0, p1, p2, p3, p4, _⟩ := hB.out.b5
  clear b1
  go_wp2_with fail
  refine bodyPost_ret (v := .tuple #[.agg #[.int .i64 0, .int .i64 0, .int .i64 0, .int .i64 0, .int .i64 0], .bool false]) (by simp [results, Try.results47, go_sem, *]) rfl ⟨rfl, ?_⟩
  first | exact hB.out.tail.tail.gold | exact (((((hB.out.set 0 (.int .i64 0)).set 1 (.int .i64 0)).set 2 (.int .i64 0)).set 3 (.int .i64 0)).set 4 (.int .i64 0)).tail.tail.gold
theorem find_some (t r n : Int) (v : Value) (l : List Rq) (id0 : Int) (w : World) (hv : RQ w v l) (hl : l.length ≤ 1000) (i : Nat) (hi : plc l id0 = i) (hil : i < l.length) :
    Calls Try.prog 47 #[hval t r v n, .int .i64 id0] w fun e w' => e = .returned (.tuple #[(l.getD i default).val, .bool true]) ∧ Below w.heap.size w w' := by
  have hB := Lib.hid (boxes2 w 29 39 #[.int .i64 t, .int .i64 r, v, .int .i64 n] #[.int .i64 0, .int .i64 0, .int .i64 0, .int .i64 0, .int .i64 0])
  have HP := Lib.hid (fun W hb => place_any t r n v l id0 W (hv.below hb) hl)
  rw [show idxF (fun q : Rq => q.id == id0) l 0 = _ from hi] at HP
  have i1 : (0 : Int) ≤ (i : Int) := by omega
  have i2 : (i : Int) < (l.length : Int) := by omega
  have d : decide ((i : Int) < 0) = false := by rw [decide_eq_false_iff_not]; omega
  obtain ⟨a, c, rfl, _, _, hr⟩ := hv
  obtain ⟨b, off, rfl, hbl, hz⟩ := hr (by omega)
  have hzi := hz i hil
  clear hz hr hil hi
  generalize l.getD i default = q at *
  obtain ⟨id, txn, mode, want, since⟩ := q
  unfold hval Rq.val at *
  simp only at hzi ⊢
  go_enter Try.func47, Try.ntmps47
  go_wp2_with fail
  refine (HP.out _ hB.out.tail.tail.gold).mono ?_
  rintro e w1 ⟨rfl, b1⟩
  replace hB := Lib.hid (hB.out.below b1)
  obtain ⟨_, p0, p1, p2, p3, p4, f0, f1, f2, f3, f4⟩ := hB.out.b5
  obtain ⟨_, k0, k1, k2, k3, _⟩ := hB.out.to1.b4
  obtain ⟨z0, z1, z2, z3, z4⟩ := hzi
  rw [← hB.out.tail.tail.gold.cell (by exact hbl)] at z0 z1 z2 z3 z4
  clear b1 HP
  go_wp2_with fail
  refine bodyPost_ret (v := .tuple #[.agg #[.int .i64 id, .int .i64 txn, .int .i64 mode, .int .i64 want, .int .i64 since], .bool true]) (by simp [results, Try.results47, go_sem, *]) rfl ⟨rfl, ?_⟩
  exact (((((hB.out.set 0 (.int .i64 id)).set 1 (.int .i64 txn)).set 2 (.int .i64 mode)).set 3 (.int .i64 want)).set 4 (.int .i64 since)).tail.tail.gold
end Go.Proofs.Ytcnkmhfcgkbhbaa
namespace Go.Proofs.Ytcnkmhfcgkbhbaa
set_option linter.unusedSimpArgs false
set_option linter.unusedVariables false
set_option linter.unnecessarySimpa false
open Go.RowKit
theorem plc_neg {l : List Rq} {id : Int} (h : plc l id < 0) : plc l id = -1 := by
  rcases idxF_bd (fun q : Rq => q.id == id) l 0 with h' | ⟨j, h1, _, _⟩
  · exact h'
  · unfold plc at h; omega
end Go.Proofs.Ytcnkmhfcgkbhbaa
