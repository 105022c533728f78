/-
  The reference's names: Database, Level, Check, digits, Text. No condition.
-/
import Derived.Test.YtiaibmabmholaaaDoorNmV
import Derived.Deep.RegionHeld3
namespace Go.Proofs.YtiaibmabmholaaaDoor
open Go.RowKit
open Go.Lib
theorem databaseR_any (w : World) : Calls Tryd.prog 35 #[] w fun e w' => e = .returned (.agg #[.int .i64 (-1), .int .i64 (-1)]) ∧ Below w.heap.size w w' := by
  go_enter Tryd.func35, Tryd.ntmps35
  go_wp2
  refine bodyPost_ret (v := (.agg #[.int .i64 (-1), .int .i64 (-1)])) (by simp [results, Tryd.results35, go_sem, *]) rfl ⟨rfl, ?_⟩
  exact (Below.refl _ _).alloc (Nat.le_refl _) _
set_option maxHeartbeats 2000000 in
theorem levelR_any (t r : Int) (w : World) : Calls Tryd.prog 30 #[(.agg #[.int .i64 t, .int .i64 r])] w fun e w' => e = .returned (.int .i64 (lv t r)) ∧ Below w.heap.size w w' := by
  have hs := lv_spec t r
  have hq := fun a b c d => run_eql_nm a b c d
  have h7 : (t = -1 ∧ r = -1) ∨ (¬(t = -1 ∧ r = -1) ∧ (t < 0 ∨ (0 ≤ t ∧ 100 ≤ t) ∨ (0 ≤ t ∧ t < 100 ∧ r < -1) ∨ (0 ≤ t ∧ t < 100 ∧ -1 ≤ r ∧ 100 ≤ r) ∨ (0 ≤ t ∧ t < 100 ∧ r = -1) ∨ (0 ≤ t ∧ t < 100 ∧ 0 ≤ r ∧ r < 100))) := by omega
  rcases h7 with h | ⟨h, h7⟩
  · have e := nmB_true h
    rw [show lv t r = 0 by omega]
    clear hs h
    have hS := Lib.hid (box1 w t r)
    obtain ⟨z, c0, c1, _⟩ := hS.out.b2
    go_enter Tryd.func30, Tryd.ntmps30
    go_wp2_with fail
    go_region_held3 (fun w' => w'.cell? ⟨w.heap.size, 0, none⟩ = some (.int .i64 t) ∧ w'.cell? ⟨w.heap.size, 1, none⟩ = some (.int .i64 r)) (exact ⟨by assumption, by assumption⟩) ((go_at_call 35; refine (databaseR_any _).mono ?_; rintro e w1 ⟨rfl, b1⟩; have hS2 := Lib.hid ((show Sep _ [blk w.heap.size 23 #[Value.int .i64 (t), Value.int .i64 (r)], old w] from by first | exact hS.out | exact hS.out.drew).below b1); obtain ⟨_, d0, d1, _⟩ := hS2.out.b2; clear b1))
    go_wp2_with fail
    go_ret
    exact ⟨rfl, hS2.out.tail.gold⟩
  · have e := nmB_false h
    rcases h7 with h1 | ⟨h1, h2⟩ | ⟨h1, h2, h3⟩ | ⟨h1, h2, h3, h4⟩ | ⟨h1, h2, h3⟩ | ⟨h1, h2, h3, h4⟩
    · skip
      rw [show lv t r = -1 by omega]
      clear hs h
      have hS := Lib.hid (box1 w t r)
      obtain ⟨z, c0, c1, _⟩ := hS.out.b2
      go_enter Tryd.func30, Tryd.ntmps30
      go_wp2_with fail
      go_region_held3 (fun w' => w'.cell? ⟨w.heap.size, 0, none⟩ = some (.int .i64 t) ∧ w'.cell? ⟨w.heap.size, 1, none⟩ = some (.int .i64 r)) (exact ⟨by assumption, by assumption⟩) ((go_at_call 35; refine (databaseR_any _).mono ?_; rintro e w1 ⟨rfl, b1⟩; have hS2 := Lib.hid ((show Sep _ [blk w.heap.size 23 #[Value.int .i64 (t), Value.int .i64 (r)], old w] from by first | exact hS.out | exact hS.out.drew).below b1); obtain ⟨_, d0, d1, _⟩ := hS2.out.b2; clear b1))
      go_wp2_with fail
      go_ret
      exact ⟨rfl, hS2.out.tail.gold⟩
    · skip
      rw [show lv t r = -1 by omega]
      clear hs h
      have hS := Lib.hid (box1 w t r)
      obtain ⟨z, c0, c1, _⟩ := hS.out.b2
      go_enter Tryd.func30, Tryd.ntmps30
      go_wp2_with fail
      go_region_held3 (fun w' => w'.cell? ⟨w.heap.size, 0, none⟩ = some (.int .i64 t) ∧ w'.cell? ⟨w.heap.size, 1, none⟩ = some (.int .i64 r)) (exact ⟨by assumption, by assumption⟩) ((go_at_call 35; refine (databaseR_any _).mono ?_; rintro e w1 ⟨rfl, b1⟩; have hS2 := Lib.hid ((show Sep _ [blk w.heap.size 23 #[Value.int .i64 (t), Value.int .i64 (r)], old w] from by first | exact hS.out | exact hS.out.drew).below b1); obtain ⟨_, d0, d1, _⟩ := hS2.out.b2; clear b1))
      go_wp2_with fail
      go_ret
      exact ⟨rfl, hS2.out.tail.gold⟩
    · skip
      rw [show lv t r = -1 by omega]
      clear hs h
      have hS := Lib.hid (box1 w t r)
      obtain ⟨z, c0, c1, _⟩ := hS.out.b2
      go_enter Tryd.func30, Tryd.ntmps30
      go_wp2_with fail
      go_region_held3 (fun w' => w'.cell? ⟨w.heap.size, 0, none⟩ = some (.int .i64 t) ∧ w'.cell? ⟨w.heap.size, 1, none⟩ = some (.int .i64 r)) (exact ⟨by assumption, by assumption⟩) ((go_at_call 35; refine (databaseR_any _).mono ?_; rintro e w1 ⟨rfl, b1⟩; have hS2 := Lib.hid ((show Sep _ [blk w.heap.size 23 #[Value.int .i64 (t), Value.int .i64 (r)], old w] from by first | exact hS.out | exact hS.out.drew).below b1); obtain ⟨_, d0, d1, _⟩ := hS2.out.b2; clear b1))
      go_wp2_with fail
      go_ret
      exact ⟨rfl, hS2.out.tail.gold⟩
    · skip
      rw [show lv t r = -1 by omega]
      clear hs h
      have hS := Lib.hid (box1 w t r)
      obtain ⟨z, c0, c1, _⟩ := hS.out.b2
      go_enter Tryd.func30, Tryd.ntmps30
      go_wp2_with fail
      go_region_held3 (fun w' => w'.cell? ⟨w.heap.size, 0, none⟩ = some (.int .i64 t) ∧ w'.cell? ⟨w.heap.size, 1, none⟩ = some (.int .i64 r)) (exact ⟨by assumption, by assumption⟩) ((go_at_call 35; refine (databaseR_any _).mono ?_; rintro e w1 ⟨rfl, b1⟩; have hS2 := Lib.hid ((show Sep _ [blk w.heap.size 23 #[Value.int .i64 (t), Value.int .i64 (r)], old w] from by first | exact hS.out | exact hS.out.drew).below b1); obtain ⟨_, d0, d1, _⟩ := hS2.out.b2; clear b1))
      go_wp2_with fail
      go_ret
      exact ⟨rfl, hS2.out.tail.gold⟩
    · skip
      rw [show lv t r = 1 by omega]
      have e3 : (r == -1) = true := by rw [beq_iff_eq]; omega
      have h5 : -1 ≤ r ∧ r < 100 := by omega
      obtain ⟨h5, h6⟩ := h5
      clear h3
      clear hs h
      have hS := Lib.hid (box1 w t r)
      obtain ⟨z, c0, c1, _⟩ := hS.out.b2
      go_enter Tryd.func30, Tryd.ntmps30
      go_wp2_with fail
      go_region_held3 (fun w' => w'.cell? ⟨w.heap.size, 0, none⟩ = some (.int .i64 t) ∧ w'.cell? ⟨w.heap.size, 1, none⟩ = some (.int .i64 r)) (exact ⟨by assumption, by assumption⟩) ((go_at_call 35; refine (databaseR_any _).mono ?_; rintro e w1 ⟨rfl, b1⟩; have hS2 := Lib.hid ((show Sep _ [blk w.heap.size 23 #[Value.int .i64 (t), Value.int .i64 (r)], old w] from by first | exact hS.out | exact hS.out.drew).below b1); obtain ⟨_, d0, d1, _⟩ := hS2.out.b2; clear b1))
      go_wp2_with fail
      go_ret
      exact ⟨rfl, hS2.out.tail.gold⟩
    · skip
      rw [show lv t r = 2 by omega]
      have e3 : (r == -1) = false := by rw [beq_eq_false_iff_ne]; omega
      have h5 : -1 ≤ r := by omega
      clear hs h
      have hS := Lib.hid (box1 w t r)
      obtain ⟨z, c0, c1, _⟩ := hS.out.b2
      go_enter Tryd.func30, Tryd.ntmps30
      go_wp2_with fail
      go_region_held3 (fun w' => w'.cell? ⟨w.heap.size, 0, none⟩ = some (.int .i64 t) ∧ w'.cell? ⟨w.heap.size, 1, none⟩ = some (.int .i64 r)) (exact ⟨by assumption, by assumption⟩) ((go_at_call 35; refine (databaseR_any _).mono ?_; rintro e w1 ⟨rfl, b1⟩; have hS2 := Lib.hid ((show Sep _ [blk w.heap.size 23 #[Value.int .i64 (t), Value.int .i64 (r)], old w] from by first | exact hS.out | exact hS.out.drew).below b1); obtain ⟨_, d0, d1, _⟩ := hS2.out.b2; clear b1))
      go_wp2_with fail
      go_ret
      exact ⟨rfl, hS2.out.tail.gold⟩
theorem checkR_any (t r : Int) (w : World) : Calls Tryd.prog 29 #[(.agg #[.int .i64 t, .int .i64 r])] w fun e w' => e = .returned (.int .i64 (if lv t r = -1 then 2 else 0)) ∧ Below w.heap.size w w' := by
  have hS := Lib.hid (box1 w t r)
  obtain ⟨z, c0, c1, _⟩ := hS.out.b2
  have hs := lv_spec t r
  have HL := Lib.hid (fun W => levelR_any t r W)
  by_cases h : lv t r = -1
  · rw [if_pos h]
    rw [h] at HL
    clear h hs
    go_enter Tryd.func29, Tryd.ntmps29
    go_wp2_with fail
    refine (HL.out _).mono ?_
    rintro e w1 ⟨rfl, b1⟩
    replace hS := Lib.hid (hS.out.below b1)
    clear b1
    go_wp2_with fail
    go_ret
    exact ⟨rfl, hS.out.tail.gold⟩
  · rw [if_neg h]
    have h0 : 0 ≤ lv t r := by omega
    clear h hs
    generalize lv t r = x at *
    go_enter Tryd.func29, Tryd.ntmps29
    go_wp2_with fail
    refine (HL.out _).mono ?_
    rintro e w1 ⟨rfl, b1⟩
    replace hS := Lib.hid (hS.out.below b1)
    clear b1
    go_wp2_with fail
    go_ret
    exact ⟨rfl, hS.out.tail.gold⟩
theorem ext2 (C : ByteArray) (h : ((List.range 100).all fun i => decide (i < 10) || decide (C.extract (i / 10) (i / 10 + 1) ++ C.extract (i % 10) (i % 10 + 1) = dgB i)) = true) (n : Nat) (h1 : 10 ≤ n) (hn : n < 100) : C.extract (n / 10) (n / 10 + 1) ++ C.extract (n % 10) (n % 10 + 1) = dgB n := by
  have := List.all_eq_true.1 h n (List.mem_range.2 hn)
  rw [decide_eq_false (by omega), Bool.false_or] at this
  exact of_decide_eq_true this
theorem digitsR_any (n : Nat) (hn : n < 100) (w : World) : Calls Tryd.prog 46 #[.int .i64 n] w fun e w' => e = .returned (.string (dgB n)) ∧ ∃ m, w' = w.drewN m := by
  have h0 : (0 : Int) ≤ (n : Int) := by omega
  have h1 : (n : Int) < 100 := by omega
  by_cases h : n < 10
  · have HC := Lib.hid (fun C hC => ext10 C hC n h)
    go_enter Tryd.func46, Tryd.ntmps46
    go_wp2
    go_ret
    exact ⟨congrArg (fun x => Ending.returned (.string x)) (HC.out _ (by kernel_rfl)), 0, rfl⟩
  · have HC := Lib.hid (fun C hC => ext2 C hC n (by omega) hn)
    have q1 : (n : Int) / 10 < 10 := by omega
    have q2 : (n : Int) % 10 < 10 := by omega
    have q3 : (0 : Int) ≤ (n : Int) / 10 := by omega
    have q4 : (0 : Int) ≤ (n : Int) % 10 := by omega
    go_enter Tryd.func46, Tryd.ntmps46
    go_wp2
    go_quiet (fail)
    go_wp2
    go_ret
    exact ⟨congrArg (fun x => Ending.returned (.string x)) (HC.out _ (by kernel_rfl)), _, rfl⟩
set_option maxRecDepth 100000 in
theorem textR_any (t r : Int) (w : World) : Calls Tryd.prog 34 #[(.agg #[.int .i64 t, .int .i64 r])] w fun e w' => e = .returned (.string (txt t r)) ∧ Below w.heap.size w w' := by
  have hS := Lib.hid (box1 w t r)
  obtain ⟨z, c0, c1, _⟩ := hS.out.b2
  rcases lv_spec t r with ⟨h1, h2, hl⟩ | ⟨h1, h2, h3, hl⟩ | ⟨h1, h2, h3, h4, hl⟩ | ⟨hl, h1, h2⟩
  · have E := Lib.hid (show txt t r = ⟨#[100, 98]⟩ by simp [txt, hl])
    have L := Lib.hid (fun W => levelR_any t r W)
    rw [hl] at L
    clear hl h1 h2
    go_enter Tryd.func34, Tryd.ntmps34
    go_wp2_with fail
    refine (L.out _).mono ?_
    rintro e w1 ⟨rfl, b1⟩
    replace hS := Lib.hid (hS.out.below b1)
    clear b1 c0 c1
    go_wp2_with fail
    go_ret
    exact ⟨by rw [E.out]; rfl, hS.out.tail.gold⟩
  · have E := Lib.hid (show txt t r = ⟨#[116]⟩ ++ dgB t.toNat by simp [txt, hl])
    have L := Lib.hid (fun W => levelR_any t r W)
    rw [hl] at L
    obtain ⟨n, rfl⟩ := Int.eq_ofNat_of_zero_le h1
    have hn : n < 100 := by omega
    have hz := dgB_size n
    have H := Lib.hid (digitsR_any n hn)
    clear hl h1 h2 h3
    go_enter Tryd.func34, Tryd.ntmps34
    go_wp2_with fail
    refine (L.out _).mono ?_
    rintro e w1 ⟨rfl, b1⟩
    replace hS := Lib.hid (hS.out.below b1)
    clear b1 c0 c1
    obtain ⟨_, c0, c1, _⟩ := hS.out.b2
    go_wp2_with fail
    refine (H.out _).mono ?_
    rintro e w2 ⟨rfl, q, rfl⟩
    replace hS := Lib.hid (hS.out.drewN q)
    go_wp2_with fail
    go_ret
    exact ⟨by rw [E.out]; rfl, hS.out.tail.gold⟩
  · have E := Lib.hid (show txt t r = ⟨#[116]⟩ ++ dgB t.toNat ++ ⟨#[46, 114]⟩ ++ dgB r.toNat by simp [txt, hl])
    have L := Lib.hid (fun W => levelR_any t r W)
    rw [hl] at L
    obtain ⟨n, rfl⟩ := Int.eq_ofNat_of_zero_le h1
    obtain ⟨m, rfl⟩ := Int.eq_ofNat_of_zero_le h3
    have hn : n < 100 := by omega
    have hm : m < 100 := by omega
    have hz := dgB_size n
    have hz2 := dgB_size m
    have H := Lib.hid (digitsR_any n hn)
    have H2 := Lib.hid (digitsR_any m hm)
    clear hl h1 h2 h3 h4
    go_enter Tryd.func34, Tryd.ntmps34
    go_wp2_with fail
    refine (L.out _).mono ?_
    rintro e w1 ⟨rfl, b1⟩
    replace hS := Lib.hid (hS.out.below b1)
    clear b1 c0 c1
    obtain ⟨_, c0, c1, _⟩ := hS.out.b2
    go_wp2_with fail
    go_quiet (first | (go_at_call 46; with_reducible exact Calls.quiet_of (H.out _)) | (go_at_call 46; with_reducible exact Calls.quiet_of (H2.out _)))
    go_wp2_with fail
    go_ret
    exact ⟨by rw [E.out]; rfl, (hS.out.drewN _).tail.gold⟩
  · have E := Lib.hid (show txt t r = ⟨#[63]⟩ by simp [txt, hl])
    have L := Lib.hid (fun W => levelR_any t r W)
    rw [hl] at L
    clear hl h1 h2
    go_enter Tryd.func34, Tryd.ntmps34
    go_wp2_with fail
    refine (L.out _).mono ?_
    rintro e w1 ⟨rfl, b1⟩
    replace hS := Lib.hid (hS.out.below b1)
    clear b1 c0 c1
    go_wp2_with fail
    go_ret
    exact ⟨by rw [E.out]; rfl, hS.out.tail.gold⟩
end Go.Proofs.YtiaibmabmholaaaDoor
