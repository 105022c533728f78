/-
  The reference's names: Ancestors, Under, number. No condition.
-/
import Derived.Test.YtiaibmabmholaaaDoorRf02B
import Derived.Test.YtiaibmabmholaaaDoorRdR
namespace Go.Proofs.YtiaibmabmholaaaDoor
open Go.RowKit
set_option maxHeartbeats 1000000 in
theorem ancestorsR_any (t r : Int) (w : World) : Calls Tryd.prog 31 #[(.agg #[.int .i64 t, .int .i64 r])] w fun e w' => ∃ a k c, e = .returned (.slice a k c) ∧ AncK t r k ∧ RN w' (.slice a k c) (ancL t r k) ∧ Below w.heap.size w w' := by
  have hS := Lib.hid (box1 w t r)
  obtain ⟨z, c0, c1, _⟩ := hS.out.b2
  have hs := lv_spec t r
  obtain ⟨x, hx⟩ : ∃ x, Hid (lv t r = x) := ⟨_, rfl⟩
  have HL := Lib.hid (fun W => levelR_w t r x hx.out W)
  rw [hx.out] at hs
  have h3 : (x ≠ 1 ∧ x ≠ 2 ∧ (x = 0 ∨ x = -1)) ∨ x = 1 ∨ x = 2 := by omega
  rcases h3 with ⟨h1, h2, h3⟩ | rfl | rfl
  · have e1 : (x == 1) = false := by rw [beq_eq_false_iff_ne]; exact h1
    have e2 : (x == 2) = false := by rw [beq_eq_false_iff_ne]; exact h2
    have hk : AncK t r 0 := by unfold AncK; rw [hx.out]; rcases h3 with rfl | rfl <;> rfl
    replace hk := Lib.hid hk
    clear hs h1 h2 h3
    go_enter Tryd.func31, Tryd.ntmps31
    go_wp2_with fail
    refine (HL.out _).mono ?_
    rintro e w1 ⟨rfl, b1⟩
    replace hS := Lib.hid (hS.out.below b1)
    clear b1 c0 c1 z
    go_wp2_with fail
    go_ret
    exact ⟨none, 0, 0, rfl, hk.out, ⟨_, _, rfl, fun h => absurd h (by simp [ancL])⟩, hS.out.tail.gold⟩
  · have hk : AncK t r 1 := by unfold AncK; rw [hx.out]; rfl
    replace hk := Lib.hid hk
    clear hs
    go_enter Tryd.func31, Tryd.ntmps31
    go_wp2_with fail
    refine (HL.out _).mono ?_
    rintro e w1 ⟨rfl, b1⟩
    replace hS := Lib.hid (hS.out.below b1)
    clear b1 c0 c1 z
    go_wp2_with fail
    refine (databaseR_any _).mono ?_
    rintro e w2 ⟨rfl, b1⟩
    replace hS := Lib.hid ((hS.out.below b1).alloc #[Value.int .i64 (-1), Value.int .i64 (-1)] 23)
    clear b1
    go_wp2_with fail
    go_ret
    obtain ⟨z, c0, c1, _⟩ := hS.out.b2
    exact ⟨_, 1, 1, by simp, hk.out, ⟨_, _, rfl, fun _ => ⟨_, 0, rfl, z, fun j hj => by
      obtain rfl : j = 0 := by simp [ancL] at hj; omega
      exact ⟨c0, c1⟩⟩⟩, hS.out.tail.tail.gold⟩
  · have hk : AncK t r 2 := by unfold AncK; rw [hx.out]; rfl
    replace hk := Lib.hid hk
    clear hs
    go_enter Tryd.func31, Tryd.ntmps31
    go_wp2_with fail
    refine (HL.out _).mono ?_
    rintro e w1 ⟨rfl, b1⟩
    replace hS := Lib.hid (hS.out.below b1)
    clear b1 c0 c1 z
    obtain ⟨_, c0, c1, _⟩ := hS.out.b2
    go_wp2_with fail
    go_region_held3 (fun w' => w'.cell? ⟨w.heap.size, 0, none⟩ = some (.int .i64 t) ∧ w'.cell? ⟨w.heap.size, 1, none⟩ = some (.int .i64 r)) (exact ⟨by first | assumption | go_simp, by first | assumption | go_simp⟩) ((go_at_call 35; refine (databaseR_any _).mono ?_; rintro e w3 ⟨rfl, b1⟩; have hS2 := Lib.hid ((show Sep _ [blk w.heap.size 23 #[Value.int .i64 (t), Value.int .i64 (r)], old w] from by first | exact hS.out | exact hS.out.drew).below b1); obtain ⟨z2, d0, d1, _⟩ := hS2.out.b2; clear b1))
    have hT := Lib.hid (hS2.out.alloc #[.int .i64 (-1), .int .i64 (-1), .int .i64 t, .int .i64 (-1)] 23)
    go_wp2_with fail
    go_ret
    obtain ⟨z, c0, c1, c2, c3, _⟩ := hT.out.b4
    exact ⟨_, 2, 2, by simp, hk.out, ⟨_, _, rfl, fun _ => ⟨_, 0, rfl, z, fun j hj => by
      have hj2 : j = 0 ∨ j = 1 := by simp [ancL] at hj; omega
      rcases hj2 with rfl | rfl
      · exact ⟨c0, c1⟩
      · exact ⟨c2, c3⟩⟩⟩, hT.out.tail.tail.gold⟩
theorem nmB_off {a b c d : Int} (h : nmB a b c d = false) : ¬(a = c ∧ b = d) := by
  intro k
  rw [nmB_true k] at h
  cases h
theorem nmB_on {a b c d : Int} (h : nmB a b c d = true) : a = c ∧ b = d := by
  unfold nmB at h
  rw [Bool.and_eq_true, beq_iff_eq, beq_iff_eq] at h
  exact h
set_option maxHeartbeats 1000000 in
theorem underR_any (t r t' r' : Int) (w : World) : Calls Tryd.prog 32 #[(.agg #[.int .i64 t, .int .i64 r]), (.agg #[.int .i64 t', .int .i64 r'])] w fun e w' => e = .returned (.bool (undB t r t' r')) ∧ Below w.heap.size w w' := by
  have hS := Lib.hid (box2 w t r t' r')
  obtain ⟨_, c0, c1, _⟩ := hS.out.to1.b2
  obtain ⟨_, d0, d1, _⟩ := hS.out.b2
  have hs := lv_spec t r
  have hs' := lv_spec t' r'
  obtain ⟨x, hx⟩ : ∃ x, Hid (lv t r = x) := ⟨_, rfl⟩
  obtain ⟨y, hy⟩ : ∃ y, Hid (lv t' r' = y) := ⟨_, rfl⟩
  have HL := Lib.hid (fun W => levelR_w t r x hx.out W)
  have HM := Lib.hid (fun W => levelR_w t' r' y hy.out W)
  rw [hx.out] at hs
  rw [hy.out] at hs'
  by_cases h0 : x < 0
  · have E := Lib.hid (show undB t r t' r' = false by unfold undB; rw [decide_eq_false_iff_not, hx.out]; omega)
    have e0 := decide_eq_true h0
    clear hs hs' h0
    go_enter Tryd.func32, Tryd.ntmps32
    go_wp2_with fail
    refine (HL.out _).mono ?_
    rintro e w1 ⟨rfl, b1⟩
    replace hS := Lib.hid (hS.out.below b1)
    clear b1 c0 c1 d0 d1
    go_wp2_with fail
    go_ret
    exact ⟨by rw [E.out]; rfl, hS.out.tail.tail.gold⟩
  · have e0 := decide_eq_false h0
    by_cases h1 : y < 0
    · have E := Lib.hid (show undB t r t' r' = false by unfold undB; rw [decide_eq_false_iff_not, hx.out]; omega)
      have e1 := decide_eq_true h1
      clear hs hs' h0 h1
      go_enter Tryd.func32, Tryd.ntmps32
      go_wp2_with fail
      refine (HL.out _).mono ?_
      rintro e w1 ⟨rfl, b1⟩
      replace hS := Lib.hid (hS.out.below b1)
      clear b1 c0 c1 d0 d1
      obtain ⟨_, d0, d1, _⟩ := hS.out.b2
      go_wp2_with fail
      refine (HM.out _).mono ?_
      rintro e w2 ⟨rfl, b1⟩
      replace hS := Lib.hid (hS.out.below b1)
      clear b1 d0 d1
      go_wp2_with fail
      go_ret
      exact ⟨by rw [E.out]; rfl, hS.out.tail.tail.gold⟩
    · have e1 := decide_eq_false h1
      have hs := Lib.hid hs
      have hx0 := Lib.hid h0
      clear hs' h0 h1
      have hq := fun a b c d => run_eql_nm a b c d
      go_enter Tryd.func32, Tryd.ntmps32
      go_wp2_with fail
      refine (HL.out _).mono ?_
      rintro e w1 ⟨rfl, b1⟩
      replace hS := Lib.hid (hS.out.below b1)
      clear b1 c0 c1 d0 d1
      obtain ⟨_, d0, d1, _⟩ := hS.out.b2
      go_wp2_with fail
      refine (HM.out _).mono ?_
      rintro e w2 ⟨rfl, b1⟩
      replace hS := Lib.hid (hS.out.below b1)
      clear b1 d0 d1 HL HM
      obtain ⟨_, c0, c1, _⟩ := hS.out.to1.b2
      go_wp2_with fail
      refine (ancestorsR_any _ _ _).mono ?_
      rintro e w3 ⟨a, k, c, rfl, hk, hR, b1⟩
      replace hS := Lib.hid (hS.out.below b1)
      have hk2 := hk.lt
      replace hk := Lib.hid hk
      replace hR := Lib.hid hR
      clear b1 c0 c1
      obtain ⟨_, c0, c1, _⟩ := hS.out.to1.b2
      obtain ⟨_, d0, d1, _⟩ := hS.out.b2
      go_wp2_with fail
      go_loopw [6] (fun i wr => ∃ j : Nat, j ≤ k ∧ i = .int .i64 j ∧ Hid ((0 < j → nmB (-1) (-1) t' r' = false) ∧ (1 < j → nmB t (-1) t' r' = false)) ∧ ∃ m, wr = w3.drewN m) (fun i _ => k - (intOf i).toNat)
      case atStart => exact ⟨0, Nat.zero_le _, rfl, ⟨fun h => absurd h (by omega), fun h => absurd h (by omega)⟩, 0, rfl⟩
      case round =>
        obtain ⟨j, hj, rfl, hn, m, rfl⟩ := hrel
        by_cases hlt : j < k
        · obtain ⟨a', c', hv, hz⟩ := hR.out
          have hlen : (ancL t r k).length = k := by simp [ancL]; omega
          obtain ⟨b, off, rfl, _, hc⟩ := hz (by rw [hlen]; omega)
          obtain ⟨p0, p1⟩ := hc j (by rw [hlen]; exact hlt)
          injection hv with hv1 hv2 hv3
          subst hv1
          clear hz hc hv2 hv3
          have hj2 : j = 0 ∨ (j = 1 ∧ k = 2) := by omega
          have i1 : (0 : Int) ≤ (j : Int) := by omega
          have i2 : (j : Int) < (k : Int) := by omega
          rcases hj2 with hj0 | ⟨hj1, hk1⟩
          · have hg : (ancL t r k).getD j (0, 0) = (-1, -1) := by
              have : k = 1 ∨ k = 2 := by omega
              rw [hj0]
              rcases this with rfl | rfl <;> rfl
            replace hj0 := Lib.hid hj0
            rw [hg] at p0 p1
            simp only at p0 p1
            clear hg hlen
            cases hb : nmB (-1) (-1) t' r' with
            | true =>
              have E := Lib.hid (show undB t r t' r' = true by
                have hb' := nmB_on hb
                have hs2 := hs.out
                have hk3 := hk.out
                have hjj := hj
                unfold AncK at hk3
                unfold undB
                rw [decide_eq_true_eq, hx.out]
                rw [hx.out] at hk3
                split at hk3 <;> omega)
              go_wp2_with fail
              go_quiet (fail)
              go_wp2_with fail
              go_ret
              exact ⟨by rw [E.out]; rfl, ((hS.out.drewN m).drewN _).tail.tail.gold⟩
            | false =>
              go_wp2_with fail
              go_quiet (fail)
              go_wp2_with fail
              go_roundw
              case rel => exact ⟨j + 1, by omega, by go_num, ⟨fun _ => by first | exact hb | trivial, fun h => absurd h (by have := hj0.out; omega)⟩, _, rfl⟩
              case measure => simp [intOf]; omega
          · have hg : (ancL t r k).getD j (0, 0) = (t, -1) := by rw [hj1, hk1]; rfl
            replace hj1 := Lib.hid hj1
            replace hk1 := Lib.hid hk1
            rw [hg] at p0 p1
            simp only at p0 p1
            clear hg hlen
            cases hb : nmB t (-1) t' r' with
            | true =>
              have E := Lib.hid (show undB t r t' r' = true by
                have hb' := nmB_on hb
                have hs2 := hs.out
                have hk3 := hk.out
                have hjj := hj
                unfold AncK at hk3
                unfold undB
                rw [decide_eq_true_eq, hx.out]
                rw [hx.out] at hk3
                split at hk3 <;> omega)
              go_wp2_with fail
              go_quiet (fail)
              go_wp2_with fail
              go_ret
              exact ⟨by rw [E.out]; rfl, ((hS.out.drewN m).drewN _).tail.tail.gold⟩
            | false =>
              have hb0 := Lib.hid (hn.out.1 (by have := hj1.out; omega))
              go_wp2_with fail
              go_quiet (fail)
              go_wp2_with fail
              go_roundw
              case rel => exact ⟨j + 1, by omega, by go_num, ⟨fun _ => hb0.out, fun _ => by first | exact hb | trivial⟩, _, rfl⟩
              case measure => simp [intOf]; omega
        · have hjk : j = k := by omega
          subst hjk
          have E := Lib.hid (show undB t r t' r' = nmB t r t' r' by
            have hs2 := hs.out
            have hk3 := hk.out
            have h0 := hn.out.1
            have h1 := hn.out.2
            unfold AncK at hk3
            rw [hx.out] at hk3
            rw [Bool.eq_iff_iff]
            unfold undB
            rw [decide_eq_true_eq, hx.out]
            constructor
            · intro h
              apply nmB_true
              have g0 : 0 < j → ¬(-1 = t' ∧ -1 = r') := fun h => nmB_off (h0 h)
              have g1 : 1 < j → ¬(t = t' ∧ -1 = r') := fun h => nmB_off (h1 h)
              split at hk3 <;> omega
            · intro h
              have := nmB_on h
              exact ⟨fun h => by have := hx0.out; omega, .inl this⟩)
          go_wp2_with fail
          try (go_quiet (fail))
          try (go_wp2_with fail)
          go_ret
          exact ⟨by rw [E.out]; rfl, (hS.out.drewN m).tail.tail.gold⟩
end Go.Proofs.YtiaibmabmholaaaDoor
