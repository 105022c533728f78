/-
  Whatever is parked and unparked, threads are what the document says: the walk of ParkerScript. No condition beside arguments that can be read.
-/
import Derived.Test.YtioaghkafomibaaRef
namespace Go.Proofs.Ytioaghkafomibaa
open Go.RowKit

set_option maxHeartbeats 4000000 in
set_option maxRecDepth 100000 in
theorem script_walk (a0 : Int) (a : Option Addr) (len cap : Nat) (z : Nat → Nat → Int) (w : World) (_h0 : (Lit.int .i64 a0).wf = true) (h : IsRows 2 w a len cap z) :
    Calls Try.prog 6 #[.int .i64 a0, .slice a len cap] w fun e w' => e = .returned (.bool true) ∧ Below w.heap.size w w' := by
  by_cases h60 : 60 < len
  · go_enter Try.func6, Try.ntmps6
    go_wp2_with (go_at_call 8; refine (lives_any _).mono ?_; rintro e w1 ⟨rfl, b1⟩)
    go_ret
    exact ⟨rfl, b1⟩
  · by_cases hn : a0 < 1 ∨ 8 < a0
    · clear h
      go_enter Try.func6, Try.ntmps6
      go_wp2_with fail
      refine (lives_any _).mono ?_
      rintro e w1 ⟨rfl, b1⟩
      go_wp2_with fail
      refine (new_bad a0 _ hn).mono ?_
      rintro e w2 ⟨rfl, rfl⟩
      go_wp2_with fail
      refine (newR_bad a0 _ hn).mono ?_
      rintro e w2 ⟨rfl, rfl⟩
      go_wp2_with fail
      go_ret
      exact ⟨rfl, b1⟩
    · obtain ⟨n, rfl⟩ := Int.eq_ofNat_of_zero_le (show 0 ≤ a0 by omega)
      have hn1 : 1 ≤ n := by omega
      have hn2 : n ≤ 8 := by omega
      have H := Lib.hid h
      clear h hn
      go_enter Try.func6, Try.ntmps6
      go_wp2_with fail
      refine (lives_any _).mono ?_
      rintro e w1 ⟨rfl, b1⟩
      go_wp2_with fail
      refine (new_ok n _ hn1 hn2).mono ?_
      rintro e w2 ⟨rfl, hP, b2⟩
      go_wp2_with fail
      refine (newR_ok n _ hn1 hn2).mono ?_
      rintro e w3 ⟨p', g', t', rfl, hR, q1, q2, q3, b3⟩
      have bel := Lib.hid (b1.trans ((b2.mono b1.size).trans (b3.mono (Nat.le_trans b1.size b2.size))))
      have f1 : w.heap.size ≤ w1.heap.size := b1.size
      have f2 := hP.hp.lt
      replace hP := Lib.hid (hP.below b3)
      replace hR := Lib.hid hR
      have s1 : w1.heap.size < p' := by omega
      have s2 : w1.heap.size < g' := by omega
      have s3 : w1.heap.size < t' := by omega
      have s4 : w1.heap.size + 1 < p' := by omega
      have s5 : w1.heap.size + 1 < g' := by omega
      have s6 : w1.heap.size + 1 < t' := by omega
      clear b1 b2 b3 q1 q2 q3 f2
      generalize List.replicate n (0 : Int) = L0 at *
      generalize w1.heap.size = g at *
      generalize hp : g + 1 = p at *
      replace hp := Lib.hid hp
      go_wp2_with fail
      go_loopw [9] (fun i wr => ∃ k1 : Nat, k1 ≤ len ∧ i = .int .i64 k1 ∧ ∃ L, Par wr p g L ∧ ParR wr p' g' t' L ∧ Below w.heap.size w wr) (fun i _ => len - (intOf i).toNat)
      case atStart => exact ⟨0, Nat.zero_le _, rfl, L0, hP.out, hR.out, bel.out⟩
      case round =>
        clear hP hR bel
        obtain ⟨i, hi, rfl, L, hP, hR, bel⟩ := hrel
        by_cases hlt : i < len
        · obtain ⟨hlc, hcm, b, off, rfl, hbs, hz⟩ : len ≤ cap ∧ cap ≤ maxLen ∧ ∃ b off, a = some ⟨b, off, none⟩ ∧ b < w.heap.size ∧ ∀ i, i < len → ∀ j, j < 2 → w.cell? ⟨b, off + i * 2 + j, none⟩ = some (.int .i64 (z i j)) ∧ (Lit.int .i64 (z i j)).wf = true := ⟨H.out.1, H.out.2.1, H.out.2.2 (by omega)⟩
          have z0 := (hz i hlt 0 (by omega)).1
          have z1 := (hz i hlt 1 (by omega)).1
          rw [Nat.add_zero] at z0
          rw [← bel.cell (by exact hbs)] at z0 z1
          clear hz H
          generalize z i 0 = c at *
          generalize z i 1 = u at *
          obtain ⟨q, PQ⟩ := pick_nat c 4 (by omega) (by omega)
          have hq4 := PQ.lt
          have ha : w.heap.size ≤ g' := by omega
          have hb : w.heap.size ≤ t' := by omega
          have x1 : p' ≠ g := by omega
          have x2 : g' ≠ g := by omega
          have x3 : t' ≠ g := by omega
          have x4 : p ≠ g' := by omega
          have x5 : p ≠ t' := by omega
          have x6 : g ≠ g' := by omega
          have x7 : g ≠ t' := by omega
          replace hP := Lib.hid hP
          replace hR := Lib.hid hR
          replace bel := Lib.hid bel
          by_cases hq2 : q = 2
          · have d1 : ((q : Int) == 2) = true := by rw [beq_iff_eq]; omega
            clear hq2
            go_wp2_with fail
            refine (PQ.run.out _).mono ?_
            rintro e w5 ⟨rfl, rfl⟩
            clear PQ
            go_wp2_with fail
            refine (unpark_any p g u L _ hP.out).mono ?_
            rintro e w6 ⟨rfl, hP6, g6⟩
            have hR6 := Lib.hid (hR.out.grown g6 x1 x2 x3)
            have bel6 := Lib.hid (below_grown bel.out g6 bel.out.size f1)
            replace hP6 := Lib.hid hP6
            clear g6 hP hR bel z0 z1
            go_wp2_with fail
            refine (unparkR_any p' g' t' u L _ hR6.out).mono ?_
            rintro e w7 ⟨rfl, hR7, g7⟩
            have hP7 := Lib.hid (hP6.out.grown2 g7 x4 x5 x6 x7)
            have bel7 := Lib.hid (below_grown2 bel6.out g7 bel6.out.size ha hb)
            replace hR7 := Lib.hid hR7
            clear g7 hP6 hR6 bel6
            go_wp2_with fail
            refine (parked_any p g u _ _ hP7.out).mono ?_
            rintro e w8 ⟨rfl, rfl⟩
            go_wp2_with fail
            refine (parkedR_any p' g' t' u _ _ hR7.out).mono ?_
            rintro e w8 ⟨rfl, rfl⟩
            go_wp2_with fail
            refine (token_any p g u _ _ hP7.out).mono ?_
            rintro e w8 ⟨rfl, rfl⟩
            go_wp2_with fail
            refine (tokenR_any p' g' t' u _ _ hR7.out).mono ?_
            rintro e w8 ⟨rfl, rfl⟩
            go_wp2_with fail
            refine (waiting_any p g _ _ hP7.out).mono ?_
            rintro e w9 ⟨v9, rfl, o9, b9⟩
            have hP9 := Lib.hid (hP7.out.below b9)
            have hR9 := Lib.hid (hR7.out.below b9)
            have bel9 := Lib.hid (bel7.out.trans (b9.mono bel7.out.size))
            have r9 := Lib.hid (RI.of_own o9)
            clear o9 b9 hP7 hR7 bel7
            go_wp2_with fail
            refine (waitingR_any p' g' t' _ _ hR9.out).mono ?_
            rintro e w10 ⟨v10, rfl, o10, b10⟩
            have hP10 := Lib.hid (hP9.out.below b10)
            have hR10 := Lib.hid (hR9.out.below b10)
            have bel10 := Lib.hid (bel9.out.trans (b10.mono bel9.out.size))
            have r10 := Lib.hid (RI.of_own o10)
            replace r9 := Lib.hid (r9.out.below b10)
            have Z := Lib.hid (same_true v9 v10 _ _ (by have := hP10.out.len; exact Nat.le_trans (waitK_len _ _) (by omega)) r9.out r10.out)
            clear o10 b10 hP9 hR9 bel9 r9 r10
            go_wp2_with fail
            refine Z.out.mono ?_
            rintro e w11 ⟨rfl, nd, rfl⟩
            replace hP10 := Lib.hid (hP10.out.drewN nd)
            replace hR10 := Lib.hid (hR10.out.drewN nd)
            replace bel10 := Lib.hid (below_drewN bel10.out nd)
            clear Z
            generalize World.drewN _ nd = w11 at *
            go_wp2_with fail
            refine (len_any p g _ _ hP10.out).mono ?_
            rintro e w12 ⟨rfl, rfl⟩
            go_wp2_with fail
            refine (lenR_any p' g' t' _ _ hR10.out).mono ?_
            rintro e w12 ⟨rfl, rfl⟩
            go_wp2_with fail
            go_roundw
            case rel => exact ⟨i + 1, by omega, by go_num, _, hP10.out, hR10.out, bel10.out⟩
            case measure => simp [intOf]; omega
          · by_cases hq3 : q = 3
            · have d1 : ((q : Int) == 2) = false := by rw [beq_eq_false_iff_ne]; omega
              have d2 : ((q : Int) == 3) = true := by rw [beq_iff_eq]; omega
              clear hq2 hq3
              go_wp2_with fail
              refine (PQ.run.out _).mono ?_
              rintro e w5 ⟨rfl, rfl⟩
              clear PQ
              go_wp2_with fail
              refine (drop_any p g u L _ hP.out).mono ?_
              rintro e w6 ⟨rfl, hP6, g6⟩
              have hR6 := Lib.hid (hR.out.grown g6 x1 x2 x3)
              have bel6 := Lib.hid (below_grown bel.out g6 bel.out.size f1)
              replace hP6 := Lib.hid hP6
              clear g6 hP hR bel z0 z1
              go_wp2_with fail
              refine (dropR_any p' g' t' u L _ hR6.out).mono ?_
              rintro e w7 ⟨rfl, hR7, g7⟩
              have hP7 := Lib.hid (hP6.out.grown2 g7 x4 x5 x6 x7)
              have bel7 := Lib.hid (below_grown2 bel6.out g7 bel6.out.size ha hb)
              replace hR7 := Lib.hid hR7
              clear g7 hP6 hR6 bel6
              go_wp2_with fail
              refine (parked_any p g u _ _ hP7.out).mono ?_
              rintro e w8 ⟨rfl, rfl⟩
              go_wp2_with fail
              refine (parkedR_any p' g' t' u _ _ hR7.out).mono ?_
              rintro e w8 ⟨rfl, rfl⟩
              go_wp2_with fail
              refine (token_any p g u _ _ hP7.out).mono ?_
              rintro e w8 ⟨rfl, rfl⟩
              go_wp2_with fail
              refine (tokenR_any p' g' t' u _ _ hR7.out).mono ?_
              rintro e w8 ⟨rfl, rfl⟩
              go_wp2_with fail
              refine (waiting_any p g _ _ hP7.out).mono ?_
              rintro e w9 ⟨v9, rfl, o9, b9⟩
              have hP9 := Lib.hid (hP7.out.below b9)
              have hR9 := Lib.hid (hR7.out.below b9)
              have bel9 := Lib.hid (bel7.out.trans (b9.mono bel7.out.size))
              have r9 := Lib.hid (RI.of_own o9)
              clear o9 b9 hP7 hR7 bel7
              go_wp2_with fail
              refine (waitingR_any p' g' t' _ _ hR9.out).mono ?_
              rintro e w10 ⟨v10, rfl, o10, b10⟩
              have hP10 := Lib.hid (hP9.out.below b10)
              have hR10 := Lib.hid (hR9.out.below b10)
              have bel10 := Lib.hid (bel9.out.trans (b10.mono bel9.out.size))
              have r10 := Lib.hid (RI.of_own o10)
              replace r9 := Lib.hid (r9.out.below b10)
              have Z := Lib.hid (same_true v9 v10 _ _ (by have := hP10.out.len; exact Nat.le_trans (waitK_len _ _) (by omega)) r9.out r10.out)
              clear o10 b10 hP9 hR9 bel9 r9 r10
              go_wp2_with fail
              refine Z.out.mono ?_
              rintro e w11 ⟨rfl, nd, rfl⟩
              replace hP10 := Lib.hid (hP10.out.drewN nd)
              replace hR10 := Lib.hid (hR10.out.drewN nd)
              replace bel10 := Lib.hid (below_drewN bel10.out nd)
              clear Z
              generalize World.drewN _ nd = w11 at *
              go_wp2_with fail
              refine (len_any p g _ _ hP10.out).mono ?_
              rintro e w12 ⟨rfl, rfl⟩
              go_wp2_with fail
              refine (lenR_any p' g' t' _ _ hR10.out).mono ?_
              rintro e w12 ⟨rfl, rfl⟩
              go_wp2_with fail
              go_roundw
              case rel => exact ⟨i + 1, by omega, by go_num, _, hP10.out, hR10.out, bel10.out⟩
              case measure => simp [intOf]; omega
            · have d1 : ((q : Int) == 2) = false := by rw [beq_eq_false_iff_ne]; omega
              have d2 : ((q : Int) == 3) = false := by rw [beq_eq_false_iff_ne]; omega
              clear hq2 hq3
              go_wp2_with fail
              refine (PQ.run.out _).mono ?_
              rintro e w5 ⟨rfl, rfl⟩
              clear PQ
              go_wp2_with fail
              refine (park_any p g u L _ hP.out).mono ?_
              rintro e w6 ⟨rfl, hP6, g6⟩
              have hR6 := Lib.hid (hR.out.grown g6 x1 x2 x3)
              have bel6 := Lib.hid (below_grown bel.out g6 bel.out.size f1)
              replace hP6 := Lib.hid hP6
              clear g6 hP hR bel z0 z1
              go_wp2_with fail
              refine (parkR_any p' g' t' u L _ hR6.out).mono ?_
              rintro e w7 ⟨rfl, hR7, g7⟩
              have hP7 := Lib.hid (hP6.out.grown2 g7 x4 x5 x6 x7)
              have bel7 := Lib.hid (below_grown2 bel6.out g7 bel6.out.size ha hb)
              replace hR7 := Lib.hid hR7
              clear g7 hP6 hR6 bel6
              go_wp2_with fail
              refine (parked_any p g u _ _ hP7.out).mono ?_
              rintro e w8 ⟨rfl, rfl⟩
              go_wp2_with fail
              refine (parkedR_any p' g' t' u _ _ hR7.out).mono ?_
              rintro e w8 ⟨rfl, rfl⟩
              go_wp2_with fail
              refine (token_any p g u _ _ hP7.out).mono ?_
              rintro e w8 ⟨rfl, rfl⟩
              go_wp2_with fail
              refine (tokenR_any p' g' t' u _ _ hR7.out).mono ?_
              rintro e w8 ⟨rfl, rfl⟩
              go_wp2_with fail
              refine (waiting_any p g _ _ hP7.out).mono ?_
              rintro e w9 ⟨v9, rfl, o9, b9⟩
              have hP9 := Lib.hid (hP7.out.below b9)
              have hR9 := Lib.hid (hR7.out.below b9)
              have bel9 := Lib.hid (bel7.out.trans (b9.mono bel7.out.size))
              have r9 := Lib.hid (RI.of_own o9)
              clear o9 b9 hP7 hR7 bel7
              go_wp2_with fail
              refine (waitingR_any p' g' t' _ _ hR9.out).mono ?_
              rintro e w10 ⟨v10, rfl, o10, b10⟩
              have hP10 := Lib.hid (hP9.out.below b10)
              have hR10 := Lib.hid (hR9.out.below b10)
              have bel10 := Lib.hid (bel9.out.trans (b10.mono bel9.out.size))
              have r10 := Lib.hid (RI.of_own o10)
              replace r9 := Lib.hid (r9.out.below b10)
              have Z := Lib.hid (same_true v9 v10 _ _ (by have := hP10.out.len; exact Nat.le_trans (waitK_len _ _) (by omega)) r9.out r10.out)
              clear o10 b10 hP9 hR9 bel9 r9 r10
              go_wp2_with fail
              refine Z.out.mono ?_
              rintro e w11 ⟨rfl, nd, rfl⟩
              replace hP10 := Lib.hid (hP10.out.drewN nd)
              replace hR10 := Lib.hid (hR10.out.drewN nd)
              replace bel10 := Lib.hid (below_drewN bel10.out nd)
              clear Z
              generalize World.drewN _ nd = w11 at *
              go_wp2_with fail
              refine (len_any p g _ _ hP10.out).mono ?_
              rintro e w12 ⟨rfl, rfl⟩
              go_wp2_with fail
              refine (lenR_any p' g' t' _ _ hR10.out).mono ?_
              rintro e w12 ⟨rfl, rfl⟩
              go_wp2_with fail
              go_roundw
              case rel => exact ⟨i + 1, by omega, by go_num, _, hP10.out, hR10.out, bel10.out⟩
              case measure => simp [intOf]; omega
        · replace bel := Lib.hid bel
          clear hP hR H
          go_wp2_with fail
          go_ret
          exact ⟨rfl, bel.out⟩
end Go.Proofs.Ytioaghkafomibaa
