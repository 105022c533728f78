/-
  No wake is lost, and none is invented: the walk of ParkerWakes. No condition beside an argument that can be read.
-/
import Derived.Test.YtioaghkafomibaaApart
import Derived.Test.YtioaghkafomibaaOpen
namespace Go.Proofs.Ytioaghkafomibaa
open Go.RowKit

theorem par_shift {w : World} {p g : Nat} {L M : List Int} (h : Par w p g L) (e : L = M) : Par w p g M := e ▸ h

set_option maxHeartbeats 4000000 in
set_option maxRecDepth 100000 in
theorem wakes_walk (a : Option Addr) (len cap : Nat) (z : Nat → Bool) (w : World) (h : IsBools w a len cap z) :
    Calls Try.prog 3 #[.slice a len cap] w fun e w' => e = .returned (.bool true) ∧ Below w.heap.size w w' := by
  by_cases h60 : 60 < len
  · go_enter Try.func3, Try.ntmps3
    go_wp2_with (go_at_call 8; refine (lives_any _).mono ?_; rintro e w1 ⟨rfl, b1⟩)
    go_ret
    exact ⟨rfl, b1⟩
  · have H := Lib.hid h
    clear h
    go_enter Try.func3, Try.ntmps3
    go_wp2_with fail
    refine (lives_any _).mono ?_
    rintro e w1 ⟨rfl, b1⟩
    go_wp2_with fail
    refine (new_ok 2 _ (by omega) (by omega)).mono ?_
    rintro e w3 ⟨rfl, hL, b3⟩
    have bel := Lib.hid (b1.trans (b3.mono b1.size))
    have hga : w.heap.size ≤ w1.heap.size := b1.size
    replace hL : Hid (Par w3 (w1.heap.size + 1) w1.heap.size [0, 0]) := hL
    clear b1 b3
    generalize w1.heap.size = g at *
    generalize hpa : g + 1 = p at *
    replace hpa := Lib.hid hpa
    go_wp2_with fail
    go_loopw [5, 6, 7, 8] (fun wk pk lo i wr => ∃ k W Pk Lo : Nat, k ≤ len ∧ W ≤ k ∧ Pk ≤ k ∧ Lo ≤ k ∧ wk = .int .i64 W ∧ pk = .int .i64 Pk ∧ lo = .int .i64 Lo ∧ i = .int .i64 k ∧ ∃ s : Int, (s = 0 ∨ s = 1 ∨ s = 2) ∧ Par wr p g [0, s] ∧ Hid ((W : Int) = Pk - (if s = 1 then 1 else 0) + (if s = 2 then 1 else 0) + Lo) ∧ Hid (s = 1 → 1 ≤ Pk) ∧ Below w.heap.size w wr) (fun _ _ _ i _ => len - (intOf i).toNat)
    case atStart => exact ⟨0, 0, 0, 0, by omega, by omega, by omega, by omega, rfl, rfl, rfl, rfl, 0, by simp, hL.out, by simp [Hid], by simp [Hid], bel.out⟩
    case round =>
      clear hL bel
      obtain ⟨i, W, Pk, Lo, hi, hW, hPk, hLo, rfl, rfl, rfl, rfl, s, hs, hL, heq, hpos, bel⟩ := hrel
      replace hL := Lib.hid hL
      replace bel := Lib.hid bel
      by_cases hlt : i < len
      · obtain ⟨hlc, hcm, b, off, rfl, hbs, hz⟩ : len ≤ cap ∧ cap ≤ maxLen ∧ ∃ b off, a = some ⟨b, off, none⟩ ∧ b < w.heap.size ∧ ∀ i, i < len → w.cell? ⟨b, off + i, none⟩ = some (.bool (z i)) := ⟨H.out.1, H.out.2.1, H.out.2.2 (by omega)⟩
        have z0 := hz i hlt
        rw [← bel.out.cell (by exact hbs)] at z0
        clear hz H
        generalize z i = c at *
        have P1 := Lib.hid (parked_any p g 1 _ _ hL.out)
        have P0 := Lib.hid (parked_any p g 0 _ _ hL.out)
        have T1 := Lib.hid (token_any p g 1 _ _ hL.out)
        have T0 := Lib.hid (token_any p g 0 _ _ hL.out)
        have K := Lib.hid (park_any p g 1 _ _ hL.out)
        have U := Lib.hid (unpark_any p g 1 _ _ hL.out)
        have hLk := hL
        clear hL
        rcases hs with rfl | rfl | rfl
        · cases c
          · have i11 : isB [0, 0] 1 1 = false := rfl
            have i01 : isB [0, 0] 0 1 = false := rfl
            have i12 : isB [0, 0] 1 2 = false := rfl
            have i02 : isB [0, 0] 0 2 = false := rfl
            have cc : unC [0, 0] 1 = 0 := rfl
            go_wp2_with (first | (go_at_call 10; with_reducible refine P1.out.mono ?_; rintro e w' ⟨rfl, rfl⟩) | (go_at_call 10; with_reducible refine P0.out.mono ?_; rintro e w' ⟨rfl, rfl⟩) | (go_at_call 11; with_reducible refine T1.out.mono ?_; rintro e w' ⟨rfl, rfl⟩) | (go_at_call 11; with_reducible refine T0.out.mono ?_; rintro e w' ⟨rfl, rfl⟩))
            refine U.out.mono ?_
            rintro e w6 ⟨rfl, h6, hg6⟩
            replace h6 : Hid (Par w6 p g [0, 2]) := h6
            have bel6 := Lib.hid (below_grown bel.out hg6 bel.out.size hga)
            have Q1 := Lib.hid (parked_any p g 1 _ _ h6.out)
            have S1 := Lib.hid (token_any p g 1 _ _ h6.out)
            have j11 : isB [0, 2] 1 1 = false := rfl
            have j12 : isB [0, 2] 1 2 = true := rfl
            clear hg6 P1 P0 T1 T0 K U bel
            go_wp2_with (first | (go_at_call 10; with_reducible refine Q1.out.mono ?_; rintro e w' ⟨rfl, rfl⟩) | (go_at_call 11; with_reducible refine S1.out.mono ?_; rintro e w' ⟨rfl, rfl⟩))
            go_roundw
            case rel => exact ⟨i + 1, W + 1, Pk, Lo, by omega, by omega, by omega, by omega, by go_num, rfl, rfl, by go_num, 2, by simp, h6.out, by have := heq.out; simp at this; simp [Hid]; omega, by simp [Hid], bel6.out⟩
            case measure => simp [intOf]; omega
          · have i11 : isB [0, 0] 1 1 = false := rfl
            have i01 : isB [0, 0] 0 1 = false := rfl
            have i12 : isB [0, 0] 1 2 = false := rfl
            have i02 : isB [0, 0] 0 2 = false := rfl
            have cc : parkC [0, 0] 1 = 0 := rfl
            go_wp2_with (first | (go_at_call 10; with_reducible refine P1.out.mono ?_; rintro e w' ⟨rfl, rfl⟩) | (go_at_call 10; with_reducible refine P0.out.mono ?_; rintro e w' ⟨rfl, rfl⟩) | (go_at_call 11; with_reducible refine T1.out.mono ?_; rintro e w' ⟨rfl, rfl⟩) | (go_at_call 11; with_reducible refine T0.out.mono ?_; rintro e w' ⟨rfl, rfl⟩))
            refine K.out.mono ?_
            rintro e w6 ⟨rfl, h6, hg6⟩
            replace h6 : Hid (Par w6 p g [0, 1]) := h6
            have bel6 := Lib.hid (below_grown bel.out hg6 bel.out.size hga)
            have Q1 := Lib.hid (parked_any p g 1 _ _ h6.out)
            have S1 := Lib.hid (token_any p g 1 _ _ h6.out)
            have j11 : isB [0, 1] 1 1 = true := rfl
            have j12 : isB [0, 1] 1 2 = false := rfl
            clear hg6 P1 P0 T1 T0 K U bel
            go_wp2_with (first | (go_at_call 10; with_reducible refine Q1.out.mono ?_; rintro e w' ⟨rfl, rfl⟩) | (go_at_call 11; with_reducible refine S1.out.mono ?_; rintro e w' ⟨rfl, rfl⟩))
            go_roundw
            case rel => exact ⟨i + 1, W, Pk + 1, Lo, by omega, by omega, by omega, by omega, rfl, by go_num, rfl, by go_num, 1, by simp, h6.out, by have := heq.out; simp at this; simp [Hid]; omega, by simp [Hid], bel6.out⟩
            case measure => simp [intOf]; omega
        · cases c
          · have i11 : isB [0, 1] 1 1 = true := rfl
            have i01 : isB [0, 1] 0 1 = false := rfl
            have i12 : isB [0, 1] 1 2 = false := rfl
            have i02 : isB [0, 1] 0 2 = false := rfl
            have cc : unC [0, 1] 1 = 0 := rfl
            go_wp2_with (first | (go_at_call 10; with_reducible refine P1.out.mono ?_; rintro e w' ⟨rfl, rfl⟩) | (go_at_call 10; with_reducible refine P0.out.mono ?_; rintro e w' ⟨rfl, rfl⟩) | (go_at_call 11; with_reducible refine T1.out.mono ?_; rintro e w' ⟨rfl, rfl⟩) | (go_at_call 11; with_reducible refine T0.out.mono ?_; rintro e w' ⟨rfl, rfl⟩))
            refine U.out.mono ?_
            rintro e w6 ⟨rfl, h6, hg6⟩
            replace h6 : Hid (Par w6 p g [0, 0]) := h6
            have bel6 := Lib.hid (below_grown bel.out hg6 bel.out.size hga)
            have Q1 := Lib.hid (parked_any p g 1 _ _ h6.out)
            have S1 := Lib.hid (token_any p g 1 _ _ h6.out)
            have j11 : isB [0, 0] 1 1 = false := rfl
            have j12 : isB [0, 0] 1 2 = false := rfl
            clear hg6 P1 P0 T1 T0 K U bel
            go_wp2_with (first | (go_at_call 10; with_reducible refine Q1.out.mono ?_; rintro e w' ⟨rfl, rfl⟩) | (go_at_call 11; with_reducible refine S1.out.mono ?_; rintro e w' ⟨rfl, rfl⟩))
            go_roundw
            case rel => exact ⟨i + 1, W + 1, Pk, Lo, by omega, by omega, by omega, by omega, by go_num, rfl, rfl, by go_num, 0, by simp, h6.out, by have := heq.out; simp at this; simp [Hid]; omega, by simp [Hid], bel6.out⟩
            case measure => simp [intOf]; omega
          · have i11 : isB [0, 1] 1 1 = true := rfl
            have i01 : isB [0, 1] 0 1 = false := rfl
            have i12 : isB [0, 1] 1 2 = false := rfl
            have i02 : isB [0, 1] 0 2 = false := rfl
            go_wp2_with (first | (go_at_call 10; with_reducible refine P1.out.mono ?_; rintro e w' ⟨rfl, rfl⟩) | (go_at_call 10; with_reducible refine P0.out.mono ?_; rintro e w' ⟨rfl, rfl⟩) | (go_at_call 11; with_reducible refine T1.out.mono ?_; rintro e w' ⟨rfl, rfl⟩) | (go_at_call 11; with_reducible refine T0.out.mono ?_; rintro e w' ⟨rfl, rfl⟩))
            go_roundw
            case rel => exact ⟨i + 1, W, Pk, Lo, by omega, by omega, by omega, by omega, rfl, rfl, rfl, by go_num, 1, by simp, hLk.out, heq, by have := hpos.out; simp at this; simp [Hid]; omega, bel.out⟩
            case measure => simp [intOf]; omega
        · cases c
          · have i11 : isB [0, 2] 1 1 = false := rfl
            have i01 : isB [0, 2] 0 1 = false := rfl
            have i12 : isB [0, 2] 1 2 = true := rfl
            have i02 : isB [0, 2] 0 2 = false := rfl
            have cc : unC [0, 2] 1 = 0 := rfl
            go_wp2_with (first | (go_at_call 10; with_reducible refine P1.out.mono ?_; rintro e w' ⟨rfl, rfl⟩) | (go_at_call 10; with_reducible refine P0.out.mono ?_; rintro e w' ⟨rfl, rfl⟩) | (go_at_call 11; with_reducible refine T1.out.mono ?_; rintro e w' ⟨rfl, rfl⟩) | (go_at_call 11; with_reducible refine T0.out.mono ?_; rintro e w' ⟨rfl, rfl⟩))
            refine U.out.mono ?_
            rintro e w6 ⟨rfl, h6, hg6⟩
            replace h6 : Hid (Par w6 p g [0, 2]) := h6
            have bel6 := Lib.hid (below_grown bel.out hg6 bel.out.size hga)
            have Q1 := Lib.hid (parked_any p g 1 _ _ h6.out)
            have S1 := Lib.hid (token_any p g 1 _ _ h6.out)
            clear hg6 P1 P0 T1 T0 K U bel
            go_wp2_with (first | (go_at_call 10; with_reducible refine Q1.out.mono ?_; rintro e w' ⟨rfl, rfl⟩) | (go_at_call 11; with_reducible refine S1.out.mono ?_; rintro e w' ⟨rfl, rfl⟩))
            go_roundw
            case rel => exact ⟨i + 1, W + 1, Pk, Lo + 1, by omega, by omega, by omega, by omega, by go_num, rfl, by go_num, by go_num, 2, by simp, h6.out, by have := heq.out; simp at this; simp [Hid]; omega, by simp [Hid], bel6.out⟩
            case measure => simp [intOf]; omega
          · have i11 : isB [0, 2] 1 1 = false := rfl
            have i01 : isB [0, 2] 0 1 = false := rfl
            have i12 : isB [0, 2] 1 2 = true := rfl
            have i02 : isB [0, 2] 0 2 = false := rfl
            have cc : parkC [0, 2] 1 = 0 := rfl
            go_wp2_with (first | (go_at_call 10; with_reducible refine P1.out.mono ?_; rintro e w' ⟨rfl, rfl⟩) | (go_at_call 10; with_reducible refine P0.out.mono ?_; rintro e w' ⟨rfl, rfl⟩) | (go_at_call 11; with_reducible refine T1.out.mono ?_; rintro e w' ⟨rfl, rfl⟩) | (go_at_call 11; with_reducible refine T0.out.mono ?_; rintro e w' ⟨rfl, rfl⟩))
            refine K.out.mono ?_
            rintro e w6 ⟨rfl, h6, hg6⟩
            replace h6 : Hid (Par w6 p g [0, 0]) := h6
            have bel6 := Lib.hid (below_grown bel.out hg6 bel.out.size hga)
            have Q1 := Lib.hid (parked_any p g 1 _ _ h6.out)
            have S1 := Lib.hid (token_any p g 1 _ _ h6.out)
            have j11 : isB [0, 0] 1 1 = false := rfl
            have j12 : isB [0, 0] 1 2 = false := rfl
            clear hg6 P1 P0 T1 T0 K U bel
            go_wp2_with (first | (go_at_call 10; with_reducible refine Q1.out.mono ?_; rintro e w' ⟨rfl, rfl⟩) | (go_at_call 11; with_reducible refine S1.out.mono ?_; rintro e w' ⟨rfl, rfl⟩))
            go_roundw
            case rel => exact ⟨i + 1, W, Pk + 1, Lo, by omega, by omega, by omega, by omega, rfl, by go_num, rfl, by go_num, 0, by simp, h6.out, by have := heq.out; simp at this; simp [Hid]; omega, by simp [Hid], bel6.out⟩
            case measure => simp [intOf]; omega
      · replace bel := Lib.hid bel.out
        have P1 := Lib.hid (parked_any p g 1 _ _ hL.out)
        have T1 := Lib.hid (token_any p g 1 _ _ hL.out)
        clear hL H
        rcases hs with rfl | rfl | rfl
        · have i11 : isB [0, 0] 1 1 = false := rfl
          have i12 : isB [0, 0] 1 2 = false := rfl
          have hfin : ((W : Int) == Pk + Lo) = true := by rw [beq_iff_eq]; have := heq.out; simp at this; omega
          go_wp2_with (first | (go_at_call 10; with_reducible refine P1.out.mono ?_; rintro e w' ⟨rfl, rfl⟩) | (go_at_call 11; with_reducible refine T1.out.mono ?_; rintro e w' ⟨rfl, rfl⟩))
          go_ret
          exact ⟨by first | rfl | (simp; done) | (simp; have := heq.out; simp at this; omega), bel.out⟩
        · have i11 : isB [0, 1] 1 1 = true := rfl
          have i12 : isB [0, 1] 1 2 = false := rfl
          have hp1 := hpos.out rfl
          have hfin : ((W : Int) == Pk - 1 + Lo) = true := by rw [beq_iff_eq]; have := heq.out; simp at this; omega
          go_wp2_with (first | (go_at_call 10; with_reducible refine P1.out.mono ?_; rintro e w' ⟨rfl, rfl⟩) | (go_at_call 11; with_reducible refine T1.out.mono ?_; rintro e w' ⟨rfl, rfl⟩))
          go_ret
          exact ⟨by first | rfl | (simp; done) | (simp; have := heq.out; simp at this; omega), bel.out⟩
        · have i11 : isB [0, 2] 1 1 = false := rfl
          have i12 : isB [0, 2] 1 2 = true := rfl
          have hfin : ((W : Int) == Pk + 1 + Lo) = true := by rw [beq_iff_eq]; have := heq.out; simp at this; omega
          go_wp2_with (first | (go_at_call 10; with_reducible refine P1.out.mono ?_; rintro e w' ⟨rfl, rfl⟩) | (go_at_call 11; with_reducible refine T1.out.mono ?_; rintro e w' ⟨rfl, rfl⟩))
          go_ret
          exact ⟨by first | rfl | (simp; done) | (simp; have := heq.out; simp at this; omega), bel.out⟩
end Go.Proofs.Ytioaghkafomibaa
