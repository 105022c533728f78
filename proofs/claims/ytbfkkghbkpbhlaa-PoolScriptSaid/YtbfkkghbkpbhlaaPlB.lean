/-
  The pool's heap of free numbers: down, Push, Pop. No condition.
-/
import Derived.Test.YtbfkkghbkpbhlaaPlA
namespace Go.Proofs.Ytbfkkghbkpbhlaa
open Go.RowKit
theorem kid_two {xs : List Int} {i n : Nat} (h : 2 * i + 2 < n) (hl : xs.getD (2 * i + 2) 0 < xs.getD (2 * i + 1) 0) : kidL xs i n = 2 * i + 2 := if_pos ⟨h, hl⟩
theorem kid_one {xs : List Int} {i n : Nat} (h : ¬ (2 * i + 2 < n ∧ xs.getD (2 * i + 2) 0 < xs.getD (2 * i + 1) 0)) : kidL xs i n = 2 * i + 1 := if_neg h
set_option maxHeartbeats 4000000 in
theorem down_any (p g n c i0 m : Nat) (lv : Value) (xs : List Int) (w : World) (rs : List Res) (hS : Sep w (pBlk p (.slice (some ⟨g, 0, none⟩) n c) lv :: iVec g n c xs :: rs)) (hl : xs.length = n) (hm : m ≤ n) (hi0 : i0 ≤ 1000) (hn : n ≤ 1000) :
    Calls Try.prog 30 #[.iface 51 (.pointer (some ⟨p, 0, none⟩)), .int .i64 i0, .int .i64 m] w fun e w' => ∃ b, e = .returned (.bool b) ∧ Sep w' (pBlk p (.slice (some ⟨g, 0, none⟩) n c) lv :: iVec g n c (downL xs i0 m) :: rs) := by
  replace hS := Lib.hid hS
  replace hl := Lib.hid hl
  go_enter Try.func30, Try.ntmps30
  go_wp2_with fail
  go_loopw [7] (fun s wr => ∃ (k : Nat) (cur : List Int), k ≤ 1000 ∧ s = .int .i64 k ∧ Hid (downL xs i0 m = downL cur k m) ∧ Hid (cur.length = n) ∧ Hid (Sep wr (pBlk p (.slice (some ⟨g, 0, none⟩) n c) lv :: iVec g n c cur :: rs))) (fun s _ => 1001 - (intOf s).toNat)
  case atStart => exact ⟨i0, xs, hi0, rfl, rfl, hl, hS⟩
  case round =>
    clear hS hl
    obtain ⟨k, cur, hk, rfl, hE, hl, hS⟩ := hrel
    by_cases h1 : 2 * k + 1 < m
    · have hU := Lib.hid (show downL cur k m = if cur.getD (kidL cur k m) 0 < cur.getD k 0 then downL (swapL cur k (kidL cur k m)) (kidL cur k m) m else cur by rw [downL, dif_pos h1])
      have i1 : 2 * (k : Int) + 1 < (m : Int) := by omega
      have ml := mLess p (some ⟨g, 0, none⟩) n c wr hS.out.b2.2.1
      have c1 := hS.out.to1.vec_cell (ints_at cur (2 * k + 1) (by rw [hl.out]; omega))
      have ck := hS.out.to1.vec_cell (ints_at cur k (by rw [hl.out]; omega))
      by_cases h2 : 2 * k + 2 < m
      · have i2 : 2 * (k : Int) + 2 < (m : Int) := by omega
        have c2 := hS.out.to1.vec_cell (ints_at cur (2 * k + 2) (by rw [hl.out]; omega))
        have HA := Lib.hid (less_any g n c (2 * k + 2) (2 * k + 1) _ _ wr (by omega) (by omega) c2.1 c1.1)
        rw [show ((2 * k + 2 : Nat) : Int) = 2 * (k : Int) + 2 by omega, show ((2 * k + 1 : Nat) : Int) = 2 * (k : Int) + 1 by omega] at HA
        cases hab : decide (cur.getD (2 * k + 2) 0 < cur.getD (2 * k + 1) 0) with
        | true =>
          rw [hab] at HA
          go_wp2_with fail
          refine HA.out.mono ?_
          rintro e w0 ⟨rfl, m0, rfl⟩
          replace hS := Lib.hid (hS.out.drewN m0)
          clear ml c1 c2 ck HA
          obtain ⟨wd, hwd⟩ : ∃ wd, wd = wr.drewN m0 := ⟨_, rfl⟩
          rw [← hwd] at hS ⊢
          clear hwd
          have ml := mLess p (some ⟨g, 0, none⟩) n c _ hS.out.b2.2.1
          have cj := hS.out.to1.vec_cell (ints_at cur (2 * k + 2) (by rw [hl.out]; omega))
          have ck := hS.out.to1.vec_cell (ints_at cur k (by rw [hl.out]; omega))
          have hkid := Lib.hid (show kidL cur k m = 2 * k + 2 from kid_two h2 (of_decide_eq_true hab))
          rw [hkid.out] at hU
          have HL := Lib.hid (less_any g n c (2 * k + 2) k _ _ _ (by omega) (by omega) cj.1 ck.1)
          rw [show ((2 * k + 2 : Nat) : Int) = 2 * (k : Int) + 2 by omega] at HL
          cases hlt : decide (cur.getD (2 * k + 2) 0 < cur.getD k 0) with
          | false =>
            rw [hlt] at HL
            go_wp2_with fail
            refine HL.out.mono ?_
            rintro e w1 ⟨rfl, mm, rfl⟩
            go_wp2_with fail
            go_ret
            refine ⟨_, rfl, ?_⟩
            rw [hE.out, hU.out, if_neg (of_decide_eq_false hlt)]
            exact hS.out.drewN mm
          | true =>
            rw [hlt] at HL
            go_wp2_with fail
            refine HL.out.mono ?_
            rintro e w1 ⟨rfl, mm, rfl⟩
            replace hS := Lib.hid (hS.out.drewN mm)
            have ms := mSwap p (some ⟨g, 0, none⟩) n c _ hS.out.b2.2.1
            have HS := Lib.hid (swap_any k (2 * k + 2) hS.out.to1 hl.out (by omega) (by omega))
            rw [show ((2 * k + 2 : Nat) : Int) = 2 * (k : Int) + 2 by omega] at HS
            clear ml ck cj HL
            go_wp2_with fail
            refine HS.out.mono ?_
            rintro e w2 ⟨rfl, hS2⟩
            have hS3 := Lib.hid hS2.to1
            clear hS2 HS ms hS
            have hE2 := Lib.hid (show downL xs i0 m = downL (swapL cur k (2 * k + 2)) (2 * k + 2) m by rw [hE.out, hU.out, if_pos (of_decide_eq_true hlt)])
            clear hE hU hlt hkid
            go_wp2_with fail
            go_roundw
            case rel => exact ⟨2 * k + 2, swapL cur k (2 * k + 2), by omega, by go_num, hE2, Lib.hid (by rw [swapL_len]; exact hl.out), hS3⟩
            case measure => simp [intOf]; omega
        | false =>
          rw [hab] at HA
          go_wp2_with fail
          refine HA.out.mono ?_
          rintro e w0 ⟨rfl, m0, rfl⟩
          replace hS := Lib.hid (hS.out.drewN m0)
          clear ml c1 c2 ck HA
          obtain ⟨wd, hwd⟩ : ∃ wd, wd = wr.drewN m0 := ⟨_, rfl⟩
          rw [← hwd] at hS ⊢
          clear hwd
          have ml := mLess p (some ⟨g, 0, none⟩) n c _ hS.out.b2.2.1
          have cj := hS.out.to1.vec_cell (ints_at cur (2 * k + 1) (by rw [hl.out]; omega))
          have ck := hS.out.to1.vec_cell (ints_at cur k (by rw [hl.out]; omega))
          have hkid := Lib.hid (show kidL cur k m = 2 * k + 1 from kid_one (fun h => absurd h.2 (of_decide_eq_false hab)))
          rw [hkid.out] at hU
          have HL := Lib.hid (less_any g n c (2 * k + 1) k _ _ _ (by omega) (by omega) cj.1 ck.1)
          rw [show ((2 * k + 1 : Nat) : Int) = 2 * (k : Int) + 1 by omega] at HL
          cases hlt : decide (cur.getD (2 * k + 1) 0 < cur.getD k 0) with
          | false =>
            rw [hlt] at HL
            go_wp2_with fail
            refine HL.out.mono ?_
            rintro e w1 ⟨rfl, mm, rfl⟩
            go_wp2_with fail
            go_ret
            refine ⟨_, rfl, ?_⟩
            rw [hE.out, hU.out, if_neg (of_decide_eq_false hlt)]
            exact hS.out.drewN mm
          | true =>
            rw [hlt] at HL
            go_wp2_with fail
            refine HL.out.mono ?_
            rintro e w1 ⟨rfl, mm, rfl⟩
            replace hS := Lib.hid (hS.out.drewN mm)
            have ms := mSwap p (some ⟨g, 0, none⟩) n c _ hS.out.b2.2.1
            have HS := Lib.hid (swap_any k (2 * k + 1) hS.out.to1 hl.out (by omega) (by omega))
            rw [show ((2 * k + 1 : Nat) : Int) = 2 * (k : Int) + 1 by omega] at HS
            clear ml ck cj HL
            go_wp2_with fail
            refine HS.out.mono ?_
            rintro e w2 ⟨rfl, hS2⟩
            have hS3 := Lib.hid hS2.to1
            clear hS2 HS ms hS
            have hE2 := Lib.hid (show downL xs i0 m = downL (swapL cur k (2 * k + 1)) (2 * k + 1) m by rw [hE.out, hU.out, if_pos (of_decide_eq_true hlt)])
            clear hE hU hlt hkid
            go_wp2_with fail
            go_roundw
            case rel => exact ⟨2 * k + 1, swapL cur k (2 * k + 1), by omega, by go_num, hE2, Lib.hid (by rw [swapL_len]; exact hl.out), hS3⟩
            case measure => simp [intOf]; omega
      · have i2 : ¬ (2 * (k : Int) + 2 < (m : Int)) := by omega
        have cj := c1
        clear c1
        have hkid := Lib.hid (show kidL cur k m = 2 * k + 1 from kid_one (fun h => h2 h.1))
        rw [hkid.out] at hU
        have HL := Lib.hid (less_any g n c (2 * k + 1) k _ _ _ (by omega) (by omega) cj.1 ck.1)
        rw [show ((2 * k + 1 : Nat) : Int) = 2 * (k : Int) + 1 by omega] at HL
        cases hlt : decide (cur.getD (2 * k + 1) 0 < cur.getD k 0) with
        | false =>
          rw [hlt] at HL
          go_wp2_with fail
          refine HL.out.mono ?_
          rintro e w1 ⟨rfl, mm, rfl⟩
          go_wp2_with fail
          go_ret
          refine ⟨_, rfl, ?_⟩
          rw [hE.out, hU.out, if_neg (of_decide_eq_false hlt)]
          exact hS.out.drewN mm
        | true =>
          rw [hlt] at HL
          go_wp2_with fail
          refine HL.out.mono ?_
          rintro e w1 ⟨rfl, mm, rfl⟩
          replace hS := Lib.hid (hS.out.drewN mm)
          have ms := mSwap p (some ⟨g, 0, none⟩) n c _ hS.out.b2.2.1
          have HS := Lib.hid (swap_any k (2 * k + 1) hS.out.to1 hl.out (by omega) (by omega))
          rw [show ((2 * k + 1 : Nat) : Int) = 2 * (k : Int) + 1 by omega] at HS
          clear ml ck cj HL
          go_wp2_with fail
          refine HS.out.mono ?_
          rintro e w2 ⟨rfl, hS2⟩
          have hS3 := Lib.hid hS2.to1
          clear hS2 HS ms hS
          have hE2 := Lib.hid (show downL xs i0 m = downL (swapL cur k (2 * k + 1)) (2 * k + 1) m by rw [hE.out, hU.out, if_pos (of_decide_eq_true hlt)])
          clear hE hU hlt hkid
          go_wp2_with fail
          go_roundw
          case rel => exact ⟨2 * k + 1, swapL cur k (2 * k + 1), by omega, by go_num, hE2, Lib.hid (by rw [swapL_len]; exact hl.out), hS3⟩
          case measure => simp [intOf]; omega
    · have hU := Lib.hid (show downL cur k m = cur by rw [downL, dif_neg h1])
      have i1 : (m : Int) ≤ 2 * (k : Int) + 1 := by omega
      go_wp2_with fail
      go_ret
      refine ⟨_, rfl, ?_⟩
      rw [hE.out, hU.out]
      exact hS.out
end Go.Proofs.Ytbfkkghbkpbhlaa
