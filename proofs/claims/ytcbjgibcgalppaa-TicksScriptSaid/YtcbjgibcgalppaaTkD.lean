/-
  Timers: down. No condition beside timers that can be read.
-/
import Derived.Test.YtcbjgibcgalppaaTkS
namespace Go.Proofs.Ytcbjgibcgalppaa
open Go.RowKit Go.Shelf
theorem kid_two {xs : List Tm} {i n : Nat} (h : 2 * i + 2 < n) (hl : ltT (gt_ xs (2 * i + 2)) (gt_ xs (2 * i + 1)) = true) : kidL ltT xs i n = 2 * i + 2 := if_pos ⟨h, hl⟩
theorem kid_one {xs : List Tm} {i n : Nat} (h : ¬ (2 * i + 2 < n ∧ ltT (gt_ xs (2 * i + 2)) (gt_ xs (2 * i + 1)) = true)) : kidL ltT xs i n = 2 * i + 1 := if_neg h
/-- Where down stands: at its start, or further on. -/
def DnR (xs cur : List Tm) (i0 k m : Nat) : Prop := (k = i0 ∧ cur = xs) ∨ (i0 < k ∧ movesL ltT xs i0 m = true)
theorem dn_end {xs cur : List Tm} {i0 k m : Nat} (h : DnR xs cur i0 k m) (hm : movesL ltT cur k m = false) : decide (i0 < k) = movesL ltT xs i0 m := by
  rcases h with ⟨rfl, rfl⟩ | ⟨h1, h2⟩
  · rw [hm]; simp
  · rw [h2]; simp; omega
theorem dn_step {xs cur cur2 : List Tm} {i0 k k2 m : Nat} (h : DnR xs cur i0 k m) (hm : movesL ltT cur k m = true) (hk : k < k2) : DnR xs cur2 i0 k2 m := by
  rcases h with ⟨rfl, rfl⟩ | ⟨h1, h2⟩
  · exact .inr ⟨hk, hm⟩
  · exact .inr ⟨by omega, h2⟩
theorem moves_at {cur : List Tm} {k m j : Nat} {b : Bool} (h1 : 2 * k + 1 < m) (hj : kidL ltT cur k m = j) (hb : ltT (gt_ cur j) (gt_ cur k) = b) : movesL ltT cur k m = b := by
  unfold movesL
  rw [hj, hb, decide_eq_true h1, Bool.true_and]
theorem moves_no {cur : List Tm} {k m : Nat} (h1 : ¬ 2 * k + 1 < m) : movesL ltT cur k m = false := by
  unfold movesL
  rw [decide_eq_false h1, Bool.false_and]
set_option maxRecDepth 100000 in
set_option maxHeartbeats 4000000 in
theorem down_any (p g n c i0 m : Nat) (nw : Int) (xs : List Tm) (w : World) (rs : List Res) (hS : Sep w (cBlk p nw (.slice (some ⟨g, 0, none⟩) n c) :: tVec (.slice (some ⟨g, 0, none⟩) n c) n xs :: rs)) (hl : xs.length = n) (hm : m ≤ n) (hi0 : i0 ≤ 1000) (hn : n ≤ 1000) :
    Calls Try.prog 36 #[hI p, .int .i64 i0, .int .i64 m] w fun e w' => e = .returned (.bool (movesL ltT xs i0 m)) ∧ Sep w' (cBlk p nw (.slice (some ⟨g, 0, none⟩) n c) :: tVec (.slice (some ⟨g, 0, none⟩) n c) n (downL ltT xs i0 m) :: rs) := by
  replace hS := Lib.hid hS
  replace hl := Lib.hid hl
  go_enter Try.func36, Try.ntmps36
  go_wp2_with fail
  go_loopw [7] (fun s wr => ∃ (k : Nat) (cur : List Tm), k ≤ 1000 ∧ s = .int .i64 k ∧ Hid (downL ltT xs i0 m = downL ltT cur k m) ∧ Hid (DnR xs cur i0 k m) ∧ Hid (cur.length = n) ∧ Hid (Sep wr (cBlk p nw (.slice (some ⟨g, 0, none⟩) n c) :: tVec (.slice (some ⟨g, 0, none⟩) n c) n cur :: rs))) (fun s _ => 1001 - (intOf s).toNat)
  case atStart => exact ⟨i0, xs, hi0, rfl, rfl, Lib.hid (.inl ⟨rfl, rfl⟩), hl, hS⟩
  case round =>
    clear hS hl
    obtain ⟨k, cur, hk, rfl, hE, hD, hl, hS⟩ := hrel
    by_cases h1 : 2 * k + 1 < m
    · have hU := Lib.hid (show downL ltT cur k m = if ltT (gt_ cur (kidL ltT cur k m)) (gt_ cur k) = true then downL ltT (swapL cur k (kidL ltT cur k m)) (kidL ltT cur k m) m else cur by rw [downL, dif_pos h1])
      have i1 : 2 * (k : Int) + 1 < (m : Int) := by omega
      have ml := mLess p (some ⟨g, 0, none⟩) n c wr hS.out.b2.2.2.1
      obtain ⟨c1, _, hg⟩ := hS.out.to1.tAt (2 * k + 1) (by rw [hl.out]; omega)
      obtain ⟨ck, _, _⟩ := hS.out.to1.tAt k (by rw [hl.out]; omega)
      by_cases h2 : 2 * k + 2 < m
      · have i2 : 2 * (k : Int) + 2 < (m : Int) := by omega
        obtain ⟨c2, _, _⟩ := hS.out.to1.tAt (2 * k + 2) (by rw [hl.out]; omega)
        have HA := Lib.hid (less_any g n c (2 * k + 2) (2 * k + 1) _ _ wr (by omega) (by omega) hg c2 c1)
        rw [show ((2 * k + 2 : Nat) : Int) = 2 * (k : Int) + 2 by omega, show ((2 * k + 1 : Nat) : Int) = 2 * (k : Int) + 1 by omega] at HA
        clear c1 c2 ck hg
        cases hab : ltT (gt_ cur (2 * k + 2)) (gt_ cur (2 * k + 1)) with
        | true =>
          rw [hab] at HA
          have hkid := Lib.hid (show kidL ltT cur k m = 2 * k + 2 from kid_two h2 hab)
          clear hab
          go_wp2_with fail
          refine HA.out.mono ?_
          rintro e w0 ⟨rfl, m0⟩
          replace hS := Lib.hid (hS.out.below m0)
          clear ml HA m0
          have ml := mLess p (some ⟨g, 0, none⟩) n c _ hS.out.b2.2.2.1
          obtain ⟨cj, _, hg⟩ := hS.out.to1.tAt (2 * k + 2) (by rw [hl.out]; omega)
          obtain ⟨ck, _, _⟩ := hS.out.to1.tAt k (by rw [hl.out]; omega)
          rw [hkid.out] at hU
          have HQ := Lib.hid (less_any g n c (2 * k + 2) k _ _ _ (by omega) (by omega) hg cj ck)
          rw [show ((2 * k + 2 : Nat) : Int) = 2 * (k : Int) + 2 by omega] at HQ
          clear cj ck hg
          cases hlt : ltT (gt_ cur (2 * k + 2)) (gt_ cur k) with
          | false =>
            rw [hlt] at HQ
            have hEnd := Lib.hid (dn_end hD.out (moves_at h1 hkid.out hlt))
            have hE2 := Lib.hid (show downL ltT xs i0 m = cur by rw [hE.out, hU.out, if_neg (by rw [hlt]; simp)])
            clear hD hE hU hlt hkid
            go_wp2_with fail
            refine HQ.out.mono ?_
            rintro e w1 ⟨rfl, mm⟩
            replace mm := Lib.hid mm
            go_wp2_with fail
            go_ret
            rw [hE2.out, ← hEnd.out]
            exact ⟨rfl, hS.out.below mm.out⟩
          | true =>
            rw [hlt] at HQ
            have hD2 := Lib.hid (dn_step (cur2 := swapL cur k (2 * k + 2)) (k2 := 2 * k + 2) hD.out (moves_at h1 hkid.out hlt) (by omega))
            have hE2 := Lib.hid (show downL ltT xs i0 m = downL ltT (swapL cur k (2 * k + 2)) (2 * k + 2) m by rw [hE.out, hU.out, if_pos hlt])
            clear hD hE hU hlt hkid
            go_wp2_with fail
            refine HQ.out.mono ?_
            rintro e w1 ⟨rfl, mm⟩
            replace hS := Lib.hid (hS.out.below mm)
            clear mm
            have ms := mSwap p (some ⟨g, 0, none⟩) n c _ hS.out.b2.2.2.1
            have HS := Lib.hid (swap_any k (2 * k + 2) hS.out.to1 hl.out (by omega) (by omega))
            rw [show ((2 * k + 2 : Nat) : Int) = 2 * (k : Int) + 2 by omega] at HS
            clear ml HQ
            go_wp2_with fail
            refine HS.out.mono ?_
            rintro e w2 ⟨rfl, hS2⟩
            have hS3 := Lib.hid hS2.to1
            clear hS2 HS ms hS
            go_wp2_with fail
            go_roundw
            case rel => exact ⟨2 * k + 2, swapL cur k (2 * k + 2), by omega, by go_num, hE2, hD2, Lib.hid (by rw [swapL_len]; exact hl.out), hS3⟩
            case measure => simp [intOf]; omega
        | false =>
          rw [hab] at HA
          have hkid := Lib.hid (show kidL ltT cur k m = 2 * k + 1 from kid_one (fun h => absurd h.2 (by rw [hab]; simp)))
          clear hab
          go_wp2_with fail
          refine HA.out.mono ?_
          rintro e w0 ⟨rfl, m0⟩
          replace hS := Lib.hid (hS.out.below m0)
          clear ml HA m0
          have ml := mLess p (some ⟨g, 0, none⟩) n c _ hS.out.b2.2.2.1
          obtain ⟨cj, _, hg⟩ := hS.out.to1.tAt (2 * k + 1) (by rw [hl.out]; omega)
          obtain ⟨ck, _, _⟩ := hS.out.to1.tAt k (by rw [hl.out]; omega)
          rw [hkid.out] at hU
          have HQ := Lib.hid (less_any g n c (2 * k + 1) k _ _ _ (by omega) (by omega) hg cj ck)
          rw [show ((2 * k + 1 : Nat) : Int) = 2 * (k : Int) + 1 by omega] at HQ
          clear cj ck hg
          cases hlt : ltT (gt_ cur (2 * k + 1)) (gt_ cur k) with
          | false =>
            rw [hlt] at HQ
            have hEnd := Lib.hid (dn_end hD.out (moves_at h1 hkid.out hlt))
            have hE2 := Lib.hid (show downL ltT xs i0 m = cur by rw [hE.out, hU.out, if_neg (by rw [hlt]; simp)])
            clear hD hE hU hlt hkid
            go_wp2_with fail
            refine HQ.out.mono ?_
            rintro e w1 ⟨rfl, mm⟩
            replace mm := Lib.hid mm
            go_wp2_with fail
            go_ret
            rw [hE2.out, ← hEnd.out]
            exact ⟨rfl, hS.out.below mm.out⟩
          | true =>
            rw [hlt] at HQ
            have hD2 := Lib.hid (dn_step (cur2 := swapL cur k (2 * k + 1)) (k2 := 2 * k + 1) hD.out (moves_at h1 hkid.out hlt) (by omega))
            have hE2 := Lib.hid (show downL ltT xs i0 m = downL ltT (swapL cur k (2 * k + 1)) (2 * k + 1) m by rw [hE.out, hU.out, if_pos hlt])
            clear hD hE hU hlt hkid
            go_wp2_with fail
            refine HQ.out.mono ?_
            rintro e w1 ⟨rfl, mm⟩
            replace hS := Lib.hid (hS.out.below mm)
            clear mm
            have ms := mSwap p (some ⟨g, 0, none⟩) n c _ hS.out.b2.2.2.1
            have HS := Lib.hid (swap_any k (2 * k + 1) hS.out.to1 hl.out (by omega) (by omega))
            rw [show ((2 * k + 1 : Nat) : Int) = 2 * (k : Int) + 1 by omega] at HS
            clear ml HQ
            go_wp2_with fail
            refine HS.out.mono ?_
            rintro e w2 ⟨rfl, hS2⟩
            have hS3 := Lib.hid hS2.to1
            clear hS2 HS ms hS
            go_wp2_with fail
            go_roundw
            case rel => exact ⟨2 * k + 1, swapL cur k (2 * k + 1), by omega, by go_num, hE2, hD2, Lib.hid (by rw [swapL_len]; exact hl.out), hS3⟩
            case measure => simp [intOf]; omega
      · have i2 : ¬ (2 * (k : Int) + 2 < (m : Int)) := by omega
        have cj := c1
        have hkid := Lib.hid (show kidL ltT cur k m = 2 * k + 1 from kid_one (fun h => h2 h.1))
        clear c1
        rw [hkid.out] at hU
        have HQ := Lib.hid (less_any g n c (2 * k + 1) k _ _ _ (by omega) (by omega) hg cj ck)
        rw [show ((2 * k + 1 : Nat) : Int) = 2 * (k : Int) + 1 by omega] at HQ
        clear cj ck hg
        cases hlt : ltT (gt_ cur (2 * k + 1)) (gt_ cur k) with
        | false =>
          rw [hlt] at HQ
          have hEnd := Lib.hid (dn_end hD.out (moves_at h1 hkid.out hlt))
          have hE2 := Lib.hid (show downL ltT xs i0 m = cur by rw [hE.out, hU.out, if_neg (by rw [hlt]; simp)])
          clear hD hE hU hlt hkid
          go_wp2_with fail
          refine HQ.out.mono ?_
          rintro e w1 ⟨rfl, mm⟩
          replace mm := Lib.hid mm
          go_wp2_with fail
          go_ret
          rw [hE2.out, ← hEnd.out]
          exact ⟨rfl, hS.out.below mm.out⟩
        | true =>
          rw [hlt] at HQ
          have hD2 := Lib.hid (dn_step (cur2 := swapL cur k (2 * k + 1)) (k2 := 2 * k + 1) hD.out (moves_at h1 hkid.out hlt) (by omega))
          have hE2 := Lib.hid (show downL ltT xs i0 m = downL ltT (swapL cur k (2 * k + 1)) (2 * k + 1) m by rw [hE.out, hU.out, if_pos hlt])
          clear hD hE hU hlt hkid
          go_wp2_with fail
          refine HQ.out.mono ?_
          rintro e w1 ⟨rfl, mm⟩
          replace hS := Lib.hid (hS.out.below mm)
          clear mm
          have ms := mSwap p (some ⟨g, 0, none⟩) n c _ hS.out.b2.2.2.1
          have HS := Lib.hid (swap_any k (2 * k + 1) hS.out.to1 hl.out (by omega) (by omega))
          rw [show ((2 * k + 1 : Nat) : Int) = 2 * (k : Int) + 1 by omega] at HS
          clear ml HQ
          go_wp2_with fail
          refine HS.out.mono ?_
          rintro e w2 ⟨rfl, hS2⟩
          have hS3 := Lib.hid hS2.to1
          clear hS2 HS ms hS
          go_wp2_with fail
          go_roundw
          case rel => exact ⟨2 * k + 1, swapL cur k (2 * k + 1), by omega, by go_num, hE2, hD2, Lib.hid (by rw [swapL_len]; exact hl.out), hS3⟩
          case measure => simp [intOf]; omega
    · have hU := Lib.hid (show downL ltT cur k m = cur by rw [downL, dif_neg h1])
      have hEnd := Lib.hid (dn_end hD.out (moves_no h1))
      clear hD
      have i1 : (m : Int) ≤ 2 * (k : Int) + 1 := by omega
      go_wp2_with fail
      go_ret
      rw [hE.out, hU.out, ← hEnd.out]
      exact ⟨rfl, hS.out⟩
end Go.Proofs.Ytcbjgibcgalppaa
