import Derived.Test.YtidhhadelgdeiaaCallsD
import Derived.StillTailTactics
namespace Go.Proofs.Ytidhhadelgdeiaa
open Go.RowKit

theorem cnt_set (L : List Int) (k : Nat) (t : Int) (hk : k < L.length) (h0 : L.getD k 0 = -1) (ht : t ≠ -1) : ∀ n, cnt (L.set k t) n = cnt L n + (if k < n then 1 else 0)
  | 0 => by simp [cnt]
  | n+1 => by
    have ih := cnt_set L k t hk h0 ht n
    simp only [cnt]
    rw [ih, getD_set _ _ _ _ hk]
    by_cases e : k = n
    · subst e
      rw [if_pos rfl, if_neg ht, h0]
      simp
    · rw [if_neg e]
      generalize (if L.getD n 0 = -1 then 0 else 1) = x
      by_cases hkn : k < n
      · rw [if_pos hkn, if_pos (by omega)]; omega
      · rw [if_neg hkn, if_neg (by omega)]; omega
theorem set_set (L : List Int) (k : Nat) (t : Int) (hk : k < L.length) (h0 : L.getD k 0 = -1) : (L.set k t).set k (-1) = L := by
  rw [List.set_set]
  apply List.ext_getElem?
  intro i
  rw [List.getElem?_set]
  by_cases e : k = i
  · subst e
    have : L[k]? = some (-1) := by rw [List.getElem?_eq_getElem hk, ← h0, getD_lt hk]
    rw [if_pos rfl, if_pos hk, this]
  · simp [e]

set_option maxHeartbeats 1000000 in
set_option maxRecDepth 100000 in
theorem undo_walk (a0 : Int) (a : Option Addr) (len cap : Nat) (z : Nat → Nat → Int) (a2 a3 : Int) (w : World) (_h0 : (Lit.int .i64 a0).wf = true) (h : IsRows 3 w a len cap z) (_h2 : (Lit.int .i64 a2).wf = true) (_h3 : (Lit.int .i64 a3).wf = true) :
    Calls Try.prog 5 #[.int .i64 a0, .slice a len cap, .int .i64 a2, .int .i64 a3] w fun e w' => e = .returned (.bool true) ∧ Below w.heap.size w w' := by
  by_cases h60 : 60 < len
  · go_enter Try.func5, Try.ntmps5
    go_wp2_with (go_at_call 8; refine (lives_any _).mono ?_; rintro e w1 ⟨rfl, b1⟩)
    go_ret
    exact ⟨rfl, b1⟩
  · obtain ⟨n0, PN⟩ := pick_nat a0 16 (by omega) (by omega)
    have hn0 := PN.lt
    obtain ⟨n, hn⟩ : ∃ n : Nat, (1 : Int) + n0 = n := ⟨1 + n0, by omega⟩
    have hn1 : 1 ≤ n := by omega
    have hn2 : n ≤ 16 := by omega
    have H := Lib.hid h
    obtain ⟨k, PK0⟩ := pick_nat a2 n (by omega) (by omega)
    obtain ⟨t, PT0⟩ := pick_nat a3 8 (by omega) (by omega)
    have hkn : k < n := by have := PK0.lt; omega
    have ht8 : t < 8 := by have := PT0.lt; omega
    clear h
    go_enter Try.func5, Try.ntmps5
    go_wp2_with fail
    refine (lives_any _).mono ?_
    rintro e w1 ⟨rfl, b1⟩
    go_wp2_with fail
    refine (PN.run.out _).mono ?_
    rintro e w2 ⟨rfl, rfl⟩
    go_wp2_with fail
    refine (new_ok n _ hn1 hn2).mono ?_
    rintro e w3 ⟨rfl, hLa, b3⟩
    go_wp2_with fail
    have hgood := Good.new n
    have bel := Lib.hid (b1.trans (b3.mono b1.size))
    have hg : w.heap.size ≤ w1.heap.size := b1.size
    have hL := Lib.hid hLa
    replace hgood := Lib.hid hgood
    clear b1 b3 PN hn0 hn hLa
    generalize List.replicate n (-1 : Int) = L0 at *
    generalize w1.heap.size = g at *
    generalize hp : g + 1 = p at *
    replace hp := Lib.hid hp
    go_loopw [11] (fun i wr => ∃ k1 : Nat, k1 ≤ len ∧ i = .int .i64 k1 ∧ ∃ L, Good n L ∧ Lat wr p g L ∧ Below w.heap.size w wr) (fun i _ => len - (intOf i).toNat)
    case atStart => exact ⟨0, Nat.zero_le _, rfl, L0, hgood.out, hL.out, bel.out⟩
    case round =>
      clear hL bel hgood
      obtain ⟨i, hi, rfl, L, hgood, hL, bel⟩ := hrel
      have hgl := hgood.1
      replace hgood := Lib.hid hgood
      by_cases hlt : i < len
      · obtain ⟨hlc, hcm, b, off, rfl, hbs, hz⟩ : len ≤ cap ∧ cap ≤ maxLen ∧ ∃ b off, a = some ⟨b, off, none⟩ ∧ b < w.heap.size ∧ ∀ i, i < len → ∀ j, j < 3 → w.cell? ⟨b, off + i * 3 + j, none⟩ = some (.int .i64 (z i j)) ∧ (Lit.int .i64 (z i j)).wf = true := ⟨H.out.1, H.out.2.1, H.out.2.2 (by omega)⟩
        have z1 := (hz i hlt 1 (by omega)).1
        have z2 := (hz i hlt 2 (by omega)).1
        rw [← bel.cell (by exact hbs)] at z1 z2
        clear hz H PK0 PT0
        generalize z i 1 = c1 at *
        generalize z i 2 = c2 at *
        obtain ⟨m, PK⟩ := pick_nat c1 n (by omega) (by omega)
        obtain ⟨u, PT⟩ := pick_nat c2 8 (by omega) (by omega)
        have hmn : m < n := by have := PK.lt; omega
        have hu8 : u < 8 := by have := PT.lt; omega
        replace hL := Lib.hid (hL.grown_none (grown_drewN (grown_refl wr none) 1))
        replace bel := Lib.hid bel
        go_wp2_with fail
        refine wp_region_still_tail 14 (by kernel_rfl) (by kernel_rfl) ?_
        simp only [List.take_succ_cons, List.take_zero, List.drop_succ_cons, List.drop_zero]
        iterate 7 still_step
        still_call (PK.quiet.out _)
        iterate 5 still_step
        still_call (PT.quiet.out _)
        refine wpStill_nil ?_
        change wpList _ _ _ _ _ wr.drew
        have hL : Hid (Lat wr.drew p g L) := hL
        have bel : Hid (Below w.heap.size w wr.drew) := bel.out.drew
        clear z1 z2
        generalize wr.drew = wq at *
        go_wp2_with fail
        refine (try_any p g m u L _ hL.out).mono ?_
        rintro e w6 ⟨rfl, hL6, hg6⟩
        have bel6 := Lib.hid (below_grown bel.out hg6 bel.out.size hg)
        have hgood6 : Hid (Good n (tryS L m u)) := by
          unfold tryS
          split
          · exact hgood.out.set _ _ (by omega)
          · exact hgood.out
        replace hL6 := Lib.hid hL6
        clear hg6 hL bel hgood
        go_wp2_with fail
        go_roundw
        case rel => exact ⟨i + 1, by omega, by go_num, _, hgood6.out, hL6.out, bel6.out⟩
        case measure => simp [intOf]; omega
      · replace hL := Lib.hid hL
        replace bel := Lib.hid bel
        have hgp : g < p := by have := hp.out; omega
        have hplt := hL.out.hp.lt
        clear H
        go_wp2_with fail
        refine (PK0.run.out _).mono ?_
        rintro e w5 ⟨rfl, rfl⟩
        go_wp2_with fail
        refine (PT0.run.out _).mono ?_
        rintro e w5 ⟨rfl, rfl⟩
        clear PK0 PT0
        go_wp2_with fail
        refine (held_any p g t L _ hL.out).mono ?_
        rintro e w4 ⟨v, rfl, hown, hb4⟩
        obtain ⟨va, vc, rfl⟩ := own_slice hown
        have hL4 := Lib.hid (hL.out.below hb4)
        have hown4 := Lib.hid hown
        have bel4 := Lib.hid (bel.out.trans (hb4.mono bel.out.size))
        clear hown hb4 bel hL
        have hml := heldK_len L t L.length
        have hok : okB L.length k t = true := by simp [okB]; omega
        have hok0 : okB L.length k 0 = true := by simp [okB]; omega
        have hkl : k < L.length := by omega
        have HT := Lib.hid (taken_any p g L _ hL4.out)
        have HH := Lib.hid (holder_any p g k L _ hL4.out)
        have HR := Lib.hid (try_any p g k t L _ hL4.out)
        have hcl := cnt_le L L.length
        obtain ⟨c, hc0⟩ : ∃ c, c = cnt L L.length := ⟨_, rfl⟩
        rw [← hc0] at HT hcl
        replace hc0 := Lib.hid hc0
        have hc16 : c ≤ 16 := by omega
        have hml16 : (heldK L t L.length).length ≤ 16 := by omega
        replace hgl := Lib.hid hgl
        clear hml hcl
        go_wp2_with fail
        refine HT.out.mono ?_
        rintro e w6 ⟨rfl, rfl⟩
        go_wp2_with fail
        refine HH.out.mono ?_
        rintro e w6 ⟨rfl, rfl⟩
        clear HT HH
        by_cases hs : L.getD k 0 = -1
        · have eB : hasB L k = false := by simp only [hasB, hok0, Int.toNat_natCast, hs]; rfl
          have tB : tryB L k t = true := by simp only [tryB, hok, Int.toNat_natCast, hs]; rfl
          have tC : tryC L k t = 0 := by simp only [tryC, hok, Int.toNat_natCast, hs]; rw [if_neg (by simp), if_neg (by omega)]
          have tS := Lib.hid (show tryS L k t = L.set k t by simp only [tryS, hok, Int.toNat_natCast, hs]; simp)
          have hc := Lib.hid (show cnt (L.set k t) L.length = c + 1 by rw [hc0.out, cnt_set L k t hkl hs (by omega), if_pos hkl])
          have fC := Lib.hid (show freeC (L.set k t) k t = 0 by simp only [freeC, List.length_set, hok, Int.toNat_natCast, getD_set _ _ _ _ hkl]; simp)
          have fS := Lib.hid (show freeS (L.set k t) k t = L by simp only [freeS, List.length_set, hok, Int.toNat_natCast, getD_set _ _ _ _ hkl]; simp only [if_true, and_self]; exact set_set L k t hkl hs)
          clear hs hok hok0
          go_wp2_with fail
          refine HR.out.mono ?_
          rintro e w7 ⟨rfl, hL7, hg7⟩
          rw [tS.out] at hL7
          have hown7 := Lib.hid (hown4.out.kept hg7 (.inr (fun e => by have := (hown4.out.lt _ e).1; omega)))
          have bel7 := Lib.hid (below_grown bel4.out hg7 bel4.out.size hg)
          have HT := taken_any p g _ _ hL7
          rw [List.length_set, hc.out, show ((c + 1 : Nat) : Int) = (c : Int) + 1 from by omega] at HT
          replace HT := Lib.hid HT
          have HF := free_any p g k t _ _ hL7
          rw [fC.out, fS.out] at HF
          replace HF := Lib.hid HF
          clear hg7 hL7 HR hown4 bel4 hL4
          go_wp2_with fail
          refine HT.out.mono ?_
          rintro e w8 ⟨rfl, rfl⟩
          go_wp2_with fail
          refine HF.out.mono ?_
          rintro e w8 ⟨rfl, hL8, hg8⟩
          have hown8 := Lib.hid (hown7.out.kept hg8 (.inr (fun e => by have := (hown7.out.lt _ e).1; omega)))
          have bel8 := Lib.hid (below_grown bel7.out hg8 bel7.out.size hg)
          have HT8 := taken_any p g _ _ hL8
          rw [← hc0.out] at HT8
          replace HT8 := Lib.hid HT8
          have HD8 := Lib.hid (held_any p g t _ _ hL8)
          clear hg8 hL8 HT HF hown7 bel7
          go_wp2_with fail
          refine HT8.out.mono ?_
          rintro e w9 ⟨rfl, rfl⟩
          go_wp2_with fail
          refine HD8.out.mono ?_
          rintro e w9 ⟨v9, rfl, hown9, hb9⟩
          have r1 := RI.of_own hown9
          have r2 := (RI.of_own hown8.out).below hb9
          have bel9 := Lib.hid (bel8.out.trans (hb9.mono bel8.out.size))
          have HS := Lib.hid (same_true _ _ _ _ (by omega) r1 r2)
          clear hown9 hb9 r1 r2 hown8 HD8 HT8 bel8
          go_wp2_with fail
          refine HS.out.mono ?_
          rintro e w10 ⟨rfl, nd, rfl⟩
          go_wp2_with fail
          go_ret
          exact ⟨rfl, below_drewN bel9.out _⟩
        · have eB : hasB L k = true := by simp only [hasB, hok0, Int.toNat_natCast]; simpa using hs
          have tB : tryB L k t = false := by simp only [tryB, hok, Int.toNat_natCast]; simpa using hs
          have tS := Lib.hid (show tryS L k t = L by simp only [tryS, hok, Int.toNat_natCast, hs]; simp)
          clear hs hok hok0
          go_wp2_with fail
          refine HR.out.mono ?_
          rintro e w7 ⟨rfl, hL7, hg7⟩
          rw [tS.out] at hL7
          have hown7 := Lib.hid (hown4.out.kept hg7 (.inr (fun e => by have := (hown4.out.lt _ e).1; omega)))
          have bel7 := Lib.hid (below_grown bel4.out hg7 bel4.out.size hg)
          have HD8 := Lib.hid (held_any p g t _ _ hL7)
          have hL7' := Lib.hid hL7
          clear hg7 hL7 HR hown4 bel4 hL4
          go_wp2_with fail
          refine HD8.out.mono ?_
          rintro e w9 ⟨v9, rfl, hown9, hb9⟩
          have r1 := RI.of_own hown9
          have r2 := (RI.of_own hown7.out).below hb9
          have bel9 := Lib.hid (bel7.out.trans (hb9.mono bel7.out.size))
          have HT9 := fun nd => taken_any p g _ _ ((hL7'.out.below hb9).grown_none (grown_drewN (grown_refl _ none) nd))
          rw [← hc0.out] at HT9
          replace HT9 := Lib.hid HT9
          have HS := Lib.hid (same_true _ _ _ _ (by omega) r1 r2)
          clear hown9 hb9 r1 r2 hown7 HD8 bel7
          go_wp2_with fail
          refine HS.out.mono ?_
          rintro e w10 ⟨rfl, nd, rfl⟩
          go_wp2_with fail
          refine (HT9.out nd).mono ?_
          rintro e w10 ⟨rfl, rfl⟩
          go_wp2_with fail
          go_ret
          exact ⟨by simp, below_drewN bel9.out _⟩
end Go.Proofs.Ytidhhadelgdeiaa
