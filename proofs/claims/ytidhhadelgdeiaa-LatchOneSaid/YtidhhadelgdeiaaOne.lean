import Derived.Test.YtidhhadelgdeiaaCallsC
namespace Go.Proofs.Ytidhhadelgdeiaa
open Go.RowKit

set_option maxHeartbeats 4000000 in
set_option maxRecDepth 100000 in
theorem one_walk (a0 : Int) (a : Option Addr) (len cap : Nat) (z : Nat → Nat → Int) (w : World) (_h0 : (Lit.int .i64 a0).wf = true) (h : IsRows 3 w a len cap z) :
    Calls Try.prog 3 #[.int .i64 a0, .slice a len cap] w fun e w' => e = .returned (.bool true) ∧ Below w.heap.size w w' := by
  by_cases h60 : 60 < len
  · go_enter Try.func3, Try.ntmps3
    go_wp2_with (go_at_call 8; refine (lives_any _).mono ?_; rintro e w1 ⟨rfl, b1⟩)
    go_ret
    exact ⟨rfl, b1⟩
  · obtain ⟨n0, PN⟩ := pick_nat a0 16 (by omega) (by omega)
    have hn0 := PN.lt
    obtain ⟨n, hn⟩ : ∃ n : Nat, (1 : Int) + n0 = n := ⟨1 + n0, by omega⟩
    have hn1 : 1 ≤ n := by omega
    have hn2 : n ≤ 16 := by omega
    have H := Lib.hid h
    obtain ⟨i0, hi, hz0, hz1, hz2⟩ := info_parts info3
    have hmk := fun W => run_make_rowN (P := Try.prog) 29 3 i0 _ Try.underlying29 hi hz0 .i64 .i64 n n (Nat.le_refl _) (by rw [hz2]; omega) (by omega) W
    rw [hz1] at hmk
    clear h hi hz0 hz1 hz2
    go_enter Try.func3, Try.ntmps3
    go_wp2_with fail
    refine (lives_any _).mono ?_
    rintro e w1 ⟨rfl, b1⟩
    go_wp2_with fail
    refine (PN.run.out _).mono ?_
    rintro e w2 ⟨rfl, rfl⟩
    go_wp2_with fail
    refine (new_ok n _ hn1 hn2).mono ?_
    rintro e w3 ⟨rfl, hL, b3⟩
    go_wp2_with fail
    have hL' := hL.grown_none (World.grownBy_alloc w3 (Obj.cells (madeCells (Value.int IntKind.i64 0).cells (n * 1)) 3) none)
    have hB := Blk.new w3 3 (madeCells (Value.int IntKind.i64 0).cells (n * 1))
    rw [heldArr_new] at hL' hB
    have bel := (b1.trans (b3.mono b1.size)).alloc (B := w.heap.size) (Nat.le_trans b1.size b3.size) (Obj.cells (heldArr (List.replicate n (-1))) 3)
    have f1 := b1.size
    have f3 := Nat.le_trans b1.size b3.size
    have hgood := Good.new n
    clear hL b1 b3 hmk PN hn0 hn
    have e0 : madeCells #[Value.int .i64 0] n = heldArr (List.replicate n (-1)) := by rw [← heldArr_new, Nat.mul_one]; rfl
    rw [e0]
    clear e0
    generalize List.replicate n (-1 : Int) = L0 at *
    generalize w3.alloc (Obj.cells (heldArr L0) 3) = wl at *
    generalize w3.heap.size = hb at *
    generalize w1.heap.size = g at *
    generalize hp : g + 1 = p at *
    have hp := Lib.hid hp
    have hL' := Lib.hid hL'
    have hB := Lib.hid hB
    have bel := Lib.hid bel
    have hgood := Lib.hid hgood
    go_loopw [8] (fun i wr => ∃ k : Nat, k ≤ len ∧ i = .int .i64 k ∧ ∃ L, Good n L ∧ Lat wr p g L ∧ Blk wr hb 3 (heldArr L) ∧ Below w.heap.size w wr) (fun i _ => len - (intOf i).toNat)
    case atStart => exact ⟨0, Nat.zero_le _, rfl, L0, hgood.out, hL'.out, hB.out, bel.out⟩
    case round =>
      clear hL' hB bel hgood
      obtain ⟨i, hi, rfl, L, hgood, hL, hB, bel⟩ := hrel
      by_cases hlt : i < len
      · obtain ⟨hlc, hcm, b, off, rfl, hbs, hz⟩ : len ≤ cap ∧ cap ≤ maxLen ∧ ∃ b off, a = some ⟨b, off, none⟩ ∧ b < w.heap.size ∧ ∀ i, i < len → ∀ j, j < 3 → w.cell? ⟨b, off + i * 3 + j, none⟩ = some (.int .i64 (z i j)) ∧ (Lit.int .i64 (z i j)).wf = true := ⟨H.out.1, H.out.2.1, H.out.2.2 (by omega)⟩
        · have z0 := (hz i hlt 0 (by omega)).1
          have z1 := (hz i hlt 1 (by omega)).1
          have z2 := (hz i hlt 2 (by omega)).1
          rw [← bel.cell (by exact hbs)] at z0 z1 z2
          rw [Nat.add_zero] at z0
          clear hz H
          generalize z i 0 = c0 at *
          generalize z i 1 = c1 at *
          generalize z i 2 = c2 at *
          obtain ⟨k, PK⟩ := pick_nat c1 n (by omega) (by omega)
          obtain ⟨t, PT⟩ := pick_nat c2 8 (by omega) (by omega)
          obtain ⟨q, PQ⟩ := pick_nat c0 3 (by omega) (by omega)
          have hk := PK.lt
          have ht := PT.lt
          go_wp2_with fail
          go_quiet (first | (go_at_call 9; with_reducible exact Calls.quiet_of_same (PK.quiet.out _)) | (go_at_call 9; with_reducible exact Calls.quiet_of_same (PT.quiet.out _)))
          go_wp2_with fail
          refine (PQ.run.out _).mono ?_
          rintro e w5 ⟨rfl, rfl⟩
          obtain ⟨wq, hwq⟩ : ∃ wq, wq = wr.drewN nq := ⟨_, rfl⟩
          have hL := hL.grown_none (grown_drewN (grown_refl wr none) nq)
          have hB := hB.drewN nq
          have bel := below_drewN bel nq
          rw [← hwq] at hL hB bel ⊢
          clear hwq z0 z1 z2 PK PT PQ
          have hkn : k < L.length := by rw [hgood.1]; omega
          have ht8 : (t : Int) < 8 := ht
          have hok : okB L.length k t = true := by simp [okB]; omega
          have hs := hgood.2 k (by omega)
          have hat := heldArr_at L k hkn
          have hgl := hgood.1
          have hHL := Lib.hid hL
          have hHB := Lib.hid hB
          have hbel := Lib.hid bel
          have hHg := Lib.hid hgood
          have hHat := Lib.hid hat
          clear hL hB bel hgood hat
          have hgw : w.heap.size ≤ g := f1
          have hbw : w.heap.size ≤ hb := f3
          clear f1 f3
          by_cases hq2 : q < 2
          · have H1 := Lib.hid (try_any p g k t L wq hHL.out)
            by_cases hs1 : L.getD k 0 = -1
            · have eB : tryB L k t = true := by simp only [tryB, hok, Int.toNat_natCast, hs1]; rfl
              have eC : tryC L k t = 0 := by simp only [tryC, hok, Int.toNat_natCast, hs1]; rw [if_neg (by simp), if_neg (by omega)]
              have eS := Lib.hid (show tryS L k t = L.set k t by simp only [tryS, hok, Int.toNat_natCast, hs1]; simp)
              have eT : ((0 : Int) == (t : Int) + 1) = false := by rw [beq_eq_false_iff_ne]; omega
              have eA := Lib.hid (show (heldArr L)[k]? = some (.int .i64 0) by rw [hHat.out, hs1]; rfl)
              clear hs hs1 hok
              go_wp2_with fail
              refine H1.out.mono ?_
              rintro e w6 ⟨rfl, hL6, hg6⟩
              rw [eS.out] at hL6
              have hB6 := hHB.out.grown hg6 (fun e => by injection e with e; obtain ⟨cs, hcs, _⟩ := hHL.out.hg; exact hHB.out.ne_ hcs (by decide) e)
              have hbel6 := Lib.hid (below_grown hbel.out hg6 hbel.out.size hgw)
              have hcell := hB6.cell k
              rw [eA.out] at hcell
              have hfr := hB6.frozen k
              have hL6 := Lib.hid hL6
              have hB6 := Lib.hid hB6
              clear hg6
              go_wp2_with fail
              go_roundw
              case rel =>
                have hgr : w6.grownBy (w6.setCell ⟨hb, k, none⟩ (.int .i64 ((t : Int) + 1))) (some hb) := grown_setCell
                exact ⟨i + 1, by omega, by go_num, L.set k t, hHg.out.set k t (by omega), hL6.out.grown_type hB6.out (by decide) hgr, heldArr_set L k t ▸ hB6.out.set_ k _, below_grown hbel6.out hgr hbel6.out.size hbw⟩
              case measure => simp [intOf]; omega
            · by_cases hs2 : L.getD k 0 = t
              · have eB : tryB L k t = false := by simp only [tryB, hok, Int.toNat_natCast]; simp only [hs1]; rfl
                have eC : tryC L k t = 4 := by simp only [tryC, hok, Int.toNat_natCast, hs2]; simp
                have eS := Lib.hid (show tryS L k t = L by simp only [tryS, hok, Int.toNat_natCast, hs1]; simp)
                have eT : ((t : Int) + 1 == 0) = false := by rw [beq_eq_false_iff_ne]; omega
                have eA := Lib.hid (show (heldArr L)[k]? = some (.int .i64 ((t : Int) + 1)) by rw [hHat.out, hs2])
                clear hs hs1 hs2 hok
                go_wp2_with fail
                refine H1.out.mono ?_
                rintro e w6 ⟨rfl, hL6, hg6⟩
                rw [eS.out] at hL6
                have hB6 := hHB.out.grown hg6 (fun e => by injection e with e; obtain ⟨cs, hcs, _⟩ := hHL.out.hg; exact hHB.out.ne_ hcs (by decide) e)
                have hbel6 := Lib.hid (below_grown hbel.out hg6 hbel.out.size hgw)
                have hcell := hB6.cell k
                rw [eA.out] at hcell
                have hfr := hB6.frozen k
                have hL6 := Lib.hid hL6
                have hB6 := Lib.hid hB6
                clear hg6
                go_wp2_with fail
                go_roundw
                case rel => exact ⟨i + 1, by omega, by go_num, L, hHg.out, hL6.out, hB6.out, hbel6.out⟩
                case measure => simp [intOf]; omega
              · have eB : tryB L k t = false := by simp only [tryB, hok, Int.toNat_natCast]; simp only [hs1]; rfl
                have eC : tryC L k t = 0 := by simp only [tryC, hok, Int.toNat_natCast, hs2]; simp
                have eS := Lib.hid (show tryS L k t = L by simp only [tryS, hok, Int.toNat_natCast, hs1]; simp)
                have eA := Lib.hid (show (heldArr L)[k]? = some (.int .i64 (L.getD k 0 + 1)) by rw [hHat.out])
                have eT : (L.getD k 0 + 1 == 0) = false := by rw [beq_eq_false_iff_ne]; omega
                have eU : (L.getD k 0 + 1 == (t : Int) + 1) = false := by rw [beq_eq_false_iff_ne]; omega
                generalize L.getD k 0 = s0 at *
                clear hs hs1 hs2 hok
                go_wp2_with fail
                refine H1.out.mono ?_
                rintro e w6 ⟨rfl, hL6, hg6⟩
                rw [eS.out] at hL6
                have hB6 := hHB.out.grown hg6 (fun e => by injection e with e; obtain ⟨cs, hcs, _⟩ := hHL.out.hg; exact hHB.out.ne_ hcs (by decide) e)
                have hbel6 := Lib.hid (below_grown hbel.out hg6 hbel.out.size hgw)
                have hcell := hB6.cell k
                rw [eA.out] at hcell
                have hfr := hB6.frozen k
                have hL6 := Lib.hid hL6
                have hB6 := Lib.hid hB6
                clear hg6
                go_wp2_with fail
                go_roundw
                case rel => exact ⟨i + 1, by omega, by go_num, L, hHg.out, hL6.out, hB6.out, hbel6.out⟩
                case measure => simp [intOf]; omega
          · have H1 := Lib.hid (free_any p g k t L wq hHL.out)
            by_cases hs2 : L.getD k 0 = t
            · have eB : freeC L k t = 0 := by simp only [freeC, hok, Int.toNat_natCast, hs2]; simp
              have eS := Lib.hid (show freeS L k t = L.set k (-1) by simp only [freeS, hok, Int.toNat_natCast, hs2]; simp)
              have eA := Lib.hid (show (heldArr L)[k]? = some (.int .i64 ((t : Int) + 1)) by rw [hHat.out, hs2])
              clear hs hs2 hok
              go_wp2_with fail
              refine H1.out.mono ?_
              rintro e w6 ⟨rfl, hL6, hg6⟩
              rw [eS.out] at hL6
              have hB6 := hHB.out.grown hg6 (fun e => by injection e with e; obtain ⟨cs, hcs, _⟩ := hHL.out.hg; exact hHB.out.ne_ hcs (by decide) e)
              have hbel6 := Lib.hid (below_grown hbel.out hg6 hbel.out.size hgw)
              have hcell := hB6.cell k
              rw [eA.out] at hcell
              have hfr := hB6.frozen k
              have hL6 := Lib.hid hL6
              have hB6 := Lib.hid hB6
              clear hg6
              go_wp2_with fail
              go_roundw
              case rel =>
                have hgr : w6.grownBy (w6.setCell ⟨hb, k, none⟩ (.int .i64 (0))) (some hb) := grown_setCell
                exact ⟨i + 1, by omega, by go_num, L.set k (-1), hHg.out.set k (-1) (.inl rfl), hL6.out.grown_type hB6.out (by decide) hgr, heldArr_set L k (-1) ▸ hB6.out.set_ k _, below_grown hbel6.out hgr hbel6.out.size hbw⟩
              case measure => simp [intOf]; omega
            · have eB : freeC L k t = 6 := by simp only [freeC, hok, Int.toNat_natCast, hs2]; simp
              have eS := Lib.hid (show freeS L k t = L by simp only [freeS, hok, Int.toNat_natCast, hs2]; simp)
              have eA := Lib.hid (show (heldArr L)[k]? = some (.int .i64 (L.getD k 0 + 1)) by rw [hHat.out])
              have eU : (L.getD k 0 + 1 == (t : Int) + 1) = false := by rw [beq_eq_false_iff_ne]; omega
              generalize L.getD k 0 = s0 at *
              clear hs hs2 hok
              go_wp2_with fail
              refine H1.out.mono ?_
              rintro e w6 ⟨rfl, hL6, hg6⟩
              rw [eS.out] at hL6
              have hB6 := hHB.out.grown hg6 (fun e => by injection e with e; obtain ⟨cs, hcs, _⟩ := hHL.out.hg; exact hHB.out.ne_ hcs (by decide) e)
              have hbel6 := Lib.hid (below_grown hbel.out hg6 hbel.out.size hgw)
              have hcell := hB6.cell k
              rw [eA.out] at hcell
              have hfr := hB6.frozen k
              have hL6 := Lib.hid hL6
              have hB6 := Lib.hid hB6
              clear hg6
              go_wp2_with fail
              go_roundw
              case rel => exact ⟨i + 1, by omega, by go_num, L, hHg.out, hL6.out, hB6.out, hbel6.out⟩
              case measure => simp [intOf]; omega
      · go_wp2_with fail
        clear H
        have hgw : w.heap.size ≤ g := f1
        have hbw : w.heap.size ≤ hb := f3
        clear f1 f3
        have hpl := hL.hp.lt
        have hHg := Lib.hid hgood
        have hgl := hgood.1
        have hL := Lib.hid hL
        have hB := Lib.hid hB
        have bel := Lib.hid bel
        clear hgood
        go_loopw [14, 15] (fun s t w2 => ∃ k : Nat, k ≤ 8 ∧ t = .int .i64 k ∧ s = .int .i64 (hsum L n k) ∧ Lat w2 p g L ∧ Blk w2 hb 3 (heldArr L) ∧ Below w.heap.size w w2) (fun _ t _ => 8 - (intOf t).toNat)
        case atStart => exact ⟨0, by omega, rfl, rfl, hL.out, hB.out, bel.out⟩
        case round =>
          clear hL hB bel
          obtain ⟨k, hk, rfl, rfl, hL2, hB2, bel2⟩ := hrel
          have hL2 := Lib.hid hL2
          have hB2 := Lib.hid hB2
          have bel2 := Lib.hid bel2
          have hsl : hsum L n k ≤ 128 := Nat.le_trans (hsum_le L n k) (Nat.le_trans (Nat.mul_le_mul hk hn2) (by decide))
          by_cases hlt : k < 8
          · have HC := Lib.hid (held_any p g k L _ hL2.out)
            go_wp2_with fail
            refine HC.out.mono ?_
            rintro e w4 ⟨v, rfl, hown, hb4⟩
            obtain ⟨va, vc, rfl⟩ := own_slice hown
            have hml := heldK_len L k L.length
            obtain ⟨M, hM⟩ : ∃ M, M = heldK L k L.length := ⟨_, rfl⟩
            rw [← hM] at hml hown ⊢
            rw [hgl] at hM hml
            have hspec := Lib.hid (show ∀ j (hj : j < M.length), ∃ q : Nat, M[j] = q ∧ q < n ∧ L.getD q 0 = k from by rw [hM]; exact heldK_spec L k n)
            have hup := Lib.hid (show ∀ j (hj : j + 1 < M.length), M[j] < M[j + 1] from by rw [hM]; exact heldK_up L k n)
            have hsum' := Lib.hid (show hsum L n (k + 1) = hsum L n k + M.length from by rw [hM]; rfl)
            clear hM
            have hcs := Lib.hid (fun hn => own_cells hown hn)
            have hL4 := Lib.hid (hL2.out.below hb4)
            have hB4 := Lib.hid (hB2.out.below' hb4)
            have bel4 := Lib.hid (bel2.out.trans (hb4.mono bel2.out.size))
            clear hown hb4 HC
            go_wp2_with fail
            go_loopw [17] (fun j w5 => ∃ q : Nat, q ≤ M.length ∧ j = .int .i64 q ∧ ∃ nd, w5 = w4.drewN nd) (fun j _ => M.length - (intOf j).toNat)
            case atStart => exact ⟨0, by omega, rfl, 0, rfl⟩
            case round =>
              obtain ⟨q, hq, rfl, nd, rfl⟩ := hrel
              by_cases hql : q < M.length
              · obtain ⟨mq, hm1, hm2, hm3⟩ := hspec.out q hql
                obtain ⟨gv, rfl, hgv, hgvl, hcell⟩ := hcs.out (by omega)
                have hc1 := hcell q (by simpa using hql)
                rw [List.getElem_map, hm1] at hc1
                have hc2 := hB4.out.cell mq
                rw [heldArr_at L mq (by omega), hm3] at hc2
                have hd1 : decide ((mq : Int) < 0) = false := by rw [decide_eq_false_iff_not]; omega
                have hd2 : decide (n ≤ mq) = false := by rw [decide_eq_false_iff_not]; omega
                cases q with
                | zero =>
                  clear hcell
                  go_wp2_with fail
                  go_quiet (fail)
                  go_wp2_with fail
                  go_roundw
                  case rel => exact ⟨1, by omega, rfl, _, rfl⟩
                  case measure => simp [intOf]; omega
                | succ q => 
                  obtain ⟨mr, hr1, hr2, hr3⟩ := hspec.out q (by omega)
                  have hc3 := hcell q (by simpa using (by omega : q < M.length))
                  rw [List.getElem_map, hr1] at hc3
                  have hI0 : (0 : Int) ≤ (q : Int) + 1 := by omega
                  have hI1 : (q : Int) + 1 < (M.length : Int) := by omega
                  have hI2 : (0 : Int) < (q : Int) + 1 := by omega
                  have hu := hup.out q hql
                  rw [hr1, hm1] at hu
                  clear hcell
                  go_wp2_with fail
                  have hd3 : decide ((0 : Int) < (q : Int) + 1) = true := by rw [decide_eq_true_eq]; omega
                  have hd4 : decide (mq ≤ mr) = false := by rw [decide_eq_false_iff_not]; omega
                  go_quiet (fail)
                  go_wp2_with fail
                  go_roundw
                  case rel => exact ⟨q + 1 + 1, by omega, by go_num, _, rfl⟩
                  case measure => simp [intOf]; omega
              · go_wp2_with fail
                go_roundw
                case rel => exact ⟨k + 1, by omega, by go_num, by rw [hsum'.out]; go_num, hL4.out.grown_none (grown_drewN (grown_refl _ _) _), hB4.out.drewN _, below_drewN bel4.out _⟩
                case measure => simp [intOf]; omega
          · go_wp2_with fail
            have hk8 : k = 8 := by omega
            subst hk8
            have hsc := Lib.hid (show hsum L n 8 = cnt L n by exact hsum_cnt L n hHg.out.2)
            generalize hsum L n 8 = S at *
            go_loop [18, 19] (fun c j => ∃ q : Nat, q ≤ n ∧ j = .int .i64 q ∧ c = .int .i64 (cnt L q)) (fun _ j => n - (intOf j).toNat)
            case atStart => exact ⟨0, by omega, rfl, rfl⟩
            case round =>
              obtain ⟨q, hq, rfl, rfl⟩ := hrel
              have hcq := cnt_le L q
              by_cases hqn : q < n
              · have hc2 := hB2.out.cell q
                rw [heldArr_at L q (by omega)] at hc2
                have hs := hHg.out.2 q hqn
                have hcn := Lib.hid (show cnt L (q + 1) = cnt L q + (if L.getD q 0 = -1 then 0 else 1) from rfl)
                generalize L.getD q 0 = s0 at *
                by_cases hs1 : s0 = -1
                · rw [if_pos hs1] at hcn
                  have hs2 : ¬ 0 < s0 + 1 := by omega
                  clear hs hs1
                  go_wp2_with fail
                  go_round
                  case rel => exact ⟨q + 1, by omega, by go_num, by rw [hcn.out]; go_num⟩
                  case measure => simp [intOf]; omega
                · rw [if_neg hs1] at hcn
                  have hs2 : 0 < s0 + 1 := by omega
                  clear hs hs1
                  go_wp2_with fail
                  go_round
                  case rel => exact ⟨q + 1, by omega, by go_num, by rw [hcn.out]; go_num⟩
                  case measure => simp [intOf]; omega
              · have hqn : q = n := by omega
                subst hqn
                have hT := Lib.hid (taken_any p g L _ hL2.out)
                rw [hgl] at hT
                obtain rfl : S = cnt L q := hsc.out
                go_wp2_with fail
                refine hT.out.mono ?_
                rintro e w7 ⟨rfl, rfl⟩
                go_wp2_with fail
                go_ret
                exact ⟨by simp, bel2.out⟩
end Go.Proofs.Ytidhhadelgdeiaa
