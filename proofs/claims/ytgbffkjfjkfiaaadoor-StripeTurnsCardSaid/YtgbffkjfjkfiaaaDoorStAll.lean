/-
  The walk of StripeAll. No condition beside arguments that can be read.
-/
import Derived.Test.YtgbffkjfjkfiaaaDoorStR
import Derived.Test.YtgbffkjfjkfiaaaDoorSame
import Derived.Test.YtgbffkjfjkfiaaaDoorPick
namespace Go.Proofs.YtgbffkjfjkfiaaaDoor
open Go.RowKit
theorem vi_riA {w : World} {v : Value} {l : List Int} {rs : List Res} (h : Sep w (vi v l :: rs)) : RI w v l := h.vec_ri
theorem check_vR (t r n : Int) (w : World) (h : (if lv t r = -1 then 2 else 0) = n) : Calls Tryd.prog 11 #[(.agg #[.int .i64 t, .int .i64 r])] w fun e w' => e = .returned (.int .i64 n) ∧ Below w.heap.size w w' := by
  subst h
  exact checkR_any t r w
theorem ofV_neg {t r s : Int} (h1 : 1 ≤ s) (h2 : s ≤ 16) (h : ofV t r s < 0) : lv t r = -1 ∧ ofV t r s = -1 := by
  unfold ofV at h ⊢
  split at h
  · have := Int.emod_nonneg (hashN t r : Int) (show s ≠ 0 by omega)
    omega
  · rename_i k
    exact ⟨by omega, by rw [if_neg k]⟩
theorem ofV_pos {t r s : Int} (h : ¬ ofV t r s < 0) : lv t r ≠ -1 := by
  unfold ofV at h
  split at h
  · rename_i k; exact k.2.2
  · omega
set_option maxHeartbeats 8000000 in
set_option maxRecDepth 100000 in
theorem stall_walk (a : Option Addr) (len cap : Nat) (z : Nat → Nat → Int) (a1 : Int) (w : World) (h : IsRows 2 w a len cap z) (_hw : (Lit.int .i64 a1).wf = true) :
    Calls Tryd.prog 3 #[.slice a len cap, .int .i64 a1] w fun e w' => e = .returned (.bool true) ∧ Below w.heap.size w w' := by
  by_cases h100 : 100 < len
  · go_enter Tryd.func3, Tryd.ntmps3
    go_wp2_with fail
    refine (lives_any _).mono ?_
    rintro e w1 ⟨rfl, b1⟩
    go_wp2_with fail
    go_ret
    exact ⟨rfl, b1⟩
  · obtain ⟨n0, PN⟩ := pick_nat a1 16 (by omega) (by omega)
    have hn0 := PN.lt
    obtain ⟨s, hs⟩ : ∃ s : Nat, (1 : Int) + n0 = s := ⟨1 + n0, by omega⟩
    have hs1 : 1 ≤ s := by omega
    have hs2 : s ≤ 16 := by omega
    have hRN := Lib.hid (rn_rows h)
    have hR := Lib.hid h
    obtain ⟨l, hl⟩ : ∃ l, l = rowsL z len := ⟨_, rfl⟩
    have hll : l.length = len := by rw [hl, rowsL_len]
    rw [← hl] at hRN
    have hbl := Lib.hid (fun k hk => cnt_bd l s k hk)
    obtain ⟨i0, hi, hz0, hz1, hz2⟩ := info_parts info_intS
    have hmk := fun W => run_make_rowN (P := Tryd.prog) 25 3 i0 _ Tryd.underlying25 hi hz0 .i64 .i64 s s (Nat.le_refl _) (by rw [hz2]; omega) (by omega) W
    rw [hz1] at hmk
    clear hi hz0 hz1 hz2 h hl
    replace hll := Lib.hid hll
    have HR : Hid (0 < len → ∃ b off, a = some ⟨b, off, none⟩ ∧ b < w.heap.size ∧ ∀ j, j < len → w.cell? ⟨b, off + j * 2, none⟩ = some (.int .i64 (l.getD j (0, 0)).1) ∧ w.cell? ⟨b, off + j * 2 + 1, none⟩ = some (.int .i64 (l.getD j (0, 0)).2)) := by
      obtain ⟨a', c', hv, hr⟩ := hRN.out
      rw [hll.out] at hr hv
      injection hv with e1 e2 e3
      subst e1
      exact hr
    clear hR
    go_enter Tryd.func3, Tryd.ntmps3
    go_wp2_with fail
    refine (lives_any _).mono ?_
    rintro e w1 ⟨rfl, b1⟩
    replace hRN := Lib.hid (hRN.out.below b1)
    have hS0 := Lib.hid ((Sep.start w).below b1)
    clear b1
    go_wp2_with fail
    refine (PN.run.out _).mono ?_
    rintro e w2 ⟨rfl, rfl⟩
    have SP := Lib.hid (spread_any _ l s hs1 hs2 _ hRN.out (by have := hll.out; omega))
    clear hRN
    go_wp2_with fail
    refine SP.out.mono ?_
    rintro e w3 ⟨g, rfl, hG⟩
    have hT := Lib.hid ((hG.graft hS0.out).vi_new s (by omega))
    clear SP hG hS0
    obtain ⟨m, hm⟩ : ∃ m, m = w3.heap.size := ⟨_, rfl⟩
    rw [← hm] at hT
    go_wp2_with fail
    rw [← hm]
    replace hm := Lib.hid hm
    clear hmk
    go_loopw [6, 9] (fun s6 i wr => ∃ k : Nat, k ≤ len ∧ i = .int .i64 k ∧ s6 = .int .i64 (cntL (l.take k) s s).sum ∧ Hid (Sep wr [vi (.slice (some ⟨m, 0, none⟩) s s) (cntL (l.take k) s s), vi (.slice (some ⟨g, 0, none⟩) s s) (cntL l s s), old w])) (fun _ i _ => len - (intOf i).toNat)
    case atStart =>
      refine ⟨0, Nat.zero_le _, rfl, ?_, by rw [List.take_zero, cntL_nil]; exact hT⟩
      have h1 := hbl.out 0 (by omega)
      exact congrArg (Value.int .i64) (by omega)
    case round =>
      clear hT
      obtain ⟨k, hk, rfl, rfl, hS⟩ := hrel
      by_cases hlt : k < len
      · obtain ⟨b, off, rfl, hbb, hz⟩ := HR.out (by omega)
        obtain ⟨y0, y1⟩ := hz k hlt
        have HZ := Lib.hid (fun (W : World) (hW : Below w.heap.size w W) => (show W.cell? ⟨b, off + k * 2, none⟩ = _ ∧ W.cell? ⟨b, off + k * 2 + 1, none⟩ = _ from ⟨(hW.cell (p := ⟨b, off + k * 2, none⟩) hbb).trans y0, (hW.cell (p := ⟨b, off + k * 2 + 1, none⟩) hbb).trans y1⟩))
        have E := Lib.hid (take_snocN l k (by rw [hll.out]; exact hlt))
        have hB1 := hbl.out k (by rw [hll.out]; omega)
        have hcl := Lib.hid (fun j => cntL_le (l.take k) s s j)
        have htl := Lib.hid (show (l.take k).length ≤ 100 by rw [List.length_take]; omega)
        clear hz y0 y1 HR
        generalize l.getD k (0, 0) = x at *
        obtain ⟨t, r⟩ := x
        have i1 : (0 : Int) ≤ (k : Int) := by omega
        have i2 : (k : Int) < (len : Int) := by omega
        have HO := Lib.hid (fun W => of_any t r s W)
        have hbd := ofV_bd t r s
        obtain ⟨z0, z1⟩ := HZ.out wr hS.out.tail.tail.gold
        simp only at z0 z1
        by_cases ho : ofV t r s < 0
        · obtain ⟨hlv, ho'⟩ := ofV_neg (by omega) (by omega) ho
          have HC := Lib.hid (fun W => check_vR t r 2 W (by rw [if_pos hlv]))
          have EC := Lib.hid (show cntL (l.take (k + 1)) s s = cntL (l.take k) s s by rw [E.out]; exact cnt_miss _ (t, r) _ _ ho)
          rw [ho'] at HO
          clear ho ho' hlv hbd
          generalize hSS : (cntL (l.take k) s s).sum = S at *
          replace hSS := Lib.hid hSS
          go_wp2_with fail
          refine (HO.out _).mono ?_
          rintro e w4 ⟨rfl, b4⟩
          replace hS := Lib.hid (hS.out.below b4)
          clear b4 z0 z1
          obtain ⟨z0, z1⟩ := HZ.out w4 hS.out.tail.tail.gold
          try simp only at z0 z1
          go_wp2_with fail
          refine (HC.out _).mono ?_
          rintro e w5 ⟨rfl, b5⟩
          replace hS := Lib.hid (hS.out.below b5)
          clear b5 z0 z1
          go_wp2_with fail
          go_roundw
          case rel => exact ⟨k + 1, by omega, by go_num, by rw [EC.out, hSS.out], by rw [EC.out]; exact hS⟩
          case measure => simp [intOf]; omega
        · obtain ⟨j, hj⟩ : ∃ j : Nat, ofV t r s = (j : Int) := ⟨(ofV t r s).toNat, by omega⟩
          have hlv := ofV_pos ho
          have hjs : j < s := by omega
          have HC := Lib.hid (fun W => check_vR t r 0 W (by rw [if_neg hlv]))
          have EC := Lib.hid (show cntL (l.take (k + 1)) s s = (cntL (l.take k) s s).set j ((cntL (l.take k) s s).getD j 0 + 1) by rw [E.out]; exact cnt_hit _ (t, r) _ _ j hj hjs)
          rw [hj] at HO
          clear ho hbd hj hlv
          have hcj := hcl.out j
          have htl' := htl.out
          have hlen := Lib.hid (cntL_len (l.take k) s s)
          generalize cntL (l.take k) s s = L at *
          have ES := Lib.hid (sum_set L j (by rw [hlen.out]; exact hjs))
          generalize hSS : L.sum = S at *
          replace hSS := Lib.hid hSS
          have j1 : (0 : Int) ≤ (j : Int) := by omega
          have j2 : (j : Int) < (s : Int) := by omega
          go_wp2_with fail
          refine (HO.out _).mono ?_
          rintro e w4 ⟨rfl, b4⟩
          replace hS := Lib.hid (hS.out.below b4)
          clear b4 z0 z1
          obtain ⟨z0, z1⟩ := HZ.out w4 hS.out.tail.tail.gold
          try simp only at z0 z1
          go_wp2_with fail
          refine (HC.out _).mono ?_
          rintro e w5 ⟨rfl, b5⟩
          replace hS := Lib.hid (hS.out.below b5)
          clear b5 z0 z1
          obtain ⟨g', hg', hgl, q, fz⟩ := hS.out.vi_at hlen.out hjs
          injection hg' with hg'
          injection hg' with hg'
          subst hg'
          replace hS := Lib.hid (hS.out.vi_set hlen.out hjs (L.getD j 0 + 1))
          generalize L.getD j 0 = y at *
          go_wp2_with fail
          go_roundw
          case rel => exact ⟨k + 1, by omega, by go_num, by rw [EC.out, ES.out]; try rw [hSS.out], by rw [EC.out]; exact hS⟩
          case measure => simp [intOf]; omega
      · have hk2 : k = len := by omega
        subst hk2
        have E := Lib.hid (show l.take k = l from List.take_of_length_le (by rw [hll.out]; omega))
        have hlen := Lib.hid (cntL_len l s s)
        have hb := Lib.hid (pre_bd (cntL l s s) (fun j => by have := cntL_le l s s j; have := hll.out; omega))
        have hle := Lib.hid (fun j => cntL_le l s s j)
        have hS' := Lib.hid (show Sep wr [vi (.slice (some ⟨m, 0, none⟩) s s) (cntL l s s), vi (.slice (some ⟨g, 0, none⟩) s s) (cntL l s s), old w] by have := hS.out; rw [E.out] at this; exact this)
        rw [E.out]
        clear hS HR hbl
        generalize cntL l s s = C at *
        generalize hSS : C.sum = S at *
        replace hSS := Lib.hid hSS
        go_wp2_with fail
        go_loopw [7, 11] (fun s7 i wr => ∃ q : Nat, q ≤ s ∧ i = .int .i64 q ∧ s7 = .int .i64 (C.take q).sum ∧ Hid (Sep wr [vi (.slice (some ⟨m, 0, none⟩) s s) C, vi (.slice (some ⟨g, 0, none⟩) s s) C, old w])) (fun _ i _ => s - (intOf i).toNat)
        case atStart => exact ⟨0, Nat.zero_le _, rfl, rfl, hS'⟩
        case round =>
          clear hS'
          obtain ⟨q, hq, rfl, rfl, hS⟩ := hrel
          by_cases hqs : q < s
          · obtain ⟨g', hg', hgl, y, fz⟩ := hS.out.to1.vi_at hlen.out hqs
            injection hg' with hg'
            injection hg' with hg'
            subst hg'
            have ES := Lib.hid (pre_snoc C q (by rw [hlen.out]; exact hqs))
            have hb1 := hb.out q (by rw [hlen.out]; omega)
            have hc1 := hle.out q
            have hl1 := hll.out
            generalize (C.take q).sum = P at *
            generalize C.getD q 0 = c at *
            have i1 : (0 : Int) ≤ (q : Int) := by omega
            have i2 : (q : Int) < (s : Int) := by omega
            rw [hl1] at hc1
            clear hl1
            go_wp2_with fail
            go_roundw
            case rel => exact ⟨q + 1, by omega, by go_num, by rw [ES.out], hS⟩
            case measure => simp [intOf]; omega
          · have hq2 : q = s := by omega
            subst hq2
            have E2 : (C.take q).sum = S := by rw [List.take_of_length_le (by rw [hlen.out]; omega)]; exact hSS.out
            have SM := Lib.hid (same_true _ _ C _ (by rw [hlen.out]; omega) (vi_riA hS.out.tail) (vi_riA hS.out))
            rw [E2]
            clear E2
            have eS : (S == S) = true := beq_self_eq_true S
            go_wp2_with fail
            refine SM.out.mono ?_
            rintro e w6 ⟨rfl, mm, rfl⟩
            go_wp2_with fail
            go_ret
            exact ⟨rfl, below_drewN hS.out.tail.tail.gold _⟩
end Go.Proofs.YtgbffkjfjkfiaaaDoor
