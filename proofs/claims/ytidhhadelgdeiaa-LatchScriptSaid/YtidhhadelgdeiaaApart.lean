import Derived.Test.YtidhhadelgdeiaaCallsC
namespace Go.Proofs.Ytidhhadelgdeiaa
open Go.RowKit

theorem tryS_len (L : List Int) (a t : Int) : (tryS L a t).length = L.length := by unfold tryS; split <;> simp
theorem freeS_len (L : List Int) (a t : Int) : (freeS L a t).length = L.length := by unfold freeS; split <;> simp
theorem getD_set (L : List Int) (k j : Nat) (t : Int) (h : k < L.length) : (L.set k t).getD j 0 = if k = j then t else L.getD j 0 := by
  by_cases e : k = j
  · subst e; simp [List.getD, h]
  · simp [List.getD, List.getElem?_set, e]
theorem tryS_at (L : List Int) (a j : Nat) (t : Int) (h : a < L.length) : (tryS L a t).getD j 0 = if a = j ∧ okB L.length a t = true ∧ L.getD a 0 = -1 then t else L.getD j 0 := by
  unfold tryS
  simp only [Int.toNat_natCast]
  by_cases hc : okB L.length a t = true ∧ L.getD a 0 = -1
  · rw [if_pos hc, getD_set _ _ _ _ h]
    by_cases e : a = j
    · rw [if_pos e, if_pos ⟨e, hc⟩]
    · rw [if_neg e, if_neg (fun h => e h.1)]
  · rw [if_neg hc, if_neg (fun h => hc h.2)]
theorem freeS_at (L : List Int) (a j : Nat) (t : Int) (h : a < L.length) : (freeS L a t).getD j 0 = if a = j ∧ okB L.length a t = true ∧ L.getD a 0 = t then -1 else L.getD j 0 := by
  unfold freeS
  simp only [Int.toNat_natCast]
  by_cases hc : okB L.length a t = true ∧ L.getD a 0 = t
  · rw [if_pos hc, getD_set _ _ _ _ h]
    by_cases e : a = j
    · rw [if_pos e, if_pos ⟨e, hc⟩]
    · rw [if_neg e, if_neg (fun h => e h.1)]
  · rw [if_neg hc, if_neg (fun h => hc h.2)]

/-- The two tables agree on latch k, and nothing else of the second one is held. -/
structure Agree (n k : Nat) (La Lb : List Int) : Prop where
  la : La.length = n
  lb : Lb.length = n
  at_ : La.getD k 0 = Lb.getD k 0
  rest : ∀ j, j < n → j ≠ k → Lb.getD j 0 = -1

theorem Agree.try_off {n k a : Nat} {La Lb : List Int} (h : Agree n k La Lb) (t : Int) (ha : a < n) (hne : a ≠ k) : Agree n k (tryS La a t) Lb :=
  ⟨by rw [tryS_len, h.la], h.lb, by rw [tryS_at _ _ _ _ (by rw [h.la]; exact ha), if_neg (fun c => hne c.1)]; exact h.at_, h.rest⟩
theorem Agree.free_off {n k a : Nat} {La Lb : List Int} (h : Agree n k La Lb) (t : Int) (ha : a < n) (hne : a ≠ k) : Agree n k (freeS La a t) Lb :=
  ⟨by rw [freeS_len, h.la], h.lb, by rw [freeS_at _ _ _ _ (by rw [h.la]; exact ha), if_neg (fun c => hne c.1)]; exact h.at_, h.rest⟩
theorem Agree.try_on {n k : Nat} {La Lb : List Int} (h : Agree n k La Lb) (t : Int) (hk : k < n) : Agree n k (tryS La k t) (tryS Lb k t) :=
  ⟨by rw [tryS_len, h.la], by rw [tryS_len, h.lb], by rw [tryS_at _ _ _ _ (by rw [h.la]; exact hk), tryS_at _ _ _ _ (by rw [h.lb]; exact hk), h.at_, h.la, h.lb],
   fun j hj hne => by rw [tryS_at _ _ _ _ (by rw [h.lb]; exact hk), if_neg (fun c => hne c.1.symm)]; exact h.rest j hj hne⟩
theorem Agree.free_on {n k : Nat} {La Lb : List Int} (h : Agree n k La Lb) (t : Int) (hk : k < n) : Agree n k (freeS La k t) (freeS Lb k t) :=
  ⟨by rw [freeS_len, h.la], by rw [freeS_len, h.lb], by rw [freeS_at _ _ _ _ (by rw [h.la]; exact hk), freeS_at _ _ _ _ (by rw [h.lb]; exact hk), h.at_, h.la, h.lb],
   fun j hj hne => by rw [freeS_at _ _ _ _ (by rw [h.lb]; exact hk), if_neg (fun c => hne c.1.symm)]; exact h.rest j hj hne⟩
theorem Agree.hasB {n k : Nat} {La Lb : List Int} (h : Agree n k La Lb) : hasB La k = hasB Lb k := by unfold Ytidhhadelgdeiaa.hasB; rw [h.la, h.lb, Int.toNat_natCast, h.at_]
theorem Agree.hasV {n k : Nat} {La Lb : List Int} (h : Agree n k La Lb) : hasV La k = hasV Lb k := by unfold Ytidhhadelgdeiaa.hasV; rw [h.hasB, Int.toNat_natCast, h.at_]
theorem Agree.cnt {n k : Nat} {La Lb : List Int} (h : Agree n k La Lb) : ∀ m, m ≤ n → cnt Lb m ≤ (if k < m then 1 else 0)
  | 0, _ => by simp [Ytidhhadelgdeiaa.cnt]
  | m+1, hm => by
    have ih := h.cnt m (by omega)
    unfold Ytidhhadelgdeiaa.cnt
    by_cases e : m = k
    · subst e
      rw [if_neg (by omega)] at ih
      split <;> simp <;> omega
    · rw [h.rest m (by omega) e]
      by_cases hk : k < m
      · rw [if_pos hk] at ih; rw [if_pos (show k < m + 1 by omega)]; simpa using ih
      · rw [if_neg hk] at ih; rw [if_neg (show ¬ k < m + 1 by omega)]; simpa using ih

theorem Lat.other {w w' : World} {p g p' g' : Nat} {L L' : List Int} (h : Lat w p g L) (h' : Lat w p' g' L') (hne : g ≠ g') (hb : w.grownBy w' (some g')) : Lat w' p g L := by
  obtain ⟨cs, hcs, _⟩ := h'.hg
  exact h.grown_other hcs hne hb

set_option maxHeartbeats 4000000 in
set_option maxRecDepth 100000 in
theorem apart_walk (a0 : Int) (a : Option Addr) (len cap : Nat) (z : Nat → Nat → Int) (a2 : Int) (w : World) (_h0 : (Lit.int .i64 a0).wf = true) (h : IsRows 3 w a len cap z) (_h2 : (Lit.int .i64 a2).wf = true) :
    Calls Try.prog 4 #[.int .i64 a0, .slice a len cap, .int .i64 a2] w fun e w' => e = .returned (.bool true) ∧ Below w.heap.size w w' := by
  by_cases h60 : 40 < len
  · go_enter Try.func4, Try.ntmps4
    go_wp2_with (go_at_call 8; refine (lives_any _).mono ?_; rintro e w1 ⟨rfl, b1⟩)
    go_ret
    exact ⟨rfl, b1⟩
  · obtain ⟨n0, PN⟩ := pick_nat a0 16 (by omega) (by omega)
    have hn0 := PN.lt
    obtain ⟨n, hn⟩ : ∃ n : Nat, (1 : Int) + n0 = n := ⟨1 + n0, by omega⟩
    have hn1 : 1 ≤ n := by omega
    have hn2 : n ≤ 16 := by omega
    have H := Lib.hid h
    obtain ⟨k, PK0⟩ := pick_nat a2 n (by omega) (by omega)
    have hkn := PK0.lt
    clear h
    go_enter Try.func4, Try.ntmps4
    go_wp2_with fail
    refine (lives_any _).mono ?_
    rintro e w1 ⟨rfl, b1⟩
    go_wp2_with fail
    refine (PN.run.out _).mono ?_
    rintro e w2 ⟨rfl, rfl⟩
    go_wp2_with fail
    refine (new_ok n _ hn1 hn2).mono ?_
    rintro e w3 ⟨rfl, hLa, b3⟩
    go_wp2_with fail
    refine (new_ok n _ hn1 hn2).mono ?_
    rintro e w4 ⟨rfl, hLb, b4⟩
    go_wp2_with fail
    refine (PK0.run.out _).mono ?_
    rintro e w5 ⟨rfl, rfl⟩
    have hgb : w1.heap.size < w3.heap.size := by obtain ⟨cs, hcs, _⟩ := hLa.hg; exact hcs.lt
    have hLa := hLa.below b4
    have bel := Lib.hid (b1.trans ((b3.mono b1.size).trans (b4.mono (Nat.le_trans b1.size b3.size))))
    have hga : w.heap.size ≤ w1.heap.size := b1.size
    have hag : Agree n k (List.replicate n (-1)) (List.replicate n (-1)) := ⟨by simp, by simp, rfl, fun j hj _ => by simp [List.getD, hj]⟩
    have hLa := Lib.hid hLa
    have hLb := Lib.hid hLb
    have hag := Lib.hid hag
    clear b1 b3 b4 PN hn0 hn PK0
    generalize List.replicate n (-1 : Int) = L0 at *
    generalize w3.heap.size = gb at *
    generalize w1.heap.size = ga at *
    generalize hpa : ga + 1 = pa at *
    generalize hpb : gb + 1 = pb at *
    have hpa := Lib.hid hpa
    have hpb := Lib.hid hpb
    go_wp2_with fail
    go_loopw [11] (fun i wr => ∃ k1 : Nat, k1 ≤ len ∧ i = .int .i64 k1 ∧ ∃ La Lb, Agree n k La Lb ∧ Lat wr pa ga La ∧ Lat wr pb gb Lb ∧ Below w.heap.size w wr) (fun i _ => len - (intOf i).toNat)
    case atStart => exact ⟨0, Nat.zero_le _, rfl, L0, L0, hag.out, hLa.out, hLb.out, bel.out⟩
    case round =>
      clear hLa hLb bel hag
      obtain ⟨i, hi, rfl, La, Lb, hag, hLa, hLb, bel⟩ := hrel
      by_cases hlt : i < len
      · obtain ⟨hlc, hcm, b, off, rfl, hbs, hz⟩ : len ≤ cap ∧ cap ≤ maxLen ∧ ∃ b off, a = some ⟨b, off, none⟩ ∧ b < w.heap.size ∧ ∀ i, i < len → ∀ j, j < 3 → w.cell? ⟨b, off + i * 3 + j, none⟩ = some (.int .i64 (z i j)) ∧ (Lit.int .i64 (z i j)).wf = true := ⟨H.out.1, H.out.2.1, H.out.2.2 (by omega)⟩
        have z0 := (hz i hlt 0 (by omega)).1
        have z1 := (hz i hlt 1 (by omega)).1
        have z2 := (hz i hlt 2 (by omega)).1
        rw [← bel.cell (by exact hbs)] at z0 z1 z2
        rw [Nat.add_zero] at z0
        clear hz H
        generalize z i 0 = c0 at *
        generalize z i 1 = c1 at *
        generalize z i 2 = c2 at *
        obtain ⟨q, PQ⟩ := pick_nat c0 3 (by omega) (by omega)
        obtain ⟨m, PK⟩ := pick_nat c1 n (by omega) (by omega)
        obtain ⟨t, PT⟩ := pick_nat c2 8 (by omega) (by omega)
        have hmn := PK.lt
        have hag := Lib.hid hag
        have hLa := Lib.hid hLa
        have hLb := Lib.hid hLb
        have bel := Lib.hid bel
        go_wp2_with fail
        go_quiet (first | (go_at_call 9; with_reducible exact Calls.quiet_of_same (PK.quiet.out _)) | (go_at_call 9; with_reducible exact Calls.quiet_of_same (PT.quiet.out _)))
        go_wp2_with fail
        refine (PQ.run.out _).mono ?_
        rintro e w5 ⟨rfl, rfl⟩
        obtain ⟨wq, hwq⟩ : ∃ wq, wq = wr.drewN nq := ⟨_, rfl⟩
        have hLa := Lib.hid (hLa.out.grown_none (grown_drewN (grown_refl wr none) nq))
        have hLb := Lib.hid (hLb.out.grown_none (grown_drewN (grown_refl wr none) nq))
        have bel := Lib.hid (below_drewN bel.out nq)
        rw [← hwq] at hLa hLb bel ⊢
        clear hwq z0 z1 z2 PK PT PQ
        have hmn' : m < n := by omega
        by_cases hq2 : q < 2
        · by_cases hmk : m = k
          · subst hmk
            go_wp2_with fail
            refine (try_any pa ga m t La _ hLa.out).mono ?_
            rintro e w6 ⟨rfl, hLa6, hg6⟩
            have hLb6 := hLb.out.other hLa.out (by omega) hg6
            have bel6 := below_grown bel.out hg6 bel.out.size hga
            have hLa6 := Lib.hid hLa6
            have hLb6 := Lib.hid hLb6
            have bel6 := Lib.hid bel6
            clear hg6 hLa hLb bel
            go_wp2_with fail
            refine (try_any pb gb m t Lb _ hLb6.out).mono ?_
            rintro e w7 ⟨rfl, hLb7, hg7⟩
            have hLa7 := hLa6.out.other hLb6.out (by omega) hg7
            have bel7 := Lib.hid (below_grown bel6.out hg7 bel6.out.size (Nat.le_trans hga (Nat.le_of_lt hgb)))
            have hag7 := hag.out.try_on t hmn'
            have HA := holder_any pa ga m _ _ hLa7
            rw [hag7.hasV, hag7.hasB] at HA
            have HA := Lib.hid HA
            have HB := Lib.hid (holder_any pb gb m _ _ hLb7)
            have hLa7 := Lib.hid hLa7
            have hLb7 := Lib.hid hLb7
            have hag7 := Lib.hid hag7
            clear hg7 hLa6 hLb6 bel6 hag
            go_wp2_with fail
            refine HA.out.mono ?_
            rintro e w8 ⟨rfl, rfl⟩
            go_wp2_with fail
            refine HB.out.mono ?_
            rintro e w9 ⟨rfl, rfl⟩
            clear HA HB
            go_wp2_with fail
            go_roundw
            case rel => exact ⟨i + 1, by omega, by go_num, _, _, hag7.out, hLa7.out, hLb7.out, bel7.out⟩
            case measure => simp [intOf]; omega
          · have hbe : ((m : Int) == (k : Int)) = false := by rw [beq_eq_false_iff_ne]; omega
            go_wp2_with fail
            refine (try_any pa ga m t La _ hLa.out).mono ?_
            rintro e w6 ⟨rfl, hLa6, hg6⟩
            have hLb6 := hLb.out.other hLa.out (by omega) hg6
            have bel6 := below_grown bel.out hg6 bel.out.size hga
            have hLa6 := Lib.hid hLa6
            have hLb6 := Lib.hid hLb6
            have bel6 := Lib.hid bel6
            clear hg6 hLa hLb bel
            have hag7 := hag.out.try_off t hmn' hmk
            have HA := holder_any pa ga k _ _ hLa6.out
            rw [hag7.hasV, hag7.hasB] at HA
            have HA := Lib.hid HA
            have HB := Lib.hid (holder_any pb gb k _ _ hLb6.out)
            have hLa7 := Lib.hid hLa6.out
            have hLb7 := Lib.hid hLb6.out
            have bel7 := Lib.hid bel6.out
            have hag7 := Lib.hid hag7
            clear hLa6 hLb6 bel6 hag
            go_wp2_with fail
            refine HA.out.mono ?_
            rintro e w8 ⟨rfl, rfl⟩
            go_wp2_with fail
            refine HB.out.mono ?_
            rintro e w9 ⟨rfl, rfl⟩
            clear HA HB
            go_wp2_with fail
            go_roundw
            case rel => exact ⟨i + 1, by omega, by go_num, _, _, hag7.out, hLa7.out, hLb7.out, bel7.out⟩
            case measure => simp [intOf]; omega
        · by_cases hmk : m = k
          · subst hmk
            go_wp2_with fail
            refine (free_any pa ga m t La _ hLa.out).mono ?_
            rintro e w6 ⟨rfl, hLa6, hg6⟩
            have hLb6 := hLb.out.other hLa.out (by omega) hg6
            have bel6 := below_grown bel.out hg6 bel.out.size hga
            have hLa6 := Lib.hid hLa6
            have hLb6 := Lib.hid hLb6
            have bel6 := Lib.hid bel6
            clear hg6 hLa hLb bel
            go_wp2_with fail
            refine (free_any pb gb m t Lb _ hLb6.out).mono ?_
            rintro e w7 ⟨rfl, hLb7, hg7⟩
            have hLa7 := hLa6.out.other hLb6.out (by omega) hg7
            have bel7 := Lib.hid (below_grown bel6.out hg7 bel6.out.size (Nat.le_trans hga (Nat.le_of_lt hgb)))
            have hag7 := hag.out.free_on t hmn'
            have HA := holder_any pa ga m _ _ hLa7
            rw [hag7.hasV, hag7.hasB] at HA
            have HA := Lib.hid HA
            have HB := Lib.hid (holder_any pb gb m _ _ hLb7)
            have hLa7 := Lib.hid hLa7
            have hLb7 := Lib.hid hLb7
            have hag7 := Lib.hid hag7
            clear hg7 hLa6 hLb6 bel6 hag
            go_wp2_with fail
            refine HA.out.mono ?_
            rintro e w8 ⟨rfl, rfl⟩
            go_wp2_with fail
            refine HB.out.mono ?_
            rintro e w9 ⟨rfl, rfl⟩
            clear HA HB
            go_wp2_with fail
            go_roundw
            case rel => exact ⟨i + 1, by omega, by go_num, _, _, hag7.out, hLa7.out, hLb7.out, bel7.out⟩
            case measure => simp [intOf]; omega
          · have hbe : ((m : Int) == (k : Int)) = false := by rw [beq_eq_false_iff_ne]; omega
            go_wp2_with fail
            refine (free_any pa ga m t La _ hLa.out).mono ?_
            rintro e w6 ⟨rfl, hLa6, hg6⟩
            have hLb6 := hLb.out.other hLa.out (by omega) hg6
            have bel6 := below_grown bel.out hg6 bel.out.size hga
            have hLa6 := Lib.hid hLa6
            have hLb6 := Lib.hid hLb6
            have bel6 := Lib.hid bel6
            clear hg6 hLa hLb bel
            have hag7 := hag.out.free_off t hmn' hmk
            have HA := holder_any pa ga k _ _ hLa6.out
            rw [hag7.hasV, hag7.hasB] at HA
            have HA := Lib.hid HA
            have HB := Lib.hid (holder_any pb gb k _ _ hLb6.out)
            have hLa7 := Lib.hid hLa6.out
            have hLb7 := Lib.hid hLb6.out
            have bel7 := Lib.hid bel6.out
            have hag7 := Lib.hid hag7
            clear hLa6 hLb6 bel6 hag
            go_wp2_with fail
            refine HA.out.mono ?_
            rintro e w8 ⟨rfl, rfl⟩
            go_wp2_with fail
            refine HB.out.mono ?_
            rintro e w9 ⟨rfl, rfl⟩
            clear HA HB
            go_wp2_with fail
            go_roundw
            case rel => exact ⟨i + 1, by omega, by go_num, _, _, hag7.out, hLa7.out, hLb7.out, bel7.out⟩
            case measure => simp [intOf]; omega
      · have hT := taken_any pb gb Lb _ hLb
        have hc1 : cnt Lb n ≤ 1 := Nat.le_trans (hag.cnt n (Nat.le_refl _)) (by split <;> omega)
        have hl := len_any pa ga La _ hLa
        rw [hag.lb] at hT
        rw [hag.la] at hl
        have hT := Lib.hid hT
        have hl := Lib.hid hl
        have bel := Lib.hid bel
        clear hLa hLb hag H
        generalize cnt Lb n = c at *
        go_wp2_with fail
        refine hl.out.mono ?_
        rintro e w5 ⟨rfl, rfl⟩
        go_wp2_with fail
        refine hT.out.mono ?_
        rintro e w6 ⟨rfl, rfl⟩
        have hd : decide ((c : Int) ≤ 1) = true := by rw [decide_eq_true_eq]; omega
        go_wp2_with fail
        go_ret
        exact ⟨by simp, bel.out⟩
end Go.Proofs.Ytidhhadelgdeiaa
