/-
  The walk of PoolScript. No condition beside an argument that can be read.
-/
import Derived.Test.YtbfkkghbkpbhlaaPlScr
import Derived.Test.YtbfkkghbkpbhlaaHlN
namespace Go.Proofs.Ytbfkkghbkpbhlaa
open Go.RowKit
theorem rlive_any (p : Nat) (lent : List Bool) (w : World) (rs : List Res) (hS : Sep w (refR p lent :: rs)) (hm : lent.length ≤ 128) : Calls Try.prog 22 #[.pointer (some ⟨p, 0, none⟩)] w fun e w' => e = .returned (.int .i64 (lent.count true)) ∧ Sep w' (refR p lent :: rs) := by
  have HE := Lib.hid (reach_any p lent w rs hS hm)
  rw [lentU_count lent] at HE
  generalize lent.count true = c at *
  clear hS
  go_enter Try.func22, Try.ntmps22
  go_wp2_with fail
  refine HE.out.mono ?_
  rintro e w1 ⟨v, rfl, q⟩
  obtain ⟨va, vc, rfl⟩ := own_slice q.gvec
  replace q := Lib.hid q
  go_wp2_with fail
  go_ret
  exact ⟨rfl, q.out.tail⟩
theorem least_upto (l : List Bool) : ∀ n, n ≤ l.length → (∀ j, j < n → l.getD j false = true) ∨ ∃ k, k < n ∧ l.getD k false = false ∧ ∀ j, j < k → l.getD j false = true
  | 0, _ => .inl fun j hj => absurd hj (Nat.not_lt_zero j)
  | n + 1, h => by
    rcases least_upto l n (by omega) with h1 | ⟨k, hk, h2, h3⟩
    · cases hb : l.getD n false with
      | true =>
        refine .inl fun j hj => ?_
        rcases Nat.lt_or_ge j n with h4 | h4
        · exact h1 j h4
        · obtain rfl : j = n := by omega
          exact hb
      | false => exact .inr ⟨n, by omega, hb, h1⟩
    · exact .inr ⟨k, by omega, h2, h3⟩
/-- Both pools take the same. -/
theorem take_both (lent : List Bool) (hm : lent.length ≤ 128) : ∃ (a f : Int) (l2 : List Bool), l2.length = lent.length ∧
    (∀ p w rs, Sep w (poolR p lent :: rs) → Calls Try.prog 11 #[.pointer (some ⟨p, 0, none⟩)] w fun e w' => e = .returned (.tuple #[.int .i64 a, .int .i64 f]) ∧ Sep w' (poolR p l2 :: rs)) ∧
    (∀ p w rs, Sep w (refR p lent :: rs) → Calls Try.prog 19 #[.pointer (some ⟨p, 0, none⟩)] w fun e w' => e = .returned (.tuple #[.int .i64 a, .int .i64 f]) ∧ Sep w' (refR p l2 :: rs)) := by
  rcases least_upto lent lent.length (Nat.le_refl _) with h | ⟨k, hk, h2, h3⟩
  · have hf : lent.count true = lent.length := List.count_eq_length.2 fun b hb => by
      obtain ⟨j, hj, rfl⟩ := List.getElem_of_mem hb
      have := h j hj
      rw [List.getD_eq_getElem?_getD, List.getElem?_eq_getElem hj] at this
      exact this.symm
    refine ⟨0, 8, lent, rfl, fun p w rs hS => (take_full p lent w rs hS hf).mono ?_, fun p w rs hS => (rtake_full p lent w rs hS hf hm).mono ?_⟩
    · rintro e w1 ⟨rfl, rfl⟩
      exact ⟨rfl, hS⟩
    · rintro e w1 ⟨rfl, rfl⟩
      exact ⟨rfl, hS⟩
  · have hc := count_up lent k hk h2
    have hc2 := List.count_le_length (a := true) (l := lent.set k true)
    rw [List.length_set] at hc2
    refine ⟨k, 0, lent.set k true, List.length_set, fun p w rs hS => (take_some p lent w rs hS (by omega) hm).mono ?_, fun p w rs hS => rtake_at p lent k w rs hS hk h2 h3 hm⟩
    rintro e w1 ⟨q, rfl, g1, g2, g3, g4⟩
    have : q = k := by
      rcases Nat.lt_trichotomy q k with h | h | h
      · rw [h3 q h] at g2; cases g2
      · exact h
      · rw [g3 k h] at h2; cases h2
    subst this
    exact ⟨rfl, g4⟩
/-- Both pools give the same. -/
theorem give_both (lent : List Bool) (id : Int) (hm : lent.length ≤ 128) : ∃ (f : Int) (l2 : List Bool), l2.length = lent.length ∧
    (∀ p w rs, Sep w (poolR p lent :: rs) → Calls Try.prog 12 #[.pointer (some ⟨p, 0, none⟩), .int .i64 id] w fun e w' => e = .returned (.int .i64 f) ∧ Sep w' (poolR p l2 :: rs)) ∧
    (∀ p w rs, Sep w (refR p lent :: rs) → Calls Try.prog 20 #[.pointer (some ⟨p, 0, none⟩), .int .i64 id] w fun e w' => e = .returned (.int .i64 f) ∧ Sep w' (refR p l2 :: rs)) := by
  cases hb : (decide (0 ≤ id) && (decide (id < lent.length) && lent.getD id.toNat false)) with
  | false =>
    refine ⟨5, lent, rfl, fun p w rs hS => (give_no p lent id w rs hS hb).mono ?_, fun p w rs hS => (rgive_no p lent id w rs hS hb).mono ?_⟩
    · rintro e w1 ⟨rfl, rfl⟩
      exact ⟨rfl, hS⟩
    · rintro e w1 ⟨rfl, rfl⟩
      exact ⟨rfl, hS⟩
  | true =>
    rw [Bool.and_eq_true, Bool.and_eq_true, decide_eq_true_eq, decide_eq_true_eq] at hb
    obtain ⟨k, rfl⟩ := Int.eq_ofNat_of_zero_le hb.1
    have h1 : k < lent.length := by omega
    have h2 : lent.getD k false = true := by simpa using hb.2.2
    exact ⟨0, lent.set k false, List.length_set, fun p w rs hS => give_yes p lent k w rs hS h1 h2 hm, fun p w rs hS => rgive_yes p lent k w rs hS h1 h2 hm⟩
set_option maxHeartbeats 8000000 in
set_option maxRecDepth 100000 in
theorem script_walk (most : Int) (a : Option Addr) (len cap : Nat) (z : List Int) (w : World) (hz : IsInts .i64 w a len cap z) : Calls Try.prog 5 #[.int .i64 most, .slice a len cap] w fun e w' => e = .returned (.bool true) ∧ Below w.heap.size w w' := by
  by_cases h80 : len ≤ 80
  · have i80 : (len : Int) ≤ 80 := by omega
    have hz' := Lib.hid hz.2.2.2
    clear hz
    by_cases hmo : 0 ≤ most ∧ most ≤ 128
    · obtain ⟨m, rfl⟩ := Int.eq_ofNat_of_zero_le hmo.1
      have hm : m ≤ 128 := by omega
      clear hmo
      have H1 := Lib.hid (fun W => new_any m hm W)
      have H2 := Lib.hid (fun W => rnew_any m hm W)
      go_enter Try.func5, Try.ntmps5
      go_wp2_with fail
      refine (lives_any _).mono ?_
      rintro e w1 ⟨rfl, q⟩
      have hB := Lib.hid ((Sep.start w).below q)
      clear q
      go_wp2_with fail
      refine (H1.out _).mono ?_
      rintro e w2 ⟨p, rfl, q⟩
      replace hB := Lib.hid (q.graft hB.out)
      clear q
      go_wp2_with fail
      refine (H2.out _).mono ?_
      rintro e w3 ⟨o, rfl, q⟩
      have hS0 := Lib.hid (show Sep _ [poolR p (List.replicate m false), refR o (List.replicate m false), old w] from (q.graft hB.out).to1)
      clear q hB H1 H2
      go_wp2_with fail
      go_loopw [9] (fun s wr => ∃ (k : Nat) (lent : List Bool), k ≤ len ∧ s = .int .i64 k ∧ Hid (lent.length = m) ∧ Hid (Sep wr [poolR p lent, refR o lent, old w])) (fun s _ => len - (intOf s).toNat)
      case atStart => exact ⟨0, _, Nat.zero_le _, rfl, List.length_replicate, hS0⟩
      case round =>
        clear hS0
        obtain ⟨k, lent, hk, rfl, hl, hS⟩ := hrel
        by_cases hlt : k < len
        · obtain ⟨b, off, rfl, hbl, hc⟩ := hz'.out (by omega)
          have x0 := (hc k hlt).1
          generalize z.getD k 0 = v at *
          have hlm : lent.length ≤ 128 := by rw [hl.out]; exact hm
          have i1 : (0 : Int) ≤ (k : Int) := by omega
          have i2 : (k : Int) < (len : Int) := by omega
          have X0 := Lib.hid x0
          clear x0 hc hz'
          have c0 := (hS.out.tail.tail.gold.cell (p := ⟨b, off + k, none⟩) hbl).trans X0.out
          by_cases hv : v < 0
          · obtain ⟨ta, tf, l2, hl2, HA, HB⟩ := take_both lent hlm
            replace HA := Lib.hid HA
            replace HB := Lib.hid HB
            go_wp2_with fail
            refine (HA.out _ _ _ hS.out).mono ?_
            rintro e w4 ⟨rfl, q⟩
            replace hS := Lib.hid q.to1
            clear q c0
            go_wp2_with fail
            refine (HB.out _ _ _ hS.out).mono ?_
            rintro e w5 ⟨rfl, q⟩
            replace hS := Lib.hid (show Sep _ [poolR p l2, refR o l2, old w] from q.to1)
            clear q HA HB
            go_wp2_with fail
            have hcnt2 := lentU_count l2
            have HL := Lib.hid (lent_own p l2 _ _ hS.out (by rw [hl2]; exact hlm))
            rw [hcnt2] at HL
            obtain ⟨c, hc2⟩ : ∃ c, l2.count true = c := ⟨_, rfl⟩
            have hcl : c ≤ 128 := by have := List.count_le_length (a := true) (l := l2); omega
            rw [hc2] at HL hcnt2
            refine HL.out.mono ?_
            rintro e w8 ⟨bv, rfl, ho, q⟩
            replace hS := Lib.hid (hS.out.vec_new ho q)
            obtain ⟨vb, vd, rfl⟩ := own_slice ho
            clear q HL ho
            have hlm2 : l2.length ≤ 128 := by rw [hl2]; exact hlm
            replace hl2 := Lib.hid (hl2.trans hl.out)
            replace hc2 := Lib.hid hc2
            replace hcnt2 := Lib.hid hcnt2
            clear hlm hl
            go_wp2_with fail
            obtain ⟨hb, HBe⟩ : ∃ hb, Hid ((decide (0 ≤ v) && (decide (v < (l2.length : Int)) && l2.getD v.toNat false)) = hb) := ⟨_, rfl⟩
            have hS := Lib.hid (show (fun W : World => Sep W [vec 3 1 (.slice vb c vd) c ((lentU l2 l2.length).map (Value.int .i64)), poolR p l2, refR o l2, old w]) _ from hS.out.drew)
            refine hl_begin (fun W : World => Sep W [vec 3 1 (.slice vb c vd) c ((lentU l2 l2.length).map (Value.int .i64)), poolR p l2, refR o l2, old w]) [(0, true), (1, true), (2, true), (3, true), (4, true), (5, true), (6, true), (7, true), (8, true), (9, false), (10, false), (11, true), (12, true), (13, true), (14, true), (16, true), (15, false), (17, false), (18, true), (19, true), (20, true), (21, true), (23, true), (22, false), (24, false), (25, true), (26, true), (27, true), (28, true), (29, true), (30, true), (31, true), (32, true), (34, true), (35, true), (36, true), (37, true), (38, true), (33, false), (39, false), (40, true), (41, true)] (by kernel_rfl) (by kernel_rfl) (by kernel_rfl) rfl (fun _ _ _ _ _ h => h) hS.out ?_
            change HL _ _ _ _ _ _ (World.drew _)
            generalize World.drew _ = wd at *
            refine hl_take ?v13 rfl (by kernel_rfl) ?y13 ?z13
            case y13 => intro W hW; skip; replace hW := Lib.hid hW; go_simp; try rfl
            case z13 =>
            simp only [Act.put, List.setIfInBounds_toArray, List.set_cons_succ, List.set_cons_zero, List.getElem_toArray, List.getElem_cons_zero, List.getElem_cons_succ]
            refine hl_take ?v14 rfl (by kernel_rfl) ?y14 ?z14
            case y14 => intro W hW; skip; replace hW := Lib.hid hW; go_simp; try rfl
            case z14 =>
            simp only [Act.put, List.setIfInBounds_toArray, List.set_cons_succ, List.set_cons_zero, List.getElem_toArray, List.getElem_cons_zero, List.getElem_cons_succ]
            refine hl_take ?v15 rfl (by kernel_rfl) ?y15 ?z15
            case y15 => intro W hW; skip; replace hW := Lib.hid hW; go_simp; try rfl
            case z15 =>
            simp only [Act.put, List.setIfInBounds_toArray, List.set_cons_succ, List.set_cons_zero, List.getElem_toArray, List.getElem_cons_zero, List.getElem_cons_succ]
            refine hl_take ?v16 rfl (by kernel_rfl) ?y16 ?z16
            case y16 => intro W hW; skip; replace hW := Lib.hid hW; go_simp; try rfl
            case z16 =>
            simp only [Act.put, List.setIfInBounds_toArray, List.set_cons_succ, List.set_cons_zero, List.getElem_toArray, List.getElem_cons_zero, List.getElem_cons_succ]
            refine hl_take ?v17 rfl (by kernel_rfl) ?y17 ?z17
            case y17 => intro W hW; skip; replace hW := Lib.hid hW; go_simp; try rfl
            case z17 =>
            simp only [Act.put, List.setIfInBounds_toArray, List.set_cons_succ, List.set_cons_zero, List.getElem_toArray, List.getElem_cons_zero, List.getElem_cons_succ]
            refine hl_take ?v18 rfl (by kernel_rfl) ?y18 ?z18
            case y18 => intro W hW; skip; replace hW := Lib.hid hW; go_simp; try rfl
            case z18 =>
            simp only [Act.put, List.setIfInBounds_toArray, List.set_cons_succ, List.set_cons_zero, List.getElem_toArray, List.getElem_cons_zero, List.getElem_cons_succ]
            refine hl_take ?v19 rfl (by kernel_rfl) ?y19 ?z19
            case y19 => intro W hW; skip; replace hW := Lib.hid hW; go_simp; try rfl
            case z19 =>
            simp only [Act.put, List.setIfInBounds_toArray, List.set_cons_succ, List.set_cons_zero, List.getElem_toArray, List.getElem_cons_zero, List.getElem_cons_succ]
            refine hl_take ?v20 rfl (by kernel_rfl) ?y20 ?z20
            case y20 => intro W hW; skip; replace hW := Lib.hid hW; go_simp; try rfl
            case z20 =>
            simp only [Act.put, List.setIfInBounds_toArray, List.set_cons_succ, List.set_cons_zero, List.getElem_toArray, List.getElem_cons_zero, List.getElem_cons_succ]
            refine hl_take ?v21 rfl (by kernel_rfl) ?y21 ?z21
            case y21 => intro W hW; skip; replace hW := Lib.hid hW; go_simp; try rfl
            case z21 =>
            simp only [Act.put, List.setIfInBounds_toArray, List.set_cons_succ, List.set_cons_zero, List.getElem_toArray, List.getElem_cons_zero, List.getElem_cons_succ]
            refine hl_one rfl (by kernel_rfl) (fun K hK => ?_)
            go_simp
            refine (reach_any o l2 _ _ hS.out.to2 hlm2).mono ?_
            rintro e x1 ⟨ev, rfl, q⟩
            have hE := Lib.hid q.vec_ri
            replace hS := Lib.hid (show (fun W : World => Sep W [vec 3 1 (.slice vb c vd) c ((lentU l2 l2.length).map (Value.int .i64)), poolR p l2, refR o l2, old w]) x1 from q.tail.to2.to2)
            clear q
            refine hK.out _ _ hS.out ?_
            clear hK K
            try simp only [Act.put, List.setIfInBounds_toArray, List.set_cons_succ, List.set_cons_zero, List.getElem_toArray, List.getElem_cons_zero, List.getElem_cons_succ]
            refine hl_one rfl (by kernel_rfl) (fun K hK => ?_)
            go_simp
            refine (same_any _ _ _ _ _ (by have := hcnt2.out; omega) (by have := hcnt2.out; omega) hS.out.vec_ri hE.out).mono ?_
            rintro e x2 ⟨rfl, m2, hx⟩
            replace hS := Lib.hid (show (fun W : World => Sep W [vec 3 1 (.slice vb c vd) c ((lentU l2 l2.length).map (Value.int .i64)), poolR p l2, refR o l2, old w]) x2 by rw [hx]; exact hS.out.drewN m2)
            clear hE hx
            rw [decide_eq_true rfl]
            refine hK.out _ _ hS.out ?_
            clear hK K
            try simp only [Act.put, List.setIfInBounds_toArray, List.set_cons_succ, List.set_cons_zero, List.getElem_toArray, List.getElem_cons_zero, List.getElem_cons_succ]
            refine hl_take ?v22 rfl (by kernel_rfl) ?y22 ?z22
            case y22 => intro W hW; skip; replace hW := Lib.hid hW; go_simp; try rfl
            case z22 =>
            simp only [Act.put, List.setIfInBounds_toArray, List.set_cons_succ, List.set_cons_zero, List.getElem_toArray, List.getElem_cons_zero, List.getElem_cons_succ]
            refine hl_take ?v23 rfl (by kernel_rfl) ?y23 ?z23
            case y23 => intro W hW; skip; replace hW := Lib.hid hW; go_simp; try rfl
            case z23 =>
            simp only [Act.put, List.setIfInBounds_toArray, List.set_cons_succ, List.set_cons_zero, List.getElem_toArray, List.getElem_cons_zero, List.getElem_cons_succ]
            refine hl_take ?v24 rfl (by kernel_rfl) ?y24 ?z24
            case y24 => intro W hW; skip; replace hW := Lib.hid hW; go_simp; try rfl
            case z24 =>
            simp only [Act.put, List.setIfInBounds_toArray, List.set_cons_succ, List.set_cons_zero, List.getElem_toArray, List.getElem_cons_zero, List.getElem_cons_succ]
            refine hl_take ?v25 rfl (by kernel_rfl) ?y25 ?z25
            case y25 => intro W hW; skip; replace hW := Lib.hid hW; go_simp; try rfl
            case z25 =>
            simp only [Act.put, List.setIfInBounds_toArray, List.set_cons_succ, List.set_cons_zero, List.getElem_toArray, List.getElem_cons_zero, List.getElem_cons_succ]
            refine hl_take ?v26 rfl (by kernel_rfl) ?y26 ?z26
            case y26 => intro W hW; skip; replace hW := Lib.hid hW; go_simp; try rfl
            case z26 =>
            simp only [Act.put, List.setIfInBounds_toArray, List.set_cons_succ, List.set_cons_zero, List.getElem_toArray, List.getElem_cons_zero, List.getElem_cons_succ]
            refine hl_one rfl (by kernel_rfl) (fun K hK => ?_)
            go_simp
            refine (live_any p l2 _ _ hS.out.to1 hlm2).mono ?_
            rintro e x3 ⟨rfl, m3, hx⟩
            replace hS := Lib.hid (show (fun W : World => Sep W [vec 3 1 (.slice vb c vd) c ((lentU l2 l2.length).map (Value.int .i64)), poolR p l2, refR o l2, old w]) x3 by rw [hx]; exact hS.out.drewN m3)
            clear hx
            rw [hc2.out]
            refine hK.out _ _ hS.out ?_
            clear hK K
            try simp only [Act.put, List.setIfInBounds_toArray, List.set_cons_succ, List.set_cons_zero, List.getElem_toArray, List.getElem_cons_zero, List.getElem_cons_succ]
            refine hl_one rfl (by kernel_rfl) (fun K hK => ?_)
            go_simp
            refine (rlive_any o l2 _ _ hS.out.to2 hlm2).mono ?_
            rintro e x4 ⟨rfl, q⟩
            replace hS := Lib.hid (show (fun W : World => Sep W [vec 3 1 (.slice vb c vd) c ((lentU l2 l2.length).map (Value.int .i64)), poolR p l2, refR o l2, old w]) x4 from q.to2.to2)
            clear q
            rw [hc2.out]
            refine hK.out _ _ hS.out ?_
            clear hK K
            try simp only [Act.put, List.setIfInBounds_toArray, List.set_cons_succ, List.set_cons_zero, List.getElem_toArray, List.getElem_cons_zero, List.getElem_cons_succ]
            refine hl_take ?v27 rfl (by kernel_rfl) ?y27 ?z27
            case y27 => intro W hW; skip; replace hW := Lib.hid hW; go_simp; try rfl
            case z27 =>
            simp only [Act.put, List.setIfInBounds_toArray, List.set_cons_succ, List.set_cons_zero, List.getElem_toArray, List.getElem_cons_zero, List.getElem_cons_succ]
            refine hl_take ?v28 rfl (by kernel_rfl) ?y28 ?z28
            case y28 => intro W hW; skip; replace hW := Lib.hid hW; go_simp; try rfl
            case z28 =>
            simp only [Act.put, List.setIfInBounds_toArray, List.set_cons_succ, List.set_cons_zero, List.getElem_toArray, List.getElem_cons_zero, List.getElem_cons_succ]
            refine hl_take ?v29 rfl (by kernel_rfl) ?y29 ?z29
            case y29 => intro W hW; skip; replace hW := Lib.hid hW; go_simp; try rfl
            case z29 =>
            simp only [Act.put, List.setIfInBounds_toArray, List.set_cons_succ, List.set_cons_zero, List.getElem_toArray, List.getElem_cons_zero, List.getElem_cons_succ]
            refine hl_take ?v30 rfl (by kernel_rfl) ?y30 ?z30
            case y30 => intro W hW; skip; replace hW := Lib.hid hW; go_simp; try rfl
            case z30 =>
            simp only [Act.put, List.setIfInBounds_toArray, List.set_cons_succ, List.set_cons_zero, List.getElem_toArray, List.getElem_cons_zero, List.getElem_cons_succ]
            refine hl_take ?v31 rfl (by kernel_rfl) ?y31 ?z31
            case y31 => intro W hW; skip; replace hW := Lib.hid hW; go_simp; try rfl
            case z31 =>
            simp only [Act.put, List.setIfInBounds_toArray, List.set_cons_succ, List.set_cons_zero, List.getElem_toArray, List.getElem_cons_zero, List.getElem_cons_succ]
            refine hl_one rfl (by kernel_rfl) (fun K hK => ?_)
            go_simp
            refine (most_any p l2 _ _ hS.out.to1).mono ?_
            rintro e x5 ⟨rfl, rfl⟩
            rw [hl2.out]
            refine hK.out _ _ hS.out ?_
            clear hK K
            try simp only [Act.put, List.setIfInBounds_toArray, List.set_cons_succ, List.set_cons_zero, List.getElem_toArray, List.getElem_cons_zero, List.getElem_cons_succ]
            refine hl_one rfl (by kernel_rfl) (fun K hK => ?_)
            go_simp
            refine (rmost_any o l2 _ _ hS.out.to2).mono ?_
            rintro e x5 ⟨rfl, rfl⟩
            rw [hl2.out]
            refine hK.out _ _ hS.out ?_
            clear hK K
            try simp only [Act.put, List.setIfInBounds_toArray, List.set_cons_succ, List.set_cons_zero, List.getElem_toArray, List.getElem_cons_zero, List.getElem_cons_succ]
            refine hl_take ?v32 rfl (by kernel_rfl) ?y32 ?z32
            case y32 => intro W hW; skip; replace hW := Lib.hid hW; go_simp; try rfl
            case z32 =>
            simp only [Act.put, List.setIfInBounds_toArray, List.set_cons_succ, List.set_cons_zero, List.getElem_toArray, List.getElem_cons_zero, List.getElem_cons_succ]
            refine hl_take ?v33 rfl (by kernel_rfl) ?y33 ?z33
            case y33 => intro W hW; skip; replace hW := Lib.hid hW; go_simp; try rfl
            case z33 =>
            simp only [Act.put, List.setIfInBounds_toArray, List.set_cons_succ, List.set_cons_zero, List.getElem_toArray, List.getElem_cons_zero, List.getElem_cons_succ]
            refine hl_take ?v34 rfl (by kernel_rfl) ?y34 ?z34
            case y34 => intro W hW; skip; replace hW := Lib.hid hW; go_simp; try rfl
            case z34 =>
            simp only [Act.put, List.setIfInBounds_toArray, List.set_cons_succ, List.set_cons_zero, List.getElem_toArray, List.getElem_cons_zero, List.getElem_cons_succ]
            refine hl_take ?v35 rfl (by kernel_rfl) ?y35 ?z35
            case y35 => intro W hW; skip; replace hW := Lib.hid hW; go_simp; try rfl
            case z35 =>
            simp only [Act.put, List.setIfInBounds_toArray, List.set_cons_succ, List.set_cons_zero, List.getElem_toArray, List.getElem_cons_zero, List.getElem_cons_succ]
            refine hl_take ?v36 rfl (by kernel_rfl) ?y36 ?z36
            case y36 => intro W hW; skip; replace hW := Lib.hid hW; go_simp; try rfl
            case z36 =>
            simp only [Act.put, List.setIfInBounds_toArray, List.set_cons_succ, List.set_cons_zero, List.getElem_toArray, List.getElem_cons_zero, List.getElem_cons_succ]
            refine hl_take ?v37 rfl (by kernel_rfl) ?y37 ?z37
            case y37 => intro W hW; skip; replace hW := Lib.hid hW; go_simp; try rfl
            case z37 =>
            simp only [Act.put, List.setIfInBounds_toArray, List.set_cons_succ, List.set_cons_zero, List.getElem_toArray, List.getElem_cons_zero, List.getElem_cons_succ]
            refine hl_take ?v38 rfl (by kernel_rfl) ?y38 ?z38
            case y38 => intro W hW; skip; replace hW := Lib.hid hW; go_simp; try rfl
            case z38 =>
            simp only [Act.put, List.setIfInBounds_toArray, List.set_cons_succ, List.set_cons_zero, List.getElem_toArray, List.getElem_cons_zero, List.getElem_cons_succ]
            refine hl_take ?v39 rfl (by kernel_rfl) ?y39 ?z39
            case y39 => intro W hW; change Sep W _ at hW; have d0 := (hW.tail.tail.tail.gold.cell (p := ⟨b, off + k, none⟩) hbl).trans X0.out; replace hW := Lib.hid hW; go_simp; try rfl
            case z39 =>
            simp only [Act.put, List.setIfInBounds_toArray, List.set_cons_succ, List.set_cons_zero, List.getElem_toArray, List.getElem_cons_zero, List.getElem_cons_succ]
            refine hl_take ?v40 rfl (by kernel_rfl) ?y40 ?z40
            case y40 => intro W hW; skip; replace hW := Lib.hid hW; go_simp; try rfl
            case z40 =>
            simp only [Act.put, List.setIfInBounds_toArray, List.set_cons_succ, List.set_cons_zero, List.getElem_toArray, List.getElem_cons_zero, List.getElem_cons_succ]
            refine hl_take ?v41 rfl (by kernel_rfl) ?y41 ?z41
            case y41 => intro W hW; skip; replace hW := Lib.hid hW; go_simp; try rfl
            case z41 =>
            simp only [Act.put, List.setIfInBounds_toArray, List.set_cons_succ, List.set_cons_zero, List.getElem_toArray, List.getElem_cons_zero, List.getElem_cons_succ]
            refine hl_take ?v42 rfl (by kernel_rfl) ?y42 ?z42
            case y42 => intro W hW; skip; replace hW := Lib.hid hW; go_simp; try rfl
            case z42 =>
            simp only [Act.put, List.setIfInBounds_toArray, List.set_cons_succ, List.set_cons_zero, List.getElem_toArray, List.getElem_cons_zero, List.getElem_cons_succ]
            refine hl_take ?v43 rfl (by kernel_rfl) ?y43 ?z43
            case y43 => intro W hW; skip; replace hW := Lib.hid hW; go_simp; try rfl
            case z43 =>
            simp only [Act.put, List.setIfInBounds_toArray, List.set_cons_succ, List.set_cons_zero, List.getElem_toArray, List.getElem_cons_zero, List.getElem_cons_succ]
            refine hl_take ?v44 rfl (by kernel_rfl) ?y44 ?z44
            case y44 => intro W hW; change Sep W _ at hW; have d0 := (hW.tail.tail.tail.gold.cell (p := ⟨b, off + k, none⟩) hbl).trans X0.out; replace hW := Lib.hid hW; go_simp; try rfl
            case z44 =>
            simp only [Act.put, List.setIfInBounds_toArray, List.set_cons_succ, List.set_cons_zero, List.getElem_toArray, List.getElem_cons_zero, List.getElem_cons_succ]
            refine hl_one rfl (by kernel_rfl) (fun K hK => ?_)
            go_simp
            refine (has_any p l2 v _ _ hS.out.to1).mono ?_
            rintro e x5 ⟨rfl, rfl⟩
            rw [HBe.out]
            refine hK.out _ _ hS.out ?_
            clear hK K
            try simp only [Act.put, List.setIfInBounds_toArray, List.set_cons_succ, List.set_cons_zero, List.getElem_toArray, List.getElem_cons_zero, List.getElem_cons_succ]
            refine hl_one rfl (by kernel_rfl) (fun K hK => ?_)
            go_simp
            refine (rhas_any o l2 v _ _ hS.out.to2).mono ?_
            rintro e x5 ⟨rfl, rfl⟩
            rw [HBe.out]
            refine hK.out _ _ hS.out ?_
            clear hK K
            try simp only [Act.put, List.setIfInBounds_toArray, List.set_cons_succ, List.set_cons_zero, List.getElem_toArray, List.getElem_cons_zero, List.getElem_cons_succ]
            refine hl_take ?v45 rfl (by kernel_rfl) ?y45 ?z45
            case y45 => intro W hW; skip; replace hW := Lib.hid hW; go_simp; try rfl
            case z45 =>
            simp only [Act.put, List.setIfInBounds_toArray, List.set_cons_succ, List.set_cons_zero, List.getElem_toArray, List.getElem_cons_zero, List.getElem_cons_succ]
            refine hl_take ?v46 rfl (by kernel_rfl) ?y46 ?z46
            case y46 => intro W hW; skip; replace hW := Lib.hid hW; go_simp; try rfl
            case z46 =>
            simp only [Act.put, List.setIfInBounds_toArray, List.set_cons_succ, List.set_cons_zero, List.getElem_toArray, List.getElem_cons_zero, List.getElem_cons_succ]
            refine hl_done ?_
            skip
            go_wp2_with fail
            go_roundw
            case rel => exact ⟨k + 1, l2, by omega, by go_num, hl2, Lib.hid hS.out.tail⟩
            case measure => simp [intOf]; omega
          · obtain ⟨tf, l2, hl2, HA, HB⟩ := give_both lent v hlm
            replace HA := Lib.hid HA
            replace HB := Lib.hid HB
            go_wp2_with fail
            have hT := Lib.hid hS.out.drew
            clear c0
            have hU := Lib.hid (show (fun W : World => ∃ (x y : List Bool), Sep W [poolR p x, refR o y, old w]) _ from ⟨_, _, hS.out.drew⟩)
            refine hl_begin (fun W : World => ∃ (x y : List Bool), Sep W [poolR p x, refR o y, old w]) [(0, true), (1, true), (2, true), (3, true), (4, true), (6, true), (7, true), (8, true), (9, true), (10, true), (5, false), (11, false), (12, true), (13, true)] (by kernel_rfl) (by kernel_rfl) (by kernel_rfl) rfl (fun _ _ _ _ _ h => h) hU.out ?_
            change HL _ _ _ _ _ _ (World.drew _)
            generalize World.drew _ = wd at *
            refine hl_take ?v1 rfl (by kernel_rfl) ?y1 ?z1
            case y1 => intro W hW; skip; replace hW := Lib.hid hW; go_simp; try rfl
            case z1 =>
            simp only [Act.put, List.setIfInBounds_toArray, List.set_cons_succ, List.set_cons_zero, List.getElem_toArray, List.getElem_cons_zero, List.getElem_cons_succ]
            refine hl_take ?v2 rfl (by kernel_rfl) ?y2 ?z2
            case y2 => intro W hW; skip; replace hW := Lib.hid hW; go_simp; try rfl
            case z2 =>
            simp only [Act.put, List.setIfInBounds_toArray, List.set_cons_succ, List.set_cons_zero, List.getElem_toArray, List.getElem_cons_zero, List.getElem_cons_succ]
            refine hl_take ?v3 rfl (by kernel_rfl) ?y3 ?z3
            case y3 => intro W hW; skip; replace hW := Lib.hid hW; go_simp; try rfl
            case z3 =>
            simp only [Act.put, List.setIfInBounds_toArray, List.set_cons_succ, List.set_cons_zero, List.getElem_toArray, List.getElem_cons_zero, List.getElem_cons_succ]
            refine hl_take ?v4 rfl (by kernel_rfl) ?y4 ?z4
            case y4 => intro W hW; skip; replace hW := Lib.hid hW; go_simp; try rfl
            case z4 =>
            simp only [Act.put, List.setIfInBounds_toArray, List.set_cons_succ, List.set_cons_zero, List.getElem_toArray, List.getElem_cons_zero, List.getElem_cons_succ]
            refine hl_take ?v5 rfl (by kernel_rfl) ?y5 ?z5
            case y5 => intro W hW; obtain ⟨_, _, hW⟩ := hW; have d0 := (hW.tail.tail.gold.cell (p := ⟨b, off + k, none⟩) hbl).trans X0.out; replace hW := Lib.hid hW; go_simp; try rfl
            case z5 =>
            simp only [Act.put, List.setIfInBounds_toArray, List.set_cons_succ, List.set_cons_zero, List.getElem_toArray, List.getElem_cons_zero, List.getElem_cons_succ]
            refine hl_take ?v6 rfl (by kernel_rfl) ?y6 ?z6
            case y6 => intro W hW; skip; replace hW := Lib.hid hW; go_simp; try rfl
            case z6 =>
            simp only [Act.put, List.setIfInBounds_toArray, List.set_cons_succ, List.set_cons_zero, List.getElem_toArray, List.getElem_cons_zero, List.getElem_cons_succ]
            refine hl_take ?v7 rfl (by kernel_rfl) ?y7 ?z7
            case y7 => intro W hW; skip; replace hW := Lib.hid hW; go_simp; try rfl
            case z7 =>
            simp only [Act.put, List.setIfInBounds_toArray, List.set_cons_succ, List.set_cons_zero, List.getElem_toArray, List.getElem_cons_zero, List.getElem_cons_succ]
            refine hl_take ?v8 rfl (by kernel_rfl) ?y8 ?z8
            case y8 => intro W hW; skip; replace hW := Lib.hid hW; go_simp; try rfl
            case z8 =>
            simp only [Act.put, List.setIfInBounds_toArray, List.set_cons_succ, List.set_cons_zero, List.getElem_toArray, List.getElem_cons_zero, List.getElem_cons_succ]
            refine hl_take ?v9 rfl (by kernel_rfl) ?y9 ?z9
            case y9 => intro W hW; skip; replace hW := Lib.hid hW; go_simp; try rfl
            case z9 =>
            simp only [Act.put, List.setIfInBounds_toArray, List.set_cons_succ, List.set_cons_zero, List.getElem_toArray, List.getElem_cons_zero, List.getElem_cons_succ]
            refine hl_take ?v10 rfl (by kernel_rfl) ?y10 ?z10
            case y10 => intro W hW; obtain ⟨_, _, hW⟩ := hW; have d0 := (hW.tail.tail.gold.cell (p := ⟨b, off + k, none⟩) hbl).trans X0.out; replace hW := Lib.hid hW; go_simp; try rfl
            case z10 =>
            simp only [Act.put, List.setIfInBounds_toArray, List.set_cons_succ, List.set_cons_zero, List.getElem_toArray, List.getElem_cons_zero, List.getElem_cons_succ]
            refine hl_one rfl (by kernel_rfl) (fun K hK => ?_)
            go_simp
            refine (HA.out _ _ _ hT.out).mono ?_
            rintro e x1 ⟨rfl, q⟩
            replace hT := Lib.hid q.to1
            replace hU := Lib.hid (show (fun W : World => ∃ (x y : List Bool), Sep W [poolR p x, refR o y, old w]) x1 from ⟨_, _, q⟩)
            clear q
            refine hK.out _ _ hU.out ?_
            clear hK K
            try simp only [Act.put, List.setIfInBounds_toArray, List.set_cons_succ, List.set_cons_zero, List.getElem_toArray, List.getElem_cons_zero, List.getElem_cons_succ]
            refine hl_one rfl (by kernel_rfl) (fun K hK => ?_)
            go_simp
            refine (HB.out _ _ _ hT.out).mono ?_
            rintro e x2 ⟨rfl, q⟩
            replace hT := Lib.hid q.to1
            replace hU := Lib.hid (show (fun W : World => ∃ (x y : List Bool), Sep W [poolR p x, refR o y, old w]) x2 from ⟨_, _, hT.out⟩)
            clear q
            refine hK.out _ _ hU.out ?_
            clear hK K
            try simp only [Act.put, List.setIfInBounds_toArray, List.set_cons_succ, List.set_cons_zero, List.getElem_toArray, List.getElem_cons_zero, List.getElem_cons_succ]
            refine hl_take ?v11 rfl (by kernel_rfl) ?y11 ?z11
            case y11 => intro W hW; skip; replace hW := Lib.hid hW; go_simp; try rfl
            case z11 =>
            simp only [Act.put, List.setIfInBounds_toArray, List.set_cons_succ, List.set_cons_zero, List.getElem_toArray, List.getElem_cons_zero, List.getElem_cons_succ]
            refine hl_take ?v12 rfl (by kernel_rfl) ?y12 ?z12
            case y12 => intro W hW; skip; replace hW := Lib.hid hW; go_simp; try rfl
            case z12 =>
            simp only [Act.put, List.setIfInBounds_toArray, List.set_cons_succ, List.set_cons_zero, List.getElem_toArray, List.getElem_cons_zero, List.getElem_cons_succ]
            refine hl_done ?_
            skip
            replace hS := Lib.hid (show Sep _ [poolR p l2, refR o l2, old w] from hT.out)
            clear hT hU HA HB
            go_wp2_with fail
            have hcnt2 := lentU_count l2
            have HL := Lib.hid (lent_own p l2 _ _ hS.out (by rw [hl2]; exact hlm))
            rw [hcnt2] at HL
            obtain ⟨c, hc2⟩ : ∃ c, l2.count true = c := ⟨_, rfl⟩
            have hcl : c ≤ 128 := by have := List.count_le_length (a := true) (l := l2); omega
            rw [hc2] at HL hcnt2
            refine HL.out.mono ?_
            rintro e w8 ⟨bv, rfl, ho, q⟩
            replace hS := Lib.hid (hS.out.vec_new ho q)
            obtain ⟨vb, vd, rfl⟩ := own_slice ho
            clear q HL ho
            have hlm2 : l2.length ≤ 128 := by rw [hl2]; exact hlm
            replace hl2 := Lib.hid (hl2.trans hl.out)
            replace hc2 := Lib.hid hc2
            replace hcnt2 := Lib.hid hcnt2
            clear hlm hl
            go_wp2_with fail
            obtain ⟨hb, HBe⟩ : ∃ hb, Hid ((decide (0 ≤ v) && (decide (v < (l2.length : Int)) && l2.getD v.toNat false)) = hb) := ⟨_, rfl⟩
            have hS := Lib.hid (show (fun W : World => Sep W [vec 3 1 (.slice vb c vd) c ((lentU l2 l2.length).map (Value.int .i64)), poolR p l2, refR o l2, old w]) _ from hS.out.drew)
            refine hl_begin (fun W : World => Sep W [vec 3 1 (.slice vb c vd) c ((lentU l2 l2.length).map (Value.int .i64)), poolR p l2, refR o l2, old w]) [(0, true), (1, true), (2, true), (3, true), (4, true), (5, true), (6, true), (7, true), (8, true), (9, false), (10, false), (11, true), (12, true), (13, true), (14, true), (16, true), (15, false), (17, false), (18, true), (19, true), (20, true), (21, true), (23, true), (22, false), (24, false), (25, true), (26, true), (27, true), (28, true), (29, true), (30, true), (31, true), (32, true), (34, true), (35, true), (36, true), (37, true), (38, true), (33, false), (39, false), (40, true), (41, true)] (by kernel_rfl) (by kernel_rfl) (by kernel_rfl) rfl (fun _ _ _ _ _ h => h) hS.out ?_
            change HL _ _ _ _ _ _ (World.drew _)
            generalize World.drew _ = wd at *
            refine hl_take ?v47 rfl (by kernel_rfl) ?y47 ?z47
            case y47 => intro W hW; skip; replace hW := Lib.hid hW; go_simp; try rfl
            case z47 =>
            simp only [Act.put, List.setIfInBounds_toArray, List.set_cons_succ, List.set_cons_zero, List.getElem_toArray, List.getElem_cons_zero, List.getElem_cons_succ]
            refine hl_take ?v48 rfl (by kernel_rfl) ?y48 ?z48
            case y48 => intro W hW; skip; replace hW := Lib.hid hW; go_simp; try rfl
            case z48 =>
            simp only [Act.put, List.setIfInBounds_toArray, List.set_cons_succ, List.set_cons_zero, List.getElem_toArray, List.getElem_cons_zero, List.getElem_cons_succ]
            refine hl_take ?v49 rfl (by kernel_rfl) ?y49 ?z49
            case y49 => intro W hW; skip; replace hW := Lib.hid hW; go_simp; try rfl
            case z49 =>
            simp only [Act.put, List.setIfInBounds_toArray, List.set_cons_succ, List.set_cons_zero, List.getElem_toArray, List.getElem_cons_zero, List.getElem_cons_succ]
            refine hl_take ?v50 rfl (by kernel_rfl) ?y50 ?z50
            case y50 => intro W hW; skip; replace hW := Lib.hid hW; go_simp; try rfl
            case z50 =>
            simp only [Act.put, List.setIfInBounds_toArray, List.set_cons_succ, List.set_cons_zero, List.getElem_toArray, List.getElem_cons_zero, List.getElem_cons_succ]
            refine hl_take ?v51 rfl (by kernel_rfl) ?y51 ?z51
            case y51 => intro W hW; skip; replace hW := Lib.hid hW; go_simp; try rfl
            case z51 =>
            simp only [Act.put, List.setIfInBounds_toArray, List.set_cons_succ, List.set_cons_zero, List.getElem_toArray, List.getElem_cons_zero, List.getElem_cons_succ]
            refine hl_take ?v52 rfl (by kernel_rfl) ?y52 ?z52
            case y52 => intro W hW; skip; replace hW := Lib.hid hW; go_simp; try rfl
            case z52 =>
            simp only [Act.put, List.setIfInBounds_toArray, List.set_cons_succ, List.set_cons_zero, List.getElem_toArray, List.getElem_cons_zero, List.getElem_cons_succ]
            refine hl_take ?v53 rfl (by kernel_rfl) ?y53 ?z53
            case y53 => intro W hW; skip; replace hW := Lib.hid hW; go_simp; try rfl
            case z53 =>
            simp only [Act.put, List.setIfInBounds_toArray, List.set_cons_succ, List.set_cons_zero, List.getElem_toArray, List.getElem_cons_zero, List.getElem_cons_succ]
            refine hl_take ?v54 rfl (by kernel_rfl) ?y54 ?z54
            case y54 => intro W hW; skip; replace hW := Lib.hid hW; go_simp; try rfl
            case z54 =>
            simp only [Act.put, List.setIfInBounds_toArray, List.set_cons_succ, List.set_cons_zero, List.getElem_toArray, List.getElem_cons_zero, List.getElem_cons_succ]
            refine hl_take ?v55 rfl (by kernel_rfl) ?y55 ?z55
            case y55 => intro W hW; skip; replace hW := Lib.hid hW; go_simp; try rfl
            case z55 =>
            simp only [Act.put, List.setIfInBounds_toArray, List.set_cons_succ, List.set_cons_zero, List.getElem_toArray, List.getElem_cons_zero, List.getElem_cons_succ]
            refine hl_one rfl (by kernel_rfl) (fun K hK => ?_)
            go_simp
            refine (reach_any o l2 _ _ hS.out.to2 hlm2).mono ?_
            rintro e x1 ⟨ev, rfl, q⟩
            have hE := Lib.hid q.vec_ri
            replace hS := Lib.hid (show (fun W : World => Sep W [vec 3 1 (.slice vb c vd) c ((lentU l2 l2.length).map (Value.int .i64)), poolR p l2, refR o l2, old w]) x1 from q.tail.to2.to2)
            clear q
            refine hK.out _ _ hS.out ?_
            clear hK K
            try simp only [Act.put, List.setIfInBounds_toArray, List.set_cons_succ, List.set_cons_zero, List.getElem_toArray, List.getElem_cons_zero, List.getElem_cons_succ]
            refine hl_one rfl (by kernel_rfl) (fun K hK => ?_)
            go_simp
            refine (same_any _ _ _ _ _ (by have := hcnt2.out; omega) (by have := hcnt2.out; omega) hS.out.vec_ri hE.out).mono ?_
            rintro e x2 ⟨rfl, m2, hx⟩
            replace hS := Lib.hid (show (fun W : World => Sep W [vec 3 1 (.slice vb c vd) c ((lentU l2 l2.length).map (Value.int .i64)), poolR p l2, refR o l2, old w]) x2 by rw [hx]; exact hS.out.drewN m2)
            clear hE hx
            rw [decide_eq_true rfl]
            refine hK.out _ _ hS.out ?_
            clear hK K
            try simp only [Act.put, List.setIfInBounds_toArray, List.set_cons_succ, List.set_cons_zero, List.getElem_toArray, List.getElem_cons_zero, List.getElem_cons_succ]
            refine hl_take ?v56 rfl (by kernel_rfl) ?y56 ?z56
            case y56 => intro W hW; skip; replace hW := Lib.hid hW; go_simp; try rfl
            case z56 =>
            simp only [Act.put, List.setIfInBounds_toArray, List.set_cons_succ, List.set_cons_zero, List.getElem_toArray, List.getElem_cons_zero, List.getElem_cons_succ]
            refine hl_take ?v57 rfl (by kernel_rfl) ?y57 ?z57
            case y57 => intro W hW; skip; replace hW := Lib.hid hW; go_simp; try rfl
            case z57 =>
            simp only [Act.put, List.setIfInBounds_toArray, List.set_cons_succ, List.set_cons_zero, List.getElem_toArray, List.getElem_cons_zero, List.getElem_cons_succ]
            refine hl_take ?v58 rfl (by kernel_rfl) ?y58 ?z58
            case y58 => intro W hW; skip; replace hW := Lib.hid hW; go_simp; try rfl
            case z58 =>
            simp only [Act.put, List.setIfInBounds_toArray, List.set_cons_succ, List.set_cons_zero, List.getElem_toArray, List.getElem_cons_zero, List.getElem_cons_succ]
            refine hl_take ?v59 rfl (by kernel_rfl) ?y59 ?z59
            case y59 => intro W hW; skip; replace hW := Lib.hid hW; go_simp; try rfl
            case z59 =>
            simp only [Act.put, List.setIfInBounds_toArray, List.set_cons_succ, List.set_cons_zero, List.getElem_toArray, List.getElem_cons_zero, List.getElem_cons_succ]
            refine hl_take ?v60 rfl (by kernel_rfl) ?y60 ?z60
            case y60 => intro W hW; skip; replace hW := Lib.hid hW; go_simp; try rfl
            case z60 =>
            simp only [Act.put, List.setIfInBounds_toArray, List.set_cons_succ, List.set_cons_zero, List.getElem_toArray, List.getElem_cons_zero, List.getElem_cons_succ]
            refine hl_one rfl (by kernel_rfl) (fun K hK => ?_)
            go_simp
            refine (live_any p l2 _ _ hS.out.to1 hlm2).mono ?_
            rintro e x3 ⟨rfl, m3, hx⟩
            replace hS := Lib.hid (show (fun W : World => Sep W [vec 3 1 (.slice vb c vd) c ((lentU l2 l2.length).map (Value.int .i64)), poolR p l2, refR o l2, old w]) x3 by rw [hx]; exact hS.out.drewN m3)
            clear hx
            rw [hc2.out]
            refine hK.out _ _ hS.out ?_
            clear hK K
            try simp only [Act.put, List.setIfInBounds_toArray, List.set_cons_succ, List.set_cons_zero, List.getElem_toArray, List.getElem_cons_zero, List.getElem_cons_succ]
            refine hl_one rfl (by kernel_rfl) (fun K hK => ?_)
            go_simp
            refine (rlive_any o l2 _ _ hS.out.to2 hlm2).mono ?_
            rintro e x4 ⟨rfl, q⟩
            replace hS := Lib.hid (show (fun W : World => Sep W [vec 3 1 (.slice vb c vd) c ((lentU l2 l2.length).map (Value.int .i64)), poolR p l2, refR o l2, old w]) x4 from q.to2.to2)
            clear q
            rw [hc2.out]
            refine hK.out _ _ hS.out ?_
            clear hK K
            try simp only [Act.put, List.setIfInBounds_toArray, List.set_cons_succ, List.set_cons_zero, List.getElem_toArray, List.getElem_cons_zero, List.getElem_cons_succ]
            refine hl_take ?v61 rfl (by kernel_rfl) ?y61 ?z61
            case y61 => intro W hW; skip; replace hW := Lib.hid hW; go_simp; try rfl
            case z61 =>
            simp only [Act.put, List.setIfInBounds_toArray, List.set_cons_succ, List.set_cons_zero, List.getElem_toArray, List.getElem_cons_zero, List.getElem_cons_succ]
            refine hl_take ?v62 rfl (by kernel_rfl) ?y62 ?z62
            case y62 => intro W hW; skip; replace hW := Lib.hid hW; go_simp; try rfl
            case z62 =>
            simp only [Act.put, List.setIfInBounds_toArray, List.set_cons_succ, List.set_cons_zero, List.getElem_toArray, List.getElem_cons_zero, List.getElem_cons_succ]
            refine hl_take ?v63 rfl (by kernel_rfl) ?y63 ?z63
            case y63 => intro W hW; skip; replace hW := Lib.hid hW; go_simp; try rfl
            case z63 =>
            simp only [Act.put, List.setIfInBounds_toArray, List.set_cons_succ, List.set_cons_zero, List.getElem_toArray, List.getElem_cons_zero, List.getElem_cons_succ]
            refine hl_take ?v64 rfl (by kernel_rfl) ?y64 ?z64
            case y64 => intro W hW; skip; replace hW := Lib.hid hW; go_simp; try rfl
            case z64 =>
            simp only [Act.put, List.setIfInBounds_toArray, List.set_cons_succ, List.set_cons_zero, List.getElem_toArray, List.getElem_cons_zero, List.getElem_cons_succ]
            refine hl_take ?v65 rfl (by kernel_rfl) ?y65 ?z65
            case y65 => intro W hW; skip; replace hW := Lib.hid hW; go_simp; try rfl
            case z65 =>
            simp only [Act.put, List.setIfInBounds_toArray, List.set_cons_succ, List.set_cons_zero, List.getElem_toArray, List.getElem_cons_zero, List.getElem_cons_succ]
            refine hl_one rfl (by kernel_rfl) (fun K hK => ?_)
            go_simp
            refine (most_any p l2 _ _ hS.out.to1).mono ?_
            rintro e x5 ⟨rfl, rfl⟩
            rw [hl2.out]
            refine hK.out _ _ hS.out ?_
            clear hK K
            try simp only [Act.put, List.setIfInBounds_toArray, List.set_cons_succ, List.set_cons_zero, List.getElem_toArray, List.getElem_cons_zero, List.getElem_cons_succ]
            refine hl_one rfl (by kernel_rfl) (fun K hK => ?_)
            go_simp
            refine (rmost_any o l2 _ _ hS.out.to2).mono ?_
            rintro e x5 ⟨rfl, rfl⟩
            rw [hl2.out]
            refine hK.out _ _ hS.out ?_
            clear hK K
            try simp only [Act.put, List.setIfInBounds_toArray, List.set_cons_succ, List.set_cons_zero, List.getElem_toArray, List.getElem_cons_zero, List.getElem_cons_succ]
            refine hl_take ?v66 rfl (by kernel_rfl) ?y66 ?z66
            case y66 => intro W hW; skip; replace hW := Lib.hid hW; go_simp; try rfl
            case z66 =>
            simp only [Act.put, List.setIfInBounds_toArray, List.set_cons_succ, List.set_cons_zero, List.getElem_toArray, List.getElem_cons_zero, List.getElem_cons_succ]
            refine hl_take ?v67 rfl (by kernel_rfl) ?y67 ?z67
            case y67 => intro W hW; skip; replace hW := Lib.hid hW; go_simp; try rfl
            case z67 =>
            simp only [Act.put, List.setIfInBounds_toArray, List.set_cons_succ, List.set_cons_zero, List.getElem_toArray, List.getElem_cons_zero, List.getElem_cons_succ]
            refine hl_take ?v68 rfl (by kernel_rfl) ?y68 ?z68
            case y68 => intro W hW; skip; replace hW := Lib.hid hW; go_simp; try rfl
            case z68 =>
            simp only [Act.put, List.setIfInBounds_toArray, List.set_cons_succ, List.set_cons_zero, List.getElem_toArray, List.getElem_cons_zero, List.getElem_cons_succ]
            refine hl_take ?v69 rfl (by kernel_rfl) ?y69 ?z69
            case y69 => intro W hW; skip; replace hW := Lib.hid hW; go_simp; try rfl
            case z69 =>
            simp only [Act.put, List.setIfInBounds_toArray, List.set_cons_succ, List.set_cons_zero, List.getElem_toArray, List.getElem_cons_zero, List.getElem_cons_succ]
            refine hl_take ?v70 rfl (by kernel_rfl) ?y70 ?z70
            case y70 => intro W hW; skip; replace hW := Lib.hid hW; go_simp; try rfl
            case z70 =>
            simp only [Act.put, List.setIfInBounds_toArray, List.set_cons_succ, List.set_cons_zero, List.getElem_toArray, List.getElem_cons_zero, List.getElem_cons_succ]
            refine hl_take ?v71 rfl (by kernel_rfl) ?y71 ?z71
            case y71 => intro W hW; skip; replace hW := Lib.hid hW; go_simp; try rfl
            case z71 =>
            simp only [Act.put, List.setIfInBounds_toArray, List.set_cons_succ, List.set_cons_zero, List.getElem_toArray, List.getElem_cons_zero, List.getElem_cons_succ]
            refine hl_take ?v72 rfl (by kernel_rfl) ?y72 ?z72
            case y72 => intro W hW; skip; replace hW := Lib.hid hW; go_simp; try rfl
            case z72 =>
            simp only [Act.put, List.setIfInBounds_toArray, List.set_cons_succ, List.set_cons_zero, List.getElem_toArray, List.getElem_cons_zero, List.getElem_cons_succ]
            refine hl_take ?v73 rfl (by kernel_rfl) ?y73 ?z73
            case y73 => intro W hW; change Sep W _ at hW; have d0 := (hW.tail.tail.tail.gold.cell (p := ⟨b, off + k, none⟩) hbl).trans X0.out; replace hW := Lib.hid hW; go_simp; try rfl
            case z73 =>
            simp only [Act.put, List.setIfInBounds_toArray, List.set_cons_succ, List.set_cons_zero, List.getElem_toArray, List.getElem_cons_zero, List.getElem_cons_succ]
            refine hl_take ?v74 rfl (by kernel_rfl) ?y74 ?z74
            case y74 => intro W hW; skip; replace hW := Lib.hid hW; go_simp; try rfl
            case z74 =>
            simp only [Act.put, List.setIfInBounds_toArray, List.set_cons_succ, List.set_cons_zero, List.getElem_toArray, List.getElem_cons_zero, List.getElem_cons_succ]
            refine hl_take ?v75 rfl (by kernel_rfl) ?y75 ?z75
            case y75 => intro W hW; skip; replace hW := Lib.hid hW; go_simp; try rfl
            case z75 =>
            simp only [Act.put, List.setIfInBounds_toArray, List.set_cons_succ, List.set_cons_zero, List.getElem_toArray, List.getElem_cons_zero, List.getElem_cons_succ]
            refine hl_take ?v76 rfl (by kernel_rfl) ?y76 ?z76
            case y76 => intro W hW; skip; replace hW := Lib.hid hW; go_simp; try rfl
            case z76 =>
            simp only [Act.put, List.setIfInBounds_toArray, List.set_cons_succ, List.set_cons_zero, List.getElem_toArray, List.getElem_cons_zero, List.getElem_cons_succ]
            refine hl_take ?v77 rfl (by kernel_rfl) ?y77 ?z77
            case y77 => intro W hW; skip; replace hW := Lib.hid hW; go_simp; try rfl
            case z77 =>
            simp only [Act.put, List.setIfInBounds_toArray, List.set_cons_succ, List.set_cons_zero, List.getElem_toArray, List.getElem_cons_zero, List.getElem_cons_succ]
            refine hl_take ?v78 rfl (by kernel_rfl) ?y78 ?z78
            case y78 => intro W hW; change Sep W _ at hW; have d0 := (hW.tail.tail.tail.gold.cell (p := ⟨b, off + k, none⟩) hbl).trans X0.out; replace hW := Lib.hid hW; go_simp; try rfl
            case z78 =>
            simp only [Act.put, List.setIfInBounds_toArray, List.set_cons_succ, List.set_cons_zero, List.getElem_toArray, List.getElem_cons_zero, List.getElem_cons_succ]
            refine hl_one rfl (by kernel_rfl) (fun K hK => ?_)
            go_simp
            refine (has_any p l2 v _ _ hS.out.to1).mono ?_
            rintro e x5 ⟨rfl, rfl⟩
            rw [HBe.out]
            refine hK.out _ _ hS.out ?_
            clear hK K
            try simp only [Act.put, List.setIfInBounds_toArray, List.set_cons_succ, List.set_cons_zero, List.getElem_toArray, List.getElem_cons_zero, List.getElem_cons_succ]
            refine hl_one rfl (by kernel_rfl) (fun K hK => ?_)
            go_simp
            refine (rhas_any o l2 v _ _ hS.out.to2).mono ?_
            rintro e x5 ⟨rfl, rfl⟩
            rw [HBe.out]
            refine hK.out _ _ hS.out ?_
            clear hK K
            try simp only [Act.put, List.setIfInBounds_toArray, List.set_cons_succ, List.set_cons_zero, List.getElem_toArray, List.getElem_cons_zero, List.getElem_cons_succ]
            refine hl_take ?v79 rfl (by kernel_rfl) ?y79 ?z79
            case y79 => intro W hW; skip; replace hW := Lib.hid hW; go_simp; try rfl
            case z79 =>
            simp only [Act.put, List.setIfInBounds_toArray, List.set_cons_succ, List.set_cons_zero, List.getElem_toArray, List.getElem_cons_zero, List.getElem_cons_succ]
            refine hl_take ?v80 rfl (by kernel_rfl) ?y80 ?z80
            case y80 => intro W hW; skip; replace hW := Lib.hid hW; go_simp; try rfl
            case z80 =>
            simp only [Act.put, List.setIfInBounds_toArray, List.set_cons_succ, List.set_cons_zero, List.getElem_toArray, List.getElem_cons_zero, List.getElem_cons_succ]
            refine hl_done ?_
            skip
            go_wp2_with fail
            go_roundw
            case rel => exact ⟨k + 1, l2, by omega, by go_num, hl2, Lib.hid hS.out.tail⟩
            case measure => simp [intOf]; omega
        · have i2 : ¬ (k : Int) < (len : Int) := by omega
          go_wp2_with fail
          go_ret
          exact ⟨rfl, hS.out.tail.tail.gold⟩
    · have hbad : most < 0 ∨ 128 < most := by omega
      have H1 := Lib.hid (fun W => new_bad most hbad W)
      have H2 := Lib.hid (fun W => rnew_bad most hbad W)
      clear hmo hbad hz'
      go_enter Try.func5, Try.ntmps5
      go_wp2_with fail
      refine (lives_any _).mono ?_
      rintro e w1 ⟨rfl, q⟩
      have hB := Lib.hid ((Sep.start w).below q)
      clear q
      go_wp2_with fail
      refine (H1.out _).mono ?_
      rintro e w2 ⟨rfl, rfl⟩
      go_wp2_with fail
      refine (H2.out _).mono ?_
      rintro e w3 ⟨rfl, rfl⟩
      clear H1 H2
      go_wp2_with fail
      go_ret
      exact ⟨rfl, hB.out.gold⟩
  · have i80 : ¬ (len : Int) ≤ 80 := by omega
    go_enter Try.func5, Try.ntmps5
    go_wp2_with fail
    refine (lives_any _).mono ?_
    rintro e w1 ⟨rfl, q⟩
    have hB := Lib.hid ((Sep.start w).below q)
    clear q
    go_wp2_with fail
    go_ret
    exact ⟨rfl, hB.out.gold⟩
end Go.Proofs.Ytbfkkghbkpbhlaa
