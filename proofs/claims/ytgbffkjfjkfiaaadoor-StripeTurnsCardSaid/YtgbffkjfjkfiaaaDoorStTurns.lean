/-
  The walk of StripeTurns. No condition beside arguments that can be read.
-/
import Derived.Test.YtgbffkjfjkfiaaaDoorStAll
import Derived.Test.YtgbffkjfjkfiaaaDoorStNames
import Derived.Test.YtgbffkjfjkfiaaaDoorHl
namespace Go.Proofs.YtgbffkjfjkfiaaaDoor
open Go.RowKit
theorem cnt_app (a b : List (Int × Int)) (s : Int) (n j : Nat) : (cntL a s n).getD j 0 + (cntL b s n).getD j 0 = (cntL (a ++ b) s n).getD j 0 := by
  by_cases h : j < n
  · rw [cntL_get _ _ _ _ h, cntL_get _ _ _ _ h, cntL_get _ _ _ _ h, List.filter_append, List.length_append]
    omega
  · have e : ∀ l, (cntL l s n).getD j 0 = 0 := fun l => by rw [List.getD, List.getElem?_eq_none (by rw [cntL_len]; omega)]; rfl
    rw [e, e, e]; rfl
theorem sameV_sym (t r t' r' s : Int) : sameV t r t' r' s = sameV t' r' t r s := by
  unfold sameV
  by_cases h : ofV t r s = ofV t' r' s
  · rw [h]
  · rw [beq_eq_false_iff_ne.2 h, beq_eq_false_iff_ne.2 (Ne.symm h), Bool.and_false, Bool.and_false]
theorem ofV_twice {t r s : Int} (h1 : 1 ≤ s) (h2 : s ≤ 8) (h : ¬ ofV t r s < 0) : 0 ≤ ofV t r (2 * s) ∧ ofV t r (2 * s) % s = ofV t r s ∧ ofV t r (2 * s) < 2 * s := by
  have hl := ofV_pos h
  unfold ofV
  rw [if_pos ⟨by omega, by omega, hl⟩, if_pos ⟨h1, by omega, hl⟩]
  refine ⟨Int.emod_nonneg _ (by omega), ?_, Int.emod_lt_of_pos _ (by omega)⟩
  rw [Int.emod_emod_of_dvd _ (Int.dvd_mul_left 2 s)]
theorem ofV_twice_neg {t r s : Int} (h1 : 1 ≤ s) (h2 : s ≤ 8) (h : ofV t r s < 0) : ofV t r (2 * s) = -1 := by
  obtain ⟨hl, _⟩ := ofV_neg h1 (by omega) h
  unfold ofV
  rw [if_neg (fun k => k.2.2 hl)]
theorem rn_take {w : World} {a : Option Addr} {len cap : Nat} {l : List (Int × Int)} (h : RN w (.slice a len cap) l) (k c : Nat) (hk : k ≤ len) : RN w (.slice a k c) (l.take k) := by
  obtain ⟨a', c', hv, hr⟩ := h
  injection hv with e1 e2 e3
  subst e1 e2 e3
  refine ⟨a, c, by rw [List.length_take, Nat.min_eq_left hk], fun h0 => ?_⟩
  rw [List.length_take, Nat.min_eq_left hk] at h0
  obtain ⟨b, off, ha, hlt, hc⟩ := hr (by omega)
  refine ⟨b, off, ha, hlt, fun j hj => ?_⟩
  rw [List.length_take, Nat.min_eq_left hk] at hj
  have e : (l.take k).getD j (0, 0) = l.getD j (0, 0) := by simp [List.getD, List.getElem?_take, hj]
  rw [e]
  exact hc j (by omega)
theorem rn_drop {w : World} {b off len cap : Nat} {l : List (Int × Int)} (h : RN w (.slice (some ⟨b, off, none⟩) len cap) l) (k c : Nat) (hk : k ≤ len) : RN w (.slice (some ⟨b, off + k * 2, none⟩) (len - k) c) (l.drop k) := by
  obtain ⟨a', c', hv, hr⟩ := h
  injection hv with e1 e2 e3
  subst e2 e3
  refine ⟨_, c, by rw [List.length_drop], fun h0 => ?_⟩
  rw [List.length_drop] at h0
  obtain ⟨b', off', ha, hlt, hc⟩ := hr (by omega)
  rw [← e1] at ha
  injection ha with ha
  injection ha with e4 e5
  subst e4 e5
  refine ⟨_, _, rfl, hlt, fun j hj => ?_⟩
  rw [List.length_drop] at hj
  have e : (l.drop k).getD j (0, 0) = l.getD (k + j) (0, 0) := by simp [List.getD]
  rw [e, show off + k * 2 + j * 2 = off + (k + j) * 2 by omega]
  exact hc (k + j) (by omega)
theorem rn_none (w : World) (a : Option Addr) (n c : Nat) (l : List (Int × Int)) (hn : n = 0) (h : l.length = 0) : RN w (.slice a n c) l := ⟨a, c, by rw [h, hn], fun h0 => by omega⟩
set_option maxHeartbeats 8000000 in
set_option maxRecDepth 100000 in
theorem stturns_walk (a : Option Addr) (len cap : Nat) (z : Nat → Nat → Int) (a1 a2 : Int) (w : World) (h : IsRows 2 w a len cap z) (hna : a = none → cap = 0) (_h1 : (Lit.int .i64 a1).wf = true) (_h2 : (Lit.int .i64 a2).wf = true) :
    Calls Tryd.prog 6 #[.slice a len cap, .int .i64 a1, .int .i64 a2] w fun e w' => e = .returned (.bool true) ∧ Below w.heap.size w w' := by
  by_cases h60 : 60 < len
  · go_enter Tryd.func6, Tryd.ntmps6
    go_wp2_with fail
    refine (lives_any _).mono ?_
    rintro e w1 ⟨rfl, b1⟩
    go_wp2_with fail
    go_ret
    exact ⟨rfl, b1⟩
  · obtain ⟨n0, PN⟩ := pick_nat a2 8 (by omega) (by omega)
    have hn0 := PN.lt
    obtain ⟨ct, PC⟩ := pick_nat a1 ((len : Int) + 1) (by omega) (by omega)
    have hct := PC.lt
    obtain ⟨s, hs⟩ : ∃ s : Nat, (1 : Int) + n0 = s := ⟨1 + n0, by omega⟩
    have hs1 : 1 ≤ s := by omega
    have hs2 : s ≤ 16 := by omega
    have hs8 : s ≤ 8 := by omega
    have hRN := Lib.hid (rn_rows h)
    have hlc := h.1
    have hcm := h.2.1
    obtain ⟨l, hl⟩ : ∃ l, l = rowsL z len := ⟨_, rfl⟩
    have hll : l.length = len := by rw [hl, rowsL_len]
    rw [← hl] at hRN
    clear h hl
    replace hll := Lib.hid hll
    have c0 : (0 : Int) ≤ (ct : Int) := by omega
    have c1 : (ct : Int) ≤ (len : Int) := by omega
    have c2 : ct ≤ len := by omega
    unfold maxLen at hcm
    go_enter Tryd.func6, Tryd.ntmps6
    go_wp2_with fail
    refine (lives_any _).mono ?_
    rintro e w1 ⟨rfl, b1⟩
    have hS0 := Lib.hid ((Sep.start w).below b1)
    clear b1
    go_wp2_with fail
    refine (PN.run.out _).mono ?_
    rintro e w2 ⟨rfl, rfl⟩
    go_wp2_with fail
    refine (PC.run.out _).mono ?_
    rintro e w2 ⟨rfl, rfl⟩
    go_wp2_with fail
    refine held_cut (fun (x : Act) (y : World) => ∃ (ga gb gc cp : Nat) (u14 u15 u16 u17 u18 u19 u20 u21 u22 u23 u24 u25 u26 u27 u28 u29 u30 u31 u32 u33 u34 u35 u36 u37 u38 u39 : Value), x = { tmps := #[.slice a len cp, .int .i64 ct, .int .i64 s, undef, undef, undef, .bool false, .slice (some ⟨ga, 0, none⟩) s s, .slice (some ⟨gb, 0, none⟩) s s, .slice (some ⟨gc, 0, none⟩) s s, undef, undef, undef, undef, u14, u15, u16, u17, u18, u19, u20, u21, u22, u23, u24, u25, u26, u27, u28, u29, u30, u31, u32, u33, u34, u35, u36, u37, u38, u39, undef, undef, undef, undef, undef, undef, undef, undef, undef, undef, undef, undef, undef, undef, undef, undef, undef, undef, undef, undef, undef, undef, undef, undef, undef, undef, undef, undef, undef, undef, undef, undef, undef, undef, undef, undef, undef, undef, undef, undef, undef, undef, undef, undef, undef, undef, undef, undef, undef, undef, undef, undef, undef, undef, undef, undef, undef, undef, undef, undef, undef, undef, undef, undef, undef, undef, undef, undef, undef, undef, undef, undef, undef, undef, undef, undef, undef, undef, undef, undef, undef, undef, undef, undef, undef, undef, undef, undef, undef, undef, undef, undef], defers := [] } ∧ Hid (Sep y [vi (.slice (some ⟨gc, 0, none⟩) s s) (cntL l s s), vi (.slice (some ⟨gb, 0, none⟩) s s) (cntL (l.drop ct) s s), vi (.slice (some ⟨ga, 0, none⟩) s s) (cntL (l.take ct) s s), old w])) ?cutA ?cutB
    case cutB =>
      have c3 : ct ≤ cap := by omega
      by_cases hcc : cap = ct
      · rw [hcc] at hRN
        have hz := Lib.hid (show len - ct = 0 by omega)
        clear c3
        have hM := Lib.hid (show Sep _ [old w] from hS0.out.drew)
        have hS := Lib.hid (show (fun W : World => Below w.heap.size w W) _ from hS0.out.drew.gold)
        refine hl_begin (fun W : World => Below w.heap.size w W) [(0, true), (1, true), (2, true), (3, true), (5, true), (6, true), (7, true), (8, true), (10, true), (11, true), (4, false), (9, false), (12, false), (13, true), (14, true), (15, true)] (by kernel_rfl) (by kernel_rfl) (by kernel_rfl) rfl (fun _ _ _ _ _ h => h) hS.out ?_
        change HL _ _ _ _ _ _ (World.drew _)
        refine hl_take ?v1 rfl (by kernel_rfl) ?y1 ?z1
        case y1 => intro W hW; skip; replace hW := Lib.hid hW; go_simp; try rfl
        case z1 =>
        simp only [Act.put, List.setIfInBounds_toArray, List.set_cons_succ, List.set_cons_zero, List.getElem_toArray, List.getElem_cons_zero, List.getElem_cons_succ]
        refine hl_take ?v2 rfl (by kernel_rfl) ?y2 ?z2
        case y2 => intro W hW; skip; replace hW := Lib.hid hW; go_simp; try rfl
        case z2 =>
        simp only [Act.put, List.setIfInBounds_toArray, List.set_cons_succ, List.set_cons_zero, List.getElem_toArray, List.getElem_cons_zero, List.getElem_cons_succ]
        refine hl_take ?v3 rfl (by kernel_rfl) ?y3 ?z3
        case y3 => intro W hW; skip; replace hW := Lib.hid hW; go_simp; try rfl
        case z3 =>
        simp only [Act.put, List.setIfInBounds_toArray, List.set_cons_succ, List.set_cons_zero, List.getElem_toArray, List.getElem_cons_zero, List.getElem_cons_succ]
        refine hl_take ?v4 rfl (by kernel_rfl) ?y4 ?z4
        case y4 => intro W hW; skip; replace hW := Lib.hid hW; go_simp; try rfl
        case z4 =>
        simp only [Act.put, List.setIfInBounds_toArray, List.set_cons_succ, List.set_cons_zero, List.getElem_toArray, List.getElem_cons_zero, List.getElem_cons_succ]
        refine hl_take ?v5 rfl (by kernel_rfl) ?y5 ?z5
        case y5 => intro W hW; skip; replace hW := Lib.hid hW; go_simp; try rfl
        case z5 =>
        simp only [Act.put, List.setIfInBounds_toArray, List.set_cons_succ, List.set_cons_zero, List.getElem_toArray, List.getElem_cons_zero, List.getElem_cons_succ]
        refine hl_take ?v6 rfl (by kernel_rfl) ?y6 ?z6
        case y6 => intro W hW; skip; replace hW := Lib.hid hW; go_simp; try rfl
        case z6 =>
        simp only [Act.put, List.setIfInBounds_toArray, List.set_cons_succ, List.set_cons_zero, List.getElem_toArray, List.getElem_cons_zero, List.getElem_cons_succ]
        refine hl_take ?v7 rfl (by kernel_rfl) ?y7 ?z7
        case y7 => intro W hW; skip; replace hW := Lib.hid hW; go_simp; try rfl
        case z7 =>
        simp only [Act.put, List.setIfInBounds_toArray, List.set_cons_succ, List.set_cons_zero, List.getElem_toArray, List.getElem_cons_zero, List.getElem_cons_succ]
        refine hl_take ?v8 rfl (by kernel_rfl) ?y8 ?z8
        case y8 => intro W hW; skip; replace hW := Lib.hid hW; go_simp; try rfl
        case z8 =>
        simp only [Act.put, List.setIfInBounds_toArray, List.set_cons_succ, List.set_cons_zero, List.getElem_toArray, List.getElem_cons_zero, List.getElem_cons_succ]
        refine hl_take ?v9 rfl (by kernel_rfl) ?y9 ?z9
        case y9 => intro W hW; skip; replace hW := Lib.hid hW; go_simp; try rfl
        case z9 =>
        simp only [Act.put, List.setIfInBounds_toArray, List.set_cons_succ, List.set_cons_zero, List.getElem_toArray, List.getElem_cons_zero, List.getElem_cons_succ]
        refine hl_take ?v10 rfl (by kernel_rfl) ?y10 ?z10
        case y10 => intro W hW; skip; replace hW := Lib.hid hW; go_simp; try rfl
        case z10 =>
        simp only [Act.put, List.setIfInBounds_toArray, List.set_cons_succ, List.set_cons_zero, List.getElem_toArray, List.getElem_cons_zero, List.getElem_cons_succ]
        refine hl_one rfl (by kernel_rfl) (fun K hK => ?_)
        go_simp
        refine (spread_any _ (l.take ct) s hs1 hs2 _ (rn_take (hRN.out.below hS.out) ct ct c2) (by rw [List.length_take]; have := hll.out; omega)).mono ?_
        rintro e wga ⟨ga, rfl, hG⟩
        replace hM := Lib.hid (hG.graft hM.out)
        clear hG
        replace hS := Lib.hid (show Below w.heap.size w wga from hM.out.tail.gold)
        refine hK.out _ _ hS.out ?_
        clear hK K
        try simp only [Act.put, List.setIfInBounds_toArray, List.set_cons_succ, List.set_cons_zero, List.getElem_toArray, List.getElem_cons_zero, List.getElem_cons_succ]
        refine hl_one rfl (by kernel_rfl) (fun K hK => ?_)
        go_simp
        refine (spread_any _ (l.drop ct) s hs1 hs2 _ (rn_none _ _ (len - ct) 0 _ hz.out (by rw [List.length_drop]; have := hll.out; have := hz.out; omega)) (by rw [List.length_drop]; have := hll.out; omega)).mono ?_
        rintro e wgb ⟨gb, rfl, hG⟩
        replace hM := Lib.hid (hG.graft hM.out)
        clear hG
        replace hS := Lib.hid (show Below w.heap.size w wgb from hM.out.tail.tail.gold)
        refine hK.out _ _ hS.out ?_
        clear hK K
        try simp only [Act.put, List.setIfInBounds_toArray, List.set_cons_succ, List.set_cons_zero, List.getElem_toArray, List.getElem_cons_zero, List.getElem_cons_succ]
        refine hl_one rfl (by kernel_rfl) (fun K hK => ?_)
        go_simp
        refine (spread_any _ l s hs1 hs2 _ (hRN.out.below hS.out) (by rw [hll.out]; omega)).mono ?_
        rintro e wgc ⟨gc, rfl, hG⟩
        replace hM := Lib.hid (hG.graft hM.out)
        clear hG
        replace hS := Lib.hid (show Below w.heap.size w wgc from hM.out.tail.tail.tail.gold)
        refine hK.out _ _ hS.out ?_
        clear hK K
        try simp only [Act.put, List.setIfInBounds_toArray, List.set_cons_succ, List.set_cons_zero, List.getElem_toArray, List.getElem_cons_zero, List.getElem_cons_succ]
        refine hl_take ?v11 rfl (by kernel_rfl) ?y11 ?z11
        case y11 => intro W hW; skip; replace hW := Lib.hid hW; go_simp; try rfl
        case z11 =>
        simp only [Act.put, List.setIfInBounds_toArray, List.set_cons_succ, List.set_cons_zero, List.getElem_toArray, List.getElem_cons_zero, List.getElem_cons_succ]
        refine hl_take ?v12 rfl (by kernel_rfl) ?y12 ?z12
        case y12 => intro W hW; skip; replace hW := Lib.hid hW; go_simp; try rfl
        case z12 =>
        simp only [Act.put, List.setIfInBounds_toArray, List.set_cons_succ, List.set_cons_zero, List.getElem_toArray, List.getElem_cons_zero, List.getElem_cons_succ]
        refine hl_take ?v13 rfl (by kernel_rfl) ?y13 ?z13
        case y13 => intro W hW; skip; replace hW := Lib.hid hW; go_simp; try rfl
        case z13 =>
        simp only [Act.put, List.setIfInBounds_toArray, List.set_cons_succ, List.set_cons_zero, List.getElem_toArray, List.getElem_cons_zero, List.getElem_cons_succ]
        refine hl_done ?_
        exact CutQ.mk ⟨_, _, _, _, _, _, _, _, _, _, _, _, _, _, _, _, _, _, _, _, _, _, _, _, _, _, _, _, _, _, rfl, hM⟩
      · cases a with
        | none => exact absurd (hna rfl) (by omega)
        | some ad =>
          have hcc' : (ct = cap) = False := by rw [eq_iff_iff]; exact ⟨fun h => hcc h.symm, False.elim⟩
          have hcc2 : (cap = ct) = False := by rw [eq_iff_iff]; exact ⟨hcc, False.elim⟩
          clear hna
          by_cases h0 : len = 0
          · have hz := Lib.hid (show len - ct = 0 by omega)
            replace h0 := Lib.hid h0
            have hM := Lib.hid (show Sep _ [old w] from hS0.out.drew)
            have hS := Lib.hid (show (fun W : World => Below w.heap.size w W) _ from hS0.out.drew.gold)
            refine hl_begin (fun W : World => Below w.heap.size w W) [(0, true), (1, true), (2, true), (3, true), (5, true), (6, true), (7, true), (8, true), (10, true), (11, true), (4, false), (9, false), (12, false), (13, true), (14, true), (15, true)] (by kernel_rfl) (by kernel_rfl) (by kernel_rfl) rfl (fun _ _ _ _ _ h => h) hS.out ?_
            change HL _ _ _ _ _ _ (World.drew _)
            refine hl_take ?v14 rfl (by kernel_rfl) ?y14 ?z14
            case y14 => intro W hW; skip; replace hW := Lib.hid hW; go_simp; try rfl
            case z14 =>
            simp only [Act.put, List.setIfInBounds_toArray, List.set_cons_succ, List.set_cons_zero, List.getElem_toArray, List.getElem_cons_zero, List.getElem_cons_succ]
            refine hl_take ?v15 rfl (by kernel_rfl) ?y15 ?z15
            case y15 => intro W hW; skip; replace hW := Lib.hid hW; go_simp; try rfl
            case z15 =>
            simp only [Act.put, List.setIfInBounds_toArray, List.set_cons_succ, List.set_cons_zero, List.getElem_toArray, List.getElem_cons_zero, List.getElem_cons_succ]
            refine hl_take ?v16 rfl (by kernel_rfl) ?y16 ?z16
            case y16 => intro W hW; skip; replace hW := Lib.hid hW; go_simp; try rfl
            case z16 =>
            simp only [Act.put, List.setIfInBounds_toArray, List.set_cons_succ, List.set_cons_zero, List.getElem_toArray, List.getElem_cons_zero, List.getElem_cons_succ]
            refine hl_take ?v17 rfl (by kernel_rfl) ?y17 ?z17
            case y17 => intro W hW; skip; replace hW := Lib.hid hW; go_simp; try rfl
            case z17 =>
            simp only [Act.put, List.setIfInBounds_toArray, List.set_cons_succ, List.set_cons_zero, List.getElem_toArray, List.getElem_cons_zero, List.getElem_cons_succ]
            refine hl_take ?v18 rfl (by kernel_rfl) ?y18 ?z18
            case y18 => intro W hW; skip; replace hW := Lib.hid hW; go_simp; try rfl
            case z18 =>
            simp only [Act.put, List.setIfInBounds_toArray, List.set_cons_succ, List.set_cons_zero, List.getElem_toArray, List.getElem_cons_zero, List.getElem_cons_succ]
            refine hl_take ?v19 rfl (by kernel_rfl) ?y19 ?z19
            case y19 => intro W hW; skip; replace hW := Lib.hid hW; go_simp; try rfl
            case z19 =>
            simp only [Act.put, List.setIfInBounds_toArray, List.set_cons_succ, List.set_cons_zero, List.getElem_toArray, List.getElem_cons_zero, List.getElem_cons_succ]
            refine hl_take ?v20 rfl (by kernel_rfl) ?y20 ?z20
            case y20 => intro W hW; skip; replace hW := Lib.hid hW; go_simp; try rfl
            case z20 =>
            simp only [Act.put, List.setIfInBounds_toArray, List.set_cons_succ, List.set_cons_zero, List.getElem_toArray, List.getElem_cons_zero, List.getElem_cons_succ]
            refine hl_take ?v21 rfl (by kernel_rfl) ?y21 ?z21
            case y21 => intro W hW; skip; replace hW := Lib.hid hW; go_simp; try rfl
            case z21 =>
            simp only [Act.put, List.setIfInBounds_toArray, List.set_cons_succ, List.set_cons_zero, List.getElem_toArray, List.getElem_cons_zero, List.getElem_cons_succ]
            refine hl_take ?v22 rfl (by kernel_rfl) ?y22 ?z22
            case y22 => intro W hW; skip; replace hW := Lib.hid hW; go_simp; try rfl
            case z22 =>
            simp only [Act.put, List.setIfInBounds_toArray, List.set_cons_succ, List.set_cons_zero, List.getElem_toArray, List.getElem_cons_zero, List.getElem_cons_succ]
            refine hl_take ?v23 rfl (by kernel_rfl) ?y23 ?z23
            case y23 => intro W hW; skip; replace hW := Lib.hid hW; go_simp; try rfl
            case z23 =>
            simp only [Act.put, List.setIfInBounds_toArray, List.set_cons_succ, List.set_cons_zero, List.getElem_toArray, List.getElem_cons_zero, List.getElem_cons_succ]
            refine hl_one rfl (by kernel_rfl) (fun K hK => ?_)
            go_simp
            refine (spread_any _ (l.take ct) s hs1 hs2 _ (rn_take (hRN.out.below hS.out) ct _ c2) (by rw [List.length_take]; have := hll.out; omega)).mono ?_
            rintro e wga ⟨ga, rfl, hG⟩
            replace hM := Lib.hid (hG.graft hM.out)
            clear hG
            replace hS := Lib.hid (show Below w.heap.size w wga from hM.out.tail.gold)
            refine hK.out _ _ hS.out ?_
            clear hK K
            try simp only [Act.put, List.setIfInBounds_toArray, List.set_cons_succ, List.set_cons_zero, List.getElem_toArray, List.getElem_cons_zero, List.getElem_cons_succ]
            refine hl_one rfl (by kernel_rfl) (fun K hK => ?_)
            go_simp
            refine (spread_any _ (l.drop ct) s hs1 hs2 _ (rn_none _ _ (len - ct) _ _ hz.out (by rw [List.length_drop]; have := hll.out; have := hz.out; omega)) (by rw [List.length_drop]; have := hll.out; omega)).mono ?_
            rintro e wgb ⟨gb, rfl, hG⟩
            replace hM := Lib.hid (hG.graft hM.out)
            clear hG
            replace hS := Lib.hid (show Below w.heap.size w wgb from hM.out.tail.tail.gold)
            refine hK.out _ _ hS.out ?_
            clear hK K
            try simp only [Act.put, List.setIfInBounds_toArray, List.set_cons_succ, List.set_cons_zero, List.getElem_toArray, List.getElem_cons_zero, List.getElem_cons_succ]
            refine hl_one rfl (by kernel_rfl) (fun K hK => ?_)
            go_simp
            refine (spread_any _ l s hs1 hs2 _ (hRN.out.below hS.out) (by rw [hll.out]; omega)).mono ?_
            rintro e wgc ⟨gc, rfl, hG⟩
            replace hM := Lib.hid (hG.graft hM.out)
            clear hG
            replace hS := Lib.hid (show Below w.heap.size w wgc from hM.out.tail.tail.tail.gold)
            refine hK.out _ _ hS.out ?_
            clear hK K
            try simp only [Act.put, List.setIfInBounds_toArray, List.set_cons_succ, List.set_cons_zero, List.getElem_toArray, List.getElem_cons_zero, List.getElem_cons_succ]
            refine hl_take ?v24 rfl (by kernel_rfl) ?y24 ?z24
            case y24 => intro W hW; skip; replace hW := Lib.hid hW; go_simp; try rfl
            case z24 =>
            simp only [Act.put, List.setIfInBounds_toArray, List.set_cons_succ, List.set_cons_zero, List.getElem_toArray, List.getElem_cons_zero, List.getElem_cons_succ]
            refine hl_take ?v25 rfl (by kernel_rfl) ?y25 ?z25
            case y25 => intro W hW; skip; replace hW := Lib.hid hW; go_simp; try rfl
            case z25 =>
            simp only [Act.put, List.setIfInBounds_toArray, List.set_cons_succ, List.set_cons_zero, List.getElem_toArray, List.getElem_cons_zero, List.getElem_cons_succ]
            refine hl_take ?v26 rfl (by kernel_rfl) ?y26 ?z26
            case y26 => intro W hW; skip; replace hW := Lib.hid hW; go_simp; try rfl
            case z26 =>
            simp only [Act.put, List.setIfInBounds_toArray, List.set_cons_succ, List.set_cons_zero, List.getElem_toArray, List.getElem_cons_zero, List.getElem_cons_succ]
            refine hl_done ?_
            exact CutQ.mk ⟨_, _, _, _, _, _, _, _, _, _, _, _, _, _, _, _, _, _, _, _, _, _, _, _, _, _, _, _, _, _, rfl, hM⟩
          · obtain ⟨b, off, rfl⟩ : ∃ b off, ad = ⟨b, off, none⟩ := by
              obtain ⟨a', c', hv, hr⟩ := hRN.out
              obtain ⟨b, off, hb, _⟩ := hr (by have := hll.out; omega)
              injection hv with e1 e2 e3
              rw [hb] at e1
              injection e1 with e1
              exact ⟨b, off, e1⟩
            replace h0 := Lib.hid h0
            have hM := Lib.hid (show Sep _ [old w] from hS0.out.drew)
            have hS := Lib.hid (show (fun W : World => Below w.heap.size w W) _ from hS0.out.drew.gold)
            refine hl_begin (fun W : World => Below w.heap.size w W) [(0, true), (1, true), (2, true), (3, true), (5, true), (6, true), (7, true), (8, true), (10, true), (11, true), (4, false), (9, false), (12, false), (13, true), (14, true), (15, true)] (by kernel_rfl) (by kernel_rfl) (by kernel_rfl) rfl (fun _ _ _ _ _ h => h) hS.out ?_
            change HL _ _ _ _ _ _ (World.drew _)
            refine hl_take ?v27 rfl (by kernel_rfl) ?y27 ?z27
            case y27 => intro W hW; skip; replace hW := Lib.hid hW; go_simp; try rfl
            case z27 =>
            simp only [Act.put, List.setIfInBounds_toArray, List.set_cons_succ, List.set_cons_zero, List.getElem_toArray, List.getElem_cons_zero, List.getElem_cons_succ]
            refine hl_take ?v28 rfl (by kernel_rfl) ?y28 ?z28
            case y28 => intro W hW; skip; replace hW := Lib.hid hW; go_simp; try rfl
            case z28 =>
            simp only [Act.put, List.setIfInBounds_toArray, List.set_cons_succ, List.set_cons_zero, List.getElem_toArray, List.getElem_cons_zero, List.getElem_cons_succ]
            refine hl_take ?v29 rfl (by kernel_rfl) ?y29 ?z29
            case y29 => intro W hW; skip; replace hW := Lib.hid hW; go_simp; try rfl
            case z29 =>
            simp only [Act.put, List.setIfInBounds_toArray, List.set_cons_succ, List.set_cons_zero, List.getElem_toArray, List.getElem_cons_zero, List.getElem_cons_succ]
            refine hl_take ?v30 rfl (by kernel_rfl) ?y30 ?z30
            case y30 => intro W hW; skip; replace hW := Lib.hid hW; go_simp; try rfl
            case z30 =>
            simp only [Act.put, List.setIfInBounds_toArray, List.set_cons_succ, List.set_cons_zero, List.getElem_toArray, List.getElem_cons_zero, List.getElem_cons_succ]
            refine hl_take ?v31 rfl (by kernel_rfl) ?y31 ?z31
            case y31 => intro W hW; skip; replace hW := Lib.hid hW; go_simp; try rfl
            case z31 =>
            simp only [Act.put, List.setIfInBounds_toArray, List.set_cons_succ, List.set_cons_zero, List.getElem_toArray, List.getElem_cons_zero, List.getElem_cons_succ]
            refine hl_take ?v32 rfl (by kernel_rfl) ?y32 ?z32
            case y32 => intro W hW; skip; replace hW := Lib.hid hW; go_simp; try rfl
            case z32 =>
            simp only [Act.put, List.setIfInBounds_toArray, List.set_cons_succ, List.set_cons_zero, List.getElem_toArray, List.getElem_cons_zero, List.getElem_cons_succ]
            refine hl_take ?v33 rfl (by kernel_rfl) ?y33 ?z33
            case y33 => intro W hW; skip; replace hW := Lib.hid hW; go_simp; try rfl
            case z33 =>
            simp only [Act.put, List.setIfInBounds_toArray, List.set_cons_succ, List.set_cons_zero, List.getElem_toArray, List.getElem_cons_zero, List.getElem_cons_succ]
            refine hl_take ?v34 rfl (by kernel_rfl) ?y34 ?z34
            case y34 => intro W hW; skip; replace hW := Lib.hid hW; go_simp; try rfl
            case z34 =>
            simp only [Act.put, List.setIfInBounds_toArray, List.set_cons_succ, List.set_cons_zero, List.getElem_toArray, List.getElem_cons_zero, List.getElem_cons_succ]
            refine hl_take ?v35 rfl (by kernel_rfl) ?y35 ?z35
            case y35 => intro W hW; skip; replace hW := Lib.hid hW; go_simp; try rfl
            case z35 =>
            simp only [Act.put, List.setIfInBounds_toArray, List.set_cons_succ, List.set_cons_zero, List.getElem_toArray, List.getElem_cons_zero, List.getElem_cons_succ]
            refine hl_take ?v36 rfl (by kernel_rfl) ?y36 ?z36
            case y36 => intro W hW; skip; replace hW := Lib.hid hW; go_simp; try rfl
            case z36 =>
            simp only [Act.put, List.setIfInBounds_toArray, List.set_cons_succ, List.set_cons_zero, List.getElem_toArray, List.getElem_cons_zero, List.getElem_cons_succ]
            refine hl_one rfl (by kernel_rfl) (fun K hK => ?_)
            go_simp
            refine (spread_any _ (l.take ct) s hs1 hs2 _ (rn_take (hRN.out.below hS.out) ct _ c2) (by rw [List.length_take]; have := hll.out; omega)).mono ?_
            rintro e wga ⟨ga, rfl, hG⟩
            replace hM := Lib.hid (hG.graft hM.out)
            clear hG
            replace hS := Lib.hid (show Below w.heap.size w wga from hM.out.tail.gold)
            refine hK.out _ _ hS.out ?_
            clear hK K
            try simp only [Act.put, List.setIfInBounds_toArray, List.set_cons_succ, List.set_cons_zero, List.getElem_toArray, List.getElem_cons_zero, List.getElem_cons_succ]
            refine hl_one rfl (by kernel_rfl) (fun K hK => ?_)
            go_simp
            refine (spread_any _ (l.drop ct) s hs1 hs2 _ (rn_drop (hRN.out.below hS.out) ct _ c2) (by rw [List.length_drop]; have := hll.out; omega)).mono ?_
            rintro e wgb ⟨gb, rfl, hG⟩
            replace hM := Lib.hid (hG.graft hM.out)
            clear hG
            replace hS := Lib.hid (show Below w.heap.size w wgb from hM.out.tail.tail.gold)
            refine hK.out _ _ hS.out ?_
            clear hK K
            try simp only [Act.put, List.setIfInBounds_toArray, List.set_cons_succ, List.set_cons_zero, List.getElem_toArray, List.getElem_cons_zero, List.getElem_cons_succ]
            refine hl_one rfl (by kernel_rfl) (fun K hK => ?_)
            go_simp
            refine (spread_any _ l s hs1 hs2 _ (hRN.out.below hS.out) (by rw [hll.out]; omega)).mono ?_
            rintro e wgc ⟨gc, rfl, hG⟩
            replace hM := Lib.hid (hG.graft hM.out)
            clear hG
            replace hS := Lib.hid (show Below w.heap.size w wgc from hM.out.tail.tail.tail.gold)
            refine hK.out _ _ hS.out ?_
            clear hK K
            try simp only [Act.put, List.setIfInBounds_toArray, List.set_cons_succ, List.set_cons_zero, List.getElem_toArray, List.getElem_cons_zero, List.getElem_cons_succ]
            refine hl_take ?v37 rfl (by kernel_rfl) ?y37 ?z37
            case y37 => intro W hW; skip; replace hW := Lib.hid hW; go_simp; try rfl
            case z37 =>
            simp only [Act.put, List.setIfInBounds_toArray, List.set_cons_succ, List.set_cons_zero, List.getElem_toArray, List.getElem_cons_zero, List.getElem_cons_succ]
            refine hl_take ?v38 rfl (by kernel_rfl) ?y38 ?z38
            case y38 => intro W hW; skip; replace hW := Lib.hid hW; go_simp; try rfl
            case z38 =>
            simp only [Act.put, List.setIfInBounds_toArray, List.set_cons_succ, List.set_cons_zero, List.getElem_toArray, List.getElem_cons_zero, List.getElem_cons_succ]
            refine hl_take ?v39 rfl (by kernel_rfl) ?y39 ?z39
            case y39 => intro W hW; skip; replace hW := Lib.hid hW; go_simp; try rfl
            case z39 =>
            simp only [Act.put, List.setIfInBounds_toArray, List.set_cons_succ, List.set_cons_zero, List.getElem_toArray, List.getElem_cons_zero, List.getElem_cons_succ]
            refine hl_done ?_
            exact CutQ.mk ⟨_, _, _, _, _, _, _, _, _, _, _, _, _, _, _, _, _, _, _, _, _, _, _, _, _, _, _, _, _, _, rfl, hM⟩
    case cutA =>
      rintro x y ⟨ga, gb, gc, cp, u14, u15, u16, u17, u18, u19, u20, u21, u22, u23, u24, u25, u26, u27, u28, u29, u30, u31, u32, u33, u34, u35, u36, u37, u38, u39, rfl, hS⟩
      clear hS0 hna hlc hcm
      have HR : Hid (0 < len → ∃ b off, a = some ⟨b, off, none⟩ ∧ b < w.heap.size ∧ ∀ j, j < len → w.cell? ⟨b, off + j * 2, none⟩ = some (.int .i64 (l.getD j (0, 0)).1) ∧ w.cell? ⟨b, off + j * 2 + 1, none⟩ = some (.int .i64 (l.getD j (0, 0)).2)) := by
        obtain ⟨a', c', hv, hr⟩ := hRN.out
        rw [hll.out] at hr hv
        injection hv with e1 e2 e3
        subst e1
        exact hr
      clear hRN
      have hsum := Lib.hid (fun j => by have := cnt_app (l.take ct) (l.drop ct) s s j; rw [List.take_append_drop] at this; exact this)
      have hla := Lib.hid (cntL_len (l.take ct) s s)
      have hlb := Lib.hid (cntL_len (l.drop ct) s s)
      have hlc := Lib.hid (cntL_len l s s)
      have hba := Lib.hid (fun j => by have := cntL_le (l.take ct) s s j; rw [List.length_take] at this; have := hll.out; exact (show 0 ≤ (cntL (l.take ct) s s).getD j 0 ∧ (cntL (l.take ct) s s).getD j 0 ≤ 60 by omega))
      have hbb := Lib.hid (fun j => by have := cntL_le (l.drop ct) s s j; rw [List.length_drop] at this; have := hll.out; exact (show 0 ≤ (cntL (l.drop ct) s s).getD j 0 ∧ (cntL (l.drop ct) s s).getD j 0 ≤ 60 by omega))
      generalize cntL (l.take ct) s s = A at *
      generalize cntL (l.drop ct) s s = B at *
      generalize cntL l s s = C at *
      clear c0 c1 c2 hct PC
      go_wp2_with fail
      go_loopw [10] (fun i wr => ∃ q : Nat, q ≤ s ∧ i = .int .i64 q ∧ Hid (Sep wr [vi (.slice (some ⟨gc, 0, none⟩) s s) C, vi (.slice (some ⟨gb, 0, none⟩) s s) B, vi (.slice (some ⟨ga, 0, none⟩) s s) A, old w])) (fun i _ => s - (intOf i).toNat)
      case atStart => exact ⟨0, Nat.zero_le _, rfl, hS⟩
      case round =>
        clear hS
        obtain ⟨q, hq, rfl, hT⟩ := hrel
        by_cases hqs : q < s
        · have e1 := hsum.out q
          have e2 := hba.out q
          have e3 := hbb.out q
          have HZ : ∀ W, Sep W [vi (.slice (some ⟨gc, 0, none⟩) s s) C, vi (.slice (some ⟨gb, 0, none⟩) s s) B, vi (.slice (some ⟨ga, 0, none⟩) s s) A, old w] → W.cell? ⟨gc, q, none⟩ = some (.int .i64 (C.getD q 0)) ∧ W.cell? ⟨gb, q, none⟩ = some (.int .i64 (B.getD q 0)) ∧ W.cell? ⟨ga, q, none⟩ = some (.int .i64 (A.getD q 0)) := fun W h => by
            obtain ⟨g1, x1, _, y1, _⟩ := h.vi_at hlc.out hqs
            obtain ⟨g2, x2, _, y2, _⟩ := h.to1.vi_at hlb.out hqs
            obtain ⟨g3, x3, _, y3, _⟩ := h.to2.vi_at hla.out hqs
            cases x1; cases x2; cases x3
            exact ⟨y1, y2, y3⟩
          replace HZ := Lib.hid HZ
          have hsum2 := Lib.hid hsum.out
          clear hsum hba hbb
          generalize A.getD q 0 = xa at *
          generalize B.getD q 0 = xb at *
          generalize C.getD q 0 = xc at *
          have ws : IntKind.i64.wrap (xa + xb) = xc := by rw [e1]; exact IntWalk.i64_in _ (by omega)
          clear e1 e2 e3
          have i1 : (0 : Int) ≤ (q : Int) := by omega
          have i2 : (q : Int) < (s : Int) := by omega
          go_wp2_with fail
          have hS := Lib.hid (show (fun W : World => Sep W [vi (.slice (some ⟨gc, 0, none⟩) s s) C, vi (.slice (some ⟨gb, 0, none⟩) s s) B, vi (.slice (some ⟨ga, 0, none⟩) s s) A, old w]) _ from hT.out.drew)
          refine hl_begin (fun W : World => Sep W [vi (.slice (some ⟨gc, 0, none⟩) s s) C, vi (.slice (some ⟨gb, 0, none⟩) s s) B, vi (.slice (some ⟨ga, 0, none⟩) s s) A, old w]) [(0, true), (1, true), (2, true), (3, true), (4, true), (5, true), (6, true), (7, true), (8, true), (9, true), (10, true), (11, true), (12, true), (13, true)] (by kernel_rfl) (by kernel_rfl) (by kernel_rfl) rfl (fun _ _ _ _ _ h => h) hS.out ?_
          change HL _ _ _ _ _ _ (World.drew _)
          generalize World.drew _ = wd at *
          refine hl_take ?v40 rfl (by kernel_rfl) ?y40 ?z40
          case y40 => intro W hW; skip; replace hW := Lib.hid hW; go_simp; try rfl
          case z40 =>
          simp only [Act.put, List.setIfInBounds_toArray, List.set_cons_succ, List.set_cons_zero, List.getElem_toArray, List.getElem_cons_zero, List.getElem_cons_succ]
          refine hl_take ?v41 rfl (by kernel_rfl) ?y41 ?z41
          case y41 => intro W hW; skip; replace hW := Lib.hid hW; go_simp; try rfl
          case z41 =>
          simp only [Act.put, List.setIfInBounds_toArray, List.set_cons_succ, List.set_cons_zero, List.getElem_toArray, List.getElem_cons_zero, List.getElem_cons_succ]
          refine hl_take ?v42 rfl (by kernel_rfl) ?y42 ?z42
          case y42 => intro W hW; skip; replace hW := Lib.hid hW; go_simp; try rfl
          case z42 =>
          simp only [Act.put, List.setIfInBounds_toArray, List.set_cons_succ, List.set_cons_zero, List.getElem_toArray, List.getElem_cons_zero, List.getElem_cons_succ]
          refine hl_take ?v43 rfl (by kernel_rfl) ?y43 ?z43
          case y43 => intro W hW; change Sep W _ at hW; have k1 := (HZ.out W hW).1; have k2 := (HZ.out W hW).2.1; have k3 := (HZ.out W hW).2.2; replace hW := Lib.hid hW; go_simp; try rfl
          case z43 =>
          simp only [Act.put, List.setIfInBounds_toArray, List.set_cons_succ, List.set_cons_zero, List.getElem_toArray, List.getElem_cons_zero, List.getElem_cons_succ]
          refine hl_take ?v44 rfl (by kernel_rfl) ?y44 ?z44
          case y44 => intro W hW; skip; replace hW := Lib.hid hW; go_simp; try rfl
          case z44 =>
          simp only [Act.put, List.setIfInBounds_toArray, List.set_cons_succ, List.set_cons_zero, List.getElem_toArray, List.getElem_cons_zero, List.getElem_cons_succ]
          refine hl_take ?v45 rfl (by kernel_rfl) ?y45 ?z45
          case y45 => intro W hW; skip; replace hW := Lib.hid hW; go_simp; try rfl
          case z45 =>
          simp only [Act.put, List.setIfInBounds_toArray, List.set_cons_succ, List.set_cons_zero, List.getElem_toArray, List.getElem_cons_zero, List.getElem_cons_succ]
          refine hl_take ?v46 rfl (by kernel_rfl) ?y46 ?z46
          case y46 => intro W hW; skip; replace hW := Lib.hid hW; go_simp; try rfl
          case z46 =>
          simp only [Act.put, List.setIfInBounds_toArray, List.set_cons_succ, List.set_cons_zero, List.getElem_toArray, List.getElem_cons_zero, List.getElem_cons_succ]
          refine hl_take ?v47 rfl (by kernel_rfl) ?y47 ?z47
          case y47 => intro W hW; change Sep W _ at hW; have k1 := (HZ.out W hW).1; have k2 := (HZ.out W hW).2.1; have k3 := (HZ.out W hW).2.2; replace hW := Lib.hid hW; go_simp; try rfl
          case z47 =>
          simp only [Act.put, List.setIfInBounds_toArray, List.set_cons_succ, List.set_cons_zero, List.getElem_toArray, List.getElem_cons_zero, List.getElem_cons_succ]
          refine hl_take ?v48 rfl (by kernel_rfl) ?y48 ?z48
          case y48 => intro W hW; skip; replace hW := Lib.hid hW; go_simp; try rfl
          case z48 =>
          simp only [Act.put, List.setIfInBounds_toArray, List.set_cons_succ, List.set_cons_zero, List.getElem_toArray, List.getElem_cons_zero, List.getElem_cons_succ]
          refine hl_take ?v49 rfl (by kernel_rfl) ?y49 ?z49
          case y49 => intro W hW; skip; replace hW := Lib.hid hW; go_simp; try rfl
          case z49 =>
          simp only [Act.put, List.setIfInBounds_toArray, List.set_cons_succ, List.set_cons_zero, List.getElem_toArray, List.getElem_cons_zero, List.getElem_cons_succ]
          refine hl_take ?v50 rfl (by kernel_rfl) ?y50 ?z50
          case y50 => intro W hW; skip; replace hW := Lib.hid hW; go_simp; try rfl
          case z50 =>
          simp only [Act.put, List.setIfInBounds_toArray, List.set_cons_succ, List.set_cons_zero, List.getElem_toArray, List.getElem_cons_zero, List.getElem_cons_succ]
          refine hl_take ?v51 rfl (by kernel_rfl) ?y51 ?z51
          case y51 => intro W hW; skip; replace hW := Lib.hid hW; go_simp; try rfl
          case z51 =>
          simp only [Act.put, List.setIfInBounds_toArray, List.set_cons_succ, List.set_cons_zero, List.getElem_toArray, List.getElem_cons_zero, List.getElem_cons_succ]
          refine hl_take ?v52 rfl (by kernel_rfl) ?y52 ?z52
          case y52 => intro W hW; change Sep W _ at hW; have k1 := (HZ.out W hW).1; have k2 := (HZ.out W hW).2.1; have k3 := (HZ.out W hW).2.2; replace hW := Lib.hid hW; go_simp; try rfl
          case z52 =>
          simp only [Act.put, List.setIfInBounds_toArray, List.set_cons_succ, List.set_cons_zero, List.getElem_toArray, List.getElem_cons_zero, List.getElem_cons_succ]
          refine hl_take ?v53 rfl (by kernel_rfl) ?y53 ?z53
          case y53 => intro W hW; skip; replace hW := Lib.hid hW; go_simp; try rfl
          case z53 =>
          simp only [Act.put, List.setIfInBounds_toArray, List.set_cons_succ, List.set_cons_zero, List.getElem_toArray, List.getElem_cons_zero, List.getElem_cons_succ]
          refine hl_done ?_
          skip
          clear ws
          go_wp2_with fail
          go_roundw
          case rel => exact ⟨q + 1, by omega, by go_num, hS⟩
          case measure => simp [intOf]; omega
        · have hq2 : q = s := by omega
          have hb := Lib.hid hT.out.tail.tail.tail.gold
          clear hsum hba hbb hla hlb hlc hT
          clear hq hq2
          go_wp2_with fail
          go_loopw [11] (fun i wr => ∃ k : Nat, k ≤ len ∧ i = .int .i64 k ∧ Hid (Below w.heap.size w wr)) (fun i _ => len - (intOf i).toNat)
          case atStart => exact ⟨0, Nat.zero_le _, rfl, hb⟩
          case round =>
            clear hb
            obtain ⟨k, hk, rfl, hT⟩ := hrel
            by_cases hlt : k < len
            · obtain ⟨b, off, rfl, hbl, hz⟩ := HR.out (by omega)
              obtain ⟨y0, y1⟩ := hz k hlt
              obtain ⟨v0, v1⟩ := hz 0 (by omega)
              rw [Nat.zero_mul, Nat.add_zero] at v0 v1
              have HZ := Lib.hid (fun (W : World) (hW : Below w.heap.size w W) => (show W.cell? ⟨b, off + k * 2, none⟩ = _ ∧ W.cell? ⟨b, off + k * 2 + 1, none⟩ = _ ∧ W.cell? ⟨b, off, none⟩ = _ ∧ W.cell? ⟨b, off + 1, none⟩ = _ from ⟨(hW.cell (p := ⟨b, off + k * 2, none⟩) hbl).trans y0, (hW.cell (p := ⟨b, off + k * 2 + 1, none⟩) hbl).trans y1, (hW.cell (p := ⟨b, off, none⟩) hbl).trans v0, (hW.cell (p := ⟨b, off + 1, none⟩) hbl).trans v1⟩))
              clear hz y0 y1 v0 v1 HR
              generalize l.getD k (0, 0) = x at *
              generalize l.getD 0 (0, 0) = x0 at *
              obtain ⟨t, r⟩ := x
              obtain ⟨t0, r0⟩ := x0
              have i1 : (0 : Int) ≤ (k : Int) := by omega
              have i2 : (k : Int) < (len : Int) := by omega
              have i3 : 0 < len := by omega
              have wm2 : IntKind.i64.wrap (2 * (s : Int)) = 2 * (s : Int) := IntWalk.i64_in _ (by omega)
              have S1 := Lib.hid (fun W => sameS_any t0 r0 t r s W)
              have S2 := Lib.hid (fun W => sameS_v t r t0 r0 s (sameV t0 r0 t r s) W (sameV_sym t r t0 r0 s))
              generalize sameV t0 r0 t r s = xs at *
              by_cases ho : ofV t r s < 0
              · have O1 := Lib.hid (fun W => of_v t r s (-1) W (ofV_neg (by omega) (by omega) ho).2)
                have O2 := Lib.hid (fun W => of_v t r (2 * s) (-1) W (ofV_twice_neg (by omega) (by omega) ho))
                clear ho
                go_wp2_with fail
                have hS := Lib.hid (show (fun W : World => Below w.heap.size w W) _ from hT.out.drew)
                refine hl_begin (fun W : World => Below w.heap.size w W) [(0, true), (1, true), (2, true), (3, true), (4, true), (6, true), (7, true), (8, true), (9, true), (10, true), (11, true), (5, false), (12, false), (13, true), (14, true)] (by kernel_rfl) (by kernel_rfl) (by kernel_rfl) rfl (fun _ _ _ _ _ h => h) hS.out ?_
                change HL _ _ _ _ _ _ (World.drew _)
                generalize World.drew _ = wd at *
                refine hl_take ?v54 rfl (by kernel_rfl) ?y54 ?z54
                case y54 => intro W hW; skip; replace hW := Lib.hid hW; go_simp; try rfl
                case z54 =>
                simp only [Act.put, List.setIfInBounds_toArray, List.set_cons_succ, List.set_cons_zero, List.getElem_toArray, List.getElem_cons_zero, List.getElem_cons_succ]
                refine hl_take ?v55 rfl (by kernel_rfl) ?y55 ?z55
                case y55 => intro W hW; skip; replace hW := Lib.hid hW; go_simp; try rfl
                case z55 =>
                simp only [Act.put, List.setIfInBounds_toArray, List.set_cons_succ, List.set_cons_zero, List.getElem_toArray, List.getElem_cons_zero, List.getElem_cons_succ]
                refine hl_take ?v56 rfl (by kernel_rfl) ?y56 ?z56
                case y56 => intro W hW; skip; replace hW := Lib.hid hW; go_simp; try rfl
                case z56 =>
                simp only [Act.put, List.setIfInBounds_toArray, List.set_cons_succ, List.set_cons_zero, List.getElem_toArray, List.getElem_cons_zero, List.getElem_cons_succ]
                refine hl_take ?v57 rfl (by kernel_rfl) ?y57 ?z57
                case y57 => intro W hW; change Below w.heap.size w W at hW; have k1 := (HZ.out W hW).1; have k2 := (HZ.out W hW).2.1; have k3 := (HZ.out W hW).2.2.1; have k4 := (HZ.out W hW).2.2.2; replace hW := Lib.hid hW; go_simp; try rfl
                case z57 =>
                simp only [Act.put, List.setIfInBounds_toArray, List.set_cons_succ, List.set_cons_zero, List.getElem_toArray, List.getElem_cons_zero, List.getElem_cons_succ]
                refine hl_take ?v58 rfl (by kernel_rfl) ?y58 ?z58
                case y58 => intro W hW; skip; replace hW := Lib.hid hW; go_simp; try rfl
                case z58 =>
                simp only [Act.put, List.setIfInBounds_toArray, List.set_cons_succ, List.set_cons_zero, List.getElem_toArray, List.getElem_cons_zero, List.getElem_cons_succ]
                refine hl_take ?v59 rfl (by kernel_rfl) ?y59 ?z59
                case y59 => intro W hW; skip; replace hW := Lib.hid hW; go_simp; try rfl
                case z59 =>
                simp only [Act.put, List.setIfInBounds_toArray, List.set_cons_succ, List.set_cons_zero, List.getElem_toArray, List.getElem_cons_zero, List.getElem_cons_succ]
                refine hl_take ?v60 rfl (by kernel_rfl) ?y60 ?z60
                case y60 => intro W hW; skip; replace hW := Lib.hid hW; go_simp; try rfl
                case z60 =>
                simp only [Act.put, List.setIfInBounds_toArray, List.set_cons_succ, List.set_cons_zero, List.getElem_toArray, List.getElem_cons_zero, List.getElem_cons_succ]
                refine hl_take ?v61 rfl (by kernel_rfl) ?y61 ?z61
                case y61 => intro W hW; skip; replace hW := Lib.hid hW; go_simp; try rfl
                case z61 =>
                simp only [Act.put, List.setIfInBounds_toArray, List.set_cons_succ, List.set_cons_zero, List.getElem_toArray, List.getElem_cons_zero, List.getElem_cons_succ]
                refine hl_take ?v62 rfl (by kernel_rfl) ?y62 ?z62
                case y62 => intro W hW; change Below w.heap.size w W at hW; have k1 := (HZ.out W hW).1; have k2 := (HZ.out W hW).2.1; have k3 := (HZ.out W hW).2.2.1; have k4 := (HZ.out W hW).2.2.2; replace hW := Lib.hid hW; go_simp; try rfl
                case z62 =>
                simp only [Act.put, List.setIfInBounds_toArray, List.set_cons_succ, List.set_cons_zero, List.getElem_toArray, List.getElem_cons_zero, List.getElem_cons_succ]
                refine hl_take ?v63 rfl (by kernel_rfl) ?y63 ?z63
                case y63 => intro W hW; skip; replace hW := Lib.hid hW; go_simp; try rfl
                case z63 =>
                simp only [Act.put, List.setIfInBounds_toArray, List.set_cons_succ, List.set_cons_zero, List.getElem_toArray, List.getElem_cons_zero, List.getElem_cons_succ]
                refine hl_take ?v64 rfl (by kernel_rfl) ?y64 ?z64
                case y64 => intro W hW; skip; replace hW := Lib.hid hW; go_simp; try rfl
                case z64 =>
                simp only [Act.put, List.setIfInBounds_toArray, List.set_cons_succ, List.set_cons_zero, List.getElem_toArray, List.getElem_cons_zero, List.getElem_cons_succ]
                refine hl_one rfl (by kernel_rfl) (fun K hK => ?_)
                go_simp
                refine (O1.out _).mono ?_
                rintro e w2 ⟨rfl, b2⟩
                replace hS := Lib.hid (show Below w.heap.size w w2 from hS.out.trans (b2.mono hS.out.size))
                clear b2
                refine hK.out _ _ hS.out ?_
                clear hK K
                try simp only [Act.put, List.setIfInBounds_toArray, List.set_cons_succ, List.set_cons_zero, List.getElem_toArray, List.getElem_cons_zero, List.getElem_cons_succ]
                refine hl_one rfl (by kernel_rfl) (fun K hK => ?_)
                go_simp
                refine (O2.out _).mono ?_
                rintro e w2 ⟨rfl, b2⟩
                replace hS := Lib.hid (show Below w.heap.size w w2 from hS.out.trans (b2.mono hS.out.size))
                clear b2
                refine hK.out _ _ hS.out ?_
                clear hK K
                try simp only [Act.put, List.setIfInBounds_toArray, List.set_cons_succ, List.set_cons_zero, List.getElem_toArray, List.getElem_cons_zero, List.getElem_cons_succ]
                refine hl_take ?v65 rfl (by kernel_rfl) ?y65 ?z65
                case y65 => intro W hW; skip; replace hW := Lib.hid hW; go_simp; try rfl
                case z65 =>
                simp only [Act.put, List.setIfInBounds_toArray, List.set_cons_succ, List.set_cons_zero, List.getElem_toArray, List.getElem_cons_zero, List.getElem_cons_succ]
                refine hl_take ?v66 rfl (by kernel_rfl) ?y66 ?z66
                case y66 => intro W hW; skip; replace hW := Lib.hid hW; go_simp; try rfl
                case z66 =>
                simp only [Act.put, List.setIfInBounds_toArray, List.set_cons_succ, List.set_cons_zero, List.getElem_toArray, List.getElem_cons_zero, List.getElem_cons_succ]
                refine hl_done ?_
                skip
                clear wm2
                go_wp2_with fail
                have hT2 := hS
                clear hS
                have hS := Lib.hid (show (fun W : World => Below w.heap.size w W) _ from hT2.out.drew)
                refine hl_begin (fun W : World => Below w.heap.size w W) [(0, true), (1, true), (2, true), (3, true), (4, true), (5, true), (6, true), (7, true), (8, true), (9, true), (10, true), (11, true), (12, true), (13, true), (14, true), (15, true), (16, true), (17, true), (18, true), (19, true), (20, true), (21, true), (22, true), (23, true), (24, true), (25, true), (27, true), (28, true), (29, true), (30, true), (31, true), (32, true), (33, true), (34, true), (26, false), (35, false), (36, true), (37, true)] (by kernel_rfl) (by kernel_rfl) (by kernel_rfl) rfl (fun _ _ _ _ _ h => h) hS.out ?_
                change HL _ _ _ _ _ _ (World.drew _)
                generalize World.drew _ = wd at *
                refine hl_take ?v67 rfl (by kernel_rfl) ?y67 ?z67
                case y67 => intro W hW; skip; replace hW := Lib.hid hW; go_simp; try rfl
                case z67 =>
                simp only [Act.put, List.setIfInBounds_toArray, List.set_cons_succ, List.set_cons_zero, List.getElem_toArray, List.getElem_cons_zero, List.getElem_cons_succ]
                refine hl_take ?v68 rfl (by kernel_rfl) ?y68 ?z68
                case y68 => intro W hW; skip; replace hW := Lib.hid hW; go_simp; try rfl
                case z68 =>
                simp only [Act.put, List.setIfInBounds_toArray, List.set_cons_succ, List.set_cons_zero, List.getElem_toArray, List.getElem_cons_zero, List.getElem_cons_succ]
                refine hl_take ?v69 rfl (by kernel_rfl) ?y69 ?z69
                case y69 => intro W hW; skip; replace hW := Lib.hid hW; go_simp; try rfl
                case z69 =>
                simp only [Act.put, List.setIfInBounds_toArray, List.set_cons_succ, List.set_cons_zero, List.getElem_toArray, List.getElem_cons_zero, List.getElem_cons_succ]
                refine hl_take ?v70 rfl (by kernel_rfl) ?y70 ?z70
                case y70 => intro W hW; skip; replace hW := Lib.hid hW; go_simp; try rfl
                case z70 =>
                simp only [Act.put, List.setIfInBounds_toArray, List.set_cons_succ, List.set_cons_zero, List.getElem_toArray, List.getElem_cons_zero, List.getElem_cons_succ]
                refine hl_take ?v71 rfl (by kernel_rfl) ?y71 ?z71
                case y71 => intro W hW; skip; replace hW := Lib.hid hW; go_simp; try rfl
                case z71 =>
                simp only [Act.put, List.setIfInBounds_toArray, List.set_cons_succ, List.set_cons_zero, List.getElem_toArray, List.getElem_cons_zero, List.getElem_cons_succ]
                refine hl_take ?v72 rfl (by kernel_rfl) ?y72 ?z72
                case y72 => intro W hW; skip; replace hW := Lib.hid hW; go_simp; try rfl
                case z72 =>
                simp only [Act.put, List.setIfInBounds_toArray, List.set_cons_succ, List.set_cons_zero, List.getElem_toArray, List.getElem_cons_zero, List.getElem_cons_succ]
                refine hl_take ?v73 rfl (by kernel_rfl) ?y73 ?z73
                case y73 => intro W hW; skip; replace hW := Lib.hid hW; go_simp; try rfl
                case z73 =>
                simp only [Act.put, List.setIfInBounds_toArray, List.set_cons_succ, List.set_cons_zero, List.getElem_toArray, List.getElem_cons_zero, List.getElem_cons_succ]
                refine hl_take ?v74 rfl (by kernel_rfl) ?y74 ?z74
                case y74 => intro W hW; skip; replace hW := Lib.hid hW; go_simp; try rfl
                case z74 =>
                simp only [Act.put, List.setIfInBounds_toArray, List.set_cons_succ, List.set_cons_zero, List.getElem_toArray, List.getElem_cons_zero, List.getElem_cons_succ]
                refine hl_take ?v75 rfl (by kernel_rfl) ?y75 ?z75
                case y75 => intro W hW; skip; replace hW := Lib.hid hW; go_simp; try rfl
                case z75 =>
                simp only [Act.put, List.setIfInBounds_toArray, List.set_cons_succ, List.set_cons_zero, List.getElem_toArray, List.getElem_cons_zero, List.getElem_cons_succ]
                refine hl_take ?v76 rfl (by kernel_rfl) ?y76 ?z76
                case y76 => intro W hW; skip; replace hW := Lib.hid hW; go_simp; try rfl
                case z76 =>
                simp only [Act.put, List.setIfInBounds_toArray, List.set_cons_succ, List.set_cons_zero, List.getElem_toArray, List.getElem_cons_zero, List.getElem_cons_succ]
                refine hl_skip rfl (by kernel_rfl) ?_
                simp only [Act.put, List.setIfInBounds_toArray, List.set_cons_succ, List.set_cons_zero, List.getElem_toArray, List.getElem_cons_zero, List.getElem_cons_succ]
                refine hl_skip rfl (by kernel_rfl) ?_
                simp only [Act.put, List.setIfInBounds_toArray, List.set_cons_succ, List.set_cons_zero, List.getElem_toArray, List.getElem_cons_zero, List.getElem_cons_succ]
                refine hl_skip rfl (by kernel_rfl) ?_
                simp only [Act.put, List.setIfInBounds_toArray, List.set_cons_succ, List.set_cons_zero, List.getElem_toArray, List.getElem_cons_zero, List.getElem_cons_succ]
                refine hl_skip rfl (by kernel_rfl) ?_
                simp only [Act.put, List.setIfInBounds_toArray, List.set_cons_succ, List.set_cons_zero, List.getElem_toArray, List.getElem_cons_zero, List.getElem_cons_succ]
                refine hl_skip rfl (by kernel_rfl) ?_
                simp only [Act.put, List.setIfInBounds_toArray, List.set_cons_succ, List.set_cons_zero, List.getElem_toArray, List.getElem_cons_zero, List.getElem_cons_succ]
                refine hl_take ?v77 rfl (by kernel_rfl) ?y77 ?z77
                case y77 => intro W hW; skip; replace hW := Lib.hid hW; go_simp; try rfl
                case z77 =>
                simp only [Act.put, List.setIfInBounds_toArray, List.set_cons_succ, List.set_cons_zero, List.getElem_toArray, List.getElem_cons_zero, List.getElem_cons_succ]
                refine hl_take ?v78 rfl (by kernel_rfl) ?y78 ?z78
                case y78 => intro W hW; skip; replace hW := Lib.hid hW; go_simp; try rfl
                case z78 =>
                simp only [Act.put, List.setIfInBounds_toArray, List.set_cons_succ, List.set_cons_zero, List.getElem_toArray, List.getElem_cons_zero, List.getElem_cons_succ]
                refine hl_take ?v79 rfl (by kernel_rfl) ?y79 ?z79
                case y79 => intro W hW; skip; replace hW := Lib.hid hW; go_simp; try rfl
                case z79 =>
                simp only [Act.put, List.setIfInBounds_toArray, List.set_cons_succ, List.set_cons_zero, List.getElem_toArray, List.getElem_cons_zero, List.getElem_cons_succ]
                refine hl_take ?v80 rfl (by kernel_rfl) ?y80 ?z80
                case y80 => intro W hW; skip; replace hW := Lib.hid hW; go_simp; try rfl
                case z80 =>
                simp only [Act.put, List.setIfInBounds_toArray, List.set_cons_succ, List.set_cons_zero, List.getElem_toArray, List.getElem_cons_zero, List.getElem_cons_succ]
                refine hl_take ?v81 rfl (by kernel_rfl) ?y81 ?z81
                case y81 => intro W hW; skip; replace hW := Lib.hid hW; go_simp; try rfl
                case z81 =>
                simp only [Act.put, List.setIfInBounds_toArray, List.set_cons_succ, List.set_cons_zero, List.getElem_toArray, List.getElem_cons_zero, List.getElem_cons_succ]
                refine hl_take ?v82 rfl (by kernel_rfl) ?y82 ?z82
                case y82 => intro W hW; change Below w.heap.size w W at hW; have k1 := (HZ.out W hW).1; have k2 := (HZ.out W hW).2.1; have k3 := (HZ.out W hW).2.2.1; have k4 := (HZ.out W hW).2.2.2; replace hW := Lib.hid hW; go_simp; try rfl
                case z82 =>
                simp only [Act.put, List.setIfInBounds_toArray, List.set_cons_succ, List.set_cons_zero, List.getElem_toArray, List.getElem_cons_zero, List.getElem_cons_succ]
                refine hl_take ?v83 rfl (by kernel_rfl) ?y83 ?z83
                case y83 => intro W hW; skip; replace hW := Lib.hid hW; go_simp; try rfl
                case z83 =>
                simp only [Act.put, List.setIfInBounds_toArray, List.set_cons_succ, List.set_cons_zero, List.getElem_toArray, List.getElem_cons_zero, List.getElem_cons_succ]
                refine hl_take ?v84 rfl (by kernel_rfl) ?y84 ?z84
                case y84 => intro W hW; skip; replace hW := Lib.hid hW; go_simp; try rfl
                case z84 =>
                simp only [Act.put, List.setIfInBounds_toArray, List.set_cons_succ, List.set_cons_zero, List.getElem_toArray, List.getElem_cons_zero, List.getElem_cons_succ]
                refine hl_take ?v85 rfl (by kernel_rfl) ?y85 ?z85
                case y85 => intro W hW; skip; replace hW := Lib.hid hW; go_simp; try rfl
                case z85 =>
                simp only [Act.put, List.setIfInBounds_toArray, List.set_cons_succ, List.set_cons_zero, List.getElem_toArray, List.getElem_cons_zero, List.getElem_cons_succ]
                refine hl_take ?v86 rfl (by kernel_rfl) ?y86 ?z86
                case y86 => intro W hW; change Below w.heap.size w W at hW; have k1 := (HZ.out W hW).1; have k2 := (HZ.out W hW).2.1; have k3 := (HZ.out W hW).2.2.1; have k4 := (HZ.out W hW).2.2.2; replace hW := Lib.hid hW; go_simp; try rfl
                case z86 =>
                simp only [Act.put, List.setIfInBounds_toArray, List.set_cons_succ, List.set_cons_zero, List.getElem_toArray, List.getElem_cons_zero, List.getElem_cons_succ]
                refine hl_take ?v87 rfl (by kernel_rfl) ?y87 ?z87
                case y87 => intro W hW; skip; replace hW := Lib.hid hW; go_simp; try rfl
                case z87 =>
                simp only [Act.put, List.setIfInBounds_toArray, List.set_cons_succ, List.set_cons_zero, List.getElem_toArray, List.getElem_cons_zero, List.getElem_cons_succ]
                refine hl_take ?v88 rfl (by kernel_rfl) ?y88 ?z88
                case y88 => intro W hW; skip; replace hW := Lib.hid hW; go_simp; try rfl
                case z88 =>
                simp only [Act.put, List.setIfInBounds_toArray, List.set_cons_succ, List.set_cons_zero, List.getElem_toArray, List.getElem_cons_zero, List.getElem_cons_succ]
                refine hl_take ?v89 rfl (by kernel_rfl) ?y89 ?z89
                case y89 => intro W hW; skip; replace hW := Lib.hid hW; go_simp; try rfl
                case z89 =>
                simp only [Act.put, List.setIfInBounds_toArray, List.set_cons_succ, List.set_cons_zero, List.getElem_toArray, List.getElem_cons_zero, List.getElem_cons_succ]
                refine hl_take ?v90 rfl (by kernel_rfl) ?y90 ?z90
                case y90 => intro W hW; skip; replace hW := Lib.hid hW; go_simp; try rfl
                case z90 =>
                simp only [Act.put, List.setIfInBounds_toArray, List.set_cons_succ, List.set_cons_zero, List.getElem_toArray, List.getElem_cons_zero, List.getElem_cons_succ]
                refine hl_take ?v91 rfl (by kernel_rfl) ?y91 ?z91
                case y91 => intro W hW; change Below w.heap.size w W at hW; have k1 := (HZ.out W hW).1; have k2 := (HZ.out W hW).2.1; have k3 := (HZ.out W hW).2.2.1; have k4 := (HZ.out W hW).2.2.2; replace hW := Lib.hid hW; go_simp; try rfl
                case z91 =>
                simp only [Act.put, List.setIfInBounds_toArray, List.set_cons_succ, List.set_cons_zero, List.getElem_toArray, List.getElem_cons_zero, List.getElem_cons_succ]
                refine hl_take ?v92 rfl (by kernel_rfl) ?y92 ?z92
                case y92 => intro W hW; skip; replace hW := Lib.hid hW; go_simp; try rfl
                case z92 =>
                simp only [Act.put, List.setIfInBounds_toArray, List.set_cons_succ, List.set_cons_zero, List.getElem_toArray, List.getElem_cons_zero, List.getElem_cons_succ]
                refine hl_take ?v93 rfl (by kernel_rfl) ?y93 ?z93
                case y93 => intro W hW; skip; replace hW := Lib.hid hW; go_simp; try rfl
                case z93 =>
                simp only [Act.put, List.setIfInBounds_toArray, List.set_cons_succ, List.set_cons_zero, List.getElem_toArray, List.getElem_cons_zero, List.getElem_cons_succ]
                refine hl_take ?v94 rfl (by kernel_rfl) ?y94 ?z94
                case y94 => intro W hW; change Below w.heap.size w W at hW; have k1 := (HZ.out W hW).1; have k2 := (HZ.out W hW).2.1; have k3 := (HZ.out W hW).2.2.1; have k4 := (HZ.out W hW).2.2.2; replace hW := Lib.hid hW; go_simp; try rfl
                case z94 =>
                simp only [Act.put, List.setIfInBounds_toArray, List.set_cons_succ, List.set_cons_zero, List.getElem_toArray, List.getElem_cons_zero, List.getElem_cons_succ]
                refine hl_take ?v95 rfl (by kernel_rfl) ?y95 ?z95
                case y95 => intro W hW; skip; replace hW := Lib.hid hW; go_simp; try rfl
                case z95 =>
                simp only [Act.put, List.setIfInBounds_toArray, List.set_cons_succ, List.set_cons_zero, List.getElem_toArray, List.getElem_cons_zero, List.getElem_cons_succ]
                refine hl_one rfl (by kernel_rfl) (fun K hK => ?_)
                go_simp
                refine (S1.out _).mono ?_
                rintro e w2 ⟨rfl, b2⟩
                replace hS := Lib.hid (show Below w.heap.size w w2 from hS.out.trans (b2.mono hS.out.size))
                clear b2
                refine hK.out _ _ hS.out ?_
                clear hK K
                try simp only [Act.put, List.setIfInBounds_toArray, List.set_cons_succ, List.set_cons_zero, List.getElem_toArray, List.getElem_cons_zero, List.getElem_cons_succ]
                refine hl_one rfl (by kernel_rfl) (fun K hK => ?_)
                go_simp
                refine (S2.out _).mono ?_
                rintro e w2 ⟨rfl, b2⟩
                replace hS := Lib.hid (show Below w.heap.size w w2 from hS.out.trans (b2.mono hS.out.size))
                clear b2
                refine hK.out _ _ hS.out ?_
                clear hK K
                try simp only [Act.put, List.setIfInBounds_toArray, List.set_cons_succ, List.set_cons_zero, List.getElem_toArray, List.getElem_cons_zero, List.getElem_cons_succ]
                refine hl_take ?v96 rfl (by kernel_rfl) ?y96 ?z96
                case y96 => intro W hW; skip; replace hW := Lib.hid hW; go_simp; try rfl
                case z96 =>
                simp only [Act.put, List.setIfInBounds_toArray, List.set_cons_succ, List.set_cons_zero, List.getElem_toArray, List.getElem_cons_zero, List.getElem_cons_succ]
                refine hl_take ?v97 rfl (by kernel_rfl) ?y97 ?z97
                case y97 => intro W hW; skip; replace hW := Lib.hid hW; go_simp; try rfl
                case z97 =>
                simp only [Act.put, List.setIfInBounds_toArray, List.set_cons_succ, List.set_cons_zero, List.getElem_toArray, List.getElem_cons_zero, List.getElem_cons_succ]
                refine hl_done ?_
                skip
                go_wp2_with fail
                go_roundw
                case rel => exact ⟨k + 1, by omega, by go_num, hS⟩
                case measure => simp [intOf]; omega
              · obtain ⟨p1, p2, p3⟩ := ofV_twice (by omega) (by omega) ho
                have O1 := Lib.hid (fun W => of_any t r s W)
                have O2 := Lib.hid (fun W => of_any t r (2 * s) W)
                have hob := ofV_bd t r s
                generalize ofV t r s = o1 at *
                generalize ofV t r (2 * s) = o2 at *
                have q1 : decide (o1 < 0) = false := decide_eq_false ho
                have q2 : decide (o1 ≥ 0) = true := decide_eq_true (by omega)
                have q3 : o2.tmod s = o1 := by rw [Int.tmod_eq_emod_of_nonneg p1]; exact p2
                have q4 : IntKind.i64.wrap o1 = o1 := IntWalk.i64_in _ (by omega)
                have q5 : ((s : Int) == 0) = false := by rw [beq_eq_false_iff_ne]; omega
                have q6 : ¬ (s = 0) := by omega
                clear ho hob p3
                go_wp2_with fail
                have hS := Lib.hid (show (fun W : World => Below w.heap.size w W) _ from hT.out.drew)
                refine hl_begin (fun W : World => Below w.heap.size w W) [(0, true), (1, true), (2, true), (3, true), (4, true), (6, true), (7, true), (8, true), (9, true), (10, true), (11, true), (5, false), (12, false), (13, true), (14, true)] (by kernel_rfl) (by kernel_rfl) (by kernel_rfl) rfl (fun _ _ _ _ _ h => h) hS.out ?_
                change HL _ _ _ _ _ _ (World.drew _)
                generalize World.drew _ = wd at *
                refine hl_take ?v98 rfl (by kernel_rfl) ?y98 ?z98
                case y98 => intro W hW; skip; replace hW := Lib.hid hW; go_simp; try rfl
                case z98 =>
                simp only [Act.put, List.setIfInBounds_toArray, List.set_cons_succ, List.set_cons_zero, List.getElem_toArray, List.getElem_cons_zero, List.getElem_cons_succ]
                refine hl_take ?v99 rfl (by kernel_rfl) ?y99 ?z99
                case y99 => intro W hW; skip; replace hW := Lib.hid hW; go_simp; try rfl
                case z99 =>
                simp only [Act.put, List.setIfInBounds_toArray, List.set_cons_succ, List.set_cons_zero, List.getElem_toArray, List.getElem_cons_zero, List.getElem_cons_succ]
                refine hl_take ?v100 rfl (by kernel_rfl) ?y100 ?z100
                case y100 => intro W hW; skip; replace hW := Lib.hid hW; go_simp; try rfl
                case z100 =>
                simp only [Act.put, List.setIfInBounds_toArray, List.set_cons_succ, List.set_cons_zero, List.getElem_toArray, List.getElem_cons_zero, List.getElem_cons_succ]
                refine hl_take ?v101 rfl (by kernel_rfl) ?y101 ?z101
                case y101 => intro W hW; change Below w.heap.size w W at hW; have k1 := (HZ.out W hW).1; have k2 := (HZ.out W hW).2.1; have k3 := (HZ.out W hW).2.2.1; have k4 := (HZ.out W hW).2.2.2; replace hW := Lib.hid hW; go_simp; try rfl
                case z101 =>
                simp only [Act.put, List.setIfInBounds_toArray, List.set_cons_succ, List.set_cons_zero, List.getElem_toArray, List.getElem_cons_zero, List.getElem_cons_succ]
                refine hl_take ?v102 rfl (by kernel_rfl) ?y102 ?z102
                case y102 => intro W hW; skip; replace hW := Lib.hid hW; go_simp; try rfl
                case z102 =>
                simp only [Act.put, List.setIfInBounds_toArray, List.set_cons_succ, List.set_cons_zero, List.getElem_toArray, List.getElem_cons_zero, List.getElem_cons_succ]
                refine hl_take ?v103 rfl (by kernel_rfl) ?y103 ?z103
                case y103 => intro W hW; skip; replace hW := Lib.hid hW; go_simp; try rfl
                case z103 =>
                simp only [Act.put, List.setIfInBounds_toArray, List.set_cons_succ, List.set_cons_zero, List.getElem_toArray, List.getElem_cons_zero, List.getElem_cons_succ]
                refine hl_take ?v104 rfl (by kernel_rfl) ?y104 ?z104
                case y104 => intro W hW; skip; replace hW := Lib.hid hW; go_simp; try rfl
                case z104 =>
                simp only [Act.put, List.setIfInBounds_toArray, List.set_cons_succ, List.set_cons_zero, List.getElem_toArray, List.getElem_cons_zero, List.getElem_cons_succ]
                refine hl_take ?v105 rfl (by kernel_rfl) ?y105 ?z105
                case y105 => intro W hW; skip; replace hW := Lib.hid hW; go_simp; try rfl
                case z105 =>
                simp only [Act.put, List.setIfInBounds_toArray, List.set_cons_succ, List.set_cons_zero, List.getElem_toArray, List.getElem_cons_zero, List.getElem_cons_succ]
                refine hl_take ?v106 rfl (by kernel_rfl) ?y106 ?z106
                case y106 => intro W hW; change Below w.heap.size w W at hW; have k1 := (HZ.out W hW).1; have k2 := (HZ.out W hW).2.1; have k3 := (HZ.out W hW).2.2.1; have k4 := (HZ.out W hW).2.2.2; replace hW := Lib.hid hW; go_simp; try rfl
                case z106 =>
                simp only [Act.put, List.setIfInBounds_toArray, List.set_cons_succ, List.set_cons_zero, List.getElem_toArray, List.getElem_cons_zero, List.getElem_cons_succ]
                refine hl_take ?v107 rfl (by kernel_rfl) ?y107 ?z107
                case y107 => intro W hW; skip; replace hW := Lib.hid hW; go_simp; try rfl
                case z107 =>
                simp only [Act.put, List.setIfInBounds_toArray, List.set_cons_succ, List.set_cons_zero, List.getElem_toArray, List.getElem_cons_zero, List.getElem_cons_succ]
                refine hl_take ?v108 rfl (by kernel_rfl) ?y108 ?z108
                case y108 => intro W hW; skip; replace hW := Lib.hid hW; go_simp; try rfl
                case z108 =>
                simp only [Act.put, List.setIfInBounds_toArray, List.set_cons_succ, List.set_cons_zero, List.getElem_toArray, List.getElem_cons_zero, List.getElem_cons_succ]
                refine hl_one rfl (by kernel_rfl) (fun K hK => ?_)
                go_simp
                refine (O1.out _).mono ?_
                rintro e w2 ⟨rfl, b2⟩
                replace hS := Lib.hid (show Below w.heap.size w w2 from hS.out.trans (b2.mono hS.out.size))
                clear b2
                refine hK.out _ _ hS.out ?_
                clear hK K
                try simp only [Act.put, List.setIfInBounds_toArray, List.set_cons_succ, List.set_cons_zero, List.getElem_toArray, List.getElem_cons_zero, List.getElem_cons_succ]
                refine hl_one rfl (by kernel_rfl) (fun K hK => ?_)
                go_simp
                refine (O2.out _).mono ?_
                rintro e w2 ⟨rfl, b2⟩
                replace hS := Lib.hid (show Below w.heap.size w w2 from hS.out.trans (b2.mono hS.out.size))
                clear b2
                refine hK.out _ _ hS.out ?_
                clear hK K
                try simp only [Act.put, List.setIfInBounds_toArray, List.set_cons_succ, List.set_cons_zero, List.getElem_toArray, List.getElem_cons_zero, List.getElem_cons_succ]
                refine hl_take ?v109 rfl (by kernel_rfl) ?y109 ?z109
                case y109 => intro W hW; skip; replace hW := Lib.hid hW; go_simp; try rfl
                case z109 =>
                simp only [Act.put, List.setIfInBounds_toArray, List.set_cons_succ, List.set_cons_zero, List.getElem_toArray, List.getElem_cons_zero, List.getElem_cons_succ]
                refine hl_take ?v110 rfl (by kernel_rfl) ?y110 ?z110
                case y110 => intro W hW; skip; replace hW := Lib.hid hW; go_simp; try rfl
                case z110 =>
                simp only [Act.put, List.setIfInBounds_toArray, List.set_cons_succ, List.set_cons_zero, List.getElem_toArray, List.getElem_cons_zero, List.getElem_cons_succ]
                refine hl_done ?_
                skip
                clear wm2
                go_wp2_with fail
                have hT2 := hS
                clear hS
                have hS := Lib.hid (show (fun W : World => Below w.heap.size w W) _ from hT2.out.drew)
                refine hl_begin (fun W : World => Below w.heap.size w W) [(0, true), (1, true), (2, true), (3, true), (4, true), (5, true), (6, true), (7, true), (8, true), (9, true), (10, true), (11, true), (12, true), (13, true), (14, true), (15, true), (16, true), (17, true), (18, true), (19, true), (20, true), (21, true), (22, true), (23, true), (24, true), (25, true), (27, true), (28, true), (29, true), (30, true), (31, true), (32, true), (33, true), (34, true), (26, false), (35, false), (36, true), (37, true)] (by kernel_rfl) (by kernel_rfl) (by kernel_rfl) rfl (fun _ _ _ _ _ h => h) hS.out ?_
                change HL _ _ _ _ _ _ (World.drew _)
                generalize World.drew _ = wd at *
                refine hl_take ?v111 rfl (by kernel_rfl) ?y111 ?z111
                case y111 => intro W hW; skip; replace hW := Lib.hid hW; go_simp; try rfl
                case z111 =>
                simp only [Act.put, List.setIfInBounds_toArray, List.set_cons_succ, List.set_cons_zero, List.getElem_toArray, List.getElem_cons_zero, List.getElem_cons_succ]
                refine hl_take ?v112 rfl (by kernel_rfl) ?y112 ?z112
                case y112 => intro W hW; skip; replace hW := Lib.hid hW; go_simp; try rfl
                case z112 =>
                simp only [Act.put, List.setIfInBounds_toArray, List.set_cons_succ, List.set_cons_zero, List.getElem_toArray, List.getElem_cons_zero, List.getElem_cons_succ]
                refine hl_take ?v113 rfl (by kernel_rfl) ?y113 ?z113
                case y113 => intro W hW; skip; replace hW := Lib.hid hW; go_simp; try rfl
                case z113 =>
                simp only [Act.put, List.setIfInBounds_toArray, List.set_cons_succ, List.set_cons_zero, List.getElem_toArray, List.getElem_cons_zero, List.getElem_cons_succ]
                refine hl_skip rfl (by kernel_rfl) ?_
                simp only [Act.put, List.setIfInBounds_toArray, List.set_cons_succ, List.set_cons_zero, List.getElem_toArray, List.getElem_cons_zero, List.getElem_cons_succ]
                refine hl_skip rfl (by kernel_rfl) ?_
                simp only [Act.put, List.setIfInBounds_toArray, List.set_cons_succ, List.set_cons_zero, List.getElem_toArray, List.getElem_cons_zero, List.getElem_cons_succ]
                refine hl_take ?v114 rfl (by kernel_rfl) ?y114 ?z114
                case y114 => intro W hW; skip; replace hW := Lib.hid hW; go_simp; try rfl
                case z114 =>
                simp only [Act.put, List.setIfInBounds_toArray, List.set_cons_succ, List.set_cons_zero, List.getElem_toArray, List.getElem_cons_zero, List.getElem_cons_succ]
                refine hl_take ?v115 rfl (by kernel_rfl) ?y115 ?z115
                case y115 => intro W hW; skip; replace hW := Lib.hid hW; go_simp; try rfl
                case z115 =>
                simp only [Act.put, List.setIfInBounds_toArray, List.set_cons_succ, List.set_cons_zero, List.getElem_toArray, List.getElem_cons_zero, List.getElem_cons_succ]
                refine hl_take ?v116 rfl (by kernel_rfl) ?y116 ?z116
                case y116 => intro W hW; skip; replace hW := Lib.hid hW; go_simp; try rfl
                case z116 =>
                simp only [Act.put, List.setIfInBounds_toArray, List.set_cons_succ, List.set_cons_zero, List.getElem_toArray, List.getElem_cons_zero, List.getElem_cons_succ]
                refine hl_take ?v117 rfl (by kernel_rfl) ?y117 ?z117
                case y117 => intro W hW; skip; replace hW := Lib.hid hW; go_simp; try rfl
                case z117 =>
                simp only [Act.put, List.setIfInBounds_toArray, List.set_cons_succ, List.set_cons_zero, List.getElem_toArray, List.getElem_cons_zero, List.getElem_cons_succ]
                refine hl_take ?v118 rfl (by kernel_rfl) ?y118 ?z118
                case y118 => intro W hW; skip; replace hW := Lib.hid hW; go_simp; try rfl
                case z118 =>
                simp only [Act.put, List.setIfInBounds_toArray, List.set_cons_succ, List.set_cons_zero, List.getElem_toArray, List.getElem_cons_zero, List.getElem_cons_succ]
                refine hl_take ?v119 rfl (by kernel_rfl) ?y119 ?z119
                case y119 => intro W hW; skip; replace hW := Lib.hid hW; go_simp; try rfl
                case z119 =>
                simp only [Act.put, List.setIfInBounds_toArray, List.set_cons_succ, List.set_cons_zero, List.getElem_toArray, List.getElem_cons_zero, List.getElem_cons_succ]
                refine hl_take ?v120 rfl (by kernel_rfl) ?y120 ?z120
                case y120 => intro W hW; skip; replace hW := Lib.hid hW; go_simp; try rfl
                case z120 =>
                simp only [Act.put, List.setIfInBounds_toArray, List.set_cons_succ, List.set_cons_zero, List.getElem_toArray, List.getElem_cons_zero, List.getElem_cons_succ]
                refine hl_take ?v121 rfl (by kernel_rfl) ?y121 ?z121
                case y121 => intro W hW; skip; replace hW := Lib.hid hW; go_simp; try rfl
                case z121 =>
                simp only [Act.put, List.setIfInBounds_toArray, List.set_cons_succ, List.set_cons_zero, List.getElem_toArray, List.getElem_cons_zero, List.getElem_cons_succ]
                refine hl_take ?v122 rfl (by kernel_rfl) ?y122 ?z122
                case y122 => intro W hW; skip; replace hW := Lib.hid hW; go_simp; try rfl
                case z122 =>
                simp only [Act.put, List.setIfInBounds_toArray, List.set_cons_succ, List.set_cons_zero, List.getElem_toArray, List.getElem_cons_zero, List.getElem_cons_succ]
                refine hl_take ?v123 rfl (by kernel_rfl) ?y123 ?z123
                case y123 => intro W hW; skip; replace hW := Lib.hid hW; go_simp; try rfl
                case z123 =>
                simp only [Act.put, List.setIfInBounds_toArray, List.set_cons_succ, List.set_cons_zero, List.getElem_toArray, List.getElem_cons_zero, List.getElem_cons_succ]
                refine hl_take ?v124 rfl (by kernel_rfl) ?y124 ?z124
                case y124 => intro W hW; skip; replace hW := Lib.hid hW; go_simp; try rfl
                case z124 =>
                simp only [Act.put, List.setIfInBounds_toArray, List.set_cons_succ, List.set_cons_zero, List.getElem_toArray, List.getElem_cons_zero, List.getElem_cons_succ]
                refine hl_take ?v125 rfl (by kernel_rfl) ?y125 ?z125
                case y125 => intro W hW; skip; replace hW := Lib.hid hW; go_simp; try rfl
                case z125 =>
                simp only [Act.put, List.setIfInBounds_toArray, List.set_cons_succ, List.set_cons_zero, List.getElem_toArray, List.getElem_cons_zero, List.getElem_cons_succ]
                refine hl_take ?v126 rfl (by kernel_rfl) ?y126 ?z126
                case y126 => intro W hW; skip; replace hW := Lib.hid hW; go_simp; try rfl
                case z126 =>
                simp only [Act.put, List.setIfInBounds_toArray, List.set_cons_succ, List.set_cons_zero, List.getElem_toArray, List.getElem_cons_zero, List.getElem_cons_succ]
                refine hl_take ?v127 rfl (by kernel_rfl) ?y127 ?z127
                case y127 => intro W hW; skip; replace hW := Lib.hid hW; go_simp; try rfl
                case z127 =>
                simp only [Act.put, List.setIfInBounds_toArray, List.set_cons_succ, List.set_cons_zero, List.getElem_toArray, List.getElem_cons_zero, List.getElem_cons_succ]
                refine hl_take ?v128 rfl (by kernel_rfl) ?y128 ?z128
                case y128 => intro W hW; skip; replace hW := Lib.hid hW; go_simp; try rfl
                case z128 =>
                simp only [Act.put, List.setIfInBounds_toArray, List.set_cons_succ, List.set_cons_zero, List.getElem_toArray, List.getElem_cons_zero, List.getElem_cons_succ]
                refine hl_take ?v129 rfl (by kernel_rfl) ?y129 ?z129
                case y129 => intro W hW; change Below w.heap.size w W at hW; have k1 := (HZ.out W hW).1; have k2 := (HZ.out W hW).2.1; have k3 := (HZ.out W hW).2.2.1; have k4 := (HZ.out W hW).2.2.2; replace hW := Lib.hid hW; go_simp; try rfl
                case z129 =>
                simp only [Act.put, List.setIfInBounds_toArray, List.set_cons_succ, List.set_cons_zero, List.getElem_toArray, List.getElem_cons_zero, List.getElem_cons_succ]
                refine hl_take ?v130 rfl (by kernel_rfl) ?y130 ?z130
                case y130 => intro W hW; skip; replace hW := Lib.hid hW; go_simp; try rfl
                case z130 =>
                simp only [Act.put, List.setIfInBounds_toArray, List.set_cons_succ, List.set_cons_zero, List.getElem_toArray, List.getElem_cons_zero, List.getElem_cons_succ]
                refine hl_take ?v131 rfl (by kernel_rfl) ?y131 ?z131
                case y131 => intro W hW; skip; replace hW := Lib.hid hW; go_simp; try rfl
                case z131 =>
                simp only [Act.put, List.setIfInBounds_toArray, List.set_cons_succ, List.set_cons_zero, List.getElem_toArray, List.getElem_cons_zero, List.getElem_cons_succ]
                refine hl_take ?v132 rfl (by kernel_rfl) ?y132 ?z132
                case y132 => intro W hW; skip; replace hW := Lib.hid hW; go_simp; try rfl
                case z132 =>
                simp only [Act.put, List.setIfInBounds_toArray, List.set_cons_succ, List.set_cons_zero, List.getElem_toArray, List.getElem_cons_zero, List.getElem_cons_succ]
                refine hl_take ?v133 rfl (by kernel_rfl) ?y133 ?z133
                case y133 => intro W hW; change Below w.heap.size w W at hW; have k1 := (HZ.out W hW).1; have k2 := (HZ.out W hW).2.1; have k3 := (HZ.out W hW).2.2.1; have k4 := (HZ.out W hW).2.2.2; replace hW := Lib.hid hW; go_simp; try rfl
                case z133 =>
                simp only [Act.put, List.setIfInBounds_toArray, List.set_cons_succ, List.set_cons_zero, List.getElem_toArray, List.getElem_cons_zero, List.getElem_cons_succ]
                refine hl_take ?v134 rfl (by kernel_rfl) ?y134 ?z134
                case y134 => intro W hW; skip; replace hW := Lib.hid hW; go_simp; try rfl
                case z134 =>
                simp only [Act.put, List.setIfInBounds_toArray, List.set_cons_succ, List.set_cons_zero, List.getElem_toArray, List.getElem_cons_zero, List.getElem_cons_succ]
                refine hl_take ?v135 rfl (by kernel_rfl) ?y135 ?z135
                case y135 => intro W hW; skip; replace hW := Lib.hid hW; go_simp; try rfl
                case z135 =>
                simp only [Act.put, List.setIfInBounds_toArray, List.set_cons_succ, List.set_cons_zero, List.getElem_toArray, List.getElem_cons_zero, List.getElem_cons_succ]
                refine hl_take ?v136 rfl (by kernel_rfl) ?y136 ?z136
                case y136 => intro W hW; skip; replace hW := Lib.hid hW; go_simp; try rfl
                case z136 =>
                simp only [Act.put, List.setIfInBounds_toArray, List.set_cons_succ, List.set_cons_zero, List.getElem_toArray, List.getElem_cons_zero, List.getElem_cons_succ]
                refine hl_take ?v137 rfl (by kernel_rfl) ?y137 ?z137
                case y137 => intro W hW; skip; replace hW := Lib.hid hW; go_simp; try rfl
                case z137 =>
                simp only [Act.put, List.setIfInBounds_toArray, List.set_cons_succ, List.set_cons_zero, List.getElem_toArray, List.getElem_cons_zero, List.getElem_cons_succ]
                refine hl_take ?v138 rfl (by kernel_rfl) ?y138 ?z138
                case y138 => intro W hW; change Below w.heap.size w W at hW; have k1 := (HZ.out W hW).1; have k2 := (HZ.out W hW).2.1; have k3 := (HZ.out W hW).2.2.1; have k4 := (HZ.out W hW).2.2.2; replace hW := Lib.hid hW; go_simp; try rfl
                case z138 =>
                simp only [Act.put, List.setIfInBounds_toArray, List.set_cons_succ, List.set_cons_zero, List.getElem_toArray, List.getElem_cons_zero, List.getElem_cons_succ]
                refine hl_take ?v139 rfl (by kernel_rfl) ?y139 ?z139
                case y139 => intro W hW; skip; replace hW := Lib.hid hW; go_simp; try rfl
                case z139 =>
                simp only [Act.put, List.setIfInBounds_toArray, List.set_cons_succ, List.set_cons_zero, List.getElem_toArray, List.getElem_cons_zero, List.getElem_cons_succ]
                refine hl_take ?v140 rfl (by kernel_rfl) ?y140 ?z140
                case y140 => intro W hW; skip; replace hW := Lib.hid hW; go_simp; try rfl
                case z140 =>
                simp only [Act.put, List.setIfInBounds_toArray, List.set_cons_succ, List.set_cons_zero, List.getElem_toArray, List.getElem_cons_zero, List.getElem_cons_succ]
                refine hl_take ?v141 rfl (by kernel_rfl) ?y141 ?z141
                case y141 => intro W hW; change Below w.heap.size w W at hW; have k1 := (HZ.out W hW).1; have k2 := (HZ.out W hW).2.1; have k3 := (HZ.out W hW).2.2.1; have k4 := (HZ.out W hW).2.2.2; replace hW := Lib.hid hW; go_simp; try rfl
                case z141 =>
                simp only [Act.put, List.setIfInBounds_toArray, List.set_cons_succ, List.set_cons_zero, List.getElem_toArray, List.getElem_cons_zero, List.getElem_cons_succ]
                refine hl_take ?v142 rfl (by kernel_rfl) ?y142 ?z142
                case y142 => intro W hW; skip; replace hW := Lib.hid hW; go_simp; try rfl
                case z142 =>
                simp only [Act.put, List.setIfInBounds_toArray, List.set_cons_succ, List.set_cons_zero, List.getElem_toArray, List.getElem_cons_zero, List.getElem_cons_succ]
                refine hl_one rfl (by kernel_rfl) (fun K hK => ?_)
                go_simp
                refine (S1.out _).mono ?_
                rintro e w2 ⟨rfl, b2⟩
                replace hS := Lib.hid (show Below w.heap.size w w2 from hS.out.trans (b2.mono hS.out.size))
                clear b2
                refine hK.out _ _ hS.out ?_
                clear hK K
                try simp only [Act.put, List.setIfInBounds_toArray, List.set_cons_succ, List.set_cons_zero, List.getElem_toArray, List.getElem_cons_zero, List.getElem_cons_succ]
                refine hl_one rfl (by kernel_rfl) (fun K hK => ?_)
                go_simp
                refine (S2.out _).mono ?_
                rintro e w2 ⟨rfl, b2⟩
                replace hS := Lib.hid (show Below w.heap.size w w2 from hS.out.trans (b2.mono hS.out.size))
                clear b2
                refine hK.out _ _ hS.out ?_
                clear hK K
                try simp only [Act.put, List.setIfInBounds_toArray, List.set_cons_succ, List.set_cons_zero, List.getElem_toArray, List.getElem_cons_zero, List.getElem_cons_succ]
                refine hl_take ?v143 rfl (by kernel_rfl) ?y143 ?z143
                case y143 => intro W hW; skip; replace hW := Lib.hid hW; go_simp; try rfl
                case z143 =>
                simp only [Act.put, List.setIfInBounds_toArray, List.set_cons_succ, List.set_cons_zero, List.getElem_toArray, List.getElem_cons_zero, List.getElem_cons_succ]
                refine hl_take ?v144 rfl (by kernel_rfl) ?y144 ?z144
                case y144 => intro W hW; skip; replace hW := Lib.hid hW; go_simp; try rfl
                case z144 =>
                simp only [Act.put, List.setIfInBounds_toArray, List.set_cons_succ, List.set_cons_zero, List.getElem_toArray, List.getElem_cons_zero, List.getElem_cons_succ]
                refine hl_done ?_
                skip
                clear q1 q2 q3 q4 q5 q6 p1 p2
                go_wp2_with fail
                go_roundw
                case rel => exact ⟨k + 1, by omega, by go_num, hS⟩
                case measure => simp [intOf]; omega
            · go_wp2_with fail
              go_ret
              exact ⟨rfl, hT.out⟩
end Go.Proofs.YtgbffkjfjkfiaaaDoor
