/-
  LightScript; ScriptBack, walked. No condition beside an argument that can be read.
-/
import Derived.Test.YtdpolejbceoldaaDoorScZ
import Derived.Test.YtdpolejbceoldaaDoorScL
namespace Go.Proofs.YtdpolejbceoldaaDoor
set_option linter.unusedSimpArgs false
set_option linter.unusedVariables false
set_option linter.unnecessarySimpa false
open Go.RowKit
def lightB (S : Sc) : Bool := decide (S.ths.length ≤ 10) && decide (S.pks.length ≤ 300) && S.ths.all (fun l => decide (l.length ≤ 40))
theorem light_iff (S : Sc) : lightB S = true ↔ S.ths.length ≤ 10 ∧ S.pks.length ≤ 300 ∧ ∀ k, k < S.ths.length → (S.ths.getD k []).length ≤ 40 := by
  unfold lightB
  simp only [Bool.and_eq_true, decide_eq_true_eq, List.all_eq_true]
  constructor
  · rintro ⟨⟨a, b⟩, c⟩
    refine ⟨a, b, fun k hk => ?_⟩
    have := c _ (List.getElem_mem hk)
    rwa [List.getD_eq_getElem?_getD, List.getElem?_eq_getElem hk]
  · rintro ⟨a, b, c⟩
    refine ⟨⟨a, b⟩, fun l hl => ?_⟩
    obtain ⟨k, hk, rfl⟩ := List.getElem_of_mem hl
    have := c k hk
    rwa [List.getD_eq_getElem?_getD, List.getElem?_eq_getElem hk] at this
theorem light_sm {S : Sc} (h : lightB S = true) : ScSm S := by
  obtain ⟨a, b, c⟩ := (light_iff S).1 h
  refine ⟨by omega, fun t => ?_, by omega⟩
  by_cases ht : t < S.ths.length
  · have := c t ht; omega
  · rw [List.getD_eq_getElem?_getD, List.getElem?_eq_none (by omega)]; simp
theorem light_no {S : Sc} (h : ¬(S.ths.length ≤ 10 ∧ S.pks.length ≤ 300 ∧ ∀ k, k < S.ths.length → (S.ths.getD k []).length ≤ 40)) : lightB S = false := by
  rw [← light_iff] at h
  simpa using h
set_option maxHeartbeats 8000000 in
set_option maxRecDepth 100000 in
theorem light_any (tv pv : Value) (S : Sc) (vs : List Value) (w : World) (h : scR w tv pv S vs) :
    Calls Tryd.prog 17 #[.agg #[tv, pv, .int .i64 S.c0, .int .i64 S.c1, .int .i64 S.c2, .int .i64 S.c3]] w fun e w' => e = .returned (.bool (lightB S)) ∧ Below w.heap.size w w' := by
  obtain ⟨_, ta, tc, rfl, _⟩ := id h.th
  obtain ⟨_, pa, pc, rfl, _⟩ := id h.pk
  have hH := Lib.hid (fun k hk => h.hd (k := k) hk)
  have hS0 := (Sep.start w).alloc #[.slice ta S.ths.length tc, .slice pa S.pks.length pc, .int .i64 S.c0, .int .i64 S.c1, .int .i64 S.c2, .int .i64 S.c3] 30
  have EY := fun a b c => (light_iff S).2 ⟨a, b, c⟩
  have EN := fun (a : ¬(S.ths.length ≤ 10 ∧ S.pks.length ≤ 300)) => light_no (S := S) (fun h => a ⟨h.1, h.2.1⟩)
  have ET := fun k (hk : k < S.ths.length) (a : 40 < (S.ths.getD k []).length) => light_no (S := S) (fun h => by have := h.2.2 k hk; omega)
  generalize lightB S = lb at *
  obtain ⟨n, hn⟩ : ∃ n, S.ths.length = n := ⟨_, rfl⟩
  obtain ⟨np, hnp⟩ : ∃ n, S.pks.length = n := ⟨_, rfl⟩
  rw [hn] at hS0 EY EN ET hH ⊢
  rw [hnp] at hS0 EY EN ⊢
  have hS := Lib.hid hS0
  replace EY := Lib.hid EY
  replace EN := Lib.hid EN
  replace ET := Lib.hid ET
  clear hS0 hn hnp h
  obtain ⟨_, b0, b1, b2, b3, b4, b5, _⟩ := hS.out.b6
  by_cases n1 : 10 < n
  · have i1 : 10 < (n : Int) := by omega
    have EE := Lib.hid (EN.out (by omega))
    go_enter Tryd.func17, Tryd.ntmps17
    go_wp2_with fail
    go_ret
    exact ⟨by rw [EE.out]; rfl, hS.out.tail.gold⟩
  by_cases n2 : 300 < np
  · have i1 : ¬ 10 < (n : Int) := by omega
    have i2 : 300 < (np : Int) := by omega
    have EE := Lib.hid (EN.out (by omega))
    go_enter Tryd.func17, Tryd.ntmps17
    go_wp2_with fail
    go_ret
    exact ⟨by rw [EE.out]; rfl, hS.out.tail.gold⟩
  have i1 : ¬ 10 < (n : Int) := by omega
  have i2 : ¬ 300 < (np : Int) := by omega
  go_enter Tryd.func17, Tryd.ntmps17
  go_wp2_with fail
  go_loopw [3] (fun s wr => ∃ k : Nat, k ≤ n ∧ s = .int .i64 k ∧ Hid (∀ j, j < k → (S.ths.getD j []).length ≤ 40) ∧ Hid (Sep wr [blk w.heap.size 30 #[.slice ta n tc, .slice pa np pc, .int .i64 S.c0, .int .i64 S.c1, .int .i64 S.c2, .int .i64 S.c3], old w])) (fun s _ => n - (intOf s).toNat)
  case atStart => exact ⟨0, Nat.zero_le _, rfl, Lib.hid (fun j hj => absurd hj (by omega)), hS⟩
  case round =>
    clear hS b0 b1 b2 b3 b4 b5
    obtain ⟨k, hk, rfl, hK, hS⟩ := hrel
    obtain ⟨_, b0, b1, b2, b3, b4, b5, _⟩ := hS.out.b6
    by_cases hlt : k < n
    · obtain ⟨g, o, x, y, m, d, E1, l1, z1, hmk, R1⟩ := hH.out k hlt
      injection E1 with E1 _ F1
      subst E1
      subst F1
      have c1 := (hS.out.tail.gold.cell (p := ⟨g, o + k, none⟩) l1).trans z1
      have j1 : (0 : Int) ≤ (k : Int) := by omega
      have j2 : (k : Int) < (n : Int) := by omega
      have hk1 := Lib.hid (show k + 1 ≤ n from hlt)
      have hK2 := Lib.hid (fun (h : (S.ths.getD k []).length ≤ 40) => (show ∀ j, j < k + 1 → (S.ths.getD j []).length ≤ 40 from fun j hj => by
        by_cases e : j = k
        · rw [e]; exact h
        · exact hK.out j (by omega)))
      have ETk := ET.out k hlt
      rw [← hmk] at hK2 ETk
      clear hmk R1 z1
      by_cases m40 : 40 < m
      · have j3 : 40 < (m : Int) := by omega
        have EE := Lib.hid (ETk m40)
        clear ETk
        go_wp2_with fail
        go_ret
        exact ⟨by rw [EE.out]; rfl, hS.out.tail.gold⟩
      · have j3 : ¬ 40 < (m : Int) := by omega
        clear ETk
        have hK3 := Lib.hid (hK2.out (by omega))
        clear hK2
        go_wp2_with fail
        go_roundw
        case rel => exact ⟨k + 1, hk1.out, by go_num, hK3, hS⟩
        case measure => have := hk1.out; simp [intOf]; omega
    · obtain rfl : k = n := by omega
      have hfin := Lib.hid (EY.out (by omega) (by omega) hK.out)
      go_wp2_with fail
      go_ret
      exact ⟨by rw [hfin.out]; rfl, hS.out.tail.gold⟩
set_option maxHeartbeats 8000000 in
set_option maxRecDepth 100000 in
theorem back_bad (tv pv : Value) (S : Sc) (vs : List Value) (b : ByteArray) (w : World) (h : scR w tv pv S vs) (h1 : b.size ≤ 1600) (hL : lightB S = true) (hc : chkS S = false) :
    Calls Tryd.prog 6 #[.agg #[tv, pv, .int .i64 S.c0, .int .i64 S.c1, .int .i64 S.c2, .int .i64 S.c3], .string b] w fun e w' => e = .returned (.bool true) ∧ Below w.heap.size w w' := by
  have hsm := light_sm hL
  have HLt := fun W (hb : Below w.heap.size w W) => light_any tv pv S vs W (h.below hb)
  rw [hL] at HLt
  have HCs := fun W (hb : Below w.heap.size w W) => check_any tv pv S vs W hsm (h.below hb)
  rw [show chkErr S = 2 by unfold chkErr; rw [hc]; rfl] at HCs
  have HBs := Lib.hid (fun W (hb : Below w.heap.size w W) => bytes_bad tv pv S vs W hsm (h.below hb) hc)
  replace HLt := Lib.hid HLt
  replace HCs := Lib.hid HCs
  have hRc : chkS (readB b) = true := readN_chk (bt b) (fun j => bt_bd b j) _
  have hRsm : ScSm (readB b) := (readN_ok (bt b) (fun j => (bt_bd b j).1) _).sm
  have HRb := Lib.hid (fun W => read_any b W)
  have HRx := fun W => read_any (bytesOf (readB b)) W
  rw [bytesOf_back hRc] at HRx
  replace HRx := Lib.hid HRx
  have hx8 := bytesOf_size (readB b)
  obtain ⟨_, ta, tc, rfl, _⟩ := id h.th
  obtain ⟨_, pa, pc, rfl, _⟩ := id h.pk
  have i1 : ¬ (1600 : Int) < (b.size : Int) := by omega
  have hS := Lib.hid ((Sep.start w).alloc #[.slice ta S.ths.length tc, .slice pa S.pks.length pc, .int .i64 S.c0, .int .i64 S.c1, .int .i64 S.c2, .int .i64 S.c3] 30)
  replace h := Lib.hid h
  clear hL h1
  go_enter Tryd.func6, Tryd.ntmps6
  go_wp2_with fail
  refine (lives_any _).mono ?_
  rintro e w1 ⟨rfl, q1⟩
  replace hS := Lib.hid (hS.out.below q1)
  clear q1
  obtain ⟨_, b0, b1, b2, b3, b4, b5, _⟩ := hS.out.b6
  go_wp2_with (go_at_call 17; refine (HLt.out _ hS.out.tail.gold).mono ?_; rintro e w2 ⟨rfl, q2⟩; replace hS := Lib.hid (hS.out.below q2); clear q2 HLt b0 b1 b2 b3 b4 b5)
  refine (HRb.out _).mono ?_
  rintro e w3 ⟨tr_, pr_, rfl, q3⟩
  obtain ⟨v1, R1⟩ := scV_reads q3
  have hS3 := hS.out.below q3.to1.gold
  generalize readB b = R at *
  have HCr := fun W (hb : Below w3.heap.size w3 W) => check_any tr_ pr_ R v1 W hRsm (R1.below hb)
  rw [show chkErr R = 0 by unfold chkErr; rw [hRc]; rfl] at HCr
  have HBr := Lib.hid (fun W (hb : Below w3.heap.size w3 W) => bytes_ok tr_ pr_ R v1 W hRsm (R1.below hb) hRc)
  replace HCr := Lib.hid HCr
  obtain ⟨_, tr, rc, rfl, _⟩ := id R1.th
  obtain ⟨_, pr, qc, rfl, _⟩ := id R1.pk
  replace R1 := Lib.hid R1
  have hb3 := Lib.hid hS3.tail.gold
  obtain ⟨ls, b0, b1, b2, b3, b4, b5, _⟩ := hS3.b6
  have hbs := Lib.hid (fun W (hb : Below w3.heap.size w3 W) => (⟨(hb.cell (p := ⟨w.heap.size, 0, none⟩) ls).trans b0, (hb.cell (p := ⟨w.heap.size, 1, none⟩) ls).trans b1, (hb.cell (p := ⟨w.heap.size, 2, none⟩) ls).trans b2, (hb.cell (p := ⟨w.heap.size, 3, none⟩) ls).trans b3, (hb.cell (p := ⟨w.heap.size, 4, none⟩) ls).trans b4, (hb.cell (p := ⟨w.heap.size, 5, none⟩) ls).trans b5⟩ : W.cell? ⟨w.heap.size, 0, none⟩ = some (.slice ta S.ths.length tc) ∧ W.cell? ⟨w.heap.size, 1, none⟩ = some (.slice pa S.pks.length pc) ∧ W.cell? ⟨w.heap.size, 2, none⟩ = some (.int .i64 S.c0) ∧ W.cell? ⟨w.heap.size, 3, none⟩ = some (.int .i64 S.c1) ∧ W.cell? ⟨w.heap.size, 4, none⟩ = some (.int .i64 S.c2) ∧ W.cell? ⟨w.heap.size, 5, none⟩ = some (.int .i64 S.c3)))
  have hS4 := Lib.hid ((Sep.start w3).alloc #[.slice tr R.ths.length rc, .slice pr R.pks.length qc, .int .i64 R.c0, .int .i64 R.c1, .int .i64 R.c2, .int .i64 R.c3] 30)
  clear hS hS3 q3 b0 b1 b2 b3 b4 b5 ls hRc
  obtain ⟨_, a0, a1, a2, a3, a4, a5, _⟩ := hS4.out.b6
  generalize hxe : bytesOf R = x at *
  replace hxe := Lib.hid hxe
  replace hx8 := Lib.hid hx8
  go_wp2_with (first
    | (go_at_call 18; refine (HCr.out _ hS4.out.tail.gold).mono ?_; rintro e w4 ⟨rfl, q4⟩; replace hS4 := Lib.hid (hS4.out.below q4); clear q4 HCr a0 a1 a2 a3 a4 a5; obtain ⟨_, a0, a1, a2, a3, a4, a5, _⟩ := hS4.out.b6)
    | (go_at_call 19; refine (HBr.out _ hS4.out.tail.gold).mono ?_; rintro e w5 ⟨rfl, q5⟩; replace hS4 := Lib.hid (hS4.out.below q5); clear q5 HBr a0 a1 a2 a3 a4 a5; obtain ⟨_, a0, a1, a2, a3, a4, a5, _⟩ := hS4.out.b6))
  clear a0 a1 a2 a3 a4 a5
  obtain ⟨q8, hq8⟩ : ∃ q : Nat, x.size = 8 * q := ⟨_, hx8.out⟩
  have hr1 := Lib.hid (show ((x.size : Nat) : Int) % 8 = 0 by omega)
  have hr2 := Lib.hid (show ((x.size : Nat) : Int).tmod 8 = 0 by rw [hq8, Int.tmod_eq_emod_of_nonneg (by omega)]; omega)
  clear hq8
  have hS := Lib.hid (show (fun W : World => Sep W [blk w3.heap.size 30 #[.slice tr R.ths.length rc, .slice pr R.pks.length qc, .int .i64 R.c0, .int .i64 R.c1, .int .i64 R.c2, .int .i64 R.c3], old w3]) _ from hS4.out.drew)
  refine hl_begin (fun W : World => Sep W [blk w3.heap.size 30 #[.slice tr R.ths.length rc, .slice pr R.pks.length qc, .int .i64 R.c0, .int .i64 R.c1, .int .i64 R.c2, .int .i64 R.c3], old w3]) [(0, true), (1, true), (2, true), (3, true), (5, true), (4, false), (6, false), (7, true), (8, true), (9, true), (10, true), (11, true), (12, true), (13, true), (14, true)] (by kernel_rfl) (by kernel_rfl) (by kernel_rfl) rfl (fun _ _ _ _ _ h => h) hS.out ?_
  change HL _ _ _ _ _ _ (World.drew _)
  generalize World.drew _ = wd at *
  refine hl_take ?v1 rfl (by kernel_rfl) ?y1 ?z1
  case y1 => intro W hW; have := hr1.out; have := hr2.out; replace hW := Lib.hid hW; go_simp; try rfl
  case z1 =>
  simp only [Act.put, List.setIfInBounds_toArray, List.set_cons_succ, List.set_cons_zero, List.getElem_toArray, List.getElem_cons_zero, List.getElem_cons_succ]
  refine hl_take ?v2 rfl (by kernel_rfl) ?y2 ?z2
  case y2 => intro W hW; have := hr1.out; have := hr2.out; replace hW := Lib.hid hW; go_simp; try rfl
  case z2 =>
  simp only [Act.put, List.setIfInBounds_toArray, List.set_cons_succ, List.set_cons_zero, List.getElem_toArray, List.getElem_cons_zero, List.getElem_cons_succ]
  refine hl_take ?v3 rfl (by kernel_rfl) ?y3 ?z3
  case y3 => intro W hW; have := hr1.out; have := hr2.out; replace hW := Lib.hid hW; go_simp; try rfl
  case z3 =>
  simp only [Act.put, List.setIfInBounds_toArray, List.set_cons_succ, List.set_cons_zero, List.getElem_toArray, List.getElem_cons_zero, List.getElem_cons_succ]
  refine hl_take ?v4 rfl (by kernel_rfl) ?y4 ?z4
  case y4 => intro W hW; have := hr1.out; have := hr2.out; replace hW := Lib.hid hW; go_simp; try rfl
  case z4 =>
  simp only [Act.put, List.setIfInBounds_toArray, List.set_cons_succ, List.set_cons_zero, List.getElem_toArray, List.getElem_cons_zero, List.getElem_cons_succ]
  refine hl_take ?v5 rfl (by kernel_rfl) ?y5 ?z5
  case y5 => intro W hW; obtain ⟨_, a0, a1, a2, a3, a4, a5, _⟩ := (show Sep _ _ from hW).b6; replace hW := Lib.hid hW; go_simp; try rfl
  case z5 =>
  simp only [Act.put, List.setIfInBounds_toArray, List.set_cons_succ, List.set_cons_zero, List.getElem_toArray, List.getElem_cons_zero, List.getElem_cons_succ]
  refine hl_one rfl (by kernel_rfl) (fun K hK => ?_)
  go_simp
  go_at_call 11
  refine (HRx.out _).mono ?_
  rintro e w6 ⟨t4, p4, rfl, q6⟩
  obtain ⟨v2, R2⟩ := scV_reads q6
  replace hS := Lib.hid (hS.out.below q6.to1.gold)
  have HK := Lib.hid (sameK_true t4 p4 _ _ R v2 v1 w6 hRsm R2 (R1.out.below hS.out.tail.gold))
  clear q6 R2
  refine hK.out _ _ hS.out ?_
  clear hK K
  try simp only [Act.put, List.setIfInBounds_toArray, List.set_cons_succ, List.set_cons_zero, List.getElem_toArray, List.getElem_cons_zero, List.getElem_cons_succ]
  refine hl_one rfl (by kernel_rfl) (fun K hK => ?_)
  go_simp
  go_at_call 10
  refine HK.out.mono ?_
  rintro e w7 ⟨rfl, q7⟩
  replace hS := Lib.hid (hS.out.below q7)
  clear q7 HK
  refine hK.out _ _ hS.out ?_
  clear hK K
  try simp only [Act.put, List.setIfInBounds_toArray, List.set_cons_succ, List.set_cons_zero, List.getElem_toArray, List.getElem_cons_zero, List.getElem_cons_succ]
  refine hl_take ?v6 rfl (by kernel_rfl) ?y6 ?z6
  case y6 => intro W hW; have := hr1.out; have := hr2.out; replace hW := Lib.hid hW; go_simp; try rfl
  case z6 =>
  simp only [Act.put, List.setIfInBounds_toArray, List.set_cons_succ, List.set_cons_zero, List.getElem_toArray, List.getElem_cons_zero, List.getElem_cons_succ]
  refine hl_take ?v7 rfl (by kernel_rfl) ?y7 ?z7
  case y7 => intro W hW; have := hr1.out; have := hr2.out; replace hW := Lib.hid hW; go_simp; try rfl
  case z7 =>
  simp only [Act.put, List.setIfInBounds_toArray, List.set_cons_succ, List.set_cons_zero, List.getElem_toArray, List.getElem_cons_zero, List.getElem_cons_succ]
  refine hl_take ?v8 rfl (by kernel_rfl) ?y8 ?z8
  case y8 => intro W hW; have := hr1.out; have := hr2.out; replace hW := Lib.hid hW; go_simp; try rfl
  case z8 =>
  simp only [Act.put, List.setIfInBounds_toArray, List.set_cons_succ, List.set_cons_zero, List.getElem_toArray, List.getElem_cons_zero, List.getElem_cons_succ]
  refine hl_take ?v9 rfl (by kernel_rfl) ?y9 ?z9
  case y9 => intro W hW; have := hr1.out; have := hr2.out; replace hW := Lib.hid hW; go_simp; try rfl
  case z9 =>
  simp only [Act.put, List.setIfInBounds_toArray, List.set_cons_succ, List.set_cons_zero, List.getElem_toArray, List.getElem_cons_zero, List.getElem_cons_succ]
  refine hl_take ?v10 rfl (by kernel_rfl) ?y10 ?z10
  case y10 => intro W hW; have := hr1.out; have := hr2.out; replace hW := Lib.hid hW; go_simp; try rfl
  case z10 =>
  simp only [Act.put, List.setIfInBounds_toArray, List.set_cons_succ, List.set_cons_zero, List.getElem_toArray, List.getElem_cons_zero, List.getElem_cons_succ]
  refine hl_take ?v11 rfl (by kernel_rfl) ?y11 ?z11
  case y11 => intro W hW; have := hr1.out; have := hr2.out; replace hW := Lib.hid hW; go_simp; try rfl
  case z11 =>
  simp only [Act.put, List.setIfInBounds_toArray, List.set_cons_succ, List.set_cons_zero, List.getElem_toArray, List.getElem_cons_zero, List.getElem_cons_succ]
  refine hl_take ?v12 rfl (by kernel_rfl) ?y12 ?z12
  case y12 => intro W hW; have := hr1.out; have := hr2.out; replace hW := Lib.hid hW; go_simp; try rfl
  case z12 =>
  simp only [Act.put, List.setIfInBounds_toArray, List.set_cons_succ, List.set_cons_zero, List.getElem_toArray, List.getElem_cons_zero, List.getElem_cons_succ]
  refine hl_take ?v13 rfl (by kernel_rfl) ?y13 ?z13
  case y13 => intro W hW; have := hr1.out; have := hr2.out; replace hW := Lib.hid hW; go_simp; try rfl
  case z13 =>
  simp only [Act.put, List.setIfInBounds_toArray, List.set_cons_succ, List.set_cons_zero, List.getElem_toArray, List.getElem_cons_zero, List.getElem_cons_succ]
  refine hl_done ?_
  clear HRx hRsm
  obtain ⟨b0, b1, b2, b3, b4, b5⟩ := hbs.out _ hS.out.tail.gold
  go_wp2_with (first | (go_at_call 19; refine (HBs.out _ (hb3.out.trans (hS.out.tail.gold.mono hb3.out.size))).mono ?_; rintro e w8 ⟨rfl, q8_⟩; replace hS := Lib.hid (hS.out.below q8_); clear q8_ b0 b1 b2 b3 b4 b5; obtain ⟨b0, b1, b2, b3, b4, b5⟩ := hbs.out _ hS.out.tail.gold) | (go_at_call 18; refine (HCs.out _ (hb3.out.trans (hS.out.tail.gold.mono hb3.out.size))).mono ?_; rintro e w9 ⟨rfl, q9⟩; replace hS := Lib.hid (hS.out.below q9); clear q9 b0 b1 b2 b3 b4 b5; obtain ⟨b0, b1, b2, b3, b4, b5⟩ := hbs.out _ hS.out.tail.gold))
  go_ret
  exact ⟨rfl, hb3.out.trans (hS.out.tail.gold.mono hb3.out.size)⟩
set_option maxHeartbeats 8000000 in
set_option maxRecDepth 100000 in
theorem back_ok (tv pv : Value) (S : Sc) (vs : List Value) (b : ByteArray) (w : World) (h : scR w tv pv S vs) (h1 : b.size ≤ 1600) (hL : lightB S = true) (hc : chkS S = true) :
    Calls Tryd.prog 6 #[.agg #[tv, pv, .int .i64 S.c0, .int .i64 S.c1, .int .i64 S.c2, .int .i64 S.c3], .string b] w fun e w' => e = .returned (.bool true) ∧ Below w.heap.size w w' := by
  have hsm := light_sm hL
  have HLt := fun W (hb : Below w.heap.size w W) => light_any tv pv S vs W (h.below hb)
  rw [hL] at HLt
  have HCs := fun W (hb : Below w.heap.size w W) => check_any tv pv S vs W hsm (h.below hb)
  rw [show chkErr S = 0 by unfold chkErr; rw [hc]; rfl] at HCs
  have HBs := Lib.hid (fun W (hb : Below w.heap.size w W) => bytes_ok tv pv S vs W hsm (h.below hb) hc)
  replace HLt := Lib.hid HLt
  replace HCs := Lib.hid HCs
  have hRc : chkS (readB b) = true := readN_chk (bt b) (fun j => bt_bd b j) _
  have hRsm : ScSm (readB b) := (readN_ok (bt b) (fun j => (bt_bd b j).1) _).sm
  have HRb := Lib.hid (fun W => read_any b W)
  have HRx := fun W => read_any (bytesOf (readB b)) W
  rw [bytesOf_back hRc] at HRx
  replace HRx := Lib.hid HRx
  have hx8 := bytesOf_size (readB b)
  have HRy := fun W => read_any (bytesOf S) W
  rw [bytesOf_back hc] at HRy
  replace HRy := Lib.hid HRy
  obtain ⟨_, ta, tc, rfl, _⟩ := id h.th
  obtain ⟨_, pa, pc, rfl, _⟩ := id h.pk
  have i1 : ¬ (1600 : Int) < (b.size : Int) := by omega
  have hS := Lib.hid ((Sep.start w).alloc #[.slice ta S.ths.length tc, .slice pa S.pks.length pc, .int .i64 S.c0, .int .i64 S.c1, .int .i64 S.c2, .int .i64 S.c3] 30)
  replace h := Lib.hid h
  clear hL h1
  go_enter Tryd.func6, Tryd.ntmps6
  go_wp2_with fail
  refine (lives_any _).mono ?_
  rintro e w1 ⟨rfl, q1⟩
  replace hS := Lib.hid (hS.out.below q1)
  clear q1
  obtain ⟨_, b0, b1, b2, b3, b4, b5, _⟩ := hS.out.b6
  go_wp2_with (go_at_call 17; refine (HLt.out _ hS.out.tail.gold).mono ?_; rintro e w2 ⟨rfl, q2⟩; replace hS := Lib.hid (hS.out.below q2); clear q2 HLt b0 b1 b2 b3 b4 b5)
  refine (HRb.out _).mono ?_
  rintro e w3 ⟨tr_, pr_, rfl, q3⟩
  obtain ⟨v1, R1⟩ := scV_reads q3
  have hS3 := hS.out.below q3.to1.gold
  generalize readB b = R at *
  have HCr := fun W (hb : Below w3.heap.size w3 W) => check_any tr_ pr_ R v1 W hRsm (R1.below hb)
  rw [show chkErr R = 0 by unfold chkErr; rw [hRc]; rfl] at HCr
  have HBr := Lib.hid (fun W (hb : Below w3.heap.size w3 W) => bytes_ok tr_ pr_ R v1 W hRsm (R1.below hb) hRc)
  replace HCr := Lib.hid HCr
  obtain ⟨_, tr, rc, rfl, _⟩ := id R1.th
  obtain ⟨_, pr, qc, rfl, _⟩ := id R1.pk
  replace R1 := Lib.hid R1
  have hb3 := Lib.hid hS3.tail.gold
  obtain ⟨ls, b0, b1, b2, b3, b4, b5, _⟩ := hS3.b6
  have hbs := Lib.hid (fun W (hb : Below w3.heap.size w3 W) => (⟨(hb.cell (p := ⟨w.heap.size, 0, none⟩) ls).trans b0, (hb.cell (p := ⟨w.heap.size, 1, none⟩) ls).trans b1, (hb.cell (p := ⟨w.heap.size, 2, none⟩) ls).trans b2, (hb.cell (p := ⟨w.heap.size, 3, none⟩) ls).trans b3, (hb.cell (p := ⟨w.heap.size, 4, none⟩) ls).trans b4, (hb.cell (p := ⟨w.heap.size, 5, none⟩) ls).trans b5⟩ : W.cell? ⟨w.heap.size, 0, none⟩ = some (.slice ta S.ths.length tc) ∧ W.cell? ⟨w.heap.size, 1, none⟩ = some (.slice pa S.pks.length pc) ∧ W.cell? ⟨w.heap.size, 2, none⟩ = some (.int .i64 S.c0) ∧ W.cell? ⟨w.heap.size, 3, none⟩ = some (.int .i64 S.c1) ∧ W.cell? ⟨w.heap.size, 4, none⟩ = some (.int .i64 S.c2) ∧ W.cell? ⟨w.heap.size, 5, none⟩ = some (.int .i64 S.c3)))
  have hS4 := Lib.hid ((Sep.start w3).alloc #[.slice tr R.ths.length rc, .slice pr R.pks.length qc, .int .i64 R.c0, .int .i64 R.c1, .int .i64 R.c2, .int .i64 R.c3] 30)
  clear hS hS3 q3 b0 b1 b2 b3 b4 b5 ls hRc
  obtain ⟨_, a0, a1, a2, a3, a4, a5, _⟩ := hS4.out.b6
  generalize hxe : bytesOf R = x at *
  replace hxe := Lib.hid hxe
  replace hx8 := Lib.hid hx8
  go_wp2_with (first
    | (go_at_call 18; refine (HCr.out _ hS4.out.tail.gold).mono ?_; rintro e w4 ⟨rfl, q4⟩; replace hS4 := Lib.hid (hS4.out.below q4); clear q4 HCr a0 a1 a2 a3 a4 a5; obtain ⟨_, a0, a1, a2, a3, a4, a5, _⟩ := hS4.out.b6)
    | (go_at_call 19; refine (HBr.out _ hS4.out.tail.gold).mono ?_; rintro e w5 ⟨rfl, q5⟩; replace hS4 := Lib.hid (hS4.out.below q5); clear q5 HBr a0 a1 a2 a3 a4 a5; obtain ⟨_, a0, a1, a2, a3, a4, a5, _⟩ := hS4.out.b6))
  clear a0 a1 a2 a3 a4 a5
  obtain ⟨q8, hq8⟩ : ∃ q : Nat, x.size = 8 * q := ⟨_, hx8.out⟩
  have hr1 := Lib.hid (show ((x.size : Nat) : Int) % 8 = 0 by omega)
  have hr2 := Lib.hid (show ((x.size : Nat) : Int).tmod 8 = 0 by rw [hq8, Int.tmod_eq_emod_of_nonneg (by omega)]; omega)
  clear hq8
  have hS := Lib.hid (show (fun W : World => Sep W [blk w3.heap.size 30 #[.slice tr R.ths.length rc, .slice pr R.pks.length qc, .int .i64 R.c0, .int .i64 R.c1, .int .i64 R.c2, .int .i64 R.c3], old w3]) _ from hS4.out.drew)
  refine hl_begin (fun W : World => Sep W [blk w3.heap.size 30 #[.slice tr R.ths.length rc, .slice pr R.pks.length qc, .int .i64 R.c0, .int .i64 R.c1, .int .i64 R.c2, .int .i64 R.c3], old w3]) [(0, true), (1, true), (2, true), (3, true), (5, true), (4, false), (6, false), (7, true), (8, true), (9, true), (10, true), (11, true), (12, true), (13, true), (14, true)] (by kernel_rfl) (by kernel_rfl) (by kernel_rfl) rfl (fun _ _ _ _ _ h => h) hS.out ?_
  change HL _ _ _ _ _ _ (World.drew _)
  generalize World.drew _ = wd at *
  refine hl_take ?v21 rfl (by kernel_rfl) ?y21 ?z21
  case y21 => intro W hW; have := hr1.out; have := hr2.out; replace hW := Lib.hid hW; go_simp; try rfl
  case z21 =>
  simp only [Act.put, List.setIfInBounds_toArray, List.set_cons_succ, List.set_cons_zero, List.getElem_toArray, List.getElem_cons_zero, List.getElem_cons_succ]
  refine hl_take ?v22 rfl (by kernel_rfl) ?y22 ?z22
  case y22 => intro W hW; have := hr1.out; have := hr2.out; replace hW := Lib.hid hW; go_simp; try rfl
  case z22 =>
  simp only [Act.put, List.setIfInBounds_toArray, List.set_cons_succ, List.set_cons_zero, List.getElem_toArray, List.getElem_cons_zero, List.getElem_cons_succ]
  refine hl_take ?v23 rfl (by kernel_rfl) ?y23 ?z23
  case y23 => intro W hW; have := hr1.out; have := hr2.out; replace hW := Lib.hid hW; go_simp; try rfl
  case z23 =>
  simp only [Act.put, List.setIfInBounds_toArray, List.set_cons_succ, List.set_cons_zero, List.getElem_toArray, List.getElem_cons_zero, List.getElem_cons_succ]
  refine hl_take ?v24 rfl (by kernel_rfl) ?y24 ?z24
  case y24 => intro W hW; have := hr1.out; have := hr2.out; replace hW := Lib.hid hW; go_simp; try rfl
  case z24 =>
  simp only [Act.put, List.setIfInBounds_toArray, List.set_cons_succ, List.set_cons_zero, List.getElem_toArray, List.getElem_cons_zero, List.getElem_cons_succ]
  refine hl_take ?v25 rfl (by kernel_rfl) ?y25 ?z25
  case y25 => intro W hW; obtain ⟨_, a0, a1, a2, a3, a4, a5, _⟩ := (show Sep _ _ from hW).b6; replace hW := Lib.hid hW; go_simp; try rfl
  case z25 =>
  simp only [Act.put, List.setIfInBounds_toArray, List.set_cons_succ, List.set_cons_zero, List.getElem_toArray, List.getElem_cons_zero, List.getElem_cons_succ]
  refine hl_one rfl (by kernel_rfl) (fun K hK => ?_)
  go_simp
  go_at_call 11
  refine (HRx.out _).mono ?_
  rintro e w6 ⟨t4, p4, rfl, q6⟩
  obtain ⟨v2, R2⟩ := scV_reads q6
  replace hS := Lib.hid (hS.out.below q6.to1.gold)
  have HK := Lib.hid (sameK_true t4 p4 _ _ R v2 v1 w6 hRsm R2 (R1.out.below hS.out.tail.gold))
  clear q6 R2
  refine hK.out _ _ hS.out ?_
  clear hK K
  try simp only [Act.put, List.setIfInBounds_toArray, List.set_cons_succ, List.set_cons_zero, List.getElem_toArray, List.getElem_cons_zero, List.getElem_cons_succ]
  refine hl_one rfl (by kernel_rfl) (fun K hK => ?_)
  go_simp
  go_at_call 10
  refine HK.out.mono ?_
  rintro e w7 ⟨rfl, q7⟩
  replace hS := Lib.hid (hS.out.below q7)
  clear q7 HK
  refine hK.out _ _ hS.out ?_
  clear hK K
  try simp only [Act.put, List.setIfInBounds_toArray, List.set_cons_succ, List.set_cons_zero, List.getElem_toArray, List.getElem_cons_zero, List.getElem_cons_succ]
  refine hl_take ?v26 rfl (by kernel_rfl) ?y26 ?z26
  case y26 => intro W hW; have := hr1.out; have := hr2.out; replace hW := Lib.hid hW; go_simp; try rfl
  case z26 =>
  simp only [Act.put, List.setIfInBounds_toArray, List.set_cons_succ, List.set_cons_zero, List.getElem_toArray, List.getElem_cons_zero, List.getElem_cons_succ]
  refine hl_take ?v27 rfl (by kernel_rfl) ?y27 ?z27
  case y27 => intro W hW; have := hr1.out; have := hr2.out; replace hW := Lib.hid hW; go_simp; try rfl
  case z27 =>
  simp only [Act.put, List.setIfInBounds_toArray, List.set_cons_succ, List.set_cons_zero, List.getElem_toArray, List.getElem_cons_zero, List.getElem_cons_succ]
  refine hl_take ?v28 rfl (by kernel_rfl) ?y28 ?z28
  case y28 => intro W hW; have := hr1.out; have := hr2.out; replace hW := Lib.hid hW; go_simp; try rfl
  case z28 =>
  simp only [Act.put, List.setIfInBounds_toArray, List.set_cons_succ, List.set_cons_zero, List.getElem_toArray, List.getElem_cons_zero, List.getElem_cons_succ]
  refine hl_take ?v29 rfl (by kernel_rfl) ?y29 ?z29
  case y29 => intro W hW; have := hr1.out; have := hr2.out; replace hW := Lib.hid hW; go_simp; try rfl
  case z29 =>
  simp only [Act.put, List.setIfInBounds_toArray, List.set_cons_succ, List.set_cons_zero, List.getElem_toArray, List.getElem_cons_zero, List.getElem_cons_succ]
  refine hl_take ?v30 rfl (by kernel_rfl) ?y30 ?z30
  case y30 => intro W hW; have := hr1.out; have := hr2.out; replace hW := Lib.hid hW; go_simp; try rfl
  case z30 =>
  simp only [Act.put, List.setIfInBounds_toArray, List.set_cons_succ, List.set_cons_zero, List.getElem_toArray, List.getElem_cons_zero, List.getElem_cons_succ]
  refine hl_take ?v31 rfl (by kernel_rfl) ?y31 ?z31
  case y31 => intro W hW; have := hr1.out; have := hr2.out; replace hW := Lib.hid hW; go_simp; try rfl
  case z31 =>
  simp only [Act.put, List.setIfInBounds_toArray, List.set_cons_succ, List.set_cons_zero, List.getElem_toArray, List.getElem_cons_zero, List.getElem_cons_succ]
  refine hl_take ?v32 rfl (by kernel_rfl) ?y32 ?z32
  case y32 => intro W hW; have := hr1.out; have := hr2.out; replace hW := Lib.hid hW; go_simp; try rfl
  case z32 =>
  simp only [Act.put, List.setIfInBounds_toArray, List.set_cons_succ, List.set_cons_zero, List.getElem_toArray, List.getElem_cons_zero, List.getElem_cons_succ]
  refine hl_take ?v33 rfl (by kernel_rfl) ?y33 ?z33
  case y33 => intro W hW; have := hr1.out; have := hr2.out; replace hW := Lib.hid hW; go_simp; try rfl
  case z33 =>
  simp only [Act.put, List.setIfInBounds_toArray, List.set_cons_succ, List.set_cons_zero, List.getElem_toArray, List.getElem_cons_zero, List.getElem_cons_succ]
  refine hl_done ?_
  clear HRx hRsm
  obtain ⟨b0, b1, b2, b3, b4, b5⟩ := hbs.out _ hS.out.tail.gold
  go_wp2_with (first | (go_at_call 19; refine (HBs.out _ (hb3.out.trans (hS.out.tail.gold.mono hb3.out.size))).mono ?_; rintro e w8 ⟨rfl, q8_⟩; replace hS := Lib.hid (hS.out.below q8_); clear q8_ b0 b1 b2 b3 b4 b5; obtain ⟨b0, b1, b2, b3, b4, b5⟩ := hbs.out _ hS.out.tail.gold) | (go_at_call 18; refine (HCs.out _ (hb3.out.trans (hS.out.tail.gold.mono hb3.out.size))).mono ?_; rintro e w9 ⟨rfl, q9⟩; replace hS := Lib.hid (hS.out.below q9); clear q9 b0 b1 b2 b3 b4 b5; obtain ⟨b0, b1, b2, b3, b4, b5⟩ := hbs.out _ hS.out.tail.gold))
  clear b0 b1 b2 b3 b4 b5
  have hS := Lib.hid (show (fun W : World => Sep W [blk w3.heap.size 30 #[.slice tr R.ths.length rc, .slice pr R.pks.length qc, .int .i64 R.c0, .int .i64 R.c1, .int .i64 R.c2, .int .i64 R.c3], old w3]) _ from hS.out.drew)
  refine hl_begin (fun W : World => Sep W [blk w3.heap.size 30 #[.slice tr R.ths.length rc, .slice pr R.pks.length qc, .int .i64 R.c0, .int .i64 R.c1, .int .i64 R.c2, .int .i64 R.c3], old w3]) [(0, true), (1, true), (2, true), (3, true), (5, true), (4, false), (6, false), (7, true), (8, true)] (by kernel_rfl) (by kernel_rfl) (by kernel_rfl) rfl (fun _ _ _ _ _ h => h) hS.out ?_
  change HL _ _ _ _ _ _ (World.drew _)
  generalize World.drew _ = wd at *
  refine hl_take ?v14 rfl (by kernel_rfl) ?y14 ?z14
  case y14 => intro W hW; skip; replace hW := Lib.hid hW; go_simp; try rfl
  case z14 =>
  simp only [Act.put, List.setIfInBounds_toArray, List.set_cons_succ, List.set_cons_zero, List.getElem_toArray, List.getElem_cons_zero, List.getElem_cons_succ]
  refine hl_take ?v15 rfl (by kernel_rfl) ?y15 ?z15
  case y15 => intro W hW; skip; replace hW := Lib.hid hW; go_simp; try rfl
  case z15 =>
  simp only [Act.put, List.setIfInBounds_toArray, List.set_cons_succ, List.set_cons_zero, List.getElem_toArray, List.getElem_cons_zero, List.getElem_cons_succ]
  refine hl_take ?v16 rfl (by kernel_rfl) ?y16 ?z16
  case y16 => intro W hW; skip; replace hW := Lib.hid hW; go_simp; try rfl
  case z16 =>
  simp only [Act.put, List.setIfInBounds_toArray, List.set_cons_succ, List.set_cons_zero, List.getElem_toArray, List.getElem_cons_zero, List.getElem_cons_succ]
  refine hl_take ?v17 rfl (by kernel_rfl) ?y17 ?z17
  case y17 => intro W hW; skip; replace hW := Lib.hid hW; go_simp; try rfl
  case z17 =>
  simp only [Act.put, List.setIfInBounds_toArray, List.set_cons_succ, List.set_cons_zero, List.getElem_toArray, List.getElem_cons_zero, List.getElem_cons_succ]
  refine hl_take ?v18 rfl (by kernel_rfl) ?y18 ?z18
  case y18 => intro W hW; obtain ⟨b0, b1, b2, b3, b4, b5⟩ := hbs.out W (show Sep _ _ from hW).tail.gold; replace hW := Lib.hid hW; go_simp; try rfl
  case z18 =>
  simp only [Act.put, List.setIfInBounds_toArray, List.set_cons_succ, List.set_cons_zero, List.getElem_toArray, List.getElem_cons_zero, List.getElem_cons_succ]
  refine hl_one rfl (by kernel_rfl) (fun K hK => ?_)
  go_simp
  go_at_call 11
  refine (HRy.out _).mono ?_
  rintro e w10 ⟨t5, p5, rfl, q6⟩
  obtain ⟨v3, R3⟩ := scV_reads q6
  replace hS := Lib.hid (hS.out.below q6.to1.gold)
  have HK := Lib.hid (sameK_true t5 p5 _ _ S v3 vs w10 hsm R3 (h.out.below (hb3.out.trans (hS.out.tail.gold.mono hb3.out.size))))
  clear q6 R3
  refine hK.out _ _ hS.out ?_
  clear hK K
  try simp only [Act.put, List.setIfInBounds_toArray, List.set_cons_succ, List.set_cons_zero, List.getElem_toArray, List.getElem_cons_zero, List.getElem_cons_succ]
  refine hl_one rfl (by kernel_rfl) (fun K hK => ?_)
  go_simp
  go_at_call 10
  refine HK.out.mono ?_
  rintro e w7 ⟨rfl, q7⟩
  replace hS := Lib.hid (hS.out.below q7)
  clear q7 HK
  refine hK.out _ _ hS.out ?_
  clear hK K
  try simp only [Act.put, List.setIfInBounds_toArray, List.set_cons_succ, List.set_cons_zero, List.getElem_toArray, List.getElem_cons_zero, List.getElem_cons_succ]
  refine hl_take ?v19 rfl (by kernel_rfl) ?y19 ?z19
  case y19 => intro W hW; skip; replace hW := Lib.hid hW; go_simp; try rfl
  case z19 =>
  simp only [Act.put, List.setIfInBounds_toArray, List.set_cons_succ, List.set_cons_zero, List.getElem_toArray, List.getElem_cons_zero, List.getElem_cons_succ]
  refine hl_take ?v20 rfl (by kernel_rfl) ?y20 ?z20
  case y20 => intro W hW; skip; replace hW := Lib.hid hW; go_simp; try rfl
  case z20 =>
  simp only [Act.put, List.setIfInBounds_toArray, List.set_cons_succ, List.set_cons_zero, List.getElem_toArray, List.getElem_cons_zero, List.getElem_cons_succ]
  refine hl_done ?_
  go_wp2_with fail
  go_ret
  exact ⟨rfl, hb3.out.trans (hS.out.tail.gold.mono hb3.out.size)⟩
set_option maxHeartbeats 2000000 in
set_option maxRecDepth 100000 in
theorem back_walk (tv pv : Value) (S : Sc) (vs : List Value) (b : ByteArray) (w : World) (h : scR w tv pv S vs) :
    Calls Tryd.prog 6 #[.agg #[tv, pv, .int .i64 S.c0, .int .i64 S.c1, .int .i64 S.c2, .int .i64 S.c3], .string b] w fun e w' => e = .returned (.bool true) ∧ Below w.heap.size w w' := by
  have HLt := fun W (hb : Below w.heap.size w W) => light_any tv pv S vs W (h.below hb)
  cases hL : lightB S with
  | true =>
    by_cases h1 : b.size ≤ 1600
    · cases hc : chkS S with
      | true => exact back_ok tv pv S vs b w h h1 hL hc
      | false => exact back_bad tv pv S vs b w h h1 hL hc
    · rw [hL] at HLt
      replace HLt := Lib.hid HLt
      have i1 : (1600 : Int) < (b.size : Int) := by omega
      obtain ⟨_, ta, tc, rfl, _⟩ := id h.th
      obtain ⟨_, pa, pc, rfl, _⟩ := id h.pk
      have hS := Lib.hid ((Sep.start w).alloc #[.slice ta S.ths.length tc, .slice pa S.pks.length pc, .int .i64 S.c0, .int .i64 S.c1, .int .i64 S.c2, .int .i64 S.c3] 30)
      clear hL h1 h
      go_enter Tryd.func6, Tryd.ntmps6
      go_wp2_with fail
      refine (lives_any _).mono ?_
      rintro e w1 ⟨rfl, q1⟩
      replace hS := Lib.hid (hS.out.below q1)
      clear q1
      obtain ⟨_, b0, b1, b2, b3, b4, b5, _⟩ := hS.out.b6
      go_wp2_with (go_at_call 17; refine (HLt.out _ hS.out.tail.gold).mono ?_; rintro e w2 ⟨rfl, q2⟩; replace hS := Lib.hid (hS.out.below q2); clear q2 HLt)
      go_ret
      exact ⟨rfl, hS.out.tail.gold⟩
  | false =>
    rw [hL] at HLt
    replace HLt := Lib.hid HLt
    obtain ⟨_, ta, tc, rfl, _⟩ := id h.th
    obtain ⟨_, pa, pc, rfl, _⟩ := id h.pk
    have hS := Lib.hid ((Sep.start w).alloc #[.slice ta S.ths.length tc, .slice pa S.pks.length pc, .int .i64 S.c0, .int .i64 S.c1, .int .i64 S.c2, .int .i64 S.c3] 30)
    clear hL h
    go_enter Tryd.func6, Tryd.ntmps6
    go_wp2_with fail
    refine (lives_any _).mono ?_
    rintro e w1 ⟨rfl, q1⟩
    replace hS := Lib.hid (hS.out.below q1)
    clear q1
    obtain ⟨_, b0, b1, b2, b3, b4, b5, _⟩ := hS.out.b6
    go_wp2_with (go_at_call 17; refine (HLt.out _ hS.out.tail.gold).mono ?_; rintro e w2 ⟨rfl, q2⟩; replace hS := Lib.hid (hS.out.below q2); clear q2 HLt)
    go_ret
    exact ⟨rfl, hS.out.tail.gold⟩
end Go.Proofs.YtdpolejbceoldaaDoor
