/-
  ScriptPicks, walked. No condition.
-/
import Derived.Test.YtdpolejbceoldaaDoorScL
import Derived.Test.YtdpolejbceoldaaDoorScQ
import Derived.Test.YtdpolejbceoldaaDoorPick
import Derived.Laws.IdiomStrings
namespace Go.Proofs.YtdpolejbceoldaaDoor
set_option linter.unusedSimpArgs false
set_option linter.unusedVariables false
set_option linter.unnecessarySimpa false
open Go.RowKit
theorem u8_back (z : Int) (h0 : 0 ≤ z) (h1 : z < 256) : ((UInt8.ofNat z.toNat).toNat : Int) = z := by
  rw [UInt8.toNat_ofNat']
  omega
/-- Eight bytes as a string. -/
theorem conv8 (w : World) (z0 z1 z2 z3 z4 z5 z6 z7 : Int) (h : (0 ≤ z0 ∧ z0 < 256) ∧ (0 ≤ z1 ∧ z1 < 256) ∧ (0 ≤ z2 ∧ z2 < 256) ∧ (0 ≤ z3 ∧ z3 < 256) ∧ (0 ≤ z4 ∧ z4 < 256) ∧ (0 ≤ z5 ∧ z5 < 256) ∧ (0 ≤ z6 ∧ z6 < 256) ∧ (0 ≤ z7 ∧ z7 < 256)) :
    ∃ x : ByteArray, x.size = 8 ∧ (bt x 0 = z0 ∧ bt x 1 = z1 ∧ bt x 2 = z2 ∧ bt x 3 = z3 ∧ bt x 4 = z4 ∧ bt x 5 = z5 ∧ bt x 6 = z6 ∧ bt x 7 = z7) ∧
      (convert 40 9 (.slice (some ⟨w.heap.size, 0, none⟩) 8 8)).run Tryd.prog (w.alloc (.cells #[.int .u8 z0, .int .u8 z1, .int .u8 z2, .int .u8 z3, .int .u8 z4, .int .u8 z5, .int .u8 z6, .int .u8 z7] 5)) = .ok (.string x) (w.alloc (.cells #[.int .u8 z0, .int .u8 z1, .int .u8 z2, .int .u8 z3, .int .u8 z4, .int .u8 z5, .int .u8 z6, .int .u8 z7] 5)) := by
  obtain ⟨a0, a1, a2, a3, a4, a5, a6, a7⟩ := h
  have e0 := u8_back z0 a0.1 a0.2
  have e1 := u8_back z1 a1.1 a1.2
  have e2 := u8_back z2 a2.1 a2.2
  have e3 := u8_back z3 a3.1 a3.2
  have e4 := u8_back z4 a4.1 a4.2
  have e5 := u8_back z5 a5.1 a5.2
  have e6 := u8_back z6 a6.1 a6.2
  have e7 := u8_back z7 a7.1 a7.2
  refine ⟨⟨[UInt8.ofNat z0.toNat, UInt8.ofNat z1.toNat, UInt8.ofNat z2.toNat, UInt8.ofNat z3.toNat, UInt8.ofNat z4.toNat, UInt8.ofNat z5.toNat, UInt8.ofNat z6.toNat, UInt8.ofNat z7.toNat].toArray⟩, rfl, ⟨e0, e1, e2, e3, e4, e5, e6, e7⟩, ?_⟩
  refine run_convert_bytes_back _ 40 9 5 ⟨w.heap.size, 0, none⟩ 8 [UInt8.ofNat z0.toNat, UInt8.ofNat z1.toNat, UInt8.ofNat z2.toNat, UInt8.ofNat z3.toNat, UInt8.ofNat z4.toNat, UInt8.ofNat z5.toNat, UInt8.ofNat z6.toNat, UInt8.ofNat z7.toNat] Tryd.underlying40 Tryd.underlying5 Tryd.underlying9 ?_
  intro j hj
  rw [Addr.add_lit, Nat.zero_add, (Blk.new w _ _).cell]
  match j, hj with
  | 0, _ => exact congrArg some (congrArg (Value.int .u8) e0.symm)
  | 1, _ => exact congrArg some (congrArg (Value.int .u8) e1.symm)
  | 2, _ => exact congrArg some (congrArg (Value.int .u8) e2.symm)
  | 3, _ => exact congrArg some (congrArg (Value.int .u8) e3.symm)
  | 4, _ => exact congrArg some (congrArg (Value.int .u8) e4.symm)
  | 5, _ => exact congrArg some (congrArg (Value.int .u8) e5.symm)
  | 6, _ => exact congrArg some (congrArg (Value.int .u8) e6.symm)
  | 7, _ => exact congrArg some (congrArg (Value.int .u8) e7.symm)
theorem RL.cut {α : Type} (enc : α → List Value) (sz : Nat) (hz : ∀ x, (enc x).length = sz) {w : World} {a : Option Addr} {n c : Nat} {l : List α} {x : α} (hn : l.length = n) (h : RL w (.slice a (n + 1) c) sz (n + 1) ((l ++ [x]).flatMap enc)) : RL w (.slice a n c) sz n (l.flatMap enc) := by
  obtain ⟨h1, a', c', hv, h2, h3, h4⟩ := h
  injection hv with e1 _ e3
  subst e1 e3
  refine ⟨by rw [flat_len enc sz hz, hn], a, c, rfl, by omega, h3, fun h0 => ?_⟩
  obtain ⟨b, off, ha, hlt, hc⟩ := h4 (by omega)
  refine ⟨b, off, ha, hlt, fun j u hj => hc j u ?_⟩
  have hjl : j < (l.flatMap enc).length := (List.getElem?_eq_some_iff.1 hj).1
  rw [List.flatMap_append, List.getElem?_append_left hjl]
  exact hj
set_option maxHeartbeats 4000000 in
set_option maxRecDepth 100000 in
theorem picks_main (b : ByteArray) (pk : Int × Int) (w : World) (h1 : b.size ≤ 1600) :
    Calls Tryd.prog 5 #[.string b, .agg (pC pk).toArray] w fun e w' => e = .returned (.bool true) ∧ Below w.heap.size w w' := by
  obtain ⟨pa, pb⟩ := pk
  simp only [pC]
  have i1 : ¬ (1600 : Int) < (b.size : Int) := by omega
  obtain ⟨k, hk⟩ := pick_nat pa 6 (by omega) (by omega)
  obtain ⟨u, hu⟩ := pick_nat pb 256 (by omega) (by omega)
  have HP1 := Lib.hid hk.run
  have HP2 := Lib.hid hu.run
  have hk6 := hk.lt
  have hu6 := hu.lt
  clear hk hu
  have hwk := Lib.hid (show IntKind.u8.wrap (k : Int) = k by rw [IntKind.wrap_u8]; omega)
  have hwu := Lib.hid (show IntKind.u8.wrap (u : Int) = u by rw [IntKind.wrap_u8]; omega)
  have hB := Lib.hid (boxP w #[.int .i64 pa, .int .i64 pb])
  go_enter Tryd.func5, Tryd.ntmps5
  go_wp2_with fail
  refine (lives_any _).mono ?_
  rintro e w1 ⟨rfl, b1⟩
  replace hB := Lib.hid (hB.out.below b1)
  clear b1
  go_wp2_with fail
  have hS := Lib.hid (show (fun W : World => Sep W [blk w.heap.size 47 #[.int .i64 pa, .int .i64 pb], old w]) _ from hB.out.drew)
  refine hl_begin (fun W : World => Sep W [blk w.heap.size 47 #[.int .i64 pa, .int .i64 pb], old w]) [(0, true), (1, true), (4, true), (5, true), (2, false), (3, true), (6, false), (7, true), (8, false), (9, false), (10, true)] (by kernel_rfl) (by kernel_rfl) (by kernel_rfl) rfl (fun _ _ _ _ _ h => h) hS.out ?_
  change HL _ _ _ _ _ _ (World.drew _)
  generalize World.drew _ = wd at *
  refine hl_take ?v1 rfl (by kernel_rfl) ?y1 ?z1
  case y1 => intro W hW; have := hwk.out; have := hwu.out; replace hW := Lib.hid hW; go_simp; try rfl
  case z1 =>
  simp only [Act.put, List.setIfInBounds_toArray, List.set_cons_succ, List.set_cons_zero, List.getElem_toArray, List.getElem_cons_zero, List.getElem_cons_succ]
  refine hl_take ?v2 rfl (by kernel_rfl) ?y2 ?z2
  case y2 => intro W hW; obtain ⟨_, c0, c1, _⟩ := (show Sep _ _ from hW).b2; replace hW := Lib.hid hW; go_simp; try rfl
  case z2 =>
  simp only [Act.put, List.setIfInBounds_toArray, List.set_cons_succ, List.set_cons_zero, List.getElem_toArray, List.getElem_cons_zero, List.getElem_cons_succ]
  refine hl_take ?v3 rfl (by kernel_rfl) ?y3 ?z3
  case y3 => intro W hW; have := hwk.out; have := hwu.out; replace hW := Lib.hid hW; go_simp; try rfl
  case z3 =>
  simp only [Act.put, List.setIfInBounds_toArray, List.set_cons_succ, List.set_cons_zero, List.getElem_toArray, List.getElem_cons_zero, List.getElem_cons_succ]
  refine hl_take ?v4 rfl (by kernel_rfl) ?y4 ?z4
  case y4 => intro W hW; obtain ⟨_, c0, c1, _⟩ := (show Sep _ _ from hW).b2; replace hW := Lib.hid hW; go_simp; try rfl
  case z4 =>
  simp only [Act.put, List.setIfInBounds_toArray, List.set_cons_succ, List.set_cons_zero, List.getElem_toArray, List.getElem_cons_zero, List.getElem_cons_succ]
  refine hl_one rfl (by kernel_rfl) (fun K hK => ?_)
  go_simp
  go_at_call 9
  refine (HP1.out.out _).mono ?_
  rintro e w9 ⟨rfl, rfl⟩
  refine hK.out _ _ hS.out ?_
  clear hK K
  try simp only [Act.put, List.setIfInBounds_toArray, List.set_cons_succ, List.set_cons_zero, List.getElem_toArray, List.getElem_cons_zero, List.getElem_cons_succ]
  refine hl_take ?v5 rfl (by kernel_rfl) ?y5 ?z5
  case y5 => intro W hW; have := hwk.out; have := hwu.out; replace hW := Lib.hid hW; go_simp; try rfl
  case z5 =>
  simp only [Act.put, List.setIfInBounds_toArray, List.set_cons_succ, List.set_cons_zero, List.getElem_toArray, List.getElem_cons_zero, List.getElem_cons_succ]
  refine hl_one rfl (by kernel_rfl) (fun K hK => ?_)
  go_simp
  go_at_call 9
  refine (HP2.out.out _).mono ?_
  rintro e w9 ⟨rfl, rfl⟩
  refine hK.out _ _ hS.out ?_
  clear hK K
  try simp only [Act.put, List.setIfInBounds_toArray, List.set_cons_succ, List.set_cons_zero, List.getElem_toArray, List.getElem_cons_zero, List.getElem_cons_succ]
  refine hl_take ?v6 rfl (by kernel_rfl) ?y6 ?z6
  case y6 => intro W hW; have := hwk.out; have := hwu.out; replace hW := Lib.hid hW; go_simp; try rfl
  case z6 =>
  simp only [Act.put, List.setIfInBounds_toArray, List.set_cons_succ, List.set_cons_zero, List.getElem_toArray, List.getElem_cons_zero, List.getElem_cons_succ]
  refine hl_one rfl (by kernel_rfl) (fun K hK => ?_)
  go_simp
  obtain ⟨x, hx, hxs, HC⟩ := conv8 wd 3 k u 0 0 0 0 0 (by omega)
  replace hS := Lib.hid (hS.out.allocG (.cells #[.int .u8 3, .int .u8 k, .int .u8 u, .int .u8 0, .int .u8 0, .int .u8 0, .int .u8 0, .int .u8 0] 5))
  replace hx := Lib.hid hx
  replace hxs := Lib.hid hxs
  refine hK.out _ _ hS.out ?_
  clear hK K
  try simp only [Act.put, List.setIfInBounds_toArray, List.set_cons_succ, List.set_cons_zero, List.getElem_toArray, List.getElem_cons_zero, List.getElem_cons_succ]
  refine hl_one rfl (by kernel_rfl) (fun K hK => ?_)
  go_simp
  go_simp
  refine hK.out _ _ hS.out ?_
  clear hK K
  try simp only [Act.put, List.setIfInBounds_toArray, List.set_cons_succ, List.set_cons_zero, List.getElem_toArray, List.getElem_cons_zero, List.getElem_cons_succ]
  refine hl_take ?v7 rfl (by kernel_rfl) ?y7 ?z7
  case y7 => intro W hW; have := hwk.out; have := hwu.out; replace hW := Lib.hid hW; go_simp; try rfl
  case z7 =>
  simp only [Act.put, List.setIfInBounds_toArray, List.set_cons_succ, List.set_cons_zero, List.getElem_toArray, List.getElem_cons_zero, List.getElem_cons_succ]
  refine hl_done ?_
  clear HC hB
  generalize World.alloc _ _ = w2 at *
  replace hS := Lib.hid hS
  have hB2 := Lib.hid (show Sep w2 [blk w.heap.size 47 #[.int .i64 pa, .int .i64 pb], old w] from hS.out.out)
  clear hS
  obtain ⟨M, hM⟩ : ∃ M, min (b.size / 8 * 8) b.size = 8 * M := ⟨b.size / 8, by omega⟩
  have hcs : (b.extract 0 (b.size / 8 * 8)).size = 8 * M := by rw [ByteArray.size_extract]; omega
  have hM2 : M ≤ 200 := by omega
  generalize b.extract 0 (b.size / 8 * 8) = c at *
  have hok : ScOk (readB c) (c.size / 8) := readN_ok (bt c) (fun j => (bt_bd c j).1) (c.size / 8)
  have hok2 := step_ok (bt x) (fun j => (bt_bd x j).1) hok
  have hadd : readB (c ++ x) = stepS (readB c) (bt x) := readB_add c x (by omega) hx.out
  obtain ⟨x0, x1, x2, x3, x4, x5, x6, x7⟩ := hxs.out
  obtain ⟨st1, st2⟩ := step_pk (readB c) (bt x) x0 ⟨x3, x4, x5, x6, x7⟩
  rw [x1] at st1 st2
  rw [x2] at st2
  have A1 := fun W => run_string_add_sum (P := Tryd.prog) W c x (by have := hx.out; omega)
  have HR1 := Lib.hid (fun W => read_any c W)
  have HR2 := Lib.hid (fun W => read_any (c ++ x) W)
  rw [hadd] at HR2
  generalize readB c = R at *
  generalize stepS R (bt x) = S at *
  have hsm := hok.sm
  have hsm2 := hok2.sm
  have hpk4 := hok.pk2
  clear hok hok2 hadd hM x0 x1 x2 x3 x4 x5 x6 x7 hxs hwk hwu
  go_wp2_with fail
  refine (HR1.out _).mono ?_
  rintro e w6 ⟨t1, p1, rfl, q1⟩
  obtain ⟨v1, R1⟩ := scV_reads q1
  replace R1 := Lib.hid R1
  replace hB2 := Lib.hid (hB2.out.below q1.to1.gold)
  clear q1
  go_wp2_with fail
  refine (HR2.out _).mono ?_
  rintro e w7 ⟨t2, p2, rfl, q2⟩
  obtain ⟨v2, R2⟩ := scV_reads q2
  replace R1 := Lib.hid (R1.out.below q2.to1.gold)
  replace R2 := Lib.hid R2
  replace hB2 := Lib.hid (hB2.out.below q2.to1.gold)
  clear q2 HR1 HR2 A1
  obtain ⟨_, ta1, tc1, rfl, _⟩ := id R1.out.th
  obtain ⟨_, ta2, tc2, rfl, _⟩ := id R2.out.th
  obtain ⟨_, pa1, pc1, rfl, _⟩ := id R1.out.pk
  obtain ⟨_, pa2, pc2, rfl, _⟩ := id R2.out.pk
  have hbel := Lib.hid hB2.out.tail.gold
  obtain ⟨lo, c0, c1, _⟩ := hB2.out.b2
  by_cases hA : (k : Int) < 1 ∨ 4 < (k : Int) ∨ 4096 ≤ R.pks.length
  · obtain rfl := st1 hA
    have HK := Lib.hid (fun W (hb : Below w7.heap.size w7 W) => sameK_true _ _ _ _ S v1 v2 W hsm (R1.out.below hb) (R2.out.below hb))
    have hS7 := Lib.hid (box2 w7 30 #[.slice ta1 S.ths.length tc1, .slice pa1 S.pks.length pc1, .int .i64 S.c0, .int .i64 S.c1, .int .i64 S.c2, .int .i64 S.c3] #[.slice ta2 S.ths.length tc2, .slice pa2 S.pks.length pc2, .int .i64 S.c0, .int .i64 S.c1, .int .i64 S.c2, .int .i64 S.c3])
    clear st1 st2 hsm hsm2 R1 R2 hB2
    by_cases k1 : (k : Int) < 1
    · clear hA
      go_wp2_with (first
        | (go_at_call 9; refine (HP1.out.out _).mono ?_; rintro e w8 ⟨rfl, rfl⟩)
        | (go_at_call 10; refine (HK.out _ hS7.out.to2.gold).mono ?_; rintro e w9 ⟨rfl, q9⟩; replace hS7 := Lib.hid (hS7.out.below q9); clear q9 HK))
      go_ret
      exact ⟨rfl, hbel.out.trans (hS7.out.to2.gold.mono hbel.out.size)⟩
    by_cases k4 : 4 < (k : Int)
    · clear hA
      go_wp2_with (first
        | (go_at_call 9; refine (HP1.out.out _).mono ?_; rintro e w8 ⟨rfl, rfl⟩)
        | (go_at_call 10; refine (HK.out _ hS7.out.to2.gold).mono ?_; rintro e w9 ⟨rfl, q9⟩; replace hS7 := Lib.hid (hS7.out.below q9); clear q9 HK))
      go_ret
      exact ⟨rfl, hbel.out.trans (hS7.out.to2.gold.mono hbel.out.size)⟩
    have i8 : (4096 : Int) ≤ (S.pks.length : Int) := by omega
    clear hA
    go_wp2_with (first
      | (go_at_call 9; refine (HP1.out.out _).mono ?_; rintro e w8 ⟨rfl, rfl⟩)
      | (go_at_call 10; refine (HK.out _ hS7.out.to2.gold).mono ?_; rintro e w9 ⟨rfl, q9⟩; replace hS7 := Lib.hid (hS7.out.below q9); clear q9 HK))
    go_ret
    exact ⟨rfl, hbel.out.trans (hS7.out.to2.gold.mono hbel.out.size)⟩
  · obtain rfl := st2 (by omega) (by omega) (by omega)
    have k1 : ¬ (k : Int) < 1 := by omega
    have k4 : ¬ 4 < (k : Int) := by omega
    have hpk : R.pks.length < 4096 := by omega
    obtain ⟨m, hm⟩ : ∃ m, R.pks.length = m := ⟨_, rfl⟩
    have hlen : (R.pks ++ [((k : Int), (u : Int))]).length = m + 1 := by rw [List.length_append, hm]; rfl
    have RP := R2.out.pk
    simp only [hlen] at RP
    simp only [hlen, hm]
    rw [hm] at hpk
    have i8 : ¬ (4096 : Int) ≤ (m : Int) := by omega
    obtain ⟨gb, ob_, rfl, lb, hel0⟩ := pk_cells RP hlen (by omega)
    obtain ⟨f0, f1⟩ := hel0 m ((k : Int), (u : Int)) (by rw [List.getElem?_append_right (by omega), hm, Nat.sub_self]; rfl)
    simp only [← Nat.add_assoc, Nat.add_zero] at f0 f1
    have R3 : scR w7 (.slice ta2 R.ths.length tc2) (.slice (some ⟨gb, ob_, none⟩) m pc2) R v2 := ⟨R2.out.len, R2.out.th, R2.out.op, by rw [hm]; exact RL.cut pC 2 pC_len hm RP⟩
    obtain ⟨_, _, _, _, hmc, _⟩ := id RP
    have HK := fun W (hb : Below w7.heap.size w7 W) => sameK_true _ _ _ _ R v1 v2 W hsm (R1.out.below hb) (R3.below hb)
    have HQ := fun W (hb : Below w7.heap.size w7 W) => sameP_true _ _ _ _ R v1 v2 W hsm (R1.out.below hb) (R3.below hb)
    rw [hm] at HK HQ
    replace HK := Lib.hid HK
    replace HQ := Lib.hid HQ
    have hqn := fun W => run_neq_pk k k u u W
    rw [show eqB_pk k k u u = true by rw [eqB_pk_iff]; simp] at hqn
    have hS7 := Lib.hid (box2 w7 30 #[.slice ta1 R.ths.length tc1, .slice pa1 m pc1, .int .i64 R.c0, .int .i64 R.c1, .int .i64 R.c2, .int .i64 R.c3] #[.slice ta2 R.ths.length tc2, .slice (some ⟨gb, ob_, none⟩) (m + 1) pc2, .int .i64 R.c0, .int .i64 R.c1, .int .i64 R.c2, .int .i64 R.c3])
    have hww := Lib.hid (IntWalk.i64_in ((m : Int) + 1) (by omega))
    have y8 := Lib.hid (show (m : Int) < (m : Int) + 1 by omega)
    have y9 := Lib.hid (show (0 : Int) ≤ (m : Int) by omega)
    have hcc := Lib.hid (fun W (hb : Below w7.heap.size w7 W) => And.intro ((hb.cell (p := ⟨w.heap.size, 0, none⟩) lo).trans c0) ((hb.cell (p := ⟨w.heap.size, 1, none⟩) lo).trans c1))
    have hel := Lib.hid (fun W (hb : Below w7.heap.size w7 W) => And.intro ((hb.cell (p := ⟨gb, _, none⟩) lb).trans f0) ((hb.cell (p := ⟨gb, _, none⟩) lb).trans f1))
    replace hm := Lib.hid hm
    clear RP R3 R1 R2 st1 hel0 hlen hA hsm hsm2 f0 f1 hB2
    go_wp2_with (go_at_call 9; refine (HP1.out.out _).mono ?_; rintro e w8 ⟨rfl, rfl⟩)
    clear c0 c1 lo
    have hS := Lib.hid (show (fun W : World => Sep W [blk (w7.heap.size + 1) 30 #[.slice ta2 R.ths.length tc2, .slice (some ⟨gb, ob_, none⟩) (m + 1) pc2, .int .i64 R.c0, .int .i64 R.c1, .int .i64 R.c2, .int .i64 R.c3], blk w7.heap.size 30 #[.slice ta1 R.ths.length tc1, .slice pa1 m pc1, .int .i64 R.c0, .int .i64 R.c1, .int .i64 R.c2, .int .i64 R.c3], old w7]) _ from hS7.out.drew)
    refine hl_begin (fun W : World => Sep W [blk (w7.heap.size + 1) 30 #[.slice ta2 R.ths.length tc2, .slice (some ⟨gb, ob_, none⟩) (m + 1) pc2, .int .i64 R.c0, .int .i64 R.c1, .int .i64 R.c2, .int .i64 R.c3], blk w7.heap.size 30 #[.slice ta1 R.ths.length tc1, .slice pa1 m pc1, .int .i64 R.c0, .int .i64 R.c1, .int .i64 R.c2, .int .i64 R.c3], old w7]) [(0, true), (1, true), (2, true), (3, true), (4, true), (5, true), (6, true), (7, true), (8, true), (9, true), (10, true), (11, true), (12, true), (13, true), (14, true), (15, false), (16, true), (17, true), (18, true)] (by kernel_rfl) (by kernel_rfl) (by kernel_rfl) rfl (fun _ _ _ _ _ h => h) hS.out ?_
    change HL _ _ _ _ _ _ (World.drew _)
    generalize World.drew _ = wd at *
    refine hl_take ?v8 rfl (by kernel_rfl) ?y8 ?z8
    case y8 => intro W hW; have := hww.out; have := y8.out; have := y9.out; have := hqn; replace hW := Lib.hid hW; go_simp; try rfl
    case z8 =>
    simp only [Act.put, List.setIfInBounds_toArray, List.set_cons_succ, List.set_cons_zero, List.getElem_toArray, List.getElem_cons_zero, List.getElem_cons_succ]
    refine hl_take ?v9 rfl (by kernel_rfl) ?y9 ?z9
    case y9 => intro W hW; have hb := (show Sep _ _ from hW).to2.gold; obtain ⟨_, b0, b1, b2, b3, b4, b5, _⟩ := (show Sep _ _ from hW).b6; obtain ⟨f0, f1⟩ := hel.out W hb; obtain ⟨c0, c1⟩ := hcc.out W hb; replace hW := Lib.hid hW; go_simp; try rfl
    case z9 =>
    simp only [Act.put, List.setIfInBounds_toArray, List.set_cons_succ, List.set_cons_zero, List.getElem_toArray, List.getElem_cons_zero, List.getElem_cons_succ]
    refine hl_take ?v10 rfl (by kernel_rfl) ?y10 ?z10
    case y10 => intro W hW; have := hww.out; have := y8.out; have := y9.out; have := hqn; replace hW := Lib.hid hW; go_simp; try rfl
    case z10 =>
    simp only [Act.put, List.setIfInBounds_toArray, List.set_cons_succ, List.set_cons_zero, List.getElem_toArray, List.getElem_cons_zero, List.getElem_cons_succ]
    refine hl_take ?v11 rfl (by kernel_rfl) ?y11 ?z11
    case y11 => intro W hW; have := hww.out; have := y8.out; have := y9.out; have := hqn; replace hW := Lib.hid hW; go_simp; try rfl
    case z11 =>
    simp only [Act.put, List.setIfInBounds_toArray, List.set_cons_succ, List.set_cons_zero, List.getElem_toArray, List.getElem_cons_zero, List.getElem_cons_succ]
    refine hl_take ?v12 rfl (by kernel_rfl) ?y12 ?z12
    case y12 => intro W hW; have := hww.out; have := y8.out; have := y9.out; have := hqn; replace hW := Lib.hid hW; go_simp; try rfl
    case z12 =>
    simp only [Act.put, List.setIfInBounds_toArray, List.set_cons_succ, List.set_cons_zero, List.getElem_toArray, List.getElem_cons_zero, List.getElem_cons_succ]
    refine hl_take ?v13 rfl (by kernel_rfl) ?y13 ?z13
    case y13 => intro W hW; have := hww.out; have := y8.out; have := y9.out; have := hqn; replace hW := Lib.hid hW; go_simp; try rfl
    case z13 =>
    simp only [Act.put, List.setIfInBounds_toArray, List.set_cons_succ, List.set_cons_zero, List.getElem_toArray, List.getElem_cons_zero, List.getElem_cons_succ]
    refine hl_take ?v14 rfl (by kernel_rfl) ?y14 ?z14
    case y14 => intro W hW; have := hww.out; have := y8.out; have := y9.out; have := hqn; replace hW := Lib.hid hW; go_simp; try rfl
    case z14 =>
    simp only [Act.put, List.setIfInBounds_toArray, List.set_cons_succ, List.set_cons_zero, List.getElem_toArray, List.getElem_cons_zero, List.getElem_cons_succ]
    refine hl_take ?v15 rfl (by kernel_rfl) ?y15 ?z15
    case y15 => intro W hW; have := hww.out; have := y8.out; have := y9.out; have := hqn; replace hW := Lib.hid hW; go_simp; try rfl
    case z15 =>
    simp only [Act.put, List.setIfInBounds_toArray, List.set_cons_succ, List.set_cons_zero, List.getElem_toArray, List.getElem_cons_zero, List.getElem_cons_succ]
    refine hl_take ?v16 rfl (by kernel_rfl) ?y16 ?z16
    case y16 => intro W hW; have hb := (show Sep _ _ from hW).to2.gold; obtain ⟨_, b0, b1, b2, b3, b4, b5, _⟩ := (show Sep _ _ from hW).b6; obtain ⟨f0, f1⟩ := hel.out W hb; obtain ⟨c0, c1⟩ := hcc.out W hb; replace hW := Lib.hid hW; go_simp; try rfl
    case z16 =>
    simp only [Act.put, List.setIfInBounds_toArray, List.set_cons_succ, List.set_cons_zero, List.getElem_toArray, List.getElem_cons_zero, List.getElem_cons_succ]
    refine hl_take ?v17 rfl (by kernel_rfl) ?y17 ?z17
    case y17 => intro W hW; have := hww.out; have := y8.out; have := y9.out; have := hqn; replace hW := Lib.hid hW; go_simp; try rfl
    case z17 =>
    simp only [Act.put, List.setIfInBounds_toArray, List.set_cons_succ, List.set_cons_zero, List.getElem_toArray, List.getElem_cons_zero, List.getElem_cons_succ]
    refine hl_take ?v18 rfl (by kernel_rfl) ?y18 ?z18
    case y18 => intro W hW; have := hww.out; have := y8.out; have := y9.out; have := hqn; replace hW := Lib.hid hW; go_simp; try rfl
    case z18 =>
    simp only [Act.put, List.setIfInBounds_toArray, List.set_cons_succ, List.set_cons_zero, List.getElem_toArray, List.getElem_cons_zero, List.getElem_cons_succ]
    refine hl_take ?v19 rfl (by kernel_rfl) ?y19 ?z19
    case y19 => intro W hW; have hb := (show Sep _ _ from hW).to2.gold; obtain ⟨_, b0, b1, b2, b3, b4, b5, _⟩ := (show Sep _ _ from hW).b6; obtain ⟨f0, f1⟩ := hel.out W hb; obtain ⟨c0, c1⟩ := hcc.out W hb; replace hW := Lib.hid hW; go_simp; try rfl
    case z19 =>
    simp only [Act.put, List.setIfInBounds_toArray, List.set_cons_succ, List.set_cons_zero, List.getElem_toArray, List.getElem_cons_zero, List.getElem_cons_succ]
    refine hl_take ?v20 rfl (by kernel_rfl) ?y20 ?z20
    case y20 => intro W hW; have := hww.out; have := y8.out; have := y9.out; have := hqn; replace hW := Lib.hid hW; go_simp; try rfl
    case z20 =>
    simp only [Act.put, List.setIfInBounds_toArray, List.set_cons_succ, List.set_cons_zero, List.getElem_toArray, List.getElem_cons_zero, List.getElem_cons_succ]
    refine hl_take ?v21 rfl (by kernel_rfl) ?y21 ?z21
    case y21 => intro W hW; have := hww.out; have := y8.out; have := y9.out; have := hqn; replace hW := Lib.hid hW; go_simp; try rfl
    case z21 =>
    simp only [Act.put, List.setIfInBounds_toArray, List.set_cons_succ, List.set_cons_zero, List.getElem_toArray, List.getElem_cons_zero, List.getElem_cons_succ]
    refine hl_take ?v22 rfl (by kernel_rfl) ?y22 ?z22
    case y22 => intro W hW; have hb := (show Sep _ _ from hW).to2.gold; obtain ⟨_, b0, b1, b2, b3, b4, b5, _⟩ := (show Sep _ _ from hW).b6; obtain ⟨f0, f1⟩ := hel.out W hb; obtain ⟨c0, c1⟩ := hcc.out W hb; replace hW := Lib.hid hW; go_simp; try rfl
    case z22 =>
    simp only [Act.put, List.setIfInBounds_toArray, List.set_cons_succ, List.set_cons_zero, List.getElem_toArray, List.getElem_cons_zero, List.getElem_cons_succ]
    refine hl_one rfl (by kernel_rfl) (fun K hK => ?_)
    go_simp
    go_at_call 9
    refine (HP2.out.out _).mono ?_
    rintro e w9 ⟨rfl, rfl⟩
    refine hK.out _ _ hS.out ?_
    clear hK K
    try simp only [Act.put, List.setIfInBounds_toArray, List.set_cons_succ, List.set_cons_zero, List.getElem_toArray, List.getElem_cons_zero, List.getElem_cons_succ]
    refine hl_take ?v23 rfl (by kernel_rfl) ?y23 ?z23
    case y23 => intro W hW; have := hww.out; have := y8.out; have := y9.out; have := hqn; replace hW := Lib.hid hW; go_simp; try rfl
    case z23 =>
    simp only [Act.put, List.setIfInBounds_toArray, List.set_cons_succ, List.set_cons_zero, List.getElem_toArray, List.getElem_cons_zero, List.getElem_cons_succ]
    refine hl_take ?v24 rfl (by kernel_rfl) ?y24 ?z24
    case y24 => intro W hW; have := hww.out; have := y8.out; have := y9.out; have := hqn; replace hW := Lib.hid hW; go_simp; try rfl
    case z24 =>
    simp only [Act.put, List.setIfInBounds_toArray, List.set_cons_succ, List.set_cons_zero, List.getElem_toArray, List.getElem_cons_zero, List.getElem_cons_succ]
    refine hl_take ?v25 rfl (by kernel_rfl) ?y25 ?z25
    case y25 => intro W hW; have := hww.out; have := y8.out; have := y9.out; have := hqn; replace hW := Lib.hid hW; go_simp; try rfl
    case z25 =>
    simp only [Act.put, List.setIfInBounds_toArray, List.set_cons_succ, List.set_cons_zero, List.getElem_toArray, List.getElem_cons_zero, List.getElem_cons_succ]
    refine hl_done ?_
    clear hqn
    obtain ⟨_, b0, b1, b2, b3, b4, b5, g0, g1, _⟩ := hS.out.b6
    obtain ⟨_, a0, a1, a2, a3, a4, a5, _⟩ := hS.out.to1.b6
    have j0 : (0 : Int) ≤ (m : Int) := y9.out
    have j1 : (m : Int) ≤ (pc2 : Int) := by omega
    go_wp2_with (first
      | (go_at_call 10; replace hS := Lib.hid (show Sep _ [blk (w7.heap.size + 1) 30 #[.slice ta2 R.ths.length tc2, .slice (some ⟨gb, ob_, none⟩) m pc2, .int .i64 R.c0, .int .i64 R.c1, .int .i64 R.c2, .int .i64 R.c3], blk w7.heap.size 30 #[.slice ta1 R.ths.length tc1, .slice pa1 m pc1, .int .i64 R.c0, .int .i64 R.c1, .int .i64 R.c2, .int .i64 R.c3], old w7] from hS.out.set 1 (.slice (some ⟨gb, ob_, none⟩) m pc2)); refine (HK.out _ hS.out.to2.gold).mono ?_; rintro e w9 ⟨rfl, q9⟩; replace hS := Lib.hid (hS.out.below q9); clear q9 HK a0 a1 a2 a3 a4 a5 b0 b1 b2 b3 b4 b5 g0 g1; obtain ⟨_, b0, b1, b2, b3, b4, b5, _⟩ := hS.out.b6; obtain ⟨_, a0, a1, a2, a3, a4, a5, _⟩ := hS.out.to1.b6)
      | (go_at_call 16; refine (HQ.out _ hS.out.to2.gold).mono ?_; rintro e w10 ⟨rfl, q9⟩; replace hS := Lib.hid (hS.out.below q9); clear q9 HQ))
    go_ret
    exact ⟨rfl, hbel.out.trans (hS.out.to2.gold.mono hbel.out.size)⟩
theorem picks_walk (b : ByteArray) (pk : Int × Int) (w : World) :
    Calls Tryd.prog 5 #[.string b, .agg (pC pk).toArray] w fun e w' => e = .returned (.bool true) ∧ Below w.heap.size w w' := by
  by_cases h1 : b.size ≤ 1600
  · exact picks_main b pk w h1
  · obtain ⟨pa, pb⟩ := pk
    simp only [pC]
    have hB := Lib.hid (boxP w #[.int .i64 pa, .int .i64 pb])
    have i1 : (1600 : Int) < (b.size : Int) := by omega
    clear h1
    go_enter Tryd.func5, Tryd.ntmps5
    go_wp2_with fail
    refine (lives_any _).mono ?_
    rintro e w1 ⟨rfl, b1⟩
    replace hB := Lib.hid (hB.out.below b1)
    clear b1
    go_wp2_with fail
    go_ret
    exact ⟨rfl, hB.out.tail.gold⟩
end Go.Proofs.YtdpolejbceoldaaDoor
