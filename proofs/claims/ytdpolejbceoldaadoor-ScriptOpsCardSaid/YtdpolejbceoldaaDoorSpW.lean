/-
  ScriptOps, walked. No condition beside an argument that came in.
-/
import Derived.Test.YtdpolejbceoldaaDoorScL
import Derived.Test.YtdpolejbceoldaaDoorPick
import Derived.Test.YtdpolejbceoldaaDoorScD
import Derived.Laws.IdiomStrings
namespace Go.Proofs.YtdpolejbceoldaaDoor
set_option linter.unusedSimpArgs false
set_option linter.unusedVariables false
set_option linter.unnecessarySimpa false
open Go.RowKit
theorem u8_back (z : Int) (h0 : 0 ≤ z) (h1 : z < 256) : ((UInt8.ofNat z.toNat).toNat : Int) = z := by
  rw [UInt8.toNat_ofNat']
  omega
/-- Eight bytes as a string. -/
theorem conv8 (w : World) (z0 z1 z2 z3 z4 z5 z6 z7 : Int) (h : (0 ≤ z0 ∧ z0 < 256) ∧ (0 ≤ z1 ∧ z1 < 256) ∧ (0 ≤ z2 ∧ z2 < 256) ∧ (0 ≤ z3 ∧ z3 < 256) ∧ (0 ≤ z4 ∧ z4 < 256) ∧ (0 ≤ z5 ∧ z5 < 256) ∧ (0 ≤ z6 ∧ z6 < 256) ∧ (0 ≤ z7 ∧ z7 < 256)) :
    ∃ x : ByteArray, x.size = 8 ∧ (bt x 0 = z0 ∧ bt x 1 = z1 ∧ bt x 2 = z2 ∧ bt x 3 = z3 ∧ bt x 4 = z4 ∧ bt x 5 = z5 ∧ bt x 6 = z6 ∧ bt x 7 = z7) ∧
      (convert 40 9 (.slice (some ⟨w.heap.size, 0, none⟩) 8 8)).run Tryd.prog (w.alloc (.cells #[.int .u8 z0, .int .u8 z1, .int .u8 z2, .int .u8 z3, .int .u8 z4, .int .u8 z5, .int .u8 z6, .int .u8 z7] 5)) = .ok (.string x) (w.alloc (.cells #[.int .u8 z0, .int .u8 z1, .int .u8 z2, .int .u8 z3, .int .u8 z4, .int .u8 z5, .int .u8 z6, .int .u8 z7] 5)) := by
  obtain ⟨a0, a1, a2, a3, a4, a5, a6, a7⟩ := h
  have e0 := u8_back z0 a0.1 a0.2
  have e1 := u8_back z1 a1.1 a1.2
  have e2 := u8_back z2 a2.1 a2.2
  have e3 := u8_back z3 a3.1 a3.2
  have e4 := u8_back z4 a4.1 a4.2
  have e5 := u8_back z5 a5.1 a5.2
  have e6 := u8_back z6 a6.1 a6.2
  have e7 := u8_back z7 a7.1 a7.2
  refine ⟨⟨[UInt8.ofNat z0.toNat, UInt8.ofNat z1.toNat, UInt8.ofNat z2.toNat, UInt8.ofNat z3.toNat, UInt8.ofNat z4.toNat, UInt8.ofNat z5.toNat, UInt8.ofNat z6.toNat, UInt8.ofNat z7.toNat].toArray⟩, rfl, ⟨e0, e1, e2, e3, e4, e5, e6, e7⟩, ?_⟩
  refine run_convert_bytes_back _ 40 9 5 ⟨w.heap.size, 0, none⟩ 8 [UInt8.ofNat z0.toNat, UInt8.ofNat z1.toNat, UInt8.ofNat z2.toNat, UInt8.ofNat z3.toNat, UInt8.ofNat z4.toNat, UInt8.ofNat z5.toNat, UInt8.ofNat z6.toNat, UInt8.ofNat z7.toNat] Tryd.underlying40 Tryd.underlying5 Tryd.underlying9 ?_
  intro j hj
  rw [Addr.add_lit, Nat.zero_add, (Blk.new w _ _).cell]
  match j, hj with
  | 0, _ => exact congrArg some (congrArg (Value.int .u8) e0.symm)
  | 1, _ => exact congrArg some (congrArg (Value.int .u8) e1.symm)
  | 2, _ => exact congrArg some (congrArg (Value.int .u8) e2.symm)
  | 3, _ => exact congrArg some (congrArg (Value.int .u8) e3.symm)
  | 4, _ => exact congrArg some (congrArg (Value.int .u8) e4.symm)
  | 5, _ => exact congrArg some (congrArg (Value.int .u8) e5.symm)
  | 6, _ => exact congrArg some (congrArg (Value.int .u8) e6.symm)
  | 7, _ => exact congrArg some (congrArg (Value.int .u8) e7.symm)
set_option maxHeartbeats 4000000 in
set_option maxRecDepth 100000 in
theorem ops_main (b : ByteArray) (th : Int) (o : Oq) (w : World) (h1 : b.size ≤ 1600) :
    Calls Tryd.prog 4 #[.string b, .int .i64 th, .agg (oC o).toArray] w fun e w' => e = .returned (.bool true) ∧ Below w.heap.size w w' := by
  obtain ⟨ok, ot, or_, om, ov, ox⟩ := o
  simp only [oC]
  have i1 : ¬ (1600 : Int) < (b.size : Int) := by omega
  obtain ⟨t, ht⟩ := pick_nat th 8 (by omega) (by omega)
  have HP := Lib.hid ht.run
  have ht8 := ht.lt
  have hB := Lib.hid (boxO w #[.int .i64 ok, .int .i64 ot, .int .i64 or_, .int .i64 om, .int .i64 ov, .int .i64 ox])
  go_enter Tryd.func4, Tryd.ntmps4
  go_wp2_with fail
  refine (lives_any _).mono ?_
  rintro e w1 ⟨rfl, b1⟩
  replace hB := Lib.hid (hB.out.below b1)
  clear b1
  obtain ⟨_, c0, c1, c2, c3, c4, c5, _⟩ := hB.out.b6
  go_wp2_with fail
  refine (HP.out.out _).mono ?_
  rintro e w2 ⟨rfl, rfl⟩
  obtain ⟨x, hx, hxs, HC⟩ := conv8 w1 2 t (ok % 256) (wrap64 (ot + 1) % 256) (wrap64 (or_ + 1) % 256) (om % 256) (ov % 256) (ox % 256) (by omega)
  have hB2 := Lib.hid (hB.out.allocG (.cells #[.int .u8 2, .int .u8 t, .int .u8 (ok % 256), .int .u8 (wrap64 (ot + 1) % 256), .int .u8 (wrap64 (or_ + 1) % 256), .int .u8 (om % 256), .int .u8 (ov % 256), .int .u8 (ox % 256)] 5))
  replace hxs := Lib.hid hxs
  have HO := fun W => op_any ⟨ok, ot, or_, om, ov, ox⟩ W
  simp only [oC] at HO
  cases hO : opB ⟨ok, ot, or_, om, ov, ox⟩ with
  | false =>
    rw [show opErr ⟨ok, ot, or_, om, ov, ox⟩ = 2 by unfold opErr; rw [hO]; rfl] at HO
    replace HO := Lib.hid HO
    clear hO
    go_wp2_with fail
    refine (HO.out _).mono ?_
    rintro e w3 ⟨rfl, q3⟩
    replace hB2 := Lib.hid (hB2.out.below q3)
    clear q3
    go_wp2_with fail
    go_ret
    exact ⟨rfl, hB2.out.tail.gold⟩
  | true =>
    rw [show opErr ⟨ok, ot, or_, om, ov, ox⟩ = 0 by unfold opErr; rw [hO]; rfl] at HO
    obtain ⟨d1, d2, d3, d4, d5, d6⟩ := opB_bd hO
    simp only at d1 d2 d3 d4 d5 d6
    obtain ⟨x0, x1, x2, x3, x4, x5, x6, x7⟩ := hxs.out
    have hw1 : wrap64 (ot + 1) % 256 = ot + 1 := by unfold wrap64; omega
    have hw2 : wrap64 (or_ + 1) % 256 = or_ + 1 := by unfold wrap64; omega
    obtain ⟨hi, ho⟩ := op_entry (o := ⟨ok, ot, or_, om, ov, ox⟩) hO (t : Int) ht8 (bt x) x0 x1 (by simp only; omega) (by simp only; omega) (by simp only; omega) (by simp only; omega) (by simp only; omega) (by simp only; omega)
    have HE := fun W => entry_any x hx W
    simp only [entV, hi, ho, oC, if_true, x1] at HE
    have hlv : lv ot or_ ≠ -1 := by
      unfold opB at hO
      simp only [Bool.and_eq_true, decide_eq_true_eq] at hO
      have := hO.1.1.1.2.1
      omega
    have HC2 := fun W => checkR_any ot or_ W
    rw [if_neg hlv] at HC2
    have hqo := fun W => run_neq_op ok ok ot ot or_ or_ om om ov ov ox ox W
    rw [show eqB_op ok ok ot ot or_ or_ om om ov ov ox ox = true by rw [eqB_op_iff]; simp] at hqo
    replace HO := Lib.hid HO
    replace HE := Lib.hid HE
    replace HC2 := Lib.hid HC2
    replace hx := Lib.hid hx
    clear hw1 hw2 x1 x2 x3 x4 x5 x6 x7 d1 d2 d3 d4 d5 d6 hlv
    replace hO := Lib.hid hO
    replace hi := Lib.hid hi
    replace ho := Lib.hid ho
    replace x0 := Lib.hid x0
    have i2 : (t : Int) < 8 := ht8
    go_wp2_with (first
      | (go_at_call 13; refine (HO.out _).mono ?_; rintro e w3 ⟨rfl, q3⟩; replace hB2 := Lib.hid (hB2.out.below q3); clear q3)
      | (go_at_call 12; refine (HE.out _).mono ?_; rintro e w4 ⟨rfl, q4⟩; replace hB2 := Lib.hid ((hB2.out.below q4).allocG (.cells #[.int .i64 ok, .int .i64 ot, .int .i64 or_, .int .i64 om, .int .i64 ov, .int .i64 ox] 36)); clear q4 c0 c1 c2 c3 c4 c5; obtain ⟨_, c0, c1, c2, c3, c4, c5, _⟩ := hB2.out.b6)
      | (go_at_call 14; refine (HC2.out _).mono ?_; rintro e w5 ⟨rfl, q5⟩; replace hB2 := Lib.hid (hB2.out.below q5); clear q5 c0 c1 c2 c3 c4 c5; obtain ⟨_, c0, c1, c2, c3, c4, c5, _⟩ := hB2.out.b6))
    obtain ⟨M, hM⟩ : ∃ M, min (b.size / 8 * 8) b.size = 8 * M := ⟨b.size / 8, by omega⟩
    have hcs : (b.extract 0 (b.size / 8 * 8)).size = 8 * M := by rw [ByteArray.size_extract]; omega
    have hM2 : M ≤ 200 := by omega
    generalize b.extract 0 (b.size / 8 * 8) = c at *
    have hok := readN_ok (bt c) (fun j => (bt_bd c j).1) (c.size / 8)
    have hok' : ScOk (readB c) (c.size / 8) := hok
    have hok2 := step_ok (bt x) (fun j => (bt_bd x j).1) hok'
    have hadd : readB (c ++ x) = stepS (readB c) (bt x) := readB_add c x (by omega) hx.out
    obtain ⟨st1, st2⟩ := step_op (bt x) t hok' x0.out (hxs.out.2.1) hi.out
    rw [ho.out] at st2
    have A1 := fun W => run_string_add_sum (P := Tryd.prog) W c x (by have := hx.out; omega)
    have HR1 := Lib.hid (fun W => read_any c W)
    have HR2 := Lib.hid (fun W => read_any (c ++ x) W)
    rw [hadd] at HR2
    generalize readB c = R at *
    generalize stepS R (bt x) = S at *
    have hsm := hok'.sm
    have hsm2 := hok2.sm
    clear hok hok2 hadd HO HE HC2 hM hO hi ho x0 hxs HP
    have h32 := hok'.ops t
    clear hok'
    refine (HR1.out _).mono ?_
    rintro e w6 ⟨t1, p1, rfl, q1⟩
    obtain ⟨v1, R1⟩ := scV_reads q1
    replace R1 := Lib.hid R1
    replace hB2 := Lib.hid (hB2.out.below q1.to1.gold)
    clear q1 c0 c1 c2 c3 c4 c5
    go_wp2_with fail
    refine (HR2.out _).mono ?_
    rintro e w7 ⟨t2, p2, rfl, q2⟩
    obtain ⟨v2, R2⟩ := scV_reads q2
    replace R1 := Lib.hid (R1.out.below q2.to1.gold)
    replace R2 := Lib.hid R2
    replace hB2 := Lib.hid (hB2.out.below q2.to1.gold)
    clear q2 HR1 HR2 A1
    obtain ⟨_, ta1, tc1, rfl, _⟩ := id R1.out.th
    obtain ⟨_, ta2, tc2, rfl, _⟩ := id R2.out.th
    obtain ⟨_, pa1, pc1, rfl, _⟩ := id R1.out.pk
    obtain ⟨_, pa2, pc2, rfl, _⟩ := id R2.out.pk
    have hbel := Lib.hid hB2.out.tail.gold
    have hB3 := Lib.hid (((hB2.out.drop1 |> fun _ => hB2.out)))
    have hB4 := Lib.hid ((hB2.out.alloc #[.slice ta1 R.ths.length tc1, .slice pa1 R.pks.length pc1, .int .i64 R.c0, .int .i64 R.c1, .int .i64 R.c2, .int .i64 R.c3] 30).alloc #[.slice ta2 S.ths.length tc2, .slice pa2 S.pks.length pc2, .int .i64 S.c0, .int .i64 S.c1, .int .i64 S.c2, .int .i64 S.c3] 30)
    rw [World.size_alloc] at hB4
    clear hB3
    by_cases hT : t < R.ths.length
    · have i3 : (t : Int) < (R.ths.length : Int) := by omega
      have i0 : (0 : Int) ≤ (t : Int) := by omega
      obtain ⟨g1, o1, y1, a1, m1, d1, E1, l1, z1, hm1, RL1⟩ := R1.out.hd (k := t) hT
      injection E1 with E1 _ F1
      subst E1
      subst F1
      rw [← hm1] at st1 st2 h32
      by_cases hfull : 32 ≤ m1
      · obtain rfl := st1 hfull
        have i5 : (32 : Int) ≤ (m1 : Int) := by omega
        have i5b : ¬ (m1 : Int) < 32 := by omega
        have i6 : ¬ (S.ths.length : Int) ≤ (t : Int) := by omega
        have HK := Lib.hid (fun W (hb : Below w7.heap.size w7 W) => sameK_true _ _ _ _ S v1 v2 W hsm (R1.out.below hb) (R2.out.below hb))
        replace hm1 := Lib.hid hm1
        clear st1 st2 RL1 h32 hsm2 R1 R2
        go_wp2_with fail
        refine (HK.out _ (((Below.refl _ _).alloc (Nat.le_refl _) _).alloc (by rw [World.size_alloc]; omega) _)).mono ?_
        rintro e w8 ⟨rfl, q8⟩
        replace hB4 := Lib.hid (hB4.out.below q8)
        clear q8 HK
        go_wp2_with fail
        go_ret
        exact ⟨rfl, hB4.out.tail.tail.tail.gold⟩
      · obtain ⟨s1, s2, s3⟩ := st2 (by omega)
        have i5 : ¬ (32 : Int) ≤ (m1 : Int) := by omega
        generalize hL0 : R.ths.getD t [] = L0 at *
        clear RL1 st1 st2 h32
        have hb21 := Lib.hid (box2 w7 30 #[.slice (some ⟨g1, o1, none⟩) R.ths.length tc1, .slice pa1 R.pks.length pc1, .int .i64 R.c0, .int .i64 R.c1, .int .i64 R.c2, .int .i64 R.c3] #[.slice ta2 S.ths.length tc2, .slice pa2 S.pks.length pc2, .int .i64 S.c0, .int .i64 S.c1, .int .i64 S.c2, .int .i64 S.c3])
        obtain ⟨g2, o2, y2, a2, m2, d2, E2, l2, z2, hm2, RL2⟩ := R2.out.hd (k := t) s1
        injection E2 with E2 _ F2
        subst E2
        subst F2
        rw [s2] at hm2 RL2
        have hm3 : m2 = m1 + 1 := by rw [hm2, List.length_append, hm1]; rfl
        subst hm3
        obtain ⟨gb, ob_, rfl, lb, hel0⟩ := op_cells RL2 hm2.symm (by omega)
        have hel1 := hel0 m1 ⟨ok, ot, or_, om, ov, ox⟩ (by rw [hm1, List.getElem?_append_right (Nat.le_refl _), Nat.sub_self]; rfl)
        simp only [← Nat.add_assoc, Nat.add_zero] at hel1
        obtain ⟨f0, f1, f2, f3, f4, f5⟩ := hel1
        have hww := Lib.hid (IntWalk.i64_in ((m1 : Int) + 1) (by omega))
        have y8 := Lib.hid (show (m1 : Int) < (m1 : Int) + 1 by omega)
        have y9 := Lib.hid (show (0 : Int) ≤ (m1 : Int) by omega)
        replace hm1 := Lib.hid hm1
        have i7 : ¬ (S.ths.length : Int) ≤ (t : Int) := by omega
        have i8 : (t : Int) < (S.ths.length : Int) := by omega
        have HK := Lib.hid (fun W (hb : Below w7.heap.size w7 W) => same_pk _ _ S.pks R.pks W (by have := hsm2.pk; omega) (R2.out.pk.below hb) (R1.out.pk.below hb))
        rw [decide_eq_true s3] at HK
        have hqe := fun W => run_eql_op ok ok ot ot or_ or_ om om ov ov ox ox W
        rw [show eqB_op ok ok ot ot or_ or_ om om ov ov ox ox = true by rw [eqB_op_iff]; simp] at hqe
        obtain ⟨_, c0, c1, c2, c3, c4, c5, _⟩ := hB2.out.b6
        have lo := hB2.out.gblk.lt
        have hcc := Lib.hid (fun W (hb : Below w7.heap.size w7 W) => (⟨(hb.cell (p := ⟨w.heap.size, 0, none⟩) lo).trans c0, (hb.cell (p := ⟨w.heap.size, 1, none⟩) lo).trans c1, (hb.cell (p := ⟨w.heap.size, 2, none⟩) lo).trans c2, (hb.cell (p := ⟨w.heap.size, 3, none⟩) lo).trans c3, (hb.cell (p := ⟨w.heap.size, 4, none⟩) lo).trans c4, (hb.cell (p := ⟨w.heap.size, 5, none⟩) lo).trans c5⟩ : W.cell? ⟨w.heap.size, 0, none⟩ = some (.int .i64 ok) ∧ W.cell? ⟨w.heap.size, 1, none⟩ = some (.int .i64 ot) ∧ W.cell? ⟨w.heap.size, 2, none⟩ = some (.int .i64 or_) ∧ W.cell? ⟨w.heap.size, 3, none⟩ = some (.int .i64 om) ∧ W.cell? ⟨w.heap.size, 4, none⟩ = some (.int .i64 ov) ∧ W.cell? ⟨w.heap.size, 5, none⟩ = some (.int .i64 ox)))
        have hz2 := Lib.hid (fun W (hb : Below w7.heap.size w7 W) => (hb.cell (p := ⟨g2, o2 + t, none⟩) l2).trans z2)
        have hel := Lib.hid (fun W (hb : Below w7.heap.size w7 W) => And.intro ((hb.cell (p := ⟨gb, _, none⟩) lb).trans f0) (And.intro ((hb.cell (p := ⟨gb, _, none⟩) lb).trans f1) (And.intro ((hb.cell (p := ⟨gb, _, none⟩) lb).trans f2) (And.intro ((hb.cell (p := ⟨gb, _, none⟩) lb).trans f3) (And.intro ((hb.cell (p := ⟨gb, _, none⟩) lb).trans f4) ((hb.cell (p := ⟨gb, _, none⟩) lb).trans f5))))))
        clear RL2 hel0 s1 s2 s3 R1 R2 hm2
        try clear c0 c1 c2 c3 c4 c5
        clear f0 f1 f2 f3 f4 f5 l2 lb lo hsm hsm2 hB2
        go_wp2_with fail
        have hS := Lib.hid (show (fun W : World => Sep W [blk (w7.heap.size + 1) 30 #[.slice (some ⟨g2, o2, none⟩) S.ths.length tc2, .slice pa2 S.pks.length pc2, .int .i64 S.c0, .int .i64 S.c1, .int .i64 S.c2, .int .i64 S.c3], blk w7.heap.size 30 #[.slice (some ⟨g1, o1, none⟩) R.ths.length tc1, .slice pa1 R.pks.length pc1, .int .i64 R.c0, .int .i64 R.c1, .int .i64 R.c2, .int .i64 R.c3], old w7]) _ from hb21.out.drew)
        refine hl_begin (fun W : World => Sep W [blk (w7.heap.size + 1) 30 #[.slice (some ⟨g2, o2, none⟩) S.ths.length tc2, .slice pa2 S.pks.length pc2, .int .i64 S.c0, .int .i64 S.c1, .int .i64 S.c2, .int .i64 S.c3], blk w7.heap.size 30 #[.slice (some ⟨g1, o1, none⟩) R.ths.length tc1, .slice pa1 R.pks.length pc1, .int .i64 R.c0, .int .i64 R.c1, .int .i64 R.c2, .int .i64 R.c3], old w7]) [(0, true), (1, true), (2, true), (3, true), (4, true), (5, true), (6, true), (7, true), (8, true), (9, true), (10, true), (11, true), (12, true), (13, true), (14, true), (15, true), (16, true), (17, true), (18, true), (19, true), (20, true), (21, true), (22, true), (23, true), (24, true), (25, true), (26, false), (27, true), (28, true)] (by kernel_rfl) (by kernel_rfl) (by kernel_rfl) rfl (fun _ _ _ _ _ h => h) hS.out ?_
        change HL _ _ _ _ _ _ (World.drew _)
        generalize World.drew _ = wd at *
        refine hl_take ?v1 rfl (by kernel_rfl) ?y1 ?z1
        case y1 => intro W hW; have := hqe; have := i5; have := i8; have := i0; have := hww.out; have := y8.out; have := y9.out; replace hW := Lib.hid hW; go_simp; try rfl
        case z1 =>
        simp only [Act.put, List.setIfInBounds_toArray, List.set_cons_succ, List.set_cons_zero, List.getElem_toArray, List.getElem_cons_zero, List.getElem_cons_succ]
        refine hl_take ?v2 rfl (by kernel_rfl) ?y2 ?z2
        case y2 => intro W hW; have hb := (show Sep _ _ from hW).to2.gold; obtain ⟨_, b0, b1, b2, b3, b4, b5, _⟩ := (show Sep _ _ from hW).b6; obtain ⟨_, a0_, a1_, a2_, a3_, a4_, a5_, _⟩ := (show Sep _ _ from hW).to1.b6; have z2_ := hz2.out W hb; obtain ⟨f0, f1, f2, f3, f4, f5⟩ := hel.out W hb; obtain ⟨c0, c1, c2, c3, c4, c5⟩ := hcc.out W hb; have g5 := i5; replace hW := Lib.hid hW; go_simp; try rfl
        case z2 =>
        simp only [Act.put, List.setIfInBounds_toArray, List.set_cons_succ, List.set_cons_zero, List.getElem_toArray, List.getElem_cons_zero, List.getElem_cons_succ]
        refine hl_take ?v3 rfl (by kernel_rfl) ?y3 ?z3
        case y3 => intro W hW; have := hqe; have := i5; have := i8; have := i0; have := hww.out; have := y8.out; have := y9.out; replace hW := Lib.hid hW; go_simp; try rfl
        case z3 =>
        simp only [Act.put, List.setIfInBounds_toArray, List.set_cons_succ, List.set_cons_zero, List.getElem_toArray, List.getElem_cons_zero, List.getElem_cons_succ]
        refine hl_take ?v4 rfl (by kernel_rfl) ?y4 ?z4
        case y4 => intro W hW; have := hqe; have := i5; have := i8; have := i0; have := hww.out; have := y8.out; have := y9.out; replace hW := Lib.hid hW; go_simp; try rfl
        case z4 =>
        simp only [Act.put, List.setIfInBounds_toArray, List.set_cons_succ, List.set_cons_zero, List.getElem_toArray, List.getElem_cons_zero, List.getElem_cons_succ]
        refine hl_take ?v5 rfl (by kernel_rfl) ?y5 ?z5
        case y5 => intro W hW; have hb := (show Sep _ _ from hW).to2.gold; obtain ⟨_, b0, b1, b2, b3, b4, b5, _⟩ := (show Sep _ _ from hW).b6; obtain ⟨_, a0_, a1_, a2_, a3_, a4_, a5_, _⟩ := (show Sep _ _ from hW).to1.b6; have z2_ := hz2.out W hb; obtain ⟨f0, f1, f2, f3, f4, f5⟩ := hel.out W hb; obtain ⟨c0, c1, c2, c3, c4, c5⟩ := hcc.out W hb; have g5 := i5; replace hW := Lib.hid hW; go_simp; try rfl
        case z5 =>
        simp only [Act.put, List.setIfInBounds_toArray, List.set_cons_succ, List.set_cons_zero, List.getElem_toArray, List.getElem_cons_zero, List.getElem_cons_succ]
        refine hl_take ?v6 rfl (by kernel_rfl) ?y6 ?z6
        case y6 => intro W hW; have := hqe; have := i5; have := i8; have := i0; have := hww.out; have := y8.out; have := y9.out; replace hW := Lib.hid hW; go_simp; try rfl
        case z6 =>
        simp only [Act.put, List.setIfInBounds_toArray, List.set_cons_succ, List.set_cons_zero, List.getElem_toArray, List.getElem_cons_zero, List.getElem_cons_succ]
        refine hl_take ?v7 rfl (by kernel_rfl) ?y7 ?z7
        case y7 => intro W hW; have := hqe; have := i5; have := i8; have := i0; have := hww.out; have := y8.out; have := y9.out; replace hW := Lib.hid hW; go_simp; try rfl
        case z7 =>
        simp only [Act.put, List.setIfInBounds_toArray, List.set_cons_succ, List.set_cons_zero, List.getElem_toArray, List.getElem_cons_zero, List.getElem_cons_succ]
        refine hl_take ?v8 rfl (by kernel_rfl) ?y8 ?z8
        case y8 => intro W hW; have := hqe; have := i5; have := i8; have := i0; have := hww.out; have := y8.out; have := y9.out; replace hW := Lib.hid hW; go_simp; try rfl
        case z8 =>
        simp only [Act.put, List.setIfInBounds_toArray, List.set_cons_succ, List.set_cons_zero, List.getElem_toArray, List.getElem_cons_zero, List.getElem_cons_succ]
        refine hl_take ?v9 rfl (by kernel_rfl) ?y9 ?z9
        case y9 => intro W hW; have := hqe; have := i5; have := i8; have := i0; have := hww.out; have := y8.out; have := y9.out; replace hW := Lib.hid hW; go_simp; try rfl
        case z9 =>
        simp only [Act.put, List.setIfInBounds_toArray, List.set_cons_succ, List.set_cons_zero, List.getElem_toArray, List.getElem_cons_zero, List.getElem_cons_succ]
        refine hl_take ?v10 rfl (by kernel_rfl) ?y10 ?z10
        case y10 => intro W hW; have := hqe; have := i5; have := i8; have := i0; have := hww.out; have := y8.out; have := y9.out; replace hW := Lib.hid hW; go_simp; try rfl
        case z10 =>
        simp only [Act.put, List.setIfInBounds_toArray, List.set_cons_succ, List.set_cons_zero, List.getElem_toArray, List.getElem_cons_zero, List.getElem_cons_succ]
        refine hl_take ?v11 rfl (by kernel_rfl) ?y11 ?z11
        case y11 => intro W hW; have := hqe; have := i5; have := i8; have := i0; have := hww.out; have := y8.out; have := y9.out; replace hW := Lib.hid hW; go_simp; try rfl
        case z11 =>
        simp only [Act.put, List.setIfInBounds_toArray, List.set_cons_succ, List.set_cons_zero, List.getElem_toArray, List.getElem_cons_zero, List.getElem_cons_succ]
        refine hl_take ?v12 rfl (by kernel_rfl) ?y12 ?z12
        case y12 => intro W hW; have hb := (show Sep _ _ from hW).to2.gold; obtain ⟨_, b0, b1, b2, b3, b4, b5, _⟩ := (show Sep _ _ from hW).b6; obtain ⟨_, a0_, a1_, a2_, a3_, a4_, a5_, _⟩ := (show Sep _ _ from hW).to1.b6; have z2_ := hz2.out W hb; obtain ⟨f0, f1, f2, f3, f4, f5⟩ := hel.out W hb; obtain ⟨c0, c1, c2, c3, c4, c5⟩ := hcc.out W hb; have g5 := i5; replace hW := Lib.hid hW; go_simp; try rfl
        case z12 =>
        simp only [Act.put, List.setIfInBounds_toArray, List.set_cons_succ, List.set_cons_zero, List.getElem_toArray, List.getElem_cons_zero, List.getElem_cons_succ]
        refine hl_take ?v13 rfl (by kernel_rfl) ?y13 ?z13
        case y13 => intro W hW; have := hqe; have := i5; have := i8; have := i0; have := hww.out; have := y8.out; have := y9.out; replace hW := Lib.hid hW; go_simp; try rfl
        case z13 =>
        simp only [Act.put, List.setIfInBounds_toArray, List.set_cons_succ, List.set_cons_zero, List.getElem_toArray, List.getElem_cons_zero, List.getElem_cons_succ]
        refine hl_take ?v14 rfl (by kernel_rfl) ?y14 ?z14
        case y14 => intro W hW; have := hqe; have := i5; have := i8; have := i0; have := hww.out; have := y8.out; have := y9.out; replace hW := Lib.hid hW; go_simp; try rfl
        case z14 =>
        simp only [Act.put, List.setIfInBounds_toArray, List.set_cons_succ, List.set_cons_zero, List.getElem_toArray, List.getElem_cons_zero, List.getElem_cons_succ]
        refine hl_take ?v15 rfl (by kernel_rfl) ?y15 ?z15
        case y15 => intro W hW; have hb := (show Sep _ _ from hW).to2.gold; obtain ⟨_, b0, b1, b2, b3, b4, b5, _⟩ := (show Sep _ _ from hW).b6; obtain ⟨_, a0_, a1_, a2_, a3_, a4_, a5_, _⟩ := (show Sep _ _ from hW).to1.b6; have z2_ := hz2.out W hb; obtain ⟨f0, f1, f2, f3, f4, f5⟩ := hel.out W hb; obtain ⟨c0, c1, c2, c3, c4, c5⟩ := hcc.out W hb; have g5 := i5; replace hW := Lib.hid hW; go_simp; try rfl
        case z15 =>
        simp only [Act.put, List.setIfInBounds_toArray, List.set_cons_succ, List.set_cons_zero, List.getElem_toArray, List.getElem_cons_zero, List.getElem_cons_succ]
        refine hl_take ?v16 rfl (by kernel_rfl) ?y16 ?z16
        case y16 => intro W hW; have := hqe; have := i5; have := i8; have := i0; have := hww.out; have := y8.out; have := y9.out; replace hW := Lib.hid hW; go_simp; try rfl
        case z16 =>
        simp only [Act.put, List.setIfInBounds_toArray, List.set_cons_succ, List.set_cons_zero, List.getElem_toArray, List.getElem_cons_zero, List.getElem_cons_succ]
        refine hl_take ?v17 rfl (by kernel_rfl) ?y17 ?z17
        case y17 => intro W hW; have := hqe; have := i5; have := i8; have := i0; have := hww.out; have := y8.out; have := y9.out; replace hW := Lib.hid hW; go_simp; try rfl
        case z17 =>
        simp only [Act.put, List.setIfInBounds_toArray, List.set_cons_succ, List.set_cons_zero, List.getElem_toArray, List.getElem_cons_zero, List.getElem_cons_succ]
        refine hl_take ?v18 rfl (by kernel_rfl) ?y18 ?z18
        case y18 => intro W hW; have hb := (show Sep _ _ from hW).to2.gold; obtain ⟨_, b0, b1, b2, b3, b4, b5, _⟩ := (show Sep _ _ from hW).b6; obtain ⟨_, a0_, a1_, a2_, a3_, a4_, a5_, _⟩ := (show Sep _ _ from hW).to1.b6; have z2_ := hz2.out W hb; obtain ⟨f0, f1, f2, f3, f4, f5⟩ := hel.out W hb; obtain ⟨c0, c1, c2, c3, c4, c5⟩ := hcc.out W hb; have g5 := i5; replace hW := Lib.hid hW; go_simp; try rfl
        case z18 =>
        simp only [Act.put, List.setIfInBounds_toArray, List.set_cons_succ, List.set_cons_zero, List.getElem_toArray, List.getElem_cons_zero, List.getElem_cons_succ]
        refine hl_take ?v19 rfl (by kernel_rfl) ?y19 ?z19
        case y19 => intro W hW; have hb := (show Sep _ _ from hW).to2.gold; obtain ⟨_, b0, b1, b2, b3, b4, b5, _⟩ := (show Sep _ _ from hW).b6; obtain ⟨_, a0_, a1_, a2_, a3_, a4_, a5_, _⟩ := (show Sep _ _ from hW).to1.b6; have z2_ := hz2.out W hb; obtain ⟨f0, f1, f2, f3, f4, f5⟩ := hel.out W hb; obtain ⟨c0, c1, c2, c3, c4, c5⟩ := hcc.out W hb; have g5 := i5; replace hW := Lib.hid hW; go_simp; try rfl
        case z19 =>
        simp only [Act.put, List.setIfInBounds_toArray, List.set_cons_succ, List.set_cons_zero, List.getElem_toArray, List.getElem_cons_zero, List.getElem_cons_succ]
        refine hl_take ?v20 rfl (by kernel_rfl) ?y20 ?z20
        case y20 => intro W hW; have := hqe; have := i5; have := i8; have := i0; have := hww.out; have := y8.out; have := y9.out; replace hW := Lib.hid hW; go_simp; try rfl
        case z20 =>
        simp only [Act.put, List.setIfInBounds_toArray, List.set_cons_succ, List.set_cons_zero, List.getElem_toArray, List.getElem_cons_zero, List.getElem_cons_succ]
        refine hl_take ?v21 rfl (by kernel_rfl) ?y21 ?z21
        case y21 => intro W hW; have := hqe; have := i5; have := i8; have := i0; have := hww.out; have := y8.out; have := y9.out; replace hW := Lib.hid hW; go_simp; try rfl
        case z21 =>
        simp only [Act.put, List.setIfInBounds_toArray, List.set_cons_succ, List.set_cons_zero, List.getElem_toArray, List.getElem_cons_zero, List.getElem_cons_succ]
        refine hl_take ?v22 rfl (by kernel_rfl) ?y22 ?z22
        case y22 => intro W hW; have := hqe; have := i5; have := i8; have := i0; have := hww.out; have := y8.out; have := y9.out; replace hW := Lib.hid hW; go_simp; try rfl
        case z22 =>
        simp only [Act.put, List.setIfInBounds_toArray, List.set_cons_succ, List.set_cons_zero, List.getElem_toArray, List.getElem_cons_zero, List.getElem_cons_succ]
        refine hl_take ?v23 rfl (by kernel_rfl) ?y23 ?z23
        case y23 => intro W hW; have := hqe; have := i5; have := i8; have := i0; have := hww.out; have := y8.out; have := y9.out; replace hW := Lib.hid hW; go_simp; try rfl
        case z23 =>
        simp only [Act.put, List.setIfInBounds_toArray, List.set_cons_succ, List.set_cons_zero, List.getElem_toArray, List.getElem_cons_zero, List.getElem_cons_succ]
        refine hl_take ?v24 rfl (by kernel_rfl) ?y24 ?z24
        case y24 => intro W hW; have hb := (show Sep _ _ from hW).to2.gold; obtain ⟨_, b0, b1, b2, b3, b4, b5, _⟩ := (show Sep _ _ from hW).b6; obtain ⟨_, a0_, a1_, a2_, a3_, a4_, a5_, _⟩ := (show Sep _ _ from hW).to1.b6; have z2_ := hz2.out W hb; obtain ⟨f0, f1, f2, f3, f4, f5⟩ := hel.out W hb; obtain ⟨c0, c1, c2, c3, c4, c5⟩ := hcc.out W hb; have g5 := i5; replace hW := Lib.hid hW; go_simp; try rfl
        case z24 =>
        simp only [Act.put, List.setIfInBounds_toArray, List.set_cons_succ, List.set_cons_zero, List.getElem_toArray, List.getElem_cons_zero, List.getElem_cons_succ]
        refine hl_take ?v25 rfl (by kernel_rfl) ?y25 ?z25
        case y25 => intro W hW; have := hqe; have := i5; have := i8; have := i0; have := hww.out; have := y8.out; have := y9.out; replace hW := Lib.hid hW; go_simp; try rfl
        case z25 =>
        simp only [Act.put, List.setIfInBounds_toArray, List.set_cons_succ, List.set_cons_zero, List.getElem_toArray, List.getElem_cons_zero, List.getElem_cons_succ]
        refine hl_take ?v26 rfl (by kernel_rfl) ?y26 ?z26
        case y26 => intro W hW; have hb := (show Sep _ _ from hW).to2.gold; obtain ⟨_, b0, b1, b2, b3, b4, b5, _⟩ := (show Sep _ _ from hW).b6; obtain ⟨_, a0_, a1_, a2_, a3_, a4_, a5_, _⟩ := (show Sep _ _ from hW).to1.b6; have z2_ := hz2.out W hb; obtain ⟨f0, f1, f2, f3, f4, f5⟩ := hel.out W hb; obtain ⟨c0, c1, c2, c3, c4, c5⟩ := hcc.out W hb; have g5 := i5; replace hW := Lib.hid hW; go_simp; try rfl
        case z26 =>
        simp only [Act.put, List.setIfInBounds_toArray, List.set_cons_succ, List.set_cons_zero, List.getElem_toArray, List.getElem_cons_zero, List.getElem_cons_succ]
        refine hl_one rfl (by kernel_rfl) (fun K hK => ?_)
        go_simp
        go_at_call 15
        refine (HK.out _ hS.out.to2.gold).mono ?_
        rintro e w9 ⟨rfl, q9⟩
        replace hS := Lib.hid (hS.out.below q9)
        clear q9
        refine hK.out _ _ hS.out ?_
        clear hK K
        try simp only [Act.put, List.setIfInBounds_toArray, List.set_cons_succ, List.set_cons_zero, List.getElem_toArray, List.getElem_cons_zero, List.getElem_cons_succ]
        refine hl_take ?v27 rfl (by kernel_rfl) ?y27 ?z27
        case y27 => intro W hW; have := hqe; have := i5; have := i8; have := i0; have := hww.out; have := y8.out; have := y9.out; replace hW := Lib.hid hW; go_simp; try rfl
        case z27 =>
        simp only [Act.put, List.setIfInBounds_toArray, List.set_cons_succ, List.set_cons_zero, List.getElem_toArray, List.getElem_cons_zero, List.getElem_cons_succ]
        refine hl_take ?v28 rfl (by kernel_rfl) ?y28 ?z28
        case y28 => intro W hW; have := hqe; have := i5; have := i8; have := i0; have := hww.out; have := y8.out; have := y9.out; replace hW := Lib.hid hW; go_simp; try rfl
        case z28 =>
        simp only [Act.put, List.setIfInBounds_toArray, List.set_cons_succ, List.set_cons_zero, List.getElem_toArray, List.getElem_cons_zero, List.getElem_cons_succ]
        refine hl_done ?_
        go_wp2_with fail
        go_ret
        exact ⟨rfl, hbel.out.trans (hS.out.to2.gold.mono hbel.out.size)⟩
    · have i3 : ¬ (t : Int) < (R.ths.length : Int) := by omega
      have i0 : (0 : Int) ≤ (t : Int) := by omega
      obtain ⟨L0, hL0, e0⟩ : ∃ L0 : List Oq, L0 = [] ∧ R.ths.getD t [] = L0 := ⟨_, rfl, by rw [List.getD_eq_getElem?_getD, List.getElem?_eq_none (by omega)]; rfl⟩
      rw [e0] at st2
      obtain ⟨s1, s2, s3⟩ := st2 (by rw [hL0]; decide)
      obtain ⟨m1, hm1⟩ : ∃ m1, m1 = L0.length := ⟨_, rfl⟩
      clear e0
      clear st1 st2 h32
      have hb21 := Lib.hid (box2 w7 30 #[.slice ta1 R.ths.length tc1, .slice pa1 R.pks.length pc1, .int .i64 R.c0, .int .i64 R.c1, .int .i64 R.c2, .int .i64 R.c3] #[.slice ta2 S.ths.length tc2, .slice pa2 S.pks.length pc2, .int .i64 S.c0, .int .i64 S.c1, .int .i64 S.c2, .int .i64 S.c3])
      obtain ⟨g2, o2, y2, a2, m2, d2, E2, l2, z2, hm2, RL2⟩ := R2.out.hd (k := t) s1
      injection E2 with E2 _ F2
      subst E2
      subst F2
      rw [s2] at hm2 RL2
      have hm3 : m2 = m1 + 1 := by rw [hm2, List.length_append, hm1]; rfl
      subst hm3
      obtain ⟨gb, ob_, rfl, lb, hel0⟩ := op_cells RL2 hm2.symm (by omega)
      have hel1 := hel0 m1 ⟨ok, ot, or_, om, ov, ox⟩ (by rw [hm1, List.getElem?_append_right (Nat.le_refl _), Nat.sub_self]; rfl)
      simp only [← Nat.add_assoc, Nat.add_zero] at hel1
      obtain ⟨f0, f1, f2, f3, f4, f5⟩ := hel1
      obtain rfl : m1 = 0 := by rw [hm1, hL0]; rfl
      simp only [Nat.zero_mul, Nat.add_zero] at f0 f1 f2 f3 f4 f5
      replace hL0 := Lib.hid hL0
      clear hm1
      have i5 : ¬ (32 : Int) ≤ (0 : Int) := by omega
      have hww := Lib.hid trivial
      have y8 := Lib.hid (show (0 : Int) < 1 by omega)
      have y9 := Lib.hid (show (0 : Int) ≤ 0 by omega)
      have i7 : ¬ (S.ths.length : Int) ≤ (t : Int) := by omega
      have i8 : (t : Int) < (S.ths.length : Int) := by omega
      have HK := Lib.hid (fun W (hb : Below w7.heap.size w7 W) => same_pk _ _ S.pks R.pks W (by have := hsm2.pk; omega) (R2.out.pk.below hb) (R1.out.pk.below hb))
      rw [decide_eq_true s3] at HK
      have hqe := fun W => run_eql_op ok ok ot ot or_ or_ om om ov ov ox ox W
      rw [show eqB_op ok ok ot ot or_ or_ om om ov ov ox ox = true by rw [eqB_op_iff]; simp] at hqe
      obtain ⟨_, c0, c1, c2, c3, c4, c5, _⟩ := hB2.out.b6
      have lo := hB2.out.gblk.lt
      have hcc := Lib.hid (fun W (hb : Below w7.heap.size w7 W) => (⟨(hb.cell (p := ⟨w.heap.size, 0, none⟩) lo).trans c0, (hb.cell (p := ⟨w.heap.size, 1, none⟩) lo).trans c1, (hb.cell (p := ⟨w.heap.size, 2, none⟩) lo).trans c2, (hb.cell (p := ⟨w.heap.size, 3, none⟩) lo).trans c3, (hb.cell (p := ⟨w.heap.size, 4, none⟩) lo).trans c4, (hb.cell (p := ⟨w.heap.size, 5, none⟩) lo).trans c5⟩ : W.cell? ⟨w.heap.size, 0, none⟩ = some (.int .i64 ok) ∧ W.cell? ⟨w.heap.size, 1, none⟩ = some (.int .i64 ot) ∧ W.cell? ⟨w.heap.size, 2, none⟩ = some (.int .i64 or_) ∧ W.cell? ⟨w.heap.size, 3, none⟩ = some (.int .i64 om) ∧ W.cell? ⟨w.heap.size, 4, none⟩ = some (.int .i64 ov) ∧ W.cell? ⟨w.heap.size, 5, none⟩ = some (.int .i64 ox)))
      have hz2 := Lib.hid (fun W (hb : Below w7.heap.size w7 W) => (hb.cell (p := ⟨g2, o2 + t, none⟩) l2).trans z2)
      have hel := Lib.hid (fun W (hb : Below w7.heap.size w7 W) => And.intro ((hb.cell (p := ⟨gb, _, none⟩) lb).trans f0) (And.intro ((hb.cell (p := ⟨gb, _, none⟩) lb).trans f1) (And.intro ((hb.cell (p := ⟨gb, _, none⟩) lb).trans f2) (And.intro ((hb.cell (p := ⟨gb, _, none⟩) lb).trans f3) (And.intro ((hb.cell (p := ⟨gb, _, none⟩) lb).trans f4) ((hb.cell (p := ⟨gb, _, none⟩) lb).trans f5))))))
      clear RL2 hel0 s1 s2 s3 R1 R2 hm2
      try clear c0 c1 c2 c3 c4 c5
      clear f0 f1 f2 f3 f4 f5 l2 lb lo hsm hsm2 hB2
      go_wp2_with fail
      have hS := Lib.hid (show (fun W : World => Sep W [blk (w7.heap.size + 1) 30 #[.slice (some ⟨g2, o2, none⟩) S.ths.length tc2, .slice pa2 S.pks.length pc2, .int .i64 S.c0, .int .i64 S.c1, .int .i64 S.c2, .int .i64 S.c3], blk w7.heap.size 30 #[.slice ta1 R.ths.length tc1, .slice pa1 R.pks.length pc1, .int .i64 R.c0, .int .i64 R.c1, .int .i64 R.c2, .int .i64 R.c3], old w7]) _ from hb21.out.drew)
      refine hl_begin (fun W : World => Sep W [blk (w7.heap.size + 1) 30 #[.slice (some ⟨g2, o2, none⟩) S.ths.length tc2, .slice pa2 S.pks.length pc2, .int .i64 S.c0, .int .i64 S.c1, .int .i64 S.c2, .int .i64 S.c3], blk w7.heap.size 30 #[.slice ta1 R.ths.length tc1, .slice pa1 R.pks.length pc1, .int .i64 R.c0, .int .i64 R.c1, .int .i64 R.c2, .int .i64 R.c3], old w7]) [(0, true), (1, true), (2, true), (3, true), (4, true), (5, true), (6, true), (7, true), (8, true), (9, true), (10, true), (11, true), (12, true), (13, true), (14, true), (15, true), (16, true), (17, true), (18, true), (19, true), (20, true), (21, true), (22, true), (23, true), (24, true), (25, true), (26, false), (27, true), (28, true)] (by kernel_rfl) (by kernel_rfl) (by kernel_rfl) rfl (fun _ _ _ _ _ h => h) hS.out ?_
      change HL _ _ _ _ _ _ (World.drew _)
      generalize World.drew _ = wd at *
      refine hl_take ?v29 rfl (by kernel_rfl) ?y29 ?z29
      case y29 => intro W hW; have := hqe; have := i5; have := i8; have := i0; have := hww.out; have := y8.out; have := y9.out; replace hW := Lib.hid hW; go_simp; try rfl
      case z29 =>
      simp only [Act.put, List.setIfInBounds_toArray, List.set_cons_succ, List.set_cons_zero, List.getElem_toArray, List.getElem_cons_zero, List.getElem_cons_succ]
      refine hl_take ?v30 rfl (by kernel_rfl) ?y30 ?z30
      case y30 => intro W hW; have hb := (show Sep _ _ from hW).to2.gold; obtain ⟨_, b0, b1, b2, b3, b4, b5, _⟩ := (show Sep _ _ from hW).b6; obtain ⟨_, a0_, a1_, a2_, a3_, a4_, a5_, _⟩ := (show Sep _ _ from hW).to1.b6; have z2_ := hz2.out W hb; obtain ⟨f0, f1, f2, f3, f4, f5⟩ := hel.out W hb; obtain ⟨c0, c1, c2, c3, c4, c5⟩ := hcc.out W hb; have g5 := i5; replace hW := Lib.hid hW; go_simp; try rfl
      case z30 =>
      simp only [Act.put, List.setIfInBounds_toArray, List.set_cons_succ, List.set_cons_zero, List.getElem_toArray, List.getElem_cons_zero, List.getElem_cons_succ]
      refine hl_take ?v31 rfl (by kernel_rfl) ?y31 ?z31
      case y31 => intro W hW; have := hqe; have := i5; have := i8; have := i0; have := hww.out; have := y8.out; have := y9.out; replace hW := Lib.hid hW; go_simp; try rfl
      case z31 =>
      simp only [Act.put, List.setIfInBounds_toArray, List.set_cons_succ, List.set_cons_zero, List.getElem_toArray, List.getElem_cons_zero, List.getElem_cons_succ]
      refine hl_take ?v32 rfl (by kernel_rfl) ?y32 ?z32
      case y32 => intro W hW; have := hqe; have := i5; have := i8; have := i0; have := hww.out; have := y8.out; have := y9.out; replace hW := Lib.hid hW; go_simp; try rfl
      case z32 =>
      simp only [Act.put, List.setIfInBounds_toArray, List.set_cons_succ, List.set_cons_zero, List.getElem_toArray, List.getElem_cons_zero, List.getElem_cons_succ]
      refine hl_take ?v33 rfl (by kernel_rfl) ?y33 ?z33
      case y33 => intro W hW; have hb := (show Sep _ _ from hW).to2.gold; obtain ⟨_, b0, b1, b2, b3, b4, b5, _⟩ := (show Sep _ _ from hW).b6; obtain ⟨_, a0_, a1_, a2_, a3_, a4_, a5_, _⟩ := (show Sep _ _ from hW).to1.b6; have z2_ := hz2.out W hb; obtain ⟨f0, f1, f2, f3, f4, f5⟩ := hel.out W hb; obtain ⟨c0, c1, c2, c3, c4, c5⟩ := hcc.out W hb; have g5 := i5; replace hW := Lib.hid hW; go_simp; try rfl
      case z33 =>
      simp only [Act.put, List.setIfInBounds_toArray, List.set_cons_succ, List.set_cons_zero, List.getElem_toArray, List.getElem_cons_zero, List.getElem_cons_succ]
      refine hl_take ?v34 rfl (by kernel_rfl) ?y34 ?z34
      case y34 => intro W hW; have := hqe; have := i5; have := i8; have := i0; have := hww.out; have := y8.out; have := y9.out; replace hW := Lib.hid hW; go_simp; try rfl
      case z34 =>
      simp only [Act.put, List.setIfInBounds_toArray, List.set_cons_succ, List.set_cons_zero, List.getElem_toArray, List.getElem_cons_zero, List.getElem_cons_succ]
      refine hl_take ?v35 rfl (by kernel_rfl) ?y35 ?z35
      case y35 => intro W hW; have := hqe; have := i5; have := i8; have := i0; have := hww.out; have := y8.out; have := y9.out; replace hW := Lib.hid hW; go_simp; try rfl
      case z35 =>
      simp only [Act.put, List.setIfInBounds_toArray, List.set_cons_succ, List.set_cons_zero, List.getElem_toArray, List.getElem_cons_zero, List.getElem_cons_succ]
      refine hl_take ?v36 rfl (by kernel_rfl) ?y36 ?z36
      case y36 => intro W hW; have := hqe; have := i5; have := i8; have := i0; have := hww.out; have := y8.out; have := y9.out; replace hW := Lib.hid hW; go_simp; try rfl
      case z36 =>
      simp only [Act.put, List.setIfInBounds_toArray, List.set_cons_succ, List.set_cons_zero, List.getElem_toArray, List.getElem_cons_zero, List.getElem_cons_succ]
      refine hl_take ?v37 rfl (by kernel_rfl) ?y37 ?z37
      case y37 => intro W hW; have := hqe; have := i5; have := i8; have := i0; have := hww.out; have := y8.out; have := y9.out; replace hW := Lib.hid hW; go_simp; try rfl
      case z37 =>
      simp only [Act.put, List.setIfInBounds_toArray, List.set_cons_succ, List.set_cons_zero, List.getElem_toArray, List.getElem_cons_zero, List.getElem_cons_succ]
      refine hl_take ?v38 rfl (by kernel_rfl) ?y38 ?z38
      case y38 => intro W hW; have := hqe; have := i5; have := i8; have := i0; have := hww.out; have := y8.out; have := y9.out; replace hW := Lib.hid hW; go_simp; try rfl
      case z38 =>
      simp only [Act.put, List.setIfInBounds_toArray, List.set_cons_succ, List.set_cons_zero, List.getElem_toArray, List.getElem_cons_zero, List.getElem_cons_succ]
      refine hl_take ?v39 rfl (by kernel_rfl) ?y39 ?z39
      case y39 => intro W hW; have := hqe; have := i5; have := i8; have := i0; have := hww.out; have := y8.out; have := y9.out; replace hW := Lib.hid hW; go_simp; try rfl
      case z39 =>
      simp only [Act.put, List.setIfInBounds_toArray, List.set_cons_succ, List.set_cons_zero, List.getElem_toArray, List.getElem_cons_zero, List.getElem_cons_succ]
      refine hl_take ?v40 rfl (by kernel_rfl) ?y40 ?z40
      case y40 => intro W hW; have hb := (show Sep _ _ from hW).to2.gold; obtain ⟨_, b0, b1, b2, b3, b4, b5, _⟩ := (show Sep _ _ from hW).b6; obtain ⟨_, a0_, a1_, a2_, a3_, a4_, a5_, _⟩ := (show Sep _ _ from hW).to1.b6; have z2_ := hz2.out W hb; obtain ⟨f0, f1, f2, f3, f4, f5⟩ := hel.out W hb; obtain ⟨c0, c1, c2, c3, c4, c5⟩ := hcc.out W hb; have g5 := i5; replace hW := Lib.hid hW; go_simp; try rfl
      case z40 =>
      simp only [Act.put, List.setIfInBounds_toArray, List.set_cons_succ, List.set_cons_zero, List.getElem_toArray, List.getElem_cons_zero, List.getElem_cons_succ]
      refine hl_take ?v41 rfl (by kernel_rfl) ?y41 ?z41
      case y41 => intro W hW; have := hqe; have := i5; have := i8; have := i0; have := hww.out; have := y8.out; have := y9.out; replace hW := Lib.hid hW; go_simp; try rfl
      case z41 =>
      simp only [Act.put, List.setIfInBounds_toArray, List.set_cons_succ, List.set_cons_zero, List.getElem_toArray, List.getElem_cons_zero, List.getElem_cons_succ]
      refine hl_take ?v42 rfl (by kernel_rfl) ?y42 ?z42
      case y42 => intro W hW; have := hqe; have := i5; have := i8; have := i0; have := hww.out; have := y8.out; have := y9.out; replace hW := Lib.hid hW; go_simp; try rfl
      case z42 =>
      simp only [Act.put, List.setIfInBounds_toArray, List.set_cons_succ, List.set_cons_zero, List.getElem_toArray, List.getElem_cons_zero, List.getElem_cons_succ]
      refine hl_take ?v43 rfl (by kernel_rfl) ?y43 ?z43
      case y43 => intro W hW; have hb := (show Sep _ _ from hW).to2.gold; obtain ⟨_, b0, b1, b2, b3, b4, b5, _⟩ := (show Sep _ _ from hW).b6; obtain ⟨_, a0_, a1_, a2_, a3_, a4_, a5_, _⟩ := (show Sep _ _ from hW).to1.b6; have z2_ := hz2.out W hb; obtain ⟨f0, f1, f2, f3, f4, f5⟩ := hel.out W hb; obtain ⟨c0, c1, c2, c3, c4, c5⟩ := hcc.out W hb; have g5 := i5; replace hW := Lib.hid hW; go_simp; try rfl
      case z43 =>
      simp only [Act.put, List.setIfInBounds_toArray, List.set_cons_succ, List.set_cons_zero, List.getElem_toArray, List.getElem_cons_zero, List.getElem_cons_succ]
      refine hl_take ?v44 rfl (by kernel_rfl) ?y44 ?z44
      case y44 => intro W hW; have := hqe; have := i5; have := i8; have := i0; have := hww.out; have := y8.out; have := y9.out; replace hW := Lib.hid hW; go_simp; try rfl
      case z44 =>
      simp only [Act.put, List.setIfInBounds_toArray, List.set_cons_succ, List.set_cons_zero, List.getElem_toArray, List.getElem_cons_zero, List.getElem_cons_succ]
      refine hl_take ?v45 rfl (by kernel_rfl) ?y45 ?z45
      case y45 => intro W hW; have := hqe; have := i5; have := i8; have := i0; have := hww.out; have := y8.out; have := y9.out; replace hW := Lib.hid hW; go_simp; try rfl
      case z45 =>
      simp only [Act.put, List.setIfInBounds_toArray, List.set_cons_succ, List.set_cons_zero, List.getElem_toArray, List.getElem_cons_zero, List.getElem_cons_succ]
      refine hl_take ?v46 rfl (by kernel_rfl) ?y46 ?z46
      case y46 => intro W hW; have hb := (show Sep _ _ from hW).to2.gold; obtain ⟨_, b0, b1, b2, b3, b4, b5, _⟩ := (show Sep _ _ from hW).b6; obtain ⟨_, a0_, a1_, a2_, a3_, a4_, a5_, _⟩ := (show Sep _ _ from hW).to1.b6; have z2_ := hz2.out W hb; obtain ⟨f0, f1, f2, f3, f4, f5⟩ := hel.out W hb; obtain ⟨c0, c1, c2, c3, c4, c5⟩ := hcc.out W hb; have g5 := i5; replace hW := Lib.hid hW; go_simp; try rfl
      case z46 =>
      simp only [Act.put, List.setIfInBounds_toArray, List.set_cons_succ, List.set_cons_zero, List.getElem_toArray, List.getElem_cons_zero, List.getElem_cons_succ]
      refine hl_take ?v47 rfl (by kernel_rfl) ?y47 ?z47
      case y47 => intro W hW; have hb := (show Sep _ _ from hW).to2.gold; obtain ⟨_, b0, b1, b2, b3, b4, b5, _⟩ := (show Sep _ _ from hW).b6; obtain ⟨_, a0_, a1_, a2_, a3_, a4_, a5_, _⟩ := (show Sep _ _ from hW).to1.b6; have z2_ := hz2.out W hb; obtain ⟨f0, f1, f2, f3, f4, f5⟩ := hel.out W hb; obtain ⟨c0, c1, c2, c3, c4, c5⟩ := hcc.out W hb; have g5 := i5; replace hW := Lib.hid hW; go_simp; try rfl
      case z47 =>
      simp only [Act.put, List.setIfInBounds_toArray, List.set_cons_succ, List.set_cons_zero, List.getElem_toArray, List.getElem_cons_zero, List.getElem_cons_succ]
      refine hl_take ?v48 rfl (by kernel_rfl) ?y48 ?z48
      case y48 => intro W hW; have := hqe; have := i5; have := i8; have := i0; have := hww.out; have := y8.out; have := y9.out; replace hW := Lib.hid hW; go_simp; try rfl
      case z48 =>
      simp only [Act.put, List.setIfInBounds_toArray, List.set_cons_succ, List.set_cons_zero, List.getElem_toArray, List.getElem_cons_zero, List.getElem_cons_succ]
      refine hl_take ?v49 rfl (by kernel_rfl) ?y49 ?z49
      case y49 => intro W hW; have := hqe; have := i5; have := i8; have := i0; have := hww.out; have := y8.out; have := y9.out; replace hW := Lib.hid hW; go_simp; try rfl
      case z49 =>
      simp only [Act.put, List.setIfInBounds_toArray, List.set_cons_succ, List.set_cons_zero, List.getElem_toArray, List.getElem_cons_zero, List.getElem_cons_succ]
      refine hl_take ?v50 rfl (by kernel_rfl) ?y50 ?z50
      case y50 => intro W hW; have := hqe; have := i5; have := i8; have := i0; have := hww.out; have := y8.out; have := y9.out; replace hW := Lib.hid hW; go_simp; try rfl
      case z50 =>
      simp only [Act.put, List.setIfInBounds_toArray, List.set_cons_succ, List.set_cons_zero, List.getElem_toArray, List.getElem_cons_zero, List.getElem_cons_succ]
      refine hl_take ?v51 rfl (by kernel_rfl) ?y51 ?z51
      case y51 => intro W hW; have := hqe; have := i5; have := i8; have := i0; have := hww.out; have := y8.out; have := y9.out; replace hW := Lib.hid hW; go_simp; try rfl
      case z51 =>
      simp only [Act.put, List.setIfInBounds_toArray, List.set_cons_succ, List.set_cons_zero, List.getElem_toArray, List.getElem_cons_zero, List.getElem_cons_succ]
      refine hl_take ?v52 rfl (by kernel_rfl) ?y52 ?z52
      case y52 => intro W hW; have hb := (show Sep _ _ from hW).to2.gold; obtain ⟨_, b0, b1, b2, b3, b4, b5, _⟩ := (show Sep _ _ from hW).b6; obtain ⟨_, a0_, a1_, a2_, a3_, a4_, a5_, _⟩ := (show Sep _ _ from hW).to1.b6; have z2_ := hz2.out W hb; obtain ⟨f0, f1, f2, f3, f4, f5⟩ := hel.out W hb; obtain ⟨c0, c1, c2, c3, c4, c5⟩ := hcc.out W hb; have g5 := i5; replace hW := Lib.hid hW; go_simp; try rfl
      case z52 =>
      simp only [Act.put, List.setIfInBounds_toArray, List.set_cons_succ, List.set_cons_zero, List.getElem_toArray, List.getElem_cons_zero, List.getElem_cons_succ]
      refine hl_take ?v53 rfl (by kernel_rfl) ?y53 ?z53
      case y53 => intro W hW; have := hqe; have := i5; have := i8; have := i0; have := hww.out; have := y8.out; have := y9.out; replace hW := Lib.hid hW; go_simp; try rfl
      case z53 =>
      simp only [Act.put, List.setIfInBounds_toArray, List.set_cons_succ, List.set_cons_zero, List.getElem_toArray, List.getElem_cons_zero, List.getElem_cons_succ]
      refine hl_take ?v54 rfl (by kernel_rfl) ?y54 ?z54
      case y54 => intro W hW; have hb := (show Sep _ _ from hW).to2.gold; obtain ⟨_, b0, b1, b2, b3, b4, b5, _⟩ := (show Sep _ _ from hW).b6; obtain ⟨_, a0_, a1_, a2_, a3_, a4_, a5_, _⟩ := (show Sep _ _ from hW).to1.b6; have z2_ := hz2.out W hb; obtain ⟨f0, f1, f2, f3, f4, f5⟩ := hel.out W hb; obtain ⟨c0, c1, c2, c3, c4, c5⟩ := hcc.out W hb; have g5 := i5; replace hW := Lib.hid hW; go_simp; try rfl
      case z54 =>
      simp only [Act.put, List.setIfInBounds_toArray, List.set_cons_succ, List.set_cons_zero, List.getElem_toArray, List.getElem_cons_zero, List.getElem_cons_succ]
      refine hl_one rfl (by kernel_rfl) (fun K hK => ?_)
      go_simp
      go_at_call 15
      refine (HK.out _ hS.out.to2.gold).mono ?_
      rintro e w9 ⟨rfl, q9⟩
      replace hS := Lib.hid (hS.out.below q9)
      clear q9
      refine hK.out _ _ hS.out ?_
      clear hK K
      try simp only [Act.put, List.setIfInBounds_toArray, List.set_cons_succ, List.set_cons_zero, List.getElem_toArray, List.getElem_cons_zero, List.getElem_cons_succ]
      refine hl_take ?v55 rfl (by kernel_rfl) ?y55 ?z55
      case y55 => intro W hW; have := hqe; have := i5; have := i8; have := i0; have := hww.out; have := y8.out; have := y9.out; replace hW := Lib.hid hW; go_simp; try rfl
      case z55 =>
      simp only [Act.put, List.setIfInBounds_toArray, List.set_cons_succ, List.set_cons_zero, List.getElem_toArray, List.getElem_cons_zero, List.getElem_cons_succ]
      refine hl_take ?v56 rfl (by kernel_rfl) ?y56 ?z56
      case y56 => intro W hW; have := hqe; have := i5; have := i8; have := i0; have := hww.out; have := y8.out; have := y9.out; replace hW := Lib.hid hW; go_simp; try rfl
      case z56 =>
      simp only [Act.put, List.setIfInBounds_toArray, List.set_cons_succ, List.set_cons_zero, List.getElem_toArray, List.getElem_cons_zero, List.getElem_cons_succ]
      refine hl_done ?_
      go_wp2_with fail
      go_ret
      exact ⟨rfl, hbel.out.trans (hS.out.to2.gold.mono hbel.out.size)⟩
theorem ops_walk (b : ByteArray) (th : Int) (o : Oq) (w : World) :
    Calls Tryd.prog 4 #[.string b, .int .i64 th, .agg (oC o).toArray] w fun e w' => e = .returned (.bool true) ∧ Below w.heap.size w w' := by
  by_cases h1 : b.size ≤ 1600
  · exact ops_main b th o w h1
  · obtain ⟨ok, ot, or_, om, ov, ox⟩ := o
    simp only [oC]
    have hB := Lib.hid (boxO w #[.int .i64 ok, .int .i64 ot, .int .i64 or_, .int .i64 om, .int .i64 ov, .int .i64 ox])
    have i1 : (1600 : Int) < (b.size : Int) := by omega
    clear h1
    go_enter Tryd.func4, Tryd.ntmps4
    go_wp2_with fail
    refine (lives_any _).mono ?_
    rintro e w1 ⟨rfl, b1⟩
    replace hB := Lib.hid (hB.out.below b1)
    clear b1
    go_wp2_with fail
    go_ret
    exact ⟨rfl, hB.out.tail.gold⟩
end Go.Proofs.YtdpolejbceoldaaDoor
