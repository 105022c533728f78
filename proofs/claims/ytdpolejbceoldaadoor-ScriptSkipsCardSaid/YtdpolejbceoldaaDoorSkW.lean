/-
  ScriptSkips, walked. No condition.
-/
import Derived.Test.YtdpolejbceoldaaDoorScL
import Derived.Test.YtdpolejbceoldaaDoorPick
namespace Go.Proofs.YtdpolejbceoldaaDoor
set_option linter.unusedSimpArgs false
set_option linter.unusedVariables false
set_option linter.unnecessarySimpa false
open Go.RowKit
set_option maxHeartbeats 4000000 in
set_option maxRecDepth 100000 in
theorem skips_main (b x more : ByteArray) (at_ : Int) (w : World) (h1 : b.size ≤ 1600) (hx : x.size = 8) (h3 : more.size < 8) :
    Calls Tryd.prog 3 #[.string b, .int .i64 at_, .string x, .string more] w fun e w' => e = .returned (.bool true) ∧ Below w.heap.size w w' := by
  have HLv := Lib.hid (lives_any w)
  have i1 : ¬ (1600 : Int) < (b.size : Int) := by omega
  have i3 : ¬ (8 : Int) ≤ (more.size : Int) := by omega
  go_enter Tryd.func3, Tryd.ntmps3
  go_wp2_with fail
  refine HLv.out.mono ?_
  rintro e w1 ⟨rfl, b1⟩
  replace b1 := Lib.hid b1
  go_wp2_with fail
  obtain ⟨M, hM⟩ : ∃ M, min (b.size / 8 * 8) b.size = 8 * M := ⟨b.size / 8, by omega⟩
  have hcs : (b.extract 0 (b.size / 8 * 8)).size = 8 * M := by rw [ByteArray.size_extract]; omega
  have hM2 : M ≤ 200 := by omega
  rw [hM]
  generalize b.extract 0 (b.size / 8 * 8) = c at *
  have e8 : ((8 * M : Nat) : Int) / 8 = (M : Int) := by omega
  rw [e8]
  obtain ⟨k, hk⟩ := pick_nat at_ ((M : Int) + 1) (by omega) (by omega)
  have hkM : k ≤ M := by have := hk.lt; omega
  have HP := hk.run
  have hread : readB (c ++ more) = readB c := readB_more c more (by omega) h3
  have hsm : ScSm (readB c) := (readN_ok (bt c) (fun j => (bt_bd c j).1) _).sm
  have hskip := Lib.hid (readB_skip c x k (by omega) hx (by omega))
  have HR1 := Lib.hid (fun W => read_any c W)
  have HR2 := Lib.hid (fun W => read_any (c ++ more) W)
  rw [hread] at HR2
  have A1 := fun W => run_string_add_sum (P := Tryd.prog) W c more (by omega)
  obtain ⟨S, hS⟩ : ∃ S, readB c = S := ⟨_, rfl⟩
  rw [hS] at HR1 HR2 hsm
  replace hS := Lib.hid hS
  clear hM e8 hread hk
  replace hcs := Lib.hid hcs
  refine (HP.out _).mono ?_
  rintro e w2 ⟨rfl, rfl⟩
  clear HP
  have i4 : (k : Int) ≤ 200 := by omega
  have i5 : (0 : Int) ≤ (k : Int) := by omega
  go_wp2_with fail
  refine (HR1.out _).mono ?_
  rintro e w2 ⟨t1, p1, rfl, q1⟩
  obtain ⟨v1, R1⟩ := scV_reads q1
  have b2 := Lib.hid (b1.out.trans (q1.to1.gold.mono b1.out.size))
  replace R1 := Lib.hid R1
  clear q1
  go_wp2_with fail
  refine (HR2.out _).mono ?_
  rintro e w3 ⟨t2, p2, rfl, q2⟩
  obtain ⟨v2, R2⟩ := scV_reads q2
  have b3 := Lib.hid (b2.out.trans (q2.to1.gold.mono b2.out.size))
  have HK := Lib.hid (sameK_true t1 p1 t2 p2 S v1 v2 w3 hsm (R1.out.below q2.to1.gold) R2)
  clear q2 R2 R1
  go_wp2_with fail
  refine HK.out.mono ?_
  rintro e w4 ⟨rfl, q4⟩
  have b4 := Lib.hid (b3.out.trans (q4.mono b3.out.size))
  clear q4 HK HR2
  go_wp2_with fail
  have HE := fun W => entry_any x hx W
  have hg := bt_get x
  cases hB : isOp (bt x) with
  | true =>
    simp only [entV, hB, oC, opOf, if_true] at HE
    replace HE := Lib.hid HE
    clear hB A1
    refine (HE.out _).mono ?_
    rintro e w5 ⟨rfl, q5⟩
    have b5 := Lib.hid (b4.out.trans (q5.mono b4.out.size))
    clear q5 HE
    go_wp2_with fail
    go_ret
    exact ⟨rfl, (b5.out.alloc b5.out.size _)⟩
  | false =>
    simp only [entV, hB, oC, Bool.false_eq_true, if_false] at HE
    replace HE := Lib.hid HE
    refine (HE.out _).mono ?_
    rintro e w5 ⟨rfl, q5⟩
    have b5 := Lib.hid (b4.out.trans (q5.mono b4.out.size))
    clear q5 HE
    by_cases h1 : bt x 0 = 1
    · have e1 : (bt x 0 == 1) = true := by rw [h1]; rfl
      clear hB h1 A1
      go_wp2_with fail
      go_ret
      exact ⟨rfl, (b5.out.alloc b5.out.size _)⟩
    by_cases h3 : bt x 0 = 3
    · have e1 : (bt x 0 == 1) = false := beq_eq_false_iff_ne.2 h1
      have e3 : (bt x 0 == 3) = true := by rw [h3]; rfl
      clear hB h1 h3 A1
      go_wp2_with fail
      go_ret
      exact ⟨rfl, (b5.out.alloc b5.out.size _)⟩
    have e1 : (bt x 0 == 1) = false := beq_eq_false_iff_ne.2 h1
    have e3 : (bt x 0 == 3) = false := beq_eq_false_iff_ne.2 h3
    have hsk := hskip.out (fun s => step_skip s h1 h3 hB)
    have hkn : (8 * (k : Int)).toNat = 8 * k := by omega
    have i6 : 8 * (k : Int) ≤ (c.size : Int) := by have := hcs.out; omega
    have i7 : 0 ≤ 8 * (k : Int) := by omega
    have A2 := fun W => run_string_add_sum (P := Tryd.prog) W (c.extract 0 (8 * k)) x (by have := hcs.out; rw [ByteArray.size_extract]; omega)
    have A3 := fun W => run_string_add_sum (P := Tryd.prog) W (c.extract 0 (8 * k) ++ x) (c.extract (8 * k) c.size) (by have := hcs.out; rw [ByteArray.size_append, ByteArray.size_extract, ByteArray.size_extract]; omega)
    have HR3 := Lib.hid (fun W => read_any (c.extract 0 (8 * k) ++ x ++ c.extract (8 * k) c.size) W)
    rw [hsk, hS.out] at HR3
    clear hB h1 h3 A1 hsk
    go_wp2_with fail
    have hS := Lib.hid (show (fun W : World => Below w.heap.size w W) _ from (b5.out.alloc b5.out.size (.cells #[.int .i64 0, .int .i64 0, .int .i64 0, .int .i64 0, .int .i64 0, .int .i64 0] 36)).drew)
    refine hl_begin (fun W : World => Below w.heap.size w W) [(0, true), (2, true), (3, true), (4, true), (5, true), (6, true), (7, true), (8, true), (9, true), (10, true), (1, false), (11, false), (12, false), (13, true)] (by kernel_rfl) (by kernel_rfl) (by kernel_rfl) rfl (fun _ _ _ _ _ h => h) hS.out ?_
    change HL _ _ _ _ _ _ (World.drew _)
    generalize World.drew _ = wd at *
    refine hl_take ?v1 rfl (by kernel_rfl) ?y1 ?z1
    case y1 => intro W hW; have := A2; have := A3; have := hkn; have := i6; have := i7; replace hW := Lib.hid hW; go_simp; try rfl
    case z1 =>
    simp only [Act.put, List.setIfInBounds_toArray, List.set_cons_succ, List.set_cons_zero, List.getElem_toArray, List.getElem_cons_zero, List.getElem_cons_succ]
    refine hl_take ?v2 rfl (by kernel_rfl) ?y2 ?z2
    case y2 => intro W hW; have := A2; have := A3; have := hkn; have := i6; have := i7; replace hW := Lib.hid hW; go_simp; try rfl
    case z2 =>
    simp only [Act.put, List.setIfInBounds_toArray, List.set_cons_succ, List.set_cons_zero, List.getElem_toArray, List.getElem_cons_zero, List.getElem_cons_succ]
    refine hl_take ?v3 rfl (by kernel_rfl) ?y3 ?z3
    case y3 => intro W hW; have := A2; have := A3; have := hkn; have := i6; have := i7; replace hW := Lib.hid hW; go_simp; try rfl
    case z3 =>
    simp only [Act.put, List.setIfInBounds_toArray, List.set_cons_succ, List.set_cons_zero, List.getElem_toArray, List.getElem_cons_zero, List.getElem_cons_succ]
    refine hl_take ?v4 rfl (by kernel_rfl) ?y4 ?z4
    case y4 => intro W hW; have := A2; have := A3; have := hkn; have := i6; have := i7; replace hW := Lib.hid hW; go_simp; try rfl
    case z4 =>
    simp only [Act.put, List.setIfInBounds_toArray, List.set_cons_succ, List.set_cons_zero, List.getElem_toArray, List.getElem_cons_zero, List.getElem_cons_succ]
    refine hl_take ?v5 rfl (by kernel_rfl) ?y5 ?z5
    case y5 => intro W hW; have := A2; have := A3; have := hkn; have := i6; have := i7; replace hW := Lib.hid hW; go_simp; try rfl
    case z5 =>
    simp only [Act.put, List.setIfInBounds_toArray, List.set_cons_succ, List.set_cons_zero, List.getElem_toArray, List.getElem_cons_zero, List.getElem_cons_succ]
    refine hl_take ?v6 rfl (by kernel_rfl) ?y6 ?z6
    case y6 => intro W hW; have := A2; have := A3; have := hkn; have := i6; have := i7; replace hW := Lib.hid hW; go_simp; try rfl
    case z6 =>
    simp only [Act.put, List.setIfInBounds_toArray, List.set_cons_succ, List.set_cons_zero, List.getElem_toArray, List.getElem_cons_zero, List.getElem_cons_succ]
    refine hl_take ?v7 rfl (by kernel_rfl) ?y7 ?z7
    case y7 => intro W hW; have := A2; have := A3; have := hkn; have := i6; have := i7; replace hW := Lib.hid hW; go_simp; try rfl
    case z7 =>
    simp only [Act.put, List.setIfInBounds_toArray, List.set_cons_succ, List.set_cons_zero, List.getElem_toArray, List.getElem_cons_zero, List.getElem_cons_succ]
    refine hl_take ?v8 rfl (by kernel_rfl) ?y8 ?z8
    case y8 => intro W hW; have := A2; have := A3; have := hkn; have := i6; have := i7; replace hW := Lib.hid hW; go_simp; try rfl
    case z8 =>
    simp only [Act.put, List.setIfInBounds_toArray, List.set_cons_succ, List.set_cons_zero, List.getElem_toArray, List.getElem_cons_zero, List.getElem_cons_succ]
    refine hl_take ?v9 rfl (by kernel_rfl) ?y9 ?z9
    case y9 => intro W hW; have := A2; have := A3; have := hkn; have := i6; have := i7; replace hW := Lib.hid hW; go_simp; try rfl
    case z9 =>
    simp only [Act.put, List.setIfInBounds_toArray, List.set_cons_succ, List.set_cons_zero, List.getElem_toArray, List.getElem_cons_zero, List.getElem_cons_succ]
    refine hl_take ?v10 rfl (by kernel_rfl) ?y10 ?z10
    case y10 => intro W hW; have := A2; have := A3; have := hkn; have := i6; have := i7; replace hW := Lib.hid hW; go_simp; try rfl
    case z10 =>
    simp only [Act.put, List.setIfInBounds_toArray, List.set_cons_succ, List.set_cons_zero, List.getElem_toArray, List.getElem_cons_zero, List.getElem_cons_succ]
    refine hl_one rfl (by kernel_rfl) (fun K hK => ?_)
    go_simp
    go_at_call 11
    refine (HR1.out _).mono ?_
    rintro e w6 ⟨t3, p3, rfl, q1⟩
    obtain ⟨v1, R1⟩ := scV_reads q1
    replace R1 := Lib.hid R1
    replace hS := Lib.hid (show Below w.heap.size w w6 from hS.out.trans (q1.to1.gold.mono hS.out.size))
    clear q1
    refine hK.out _ _ hS.out ?_
    clear hK K
    try simp only [Act.put, List.setIfInBounds_toArray, List.set_cons_succ, List.set_cons_zero, List.getElem_toArray, List.getElem_cons_zero, List.getElem_cons_succ]
    refine hl_one rfl (by kernel_rfl) (fun K hK => ?_)
    go_simp
    go_at_call 11
    refine (HR3.out _).mono ?_
    rintro e w7 ⟨t4, p4, rfl, q2⟩
    obtain ⟨v2, R2⟩ := scV_reads q2
    have HK := Lib.hid (sameK_true t3 p3 t4 p4 S v1 v2 w7 hsm (R1.out.below q2.to1.gold) R2)
    replace hS := Lib.hid (show Below w.heap.size w w7 from hS.out.trans (q2.to1.gold.mono hS.out.size))
    clear q2 R1 R2
    refine hK.out _ _ hS.out ?_
    clear hK K
    try simp only [Act.put, List.setIfInBounds_toArray, List.set_cons_succ, List.set_cons_zero, List.getElem_toArray, List.getElem_cons_zero, List.getElem_cons_succ]
    refine hl_one rfl (by kernel_rfl) (fun K hK => ?_)
    go_simp
    go_at_call 10
    refine HK.out.mono ?_
    rintro e w8 ⟨rfl, q2⟩
    replace hS := Lib.hid (show Below w.heap.size w w8 from hS.out.trans (q2.mono hS.out.size))
    clear q2 HK
    refine hK.out _ _ hS.out ?_
    clear hK K
    try simp only [Act.put, List.setIfInBounds_toArray, List.set_cons_succ, List.set_cons_zero, List.getElem_toArray, List.getElem_cons_zero, List.getElem_cons_succ]
    refine hl_take ?v11 rfl (by kernel_rfl) ?y11 ?z11
    case y11 => intro W hW; have := A2; have := A3; have := hkn; have := i6; have := i7; replace hW := Lib.hid hW; go_simp; try rfl
    case z11 =>
    simp only [Act.put, List.setIfInBounds_toArray, List.set_cons_succ, List.set_cons_zero, List.getElem_toArray, List.getElem_cons_zero, List.getElem_cons_succ]
    refine hl_done ?_
    go_wp2_with fail
    go_ret
    exact ⟨rfl, hS.out⟩
theorem skips_walk (b : ByteArray) (at_ : Int) (x more : ByteArray) (w : World) :
    Calls Tryd.prog 3 #[.string b, .int .i64 at_, .string x, .string more] w fun e w' => e = .returned (.bool true) ∧ Below w.heap.size w w' := by
  by_cases h1 : b.size ≤ 1600
  · by_cases hx : x.size = 8
    · by_cases h3 : more.size < 8
      · exact skips_main b x more at_ w h1 hx h3
      · have HLv := Lib.hid (lives_any w)
        have i1 : ¬ (1600 : Int) < (b.size : Int) := by omega
        have i3 : (8 : Int) ≤ (more.size : Int) := by omega
        go_enter Tryd.func3, Tryd.ntmps3
        go_wp2_with fail
        refine HLv.out.mono ?_
        rintro e w1 ⟨rfl, b1⟩
        replace b1 := Lib.hid b1
        go_wp2_with fail
        go_ret
        exact ⟨rfl, b1.out⟩
    · have HLv := Lib.hid (lives_any w)
      have i1 : ¬ (1600 : Int) < (b.size : Int) := by omega
      have i2 : (((x.size : Nat) : Int) != 8) = true := by rw [bne_iff_ne]; omega
      clear hx
      go_enter Tryd.func3, Tryd.ntmps3
      go_wp2_with fail
      refine HLv.out.mono ?_
      rintro e w1 ⟨rfl, b1⟩
      replace b1 := Lib.hid b1
      go_wp2_with fail
      go_ret
      exact ⟨rfl, b1.out⟩
  · have HLv := Lib.hid (lives_any w)
    have i1 : (1600 : Int) < (b.size : Int) := by omega
    clear h1
    go_enter Tryd.func3, Tryd.ntmps3
    go_wp2_with fail
    refine HLv.out.mono ?_
    rintro e w1 ⟨rfl, b1⟩
    replace b1 := Lib.hid b1
    go_wp2_with fail
    go_ret
    exact ⟨rfl, b1.out⟩
end Go.Proofs.YtdpolejbceoldaaDoor
