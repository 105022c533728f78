/-
  The walk of StoreScript. No condition beside acts that can be read.
-/
import Derived.Test.YtbpeajcfabjphaaS23c
import Derived.Test.YtbpeajcfabjphaaTAct
import Derived.Test.YtbpeajcfabjphaaSLv
import Derived.Test.YtbpeajcfabjphaaPick
namespace Go.Proofs.Ytbpeajcfabjphaa
open Go.RowKit
theorem eqB_was_self (a b c : Int) (d : Bool) : eqB_was a a b b c c d d = true := by
  rw [eqB_was_iff]
  simp
set_option maxHeartbeats 64000000 in
set_option maxRecDepth 100000 in
theorem sscript_walk (a0 : Option Addr) (len0 cap0 : Nat) (L0 : List A4) (tb : Int) (w : World) (hv0 : RL w (.slice a0 len0 cap0) 4 len0 (a4cells L0)) (hn0 : L0.length = len0) :
    Calls Try.prog 6 #[.slice a0 len0 cap0, .int .i64 tb] w fun e w' => e = .returned (.bool true) ∧ Below w.heap.size w w' := by
  have HV0 := Lib.hid hv0
  have hl0 := Lib.hid hn0
  clear hv0 hn0
  have h00 : srtE ([] : Ent) = [] := List.eq_nil_of_length_eq_zero (by rw [srtE_len]; rfl)
  by_cases h80 : len0 ≤ 80
  · have i80 : ¬ ((80 : Int) < (len0 : Int)) := by omega
    go_enter Try.func6, Try.ntmps6
    go_wp2_with fail
    refine (lives_any _).mono ?_
    rintro e w1 ⟨rfl, q0⟩
    have hV := Lib.hid ((Sep.start w).below q0)
    clear q0
    go_wp2_with fail
    refine (new_x _).mono ?_
    rintro e w3 ⟨p0, rfl, q2⟩
    replace hV := Lib.hid (q2.graft hV.out)
    clear q2
    go_wp2_with fail
    refine (rnew_x _).mono ?_
    rintro e w4 ⟨po, rfl, q3⟩
    replace hV := Lib.hid (q3.graft hV.out).to1
    clear q3
    go_wp2_with fail
    refine (clone_x p0 [] _ _ hV.out).mono ?_
    rintro e w5 ⟨pd0, rfl, q3⟩
    replace hV := Lib.hid (q3.bring 2 rfl)
    clear q3
    go_wp2_with fail
    refine (rclone_x po [] _ _ hV.out (by simp)).mono ?_
    rintro e w6 ⟨pw0, rfl, q3⟩
    replace hV := Lib.hid (show Sep w6 [stX p0 [], rX po (srtE []), stX pd0 [], rX pw0 (srtE []), old w] from by
      rw [h00]
      exact ((q3.bring 2 rfl).bring 2 rfl).bring 3 rfl)
    clear q3 h00
    go_wp2_with fail
    go_loopg [5, 7, 8, 9] len0 (fun gm s5 s7 s8 s9 W => ∃ (k p pd pw : Nat) (E Eo : Ent), k ≤ len0 ∧ gm = len0 - k ∧ s5 = .pointer (some ⟨p, 0, none⟩) ∧ s7 = .pointer (some ⟨pd, 0, none⟩) ∧ s8 = .pointer (some ⟨pw, 0, none⟩) ∧ s9 = .int .i64 k ∧ Hid (E.length ≤ k) ∧ Hid (Eo.length ≤ k) ∧ Hid (Sep W [stX p E, rX po (srtE E), stX pd Eo, rX pw (srtE Eo), old w]))
    case atStart => exact ⟨0, p0, pd0, pw0, [], [], Nat.zero_le _, rfl, rfl, rfl, rfl, rfl, Lib.hid (Nat.le_refl _), Lib.hid (Nat.le_refl _), hV⟩
    case round =>
      clear hV
      obtain ⟨k, p, pd, pw, E, Eo, hk, hgm, rfl, rfl, rfl, rfl, hEl, hEo, hV⟩ := hrel
      by_cases hlt : k < len0
      · obtain ⟨b, off, rfl, hb, zz⟩ := a4_at HV0.out hl0.out (by omega)
        obtain ⟨x, hx⟩ : ∃ x, L0[k]? = some x := ⟨L0[k]'(by rw [hl0.out]; exact hlt), List.getElem?_eq_getElem _⟩
        have kk : ∀ o, w.cell? ⟨b, o, none⟩ = wr.cell? ⟨b, o, none⟩ := fun o => (hV.out.to4.gold.cell (p := ⟨b, o, none⟩) hb).symm
        have z0 := zz k x hx 0 _ rfl
        have z1 := zz k x hx 1 _ rfl
        have z2 := zz k x hx 2 _ rfl
        have z3 := zz k x hx 3 _ rfl
        rw [kk] at z0 z1 z2 z3
        simp only [← Nat.add_assoc, Nat.add_zero] at z0 z1 z2 z3
        have i1 : (0 : Int) ≤ (k : Int) := by omega
        have i2 : (k : Int) < (len0 : Int) := by omega
        have hms := Lib.hid (show len0 - (k + 1) < len0 - k from Nat.sub_lt_sub_left hlt (Nat.lt_succ_self k))
        clear zz hx kk
        obtain ⟨kd, t, r, v⟩ := x
        simp only at z0 z1 z2 z3
        obtain ⟨kp, PK⟩ := pick_nat kd 3 (by omega) (by omega)
        have hkp5 := PK.lt
        have hP := PK.run
        clear PK
        have h5 : (kp : Int) = 0 ∨ (kp : Int) = 1 ∨ (kp : Int) = 2 := by omega
        clear hkp5
        go_wp2_with fail
        rename_i K3 aK3 K2 aK2 K1 aK1 K0 aK0
        have htail : Hid (∀ {g p pd pw : Nat} {E2 Eo : Ent} {W : World} {x4 x12 x13 x14 x15 x16 x17 x18 x19 x20 x21 x22 x23 x35 x36 x37 x38 x39 x40 x41 x42 x43 x44 x45 x46 x47 x48 x49 x50 x51 x52 x53 x54 x55 x56 x57 x58 x59 x60 x61 x62 x63 x64 x65 x66 x67 x68 x69 x70 x71 x72 x73 x74 x75 x76 x77 x78 x79 x80 x81 x82 x83 x84 x85 x86 x87 x88 x89 x90 x91 x92 x93 x94 x95 x96 x97 x98 x99 x100 x101 x102 x103 x104 x105 x106 x107 x108 x109 x110 x111 x112 x113 x114 x115 x116 x117 x118 x119 x120 x121 x122 x123 x124 x125 x126 x127 x128 x129 x130 x131 x132 x133 x134 x135 x136 x137 x138 x139 x140 x141 x142 x143 x144 x145 x146 x147 x148 x149 x150 x151 x152 x153 x154 x155 x156 x157 x158 x159 x160 x161 x162 x163 x164 x165 x166 x167 x168 x169 x170 x171 x172 x173 x174 x175 x176 x177 x178 x179 x180 x181 : Value}, Hid (E2.length ≤ k + 1) → Hid (Eo.length ≤ k + 1) → Hid (Sep W [blk g 26 #[.int .i64 kd, .int .i64 t, .int .i64 r, .int .i64 v], stX p E2, rX po (srtE E2), stX pd Eo, rX pw (srtE Eo), old w]) → K2 { tmps := #[.slice (some ⟨b, off, none⟩) len0 cap0, .int .i64 tb, undef, undef, x4, .pointer (some ⟨p, 0, none⟩), .pointer (some ⟨po, 0, none⟩), .pointer (some ⟨pd, 0, none⟩), .pointer (some ⟨pw, 0, none⟩), .int .i64 k, .pointer (some ⟨g, 0, none⟩), .bool true, x12, x13, x14, x15, x16, x17, x18, x19, x20, x21, x22, x23, .bool true, .bool false, .slice (some ⟨b, off, none⟩) len0 cap0, .int .i64 len0, .bool (decide ((80 : Int) < (len0 : Int))), .pointer (some ⟨p0, 0, none⟩), .pointer (some ⟨po, 0, none⟩), .pointer (some ⟨p0, 0, none⟩), .pointer (some ⟨pd0, 0, none⟩), .pointer (some ⟨po, 0, none⟩), .pointer (some ⟨pw0, 0, none⟩), x35, x36, x37, x38, x39, x40, x41, x42, x43, x44, x45, x46, x47, x48, x49, x50, x51, x52, x53, x54, x55, x56, x57, x58, x59, x60, x61, x62, x63, x64, x65, x66, x67, x68, x69, x70, x71, x72, x73, x74, x75, x76, x77, x78, x79, x80, x81, x82, x83, x84, x85, x86, x87, x88, x89, x90, x91, x92, x93, x94, x95, x96, x97, x98, x99, x100, x101, x102, x103, x104, x105, x106, x107, x108, x109, x110, x111, x112, x113, x114, x115, x116, x117, x118, x119, x120, x121, x122, x123, x124, x125, x126, x127, x128, x129, x130, x131, x132, x133, x134, x135, x136, x137, x138, x139, x140, x141, x142, x143, x144, x145, x146, x147, x148, x149, x150, x151, x152, x153, x154, x155, x156, x157, x158, x159, x160, x161, x162, x163, x164, x165, x166, x167, x168, x169, x170, x171, x172, x173, x174, x175, x176, x177, x178, x179, x180, x181], defers := [] } W) := by
          intro g p pd pw E2 Eo W x4 x12 x13 x14 x15 x16 x17 x18 x19 x20 x21 x22 x23 x35 x36 x37 x38 x39 x40 x41 x42 x43 x44 x45 x46 x47 x48 x49 x50 x51 x52 x53 x54 x55 x56 x57 x58 x59 x60 x61 x62 x63 x64 x65 x66 x67 x68 x69 x70 x71 x72 x73 x74 x75 x76 x77 x78 x79 x80 x81 x82 x83 x84 x85 x86 x87 x88 x89 x90 x91 x92 x93 x94 x95 x96 x97 x98 x99 x100 x101 x102 x103 x104 x105 x106 x107 x108 x109 x110 x111 x112 x113 x114 x115 x116 x117 x118 x119 x120 x121 x122 x123 x124 x125 x126 x127 x128 x129 x130 x131 x132 x133 x134 x135 x136 x137 x138 x139 x140 x141 x142 x143 x144 x145 x146 x147 x148 x149 x150 x151 x152 x153 x154 x155 x156 x157 x158 x159 x160 x161 x162 x163 x164 x165 x166 x167 x168 x169 x170 x171 x172 x173 x174 x175 x176 x177 x178 x179 x180 x181 hEl2 hEo2 hB
          refine aK2 _ _ ?_
          clear z0 z1 z2 z3 hP hV hEl hEo
          obtain ⟨_, d0, d1, d2, d3, _⟩ := hB.out.b4
          have hEl3 := hEl2.out
          have hEl4 := hEo2.out
          have hnd2 := stX_nodup hB.out.to1
          have HG := Lib.hid (fun W rs h => get_x p E2 t r W rs h)
          have HGr := Lib.hid (fun W rs h => rget_x po E2 t r W rs hnd2 h (by omega))
          generalize (getL E2 (t, r)).getD 0 = gv at *
          generalize hasL E2 (t, r) = gh at *
          go_wp2_with fail
          refine (HG.out _ _ hB.out.to1).mono ?_
          rintro e w5 ⟨rfl, q5⟩
          replace hB := Lib.hid q5.to1
          clear q5 HG d0 d1 d2 d3
          obtain ⟨_, d0, d1, d2, d3, _⟩ := hB.out.b4
          go_wp2_with fail
          refine (HGr.out _ _ (hB.out.bring 2 rfl)).mono ?_
          rintro e w6 ⟨rfl, q5⟩
          replace hB := Lib.hid (show Sep w6 [rX po (srtE E2), stX p E2, stX pd Eo, rX pw (srtE Eo), old w] from q5.to1.tail)
          clear q5 HGr d0 d1 d2 d3 hnd2
          obtain ⟨ra, rc, hR0⟩ := rX_open hB.out
          obtain ⟨wa, wc, hR1⟩ := rX_open (((show Sep w6 (_ :: _ :: stX p E2 :: stX pd Eo :: rX pw (srtE Eo) :: [old w]) from hR0).bring 4 rfl))
          replace hB := Lib.hid (show Sep w6 [stX p E2, blk po 59 #[.slice ra (srtE E2).length rc], vec 39 3 (.slice ra (srtE E2).length rc) (srtE E2).length ((srtE E2).flatMap rowC), stX pd Eo, blk pw 59 #[.slice wa (srtE Eo).length wc], vec 39 3 (.slice wa (srtE Eo).length wc) (srtE Eo).length ((srtE Eo).flatMap rowC), old w] from (show Sep w6 [_, _, _, _, stX p E2, stX pd Eo, old w] from hR1) |> fun h => ((((h.bring 5 rfl).bring 4 rfl).bring 4 rfl).bring 5 rfl))
          clear hR0 hR1
          have HSc := Lib.hid (fun W rs h => scan_x p E2 tb W rs h (by omega))
          have HSr := Lib.hid (fun W rs (h : Sep W (rst po ra rc (srtE E2) rs)) => scanR_any po ra rc (srtE E2) tb W rs h (by rw [srtE_len]; omega))
          have hkl : (tabL tb E2).length ≤ 1000 := by have := List.length_filter_le (fun x => !outT tb x) (srtE E2); rw [srtE_len] at this; unfold tabL keepL; omega
          have HQt := Lib.hid (fun u v W hu hv => same_row u v (tabL tb E2) (tabL tb E2) W hkl hu hv)
          have HAl := Lib.hid (fun W rs h => all_x p E2 W rs h (by omega))
          have HAr := Lib.hid (fun W rs (h : Sep W (rst po ra rc (srtE E2) rs)) => allR_any po ra rc (srtE E2) W rs h (by rw [srtE_len]; omega))
          have HQs := Lib.hid (fun u v W hu hv => same_row u v (srtE E2) (srtE E2) W (by rw [srtE_len]; omega) hu hv)
          have HAd := Lib.hid (fun W rs h => all_x pd Eo W rs h (by omega))
          have HAw := Lib.hid (fun W rs (h : Sep W (rst pw wa wc (srtE Eo) rs)) => allR_any pw wa wc (srtE Eo) W rs h (by rw [srtE_len]; omega))
          have HQo := Lib.hid (fun u v W hu hv => same_row u v (srtE Eo) (srtE Eo) W (by rw [srtE_len]; omega) hu hv)
          have HLn := Lib.hid (fun W rs h => len_x p E2 W rs h (by omega))
          have HSm := Lib.hid (fun W rs h => same_x p pd E2 Eo W rs h (by omega) (by omega))
          have HRw := Lib.hid (fun u v W hu hv => rows_any u v (srtE E2) (srtE Eo) W (by rw [srtE_len]; omega) hu hv)
          rw [decide_eq_true (rfl : tabL tb E2 = tabL tb E2)] at HQt
          rw [decide_eq_true (rfl : srtE E2 = srtE E2)] at HQs
          rw [decide_eq_true (rfl : srtE Eo = srtE Eo)] at HQo
          generalize decide (srtE E2 = srtE Eo) = bq at *
          unfold tabL at HSc HQt
          unfold rst at HSr HAr HAw
          have hmk := Lib.hid (fun (W : World) (h : Sep W [stX p E2, blk po 59 #[.slice ra (srtE E2).length rc], vec 39 3 (.slice ra (srtE E2).length rc) (srtE E2).length ((srtE E2).flatMap rowC), stX pd Eo, blk pw 59 #[.slice wa (srtE Eo).length wc], vec 39 3 (.slice wa (srtE Eo).length wc) (srtE Eo).length ((srtE Eo).flatMap rowC), old w]) => ((((rX_mk (show Sep W (rst pw wa wc (srtE Eo) [stX p E2, rX po (srtE E2), stX pd Eo, old w]) from ((((rX_mk (show Sep W (rst po ra rc (srtE E2) [stX p E2, stX pd Eo, _, _, old w]) from (h.bring 2 rfl).bring 2 rfl)).to1).bring 4 rfl).bring 4 rfl))).bring 3 rfl).bring 3 rfl).bring 3 rfl))
          go_wp2_with fail
          replace hB := Lib.hid hB.out.drew
          have hS := Lib.hid (show (fun W : World => Sep W [stX p E2, blk po 59 #[.slice ra (srtE E2).length rc], vec 39 3 (.slice ra (srtE E2).length rc) (srtE E2).length ((srtE E2).flatMap rowC), stX pd Eo, blk pw 59 #[.slice wa (srtE Eo).length wc], vec 39 3 (.slice wa (srtE Eo).length wc) (srtE Eo).length ((srtE Eo).flatMap rowC), old w]) _ from hB.out)
          refine hl_begin (fun W : World => Sep W [stX p E2, blk po 59 #[.slice ra (srtE E2).length rc], vec 39 3 (.slice ra (srtE E2).length rc) (srtE E2).length ((srtE E2).flatMap rowC), stX pd Eo, blk pw 59 #[.slice wa (srtE Eo).length wc], vec 39 3 (.slice wa (srtE Eo).length wc) (srtE Eo).length ((srtE Eo).flatMap rowC), old w]) [(0, true), (1, true), (2, true), (3, true), (4, true), (5, true), (6, true), (7, true), (8, true), (9, true), (10, true), (11, true), (12, true), (13, true), (14, true), (16, true), (17, true), (15, false), (18, false), (19, false), (20, true), (21, true), (22, true), (23, true), (25, true), (24, false), (26, false), (27, false), (28, true), (29, true), (30, true), (31, true), (33, true), (32, false), (34, false), (35, false), (36, true), (37, true), (38, true), (39, true), (41, true), (42, true), (43, true), (44, true), (45, true), (40, false), (46, true), (47, true), (48, true), (49, true), (50, true), (52, true), (53, true), (54, true), (55, true), (56, true), (57, true), (58, true), (59, true), (51, false), (60, false), (61, true), (62, true)] (by kernel_rfl) (by kernel_rfl) (by kernel_rfl) rfl (fun _ _ _ _ _ h => h) hS.out ?_
          change HL _ _ _ _ _ _ (World.drew _)
          generalize World.drew _ = wd at *
          refine hl_take ?v1 rfl (by kernel_rfl) ?y1 ?z1
          case y1 => intro W hW; skip; replace hW := Lib.hid hW; go_simp; try rfl
          case z1 =>
          simp only [Act.put, List.setIfInBounds_toArray, List.set_cons_succ, List.set_cons_zero, List.getElem_toArray, List.getElem_cons_zero, List.getElem_cons_succ]
          refine hl_take ?v2 rfl (by kernel_rfl) ?y2 ?z2
          case y2 => intro W hW; skip; replace hW := Lib.hid hW; go_simp; try rfl
          case z2 =>
          simp only [Act.put, List.setIfInBounds_toArray, List.set_cons_succ, List.set_cons_zero, List.getElem_toArray, List.getElem_cons_zero, List.getElem_cons_succ]
          refine hl_take ?v3 rfl (by kernel_rfl) ?y3 ?z3
          case y3 => intro W hW; skip; replace hW := Lib.hid hW; go_simp; try rfl
          case z3 =>
          simp only [Act.put, List.setIfInBounds_toArray, List.set_cons_succ, List.set_cons_zero, List.getElem_toArray, List.getElem_cons_zero, List.getElem_cons_succ]
          refine hl_take ?v4 rfl (by kernel_rfl) ?y4 ?z4
          case y4 => intro W hW; skip; replace hW := Lib.hid hW; go_simp; try rfl
          case z4 =>
          simp only [Act.put, List.setIfInBounds_toArray, List.set_cons_succ, List.set_cons_zero, List.getElem_toArray, List.getElem_cons_zero, List.getElem_cons_succ]
          refine hl_take ?v5 rfl (by kernel_rfl) ?y5 ?z5
          case y5 => intro W hW; skip; replace hW := Lib.hid hW; go_simp; try rfl
          case z5 =>
          simp only [Act.put, List.setIfInBounds_toArray, List.set_cons_succ, List.set_cons_zero, List.getElem_toArray, List.getElem_cons_zero, List.getElem_cons_succ]
          refine hl_take ?v6 rfl (by kernel_rfl) ?y6 ?z6
          case y6 => intro W hW; skip; replace hW := Lib.hid hW; go_simp; try rfl
          case z6 =>
          simp only [Act.put, List.setIfInBounds_toArray, List.set_cons_succ, List.set_cons_zero, List.getElem_toArray, List.getElem_cons_zero, List.getElem_cons_succ]
          refine hl_take ?v7 rfl (by kernel_rfl) ?y7 ?z7
          case y7 => intro W hW; skip; replace hW := Lib.hid hW; go_simp; try rfl
          case z7 =>
          simp only [Act.put, List.setIfInBounds_toArray, List.set_cons_succ, List.set_cons_zero, List.getElem_toArray, List.getElem_cons_zero, List.getElem_cons_succ]
          refine hl_take ?v8 rfl (by kernel_rfl) ?y8 ?z8
          case y8 => intro W hW; skip; replace hW := Lib.hid hW; go_simp; try rfl
          case z8 =>
          simp only [Act.put, List.setIfInBounds_toArray, List.set_cons_succ, List.set_cons_zero, List.getElem_toArray, List.getElem_cons_zero, List.getElem_cons_succ]
          refine hl_take ?v9 rfl (by kernel_rfl) ?y9 ?z9
          case y9 => intro W hW; skip; replace hW := Lib.hid hW; go_simp; try rfl
          case z9 =>
          simp only [Act.put, List.setIfInBounds_toArray, List.set_cons_succ, List.set_cons_zero, List.getElem_toArray, List.getElem_cons_zero, List.getElem_cons_succ]
          refine hl_take ?v10 rfl (by kernel_rfl) ?y10 ?z10
          case y10 => intro W hW; skip; replace hW := Lib.hid hW; go_simp; try rfl
          case z10 =>
          simp only [Act.put, List.setIfInBounds_toArray, List.set_cons_succ, List.set_cons_zero, List.getElem_toArray, List.getElem_cons_zero, List.getElem_cons_succ]
          refine hl_take ?v11 rfl (by kernel_rfl) ?y11 ?z11
          case y11 => intro W hW; skip; replace hW := Lib.hid hW; go_simp; try rfl
          case z11 =>
          simp only [Act.put, List.setIfInBounds_toArray, List.set_cons_succ, List.set_cons_zero, List.getElem_toArray, List.getElem_cons_zero, List.getElem_cons_succ]
          refine hl_take ?v12 rfl (by kernel_rfl) ?y12 ?z12
          case y12 => intro W hW; skip; replace hW := Lib.hid hW; go_simp; try rfl
          case z12 =>
          simp only [Act.put, List.setIfInBounds_toArray, List.set_cons_succ, List.set_cons_zero, List.getElem_toArray, List.getElem_cons_zero, List.getElem_cons_succ]
          refine hl_take ?v13 rfl (by kernel_rfl) ?y13 ?z13
          case y13 => intro W hW; skip; replace hW := Lib.hid hW; go_simp; try rfl
          case z13 =>
          simp only [Act.put, List.setIfInBounds_toArray, List.set_cons_succ, List.set_cons_zero, List.getElem_toArray, List.getElem_cons_zero, List.getElem_cons_succ]
          refine hl_take ?v14 rfl (by kernel_rfl) ?y14 ?z14
          case y14 => intro W hW; skip; replace hW := Lib.hid hW; go_simp; try rfl
          case z14 =>
          simp only [Act.put, List.setIfInBounds_toArray, List.set_cons_succ, List.set_cons_zero, List.getElem_toArray, List.getElem_cons_zero, List.getElem_cons_succ]
          refine hl_take ?v15 rfl (by kernel_rfl) ?y15 ?z15
          case y15 => intro W hW; skip; replace hW := Lib.hid hW; go_simp; try rfl
          case z15 =>
          simp only [Act.put, List.setIfInBounds_toArray, List.set_cons_succ, List.set_cons_zero, List.getElem_toArray, List.getElem_cons_zero, List.getElem_cons_succ]
          refine hl_take ?v16 rfl (by kernel_rfl) ?y16 ?z16
          case y16 => intro W hW; skip; replace hW := Lib.hid hW; go_simp; try rfl
          case z16 =>
          simp only [Act.put, List.setIfInBounds_toArray, List.set_cons_succ, List.set_cons_zero, List.getElem_toArray, List.getElem_cons_zero, List.getElem_cons_succ]
          refine hl_take ?v17 rfl (by kernel_rfl) ?y17 ?z17
          case y17 => intro W hW; skip; replace hW := Lib.hid hW; go_simp; try rfl
          case z17 =>
          simp only [Act.put, List.setIfInBounds_toArray, List.set_cons_succ, List.set_cons_zero, List.getElem_toArray, List.getElem_cons_zero, List.getElem_cons_succ]
          refine hl_one rfl (by kernel_rfl) (fun K hK => ?_)
          go_simp
          refine (HSc.out _ _ hB.out).mono ?_
          rintro e w15 ⟨va, vc, rfl, q5⟩
          replace hB := Lib.hid q5
          clear q5
          refine hK.out _ _ hB.out.tail ?_
          clear hK K
          try simp only [Act.put, List.setIfInBounds_toArray, List.set_cons_succ, List.set_cons_zero, List.getElem_toArray, List.getElem_cons_zero, List.getElem_cons_succ]
          refine hl_one rfl (by kernel_rfl) (fun K hK => ?_)
          go_simp
          refine (HSr.out _ _ ((hB.out.bring 3 rfl).bring 3 rfl)).mono ?_
          rintro e w15 ⟨xa, xc, rfl, q5⟩
          replace hB := Lib.hid q5
          clear q5
          refine hK.out _ _ ((hB.out.tail.bring 2 rfl).tail.bring 2 rfl) ?_
          clear hK K
          try simp only [Act.put, List.setIfInBounds_toArray, List.set_cons_succ, List.set_cons_zero, List.getElem_toArray, List.getElem_cons_zero, List.getElem_cons_succ]
          refine hl_one rfl (by kernel_rfl) (fun K hK => ?_)
          go_simp
          refine (HQt.out _ _ _ (hB.out.bring 3 rfl).vec_rl hB.out.vec_rl).mono ?_
          rintro e w15 ⟨rfl, q5⟩
          replace hB := Lib.hid (((hB.out.below q5).tail.bring 2 rfl).tail.bring 2 rfl)
          clear q5
          refine hK.out _ _ hB.out ?_
          clear hK K
          try simp only [Act.put, List.setIfInBounds_toArray, List.set_cons_succ, List.set_cons_zero, List.getElem_toArray, List.getElem_cons_zero, List.getElem_cons_succ]
          refine hl_take ?v18 rfl (by kernel_rfl) ?y18 ?z18
          case y18 => intro W hW; skip; replace hW := Lib.hid hW; go_simp; try rfl
          case z18 =>
          simp only [Act.put, List.setIfInBounds_toArray, List.set_cons_succ, List.set_cons_zero, List.getElem_toArray, List.getElem_cons_zero, List.getElem_cons_succ]
          refine hl_take ?v19 rfl (by kernel_rfl) ?y19 ?z19
          case y19 => intro W hW; skip; replace hW := Lib.hid hW; go_simp; try rfl
          case z19 =>
          simp only [Act.put, List.setIfInBounds_toArray, List.set_cons_succ, List.set_cons_zero, List.getElem_toArray, List.getElem_cons_zero, List.getElem_cons_succ]
          refine hl_take ?v20 rfl (by kernel_rfl) ?y20 ?z20
          case y20 => intro W hW; skip; replace hW := Lib.hid hW; go_simp; try rfl
          case z20 =>
          simp only [Act.put, List.setIfInBounds_toArray, List.set_cons_succ, List.set_cons_zero, List.getElem_toArray, List.getElem_cons_zero, List.getElem_cons_succ]
          refine hl_take ?v21 rfl (by kernel_rfl) ?y21 ?z21
          case y21 => intro W hW; skip; replace hW := Lib.hid hW; go_simp; try rfl
          case z21 =>
          simp only [Act.put, List.setIfInBounds_toArray, List.set_cons_succ, List.set_cons_zero, List.getElem_toArray, List.getElem_cons_zero, List.getElem_cons_succ]
          refine hl_take ?v22 rfl (by kernel_rfl) ?y22 ?z22
          case y22 => intro W hW; skip; replace hW := Lib.hid hW; go_simp; try rfl
          case z22 =>
          simp only [Act.put, List.setIfInBounds_toArray, List.set_cons_succ, List.set_cons_zero, List.getElem_toArray, List.getElem_cons_zero, List.getElem_cons_succ]
          refine hl_one rfl (by kernel_rfl) (fun K hK => ?_)
          go_simp
          refine (HAl.out _ _ hB.out).mono ?_
          rintro e w15 ⟨va, vc, rfl, q5⟩
          replace hB := Lib.hid q5
          clear q5
          refine hK.out _ _ hB.out.tail ?_
          clear hK K
          try simp only [Act.put, List.setIfInBounds_toArray, List.set_cons_succ, List.set_cons_zero, List.getElem_toArray, List.getElem_cons_zero, List.getElem_cons_succ]
          refine hl_one rfl (by kernel_rfl) (fun K hK => ?_)
          go_simp
          refine (HAr.out _ _ ((hB.out.bring 3 rfl).bring 3 rfl)).mono ?_
          rintro e w15 ⟨xa, xc, rfl, q5⟩
          replace hB := Lib.hid q5
          clear q5
          refine hK.out _ _ ((hB.out.tail.bring 2 rfl).tail.bring 2 rfl) ?_
          clear hK K
          try simp only [Act.put, List.setIfInBounds_toArray, List.set_cons_succ, List.set_cons_zero, List.getElem_toArray, List.getElem_cons_zero, List.getElem_cons_succ]
          refine hl_one rfl (by kernel_rfl) (fun K hK => ?_)
          go_simp
          refine (HQs.out _ _ _ (hB.out.bring 3 rfl).vec_rl hB.out.vec_rl).mono ?_
          rintro e w15 ⟨rfl, q5⟩
          replace hB := Lib.hid (((hB.out.below q5).tail.bring 2 rfl).tail.bring 2 rfl)
          clear q5
          refine hK.out _ _ hB.out ?_
          clear hK K
          try simp only [Act.put, List.setIfInBounds_toArray, List.set_cons_succ, List.set_cons_zero, List.getElem_toArray, List.getElem_cons_zero, List.getElem_cons_succ]
          refine hl_take ?v23 rfl (by kernel_rfl) ?y23 ?z23
          case y23 => intro W hW; skip; replace hW := Lib.hid hW; go_simp; try rfl
          case z23 =>
          simp only [Act.put, List.setIfInBounds_toArray, List.set_cons_succ, List.set_cons_zero, List.getElem_toArray, List.getElem_cons_zero, List.getElem_cons_succ]
          refine hl_take ?v24 rfl (by kernel_rfl) ?y24 ?z24
          case y24 => intro W hW; skip; replace hW := Lib.hid hW; go_simp; try rfl
          case z24 =>
          simp only [Act.put, List.setIfInBounds_toArray, List.set_cons_succ, List.set_cons_zero, List.getElem_toArray, List.getElem_cons_zero, List.getElem_cons_succ]
          refine hl_take ?v25 rfl (by kernel_rfl) ?y25 ?z25
          case y25 => intro W hW; skip; replace hW := Lib.hid hW; go_simp; try rfl
          case z25 =>
          simp only [Act.put, List.setIfInBounds_toArray, List.set_cons_succ, List.set_cons_zero, List.getElem_toArray, List.getElem_cons_zero, List.getElem_cons_succ]
          refine hl_take ?v26 rfl (by kernel_rfl) ?y26 ?z26
          case y26 => intro W hW; skip; replace hW := Lib.hid hW; go_simp; try rfl
          case z26 =>
          simp only [Act.put, List.setIfInBounds_toArray, List.set_cons_succ, List.set_cons_zero, List.getElem_toArray, List.getElem_cons_zero, List.getElem_cons_succ]
          refine hl_take ?v27 rfl (by kernel_rfl) ?y27 ?z27
          case y27 => intro W hW; skip; replace hW := Lib.hid hW; go_simp; try rfl
          case z27 =>
          simp only [Act.put, List.setIfInBounds_toArray, List.set_cons_succ, List.set_cons_zero, List.getElem_toArray, List.getElem_cons_zero, List.getElem_cons_succ]
          refine hl_one rfl (by kernel_rfl) (fun K hK => ?_)
          go_simp
          refine (HAd.out _ _ (hB.out.bring 3 rfl)).mono ?_
          rintro e w15 ⟨va, vc, rfl, q5⟩
          replace hB := Lib.hid q5
          clear q5
          refine hK.out _ _ (((hB.out.tail.bring 3 rfl).bring 3 rfl).bring 3 rfl) ?_
          clear hK K
          try simp only [Act.put, List.setIfInBounds_toArray, List.set_cons_succ, List.set_cons_zero, List.getElem_toArray, List.getElem_cons_zero, List.getElem_cons_succ]
          refine hl_one rfl (by kernel_rfl) (fun K hK => ?_)
          go_simp
          refine (HAw.out _ _ ((hB.out.bring 6 rfl).bring 6 rfl)).mono ?_
          rintro e w15 ⟨xa, xc, rfl, q5⟩
          replace hB := Lib.hid q5
          clear q5
          refine hK.out _ _ ((((((hB.out.tail.bring 2 rfl).tail.bring 2 rfl).bring 5 rfl).bring 5 rfl).bring 5 rfl)) ?_
          clear hK K
          try simp only [Act.put, List.setIfInBounds_toArray, List.set_cons_succ, List.set_cons_zero, List.getElem_toArray, List.getElem_cons_zero, List.getElem_cons_succ]
          refine hl_one rfl (by kernel_rfl) (fun K hK => ?_)
          go_simp
          refine (HQo.out _ _ _ (hB.out.bring 3 rfl).vec_rl hB.out.vec_rl).mono ?_
          rintro e w15 ⟨rfl, q5⟩
          replace hB := Lib.hid (((((((hB.out.below q5).tail.bring 2 rfl).tail.bring 2 rfl).bring 5 rfl).bring 5 rfl).bring 5 rfl))
          clear q5
          refine hK.out _ _ hB.out ?_
          clear hK K
          try simp only [Act.put, List.setIfInBounds_toArray, List.set_cons_succ, List.set_cons_zero, List.getElem_toArray, List.getElem_cons_zero, List.getElem_cons_succ]
          refine hl_take ?v28 rfl (by kernel_rfl) ?y28 ?z28
          case y28 => intro W hW; skip; replace hW := Lib.hid hW; go_simp; try rfl
          case z28 =>
          simp only [Act.put, List.setIfInBounds_toArray, List.set_cons_succ, List.set_cons_zero, List.getElem_toArray, List.getElem_cons_zero, List.getElem_cons_succ]
          refine hl_take ?v29 rfl (by kernel_rfl) ?y29 ?z29
          case y29 => intro W hW; skip; replace hW := Lib.hid hW; go_simp; try rfl
          case z29 =>
          simp only [Act.put, List.setIfInBounds_toArray, List.set_cons_succ, List.set_cons_zero, List.getElem_toArray, List.getElem_cons_zero, List.getElem_cons_succ]
          refine hl_take ?v30 rfl (by kernel_rfl) ?y30 ?z30
          case y30 => intro W hW; skip; replace hW := Lib.hid hW; go_simp; try rfl
          case z30 =>
          simp only [Act.put, List.setIfInBounds_toArray, List.set_cons_succ, List.set_cons_zero, List.getElem_toArray, List.getElem_cons_zero, List.getElem_cons_succ]
          refine hl_take ?v31 rfl (by kernel_rfl) ?y31 ?z31
          case y31 => intro W hW; skip; replace hW := Lib.hid hW; go_simp; try rfl
          case z31 =>
          simp only [Act.put, List.setIfInBounds_toArray, List.set_cons_succ, List.set_cons_zero, List.getElem_toArray, List.getElem_cons_zero, List.getElem_cons_succ]
          refine hl_take ?v32 rfl (by kernel_rfl) ?y32 ?z32
          case y32 => intro W hW; skip; replace hW := Lib.hid hW; go_simp; try rfl
          case z32 =>
          simp only [Act.put, List.setIfInBounds_toArray, List.set_cons_succ, List.set_cons_zero, List.getElem_toArray, List.getElem_cons_zero, List.getElem_cons_succ]
          refine hl_take ?v33 rfl (by kernel_rfl) ?y33 ?z33
          case y33 => intro W hW; skip; replace hW := Lib.hid hW; go_simp; try rfl
          case z33 =>
          simp only [Act.put, List.setIfInBounds_toArray, List.set_cons_succ, List.set_cons_zero, List.getElem_toArray, List.getElem_cons_zero, List.getElem_cons_succ]
          refine hl_take ?v34 rfl (by kernel_rfl) ?y34 ?z34
          case y34 => intro W hW; skip; replace hW := Lib.hid hW; go_simp; try rfl
          case z34 =>
          simp only [Act.put, List.setIfInBounds_toArray, List.set_cons_succ, List.set_cons_zero, List.getElem_toArray, List.getElem_cons_zero, List.getElem_cons_succ]
          refine hl_take ?v35 rfl (by kernel_rfl) ?y35 ?z35
          case y35 => intro W hW; obtain ⟨_, c0, _⟩ := (Sep.bring 1 (show Sep _ _ from hW) rfl).b1; obtain ⟨_, c1, _⟩ := (Sep.bring 4 (show Sep _ _ from hW) rfl).b1; replace hW := Lib.hid hW; go_simp; try rfl
          case z35 =>
          simp only [Act.put, List.setIfInBounds_toArray, List.set_cons_succ, List.set_cons_zero, List.getElem_toArray, List.getElem_cons_zero, List.getElem_cons_succ]
          refine hl_take ?v36 rfl (by kernel_rfl) ?y36 ?z36
          case y36 => intro W hW; skip; replace hW := Lib.hid hW; go_simp; try rfl
          case z36 =>
          simp only [Act.put, List.setIfInBounds_toArray, List.set_cons_succ, List.set_cons_zero, List.getElem_toArray, List.getElem_cons_zero, List.getElem_cons_succ]
          refine hl_one rfl (by kernel_rfl) (fun K hK => ?_)
          go_simp
          refine (HLn.out _ _ hB.out).mono ?_
          rintro e w15 ⟨rfl, q5⟩
          replace hB := Lib.hid q5
          clear q5
          refine hK.out _ _ hB.out ?_
          clear hK K
          try simp only [Act.put, List.setIfInBounds_toArray, List.set_cons_succ, List.set_cons_zero, List.getElem_toArray, List.getElem_cons_zero, List.getElem_cons_succ]
          refine hl_take ?v37 rfl (by kernel_rfl) ?y37 ?z37
          case y37 => intro W hW; skip; replace hW := Lib.hid hW; go_simp; try rfl
          case z37 =>
          simp only [Act.put, List.setIfInBounds_toArray, List.set_cons_succ, List.set_cons_zero, List.getElem_toArray, List.getElem_cons_zero, List.getElem_cons_succ]
          refine hl_take ?v38 rfl (by kernel_rfl) ?y38 ?z38
          case y38 => intro W hW; skip; replace hW := Lib.hid hW; go_simp; try rfl
          case z38 =>
          simp only [Act.put, List.setIfInBounds_toArray, List.set_cons_succ, List.set_cons_zero, List.getElem_toArray, List.getElem_cons_zero, List.getElem_cons_succ]
          refine hl_take ?v39 rfl (by kernel_rfl) ?y39 ?z39
          case y39 => intro W hW; skip; replace hW := Lib.hid hW; go_simp; try rfl
          case z39 =>
          simp only [Act.put, List.setIfInBounds_toArray, List.set_cons_succ, List.set_cons_zero, List.getElem_toArray, List.getElem_cons_zero, List.getElem_cons_succ]
          refine hl_take ?v40 rfl (by kernel_rfl) ?y40 ?z40
          case y40 => intro W hW; skip; replace hW := Lib.hid hW; go_simp; try rfl
          case z40 =>
          simp only [Act.put, List.setIfInBounds_toArray, List.set_cons_succ, List.set_cons_zero, List.getElem_toArray, List.getElem_cons_zero, List.getElem_cons_succ]
          refine hl_take ?v41 rfl (by kernel_rfl) ?y41 ?z41
          case y41 => intro W hW; skip; replace hW := Lib.hid hW; go_simp; try rfl
          case z41 =>
          simp only [Act.put, List.setIfInBounds_toArray, List.set_cons_succ, List.set_cons_zero, List.getElem_toArray, List.getElem_cons_zero, List.getElem_cons_succ]
          refine hl_take ?v42 rfl (by kernel_rfl) ?y42 ?z42
          case y42 => intro W hW; skip; replace hW := Lib.hid hW; go_simp; try rfl
          case z42 =>
          simp only [Act.put, List.setIfInBounds_toArray, List.set_cons_succ, List.set_cons_zero, List.getElem_toArray, List.getElem_cons_zero, List.getElem_cons_succ]
          refine hl_take ?v43 rfl (by kernel_rfl) ?y43 ?z43
          case y43 => intro W hW; skip; replace hW := Lib.hid hW; go_simp; try rfl
          case z43 =>
          simp only [Act.put, List.setIfInBounds_toArray, List.set_cons_succ, List.set_cons_zero, List.getElem_toArray, List.getElem_cons_zero, List.getElem_cons_succ]
          refine hl_take ?v44 rfl (by kernel_rfl) ?y44 ?z44
          case y44 => intro W hW; skip; replace hW := Lib.hid hW; go_simp; try rfl
          case z44 =>
          simp only [Act.put, List.setIfInBounds_toArray, List.set_cons_succ, List.set_cons_zero, List.getElem_toArray, List.getElem_cons_zero, List.getElem_cons_succ]
          refine hl_take ?v45 rfl (by kernel_rfl) ?y45 ?z45
          case y45 => intro W hW; obtain ⟨_, c0, _⟩ := (Sep.bring 1 (show Sep _ _ from hW) rfl).b1; obtain ⟨_, c1, _⟩ := (Sep.bring 4 (show Sep _ _ from hW) rfl).b1; replace hW := Lib.hid hW; go_simp; try rfl
          case z45 =>
          simp only [Act.put, List.setIfInBounds_toArray, List.set_cons_succ, List.set_cons_zero, List.getElem_toArray, List.getElem_cons_zero, List.getElem_cons_succ]
          refine hl_take ?v46 rfl (by kernel_rfl) ?y46 ?z46
          case y46 => intro W hW; skip; replace hW := Lib.hid hW; go_simp; try rfl
          case z46 =>
          simp only [Act.put, List.setIfInBounds_toArray, List.set_cons_succ, List.set_cons_zero, List.getElem_toArray, List.getElem_cons_zero, List.getElem_cons_succ]
          refine hl_take ?v47 rfl (by kernel_rfl) ?y47 ?z47
          case y47 => intro W hW; skip; replace hW := Lib.hid hW; go_simp; try rfl
          case z47 =>
          simp only [Act.put, List.setIfInBounds_toArray, List.set_cons_succ, List.set_cons_zero, List.getElem_toArray, List.getElem_cons_zero, List.getElem_cons_succ]
          refine hl_take ?v48 rfl (by kernel_rfl) ?y48 ?z48
          case y48 => intro W hW; skip; replace hW := Lib.hid hW; go_simp; try rfl
          case z48 =>
          simp only [Act.put, List.setIfInBounds_toArray, List.set_cons_succ, List.set_cons_zero, List.getElem_toArray, List.getElem_cons_zero, List.getElem_cons_succ]
          refine hl_take ?v49 rfl (by kernel_rfl) ?y49 ?z49
          case y49 => intro W hW; obtain ⟨_, c0, _⟩ := (Sep.bring 1 (show Sep _ _ from hW) rfl).b1; obtain ⟨_, c1, _⟩ := (Sep.bring 4 (show Sep _ _ from hW) rfl).b1; replace hW := Lib.hid hW; go_simp; try rfl
          case z49 =>
          simp only [Act.put, List.setIfInBounds_toArray, List.set_cons_succ, List.set_cons_zero, List.getElem_toArray, List.getElem_cons_zero, List.getElem_cons_succ]
          refine hl_one rfl (by kernel_rfl) (fun K hK => ?_)
          go_simp
          refine (HSm.out _ _ (hB.out.bring 3 rfl).to1).mono ?_
          rintro e w15 ⟨rfl, q5⟩
          replace hB := Lib.hid (((q5.to1.bring 3 rfl).bring 3 rfl).bring 3 rfl)
          clear q5
          refine hK.out _ _ hB.out ?_
          clear hK K
          try simp only [Act.put, List.setIfInBounds_toArray, List.set_cons_succ, List.set_cons_zero, List.getElem_toArray, List.getElem_cons_zero, List.getElem_cons_succ]
          refine hl_one rfl (by kernel_rfl) (fun K hK => ?_)
          go_simp
          refine (HRw.out _ _ _ (hB.out.bring 2 rfl).vec_rl (hB.out.bring 5 rfl).vec_rl).mono ?_
          rintro e w15 ⟨rfl, q5⟩
          replace hB := Lib.hid (hB.out.below q5)
          clear q5
          refine hK.out _ _ hB.out ?_
          clear hK K
          try simp only [Act.put, List.setIfInBounds_toArray, List.set_cons_succ, List.set_cons_zero, List.getElem_toArray, List.getElem_cons_zero, List.getElem_cons_succ]
          refine hl_take ?v50 rfl (by kernel_rfl) ?y50 ?z50
          case y50 => intro W hW; skip; replace hW := Lib.hid hW; go_simp; try rfl
          case z50 =>
          simp only [Act.put, List.setIfInBounds_toArray, List.set_cons_succ, List.set_cons_zero, List.getElem_toArray, List.getElem_cons_zero, List.getElem_cons_succ]
          refine hl_take ?v51 rfl (by kernel_rfl) ?y51 ?z51
          case y51 => intro W hW; skip; replace hW := Lib.hid hW; go_simp; try rfl
          case z51 =>
          simp only [Act.put, List.setIfInBounds_toArray, List.set_cons_succ, List.set_cons_zero, List.getElem_toArray, List.getElem_cons_zero, List.getElem_cons_succ]
          refine hl_done ?_
          clear hS
          go_wp2_with fail
          go_roundg (len0 - (k + 1))
          case measure => first | exact hms.out | (rw [hgm]; exact hms.out)
          case rel => exact ⟨k + 1, p, pd, pw, E2, Eo, by omega, rfl, rfl, rfl, rfl, by go_num, hEl2, hEo2, Lib.hid (hmk.out _ hB.out)⟩
        have aK2h := Lib.hid aK2
        clear aK2
        have hB := Lib.hid (hV.out.alloc #[.int .i64 kd, .int .i64 t, .int .i64 r, .int .i64 v] 26)
        generalize hgs : wr.heap.size = g at *
        clear hV z0 z1 z2 z3
        refine (hP.out _).mono ?_
        rw [hgs] at *
        rintro e w5 ⟨rfl, rfl⟩
        replace hgs := Lib.hid hgs
        clear hP
        obtain ⟨_, d0, d1, d2, d3, _⟩ := hB.out.b4
        generalize (kp : Int) = kq at *
        rcases h5 with rfl | rfl | rfl
        · skip
          have hEl1 := hEl.out
          have hEo1 := hEo.out
          have hnd := stX_nodup hB.out.to1
          have HP := Lib.hid (fun W rs h => put_w p E t r v W rs h)
          have HQ := Lib.hid (fun W rs h => rput_w po E t r v W rs hnd (by omega) h)
          unfold wzV at HP HQ
          generalize wzT E t r = zz at *
          obtain ⟨⟨at_, ar⟩, av, ah⟩ := zz
          simp only at HP HQ
          generalize erC t r = er at *
          have hEl2 := Lib.hid (show (puE E t r v).length ≤ k + 1 by have := puE_len E t r v; omega)
          have hEo2 := Lib.hid (show Eo.length ≤ k + 1 by omega)
          generalize hE2 : puE E t r v = E2 at *
          replace hE2 := Lib.hid hE2
          clear hEl1 hnd
          go_wp2_with fail
          refine (HP.out _ _ hB.out.to1).mono ?_
          rintro e w6 ⟨rfl, q6⟩
          replace hB := Lib.hid (q6.alloc #[.int .i64 at_, .int .i64 ar, .int .i64 av, .bool ah] 31)
          clear q6 HP d0 d1 d2 d3
          generalize hga : w6.heap.size = ga at *
          obtain ⟨_, d0, d1, d2, d3, _⟩ := (hB.out.bring 2 rfl).b4
          go_wp2_with fail
          rw [hga] at *
          replace hga := Lib.hid hga
          refine (HQ.out _ _ (hB.out.bring 3 rfl)).mono ?_
          rintro e w7 ⟨rfl, q7⟩
          replace hB := Lib.hid (q7.alloc #[.int .i64 at_, .int .i64 ar, .int .i64 av, .bool ah] 31)
          clear q7 HQ d0 d1 d2 d3
          obtain ⟨_, c0, c1, c2, c3, _⟩ := hB.out.b4
          obtain ⟨_, d0, d1, d2, d3, _⟩ := (hB.out.bring 2 rfl).b4
          have hq := fun W => run_eql_was at_ at_ ar ar av av ah ah W
          rw [eqB_was_self] at hq
          go_wp2_with fail
          exact htail.out hEl2 hEo2 (Lib.hid ((hB.out.tail.to1.tail.to1).bring 2 rfl))
        · skip
          have hEl1 := hEl.out
          have hEo1 := hEo.out
          have hnd := stX_nodup hB.out.to1
          have HP := Lib.hid (fun W rs h => del_w p E t r W rs h)
          have HQ := Lib.hid (fun W rs h => rdel_w po E t r W rs hnd (by omega) h)
          unfold wzV at HP HQ
          generalize wzT E t r = zz at *
          obtain ⟨⟨at_, ar⟩, av, ah⟩ := zz
          simp only at HP HQ
          generalize erC t r = er at *
          have hEl2 := Lib.hid (show (deE E t r).length ≤ k + 1 by have := deE_len E t r; omega)
          have hEo2 := Lib.hid (show Eo.length ≤ k + 1 by omega)
          generalize hE2 : deE E t r = E2 at *
          replace hE2 := Lib.hid hE2
          clear hEl1 hnd
          go_wp2_with fail
          refine (HP.out _ _ hB.out.to1).mono ?_
          rintro e w6 ⟨rfl, q6⟩
          replace hB := Lib.hid (q6.alloc #[.int .i64 at_, .int .i64 ar, .int .i64 av, .bool ah] 31)
          clear q6 HP d0 d1 d2 d3
          generalize hga : w6.heap.size = ga at *
          obtain ⟨_, d0, d1, d2, d3, _⟩ := (hB.out.bring 2 rfl).b4
          go_wp2_with fail
          rw [hga] at *
          replace hga := Lib.hid hga
          refine (HQ.out _ _ (hB.out.bring 3 rfl)).mono ?_
          rintro e w7 ⟨rfl, q7⟩
          replace hB := Lib.hid (q7.alloc #[.int .i64 at_, .int .i64 ar, .int .i64 av, .bool ah] 31)
          clear q7 HQ d0 d1 d2 d3
          obtain ⟨_, c0, c1, c2, c3, _⟩ := hB.out.b4
          obtain ⟨_, d0, d1, d2, d3, _⟩ := (hB.out.bring 2 rfl).b4
          have hq := fun W => run_eql_was at_ at_ ar ar av av ah ah W
          rw [eqB_was_self] at hq
          go_wp2_with fail
          exact htail.out hEl2 hEo2 (Lib.hid ((hB.out.tail.to1.tail.to1).bring 2 rfl))
        · skip
          have hEl2 := Lib.hid (show E.length ≤ k + 1 by have := hEl.out; omega)
          have HQ := Lib.hid (fun W rs h => rclone_x po (srtE E) W rs h (by rw [srtE_len]; have := hEl.out; omega))
          have HP := Lib.hid (fun W rs h => clone_x p E W rs h)
          go_wp2_with fail
          refine (HQ.out _ _ (hB.out.bring 2 rfl)).mono ?_
          rintro e w6 ⟨pw', rfl, q6⟩
          replace hB := Lib.hid q6
          clear q6 HQ d0 d1 d2 d3
          go_wp2_with fail
          refine (HP.out _ _ (hB.out.bring 3 rfl)).mono ?_
          rintro e w7 ⟨p', rfl, q6⟩
          replace hB := Lib.hid ((((((q6.bring 6 rfl).tail.bring 5 rfl).tail.bring 2 rfl).bring 2 rfl).bring 3 rfl).bring 3 rfl |> fun h => h.bring 4 rfl)
          clear q6 HP
          go_wp2_with fail
          exact htail.out hEl2 hEl2 hB
      · obtain rfl : k = len0 := by omega
        have hG := Lib.hid hV.out.to4.gold
        clear hV hgm
        go_wp2_with fail
        go_ret
        exact ⟨rfl, hG.out⟩
  · have i80 : (80 : Int) < (len0 : Int) := by omega
    clear HV0
    go_enter Try.func6, Try.ntmps6
    go_wp2_with fail
    refine (lives_any _).mono ?_
    rintro e w1 ⟨rfl, q0⟩
    replace q0 := Lib.hid q0
    go_wp2_with fail
    go_ret
    exact ⟨rfl, q0.out⟩
end Go.Proofs.Ytbpeajcfabjphaa
