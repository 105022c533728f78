/-
  The walk of QueueHolds. No condition beside arguments that can be read.
-/
import Derived.Test.YtmacpjnkmkaloaaQSt
import Derived.Test.YtmacpjnkmkaloaaQHo
import Derived.Test.YtmacpjnkmkaloaaQEq
import Derived.Test.YtmacpjnkmkaloaaQLight
import Derived.Test.YtmacpjnkmkaloaaHx
namespace Go.Proofs.Ytmacpjnkmkaloaa
open Go.RowKit
theorem stK_calm (z : Nat → Nat → Int) : ∀ k, k ≤ 40 → Calm (stK z k).1
  | 0, _ => calm_nil
  | k + 1, h => by
    obtain ⟨h1, h2, h3⟩ := stK_ord z k (by omega)
    exact do_calm (l := (stK z k).1) (n := (stK z k).2) _ h1 (by omega) (stK_calm z k (by omega))
theorem blockers_any (t r n : Int) (v : Value) (l : List Rq) (id0 : Int) (w : World) (hv : RQ w v l) (hl : l.length ≤ 1000) :
    Calls Try.prog 25 #[hval t r v n, .int .i64 id0] w fun e w' => ∃ a c, e = .returned (.slice a (blkV l id0).length c) ∧ Sep w' [vec 3 1 (.slice a (blkV l id0).length c) (blkV l id0).length ((blkV l id0).map (Value.int .i64)), old w] := by
  have nil : ∀ w', Below w.heap.size w w' → Sep w' [vec 3 1 (.slice none 0 0) 0 [], old w] := fun w' hb => ((Sep.start w).below hb).vec_nil _ _
  by_cases hn : plc l id0 < 0
  · have e0 : blkV l id0 = [] := by unfold blkV; rw [if_pos hn]
    rw [e0]
    refine (blockers_none t r n v l id0 w hv hl (plc_neg hn)).mono ?_
    rintro e w' ⟨rfl, hb⟩
    exact ⟨none, 0, rfl, nil w' hb⟩
  · obtain ⟨i, hi, hil, _⟩ := plc_spec l id0 hn
    by_cases hs : 0 < (l.getD i default).since
    · have e0 : blkV l id0 = nrm (blkL l (l.getD i default)) := by unfold blkV; rw [if_neg hn, hi, Int.toNat_natCast, if_pos hs]
      rw [e0]
      exact blockers_some t r n v l id0 w hv hl i hi hil (decide_eq_true hs)
    · have e0 : blkV l id0 = [] := by unfold blkV; rw [if_neg hn, hi, Int.toNat_natCast, if_neg hs]
      rw [e0]
      refine (blockers_calm t r n v l id0 w hv hl i hi hil (decide_eq_false hs)).mono ?_
      rintro e w' ⟨rfl, hb⟩
      exact ⟨none, 0, rfl, nil w' hb⟩
set_option maxHeartbeats 20000000 in
set_option maxRecDepth 100000 in
theorem holds_walk (a : Option Addr) (len cap : Nat) (z : Nat → Nat → Int) (w : World) (hv : IsRows 4 w a len cap z) :
    Calls Try.prog 5 #[.slice a len cap] w fun e w' => e = .returned (.bool true) ∧ Below w.heap.size w w' := by
  obtain ⟨hc1, hc2, hr⟩ := hv
  replace hr := Lib.hid hr
  by_cases h40 : len ≤ 40
  · have i40 : ¬ ((len : Int) > 40) := by omega
    have hn1 := fun a0 a1 b0 b1 w => run_neq_name a0 a1 b0 b1 w
    go_enter Try.func5, Try.ntmps5
    go_wp2_with fail
    refine (lives_any _).mono ?_
    rintro e w1 ⟨rfl, b1⟩
    replace b1 := Lib.hid b1
    go_wp2_with fail
    refine (empty_any _).mono ?_
    rintro e w2 ⟨rfl, b2⟩
    unfold hval
    replace b1 := Lib.hid (belT b1.out b2)
    clear b2
    go_wp2_with fail
    have hS0 := Lib.hid (show Sep _ [vq (.slice none 0 0) [], blk w2.heap.size 26 #[.int .i64 0, .int .i64 (-1), .slice none 0 0, .int .i64 0], old w] from (((Sep.start w).below b1.out).alloc #[.int .i64 0, .int .i64 (-1), .slice none 0 0, .int .i64 0] 26).vec_nil _ _)
    clear b1
    generalize w2.heap.size = HB at *
    go_loopw [4] (fun x wr => ∃ (k : Nat) (sa : Option Addr) (sc : Nat), k ≤ len ∧ x = .int .i64 k ∧ Hid (Sep wr [vq (.slice sa (stK z k).1.length sc) (stK z k).1, blk HB 26 #[.int .i64 0, .int .i64 (-1), .slice sa (stK z k).1.length sc, .int .i64 (stK z k).2], old w])) (fun x _ => len - (intOf x).toNat)
    case atStart => exact ⟨0, none, 0, Nat.zero_le _, rfl, hS0⟩
    case round =>
      clear hS0
      obtain ⟨k, sa, sc, hk, rfl, hV⟩ := hrel
      obtain ⟨hO, hn, hln⟩ := stK_ord z k (by omega)
      by_cases hlt : k < len
      · obtain ⟨b, off, rfl, hbl, hz⟩ := hr.out (by omega)
        obtain ⟨hO2, hn2, hln2⟩ := stK_ord z (k + 1) (by omega)
        have hC2 := stK_calm z (k + 1) (by omega)
        have y0 := Lib.hid (hz k hlt 0 (by omega)).1
        have y1 := Lib.hid (hz k hlt 1 (by omega)).1
        have y2 := Lib.hid (hz k hlt 2 (by omega)).1
        have y3 := Lib.hid (hz k hlt 3 (by omega)).1
        have hE := Lib.hid (show stK z (k + 1) = doV (stK z k) ⟨z k 0 % 4, z k 1, z k 2, z k 3⟩ from rfl)
        have i1 : (0 : Int) ≤ (k : Int) := by omega
        have i2 : (k : Int) < (len : Int) := by omega
        generalize stK z k = st at *
        obtain ⟨l, n⟩ := st
        simp only at hO hn hln hV
        have HD := Lib.hid (fun W rs h => do_sep 0 (-1) n sa sc l (z k 0) (z k 1) (z k 2) (z k 3) W rs h (by omega) hO (by omega))
        rw [← hE.out] at HD
        unfold hval at HD
        obtain ⟨s2, hs2⟩ : ∃ s2, stK z (k + 1) = s2 := ⟨_, rfl⟩
        rw [hs2] at HD hO2 hn2 hln2 hC2
        obtain ⟨l2, n2⟩ := s2
        replace hs2 := Lib.hid hs2
        simp only at HD hO2 hn2 hln2 hC2
        clear hE hz hO hn hln
        generalize z k 0 = c0 at *
        generalize z k 1 = c1 at *
        generalize z k 2 = c2 at *
        generalize z k 3 = c3 at *
        have hchk : checkPB n2 l2 = true := by rw [checkPB_eq]; exact (ord_iff _ _).2 hO2
        have HCk := Lib.hid (fun a c W h => checkP_any 0 (-1) n2 (.slice a l2.length c) l2 W h (by omega))
        rw [hchk, if_pos rfl] at HCk
        have HTk := Lib.hid (fun W => kitT_any 0 W)
        have HSc := Lib.hid (fun a c W h => scan_any 0 (-1) n2 (.slice a l2.length c) l2 W h (by omega) (checkB_wants _ _ ((ord_iff _ _).2 hO2)))
        simp only [calm_scan hC2] at HSc
        have HSm := Lib.hid (fun a c a' c' W h h' => sameP_any 0 (-1) n2 0 (-1) n2 (.slice a l2.length c) (.slice a' l2.length c') l2 l2 W h h' (by omega))
        rw [show sameV 0 (-1) n2 l2 0 (-1) n2 l2 = true by simp [sameV]] at HSm
        have HBk := Lib.hid (fun id a c W h => blockers_any 0 (-1) n2 (.slice a l2.length c) l2 id W h (by omega))
        have HGp := Lib.hid (fun a c W h => group_any 0 (-1) n2 (.slice a l2.length c) l2 W h (by omega))
        have HMd := Lib.hid (fun txn a c W h => mode_any 0 (-1) n2 (.slice a l2.length c) l2 txn W h (by omega))
        have hbi := Lib.hid (fun j hj => blkV_iff hO2 hC2 j hj)
        have hgc := Lib.hid (fun j hj => group_covers hO2 j hj)
        have hmo := Lib.hid (fun j hj => mode_of hO2 j hj)
        have hca := Lib.hid (fun i j h1 h2 => com_all hO2 i j h1 h2)
        generalize hG : supL (l2.map (·.mode)) = G at *
        replace hG := Lib.hid hG
        obtain ⟨m, hm⟩ : ∃ m, l2.length = m := ⟨_, rfl⟩
        unfold hval at HCk HSc HSm HBk HGp HMd
        simp only [hm] at HD HCk HSc HSm HBk HGp HMd hbi hgc hmo hca
        have hm40 : m ≤ 41 := by omega
        replace hm := Lib.hid hm
        clear hchk hO2 hn2 hln2 hC2
        replace HD := Lib.hid HD.out
        replace HSc := Lib.hid HSc.out
        go_wp2_with fail
        replace hV := Lib.hid hV.out.drew
        have hS := Lib.hid (show (fun W : World => Sep W [blk HB 26 #[.int .i64 0, .int .i64 (-1), .slice sa l.length sc, .int .i64 n], old w]) _ from hV.out.tail)
        refine hx_begin (fun W : World => Sep W [blk HB 26 #[.int .i64 0, .int .i64 (-1), .slice sa l.length sc, .int .i64 n], old w]) 6 [(0, true), (1, true), (2, true), (3, true), (4, true), (5, false), (6, false)] [(5, 6), (0, 6), (1, 6), (2, 6), (3, 6), (4, 6)] (by kernel_rfl) (by kernel_rfl) (by kernel_rfl) (by kernel_rfl) rfl (by kernel_rfl) (by kernel_rfl) (fun _ _ _ _ _ h => h) hS.out ?_
        change HX _ _ _ _ _ _ _ (World.drew _)
        generalize World.drew _ = wd at *
        refine hx_take ?v1 rfl (by kernel_rfl) ?y1 ?z1
        case y1 => intro W hW; change Sep W _ at hW; obtain ⟨x0, d0, d1, d2, d3, g0, g1, g2, g3⟩ := hW.b4; have z0 := (hW.to1.gold.cell (p := ⟨b, off + k * 4, none⟩) hbl).trans y0.out; have z1 := (hW.to1.gold.cell (p := ⟨b, off + k * 4 + 1, none⟩) hbl).trans y1.out; have z2 := (hW.to1.gold.cell (p := ⟨b, off + k * 4 + 2, none⟩) hbl).trans y2.out; have z3 := (hW.to1.gold.cell (p := ⟨b, off + k * 4 + 3, none⟩) hbl).trans y3.out; replace hW := Lib.hid hW; go_simp; try rfl
        case z1 =>
        simp only [Act.put, List.setIfInBounds_toArray, List.set_cons_succ, List.set_cons_zero, List.getElem_toArray, List.getElem_cons_zero, List.getElem_cons_succ]
        refine hx_take ?v2 rfl (by kernel_rfl) ?y2 ?z2
        case y2 => intro W hW; skip; replace hW := Lib.hid hW; go_simp; try rfl
        case z2 =>
        simp only [Act.put, List.setIfInBounds_toArray, List.set_cons_succ, List.set_cons_zero, List.getElem_toArray, List.getElem_cons_zero, List.getElem_cons_succ]
        refine hx_take ?v3 rfl (by kernel_rfl) ?y3 ?z3
        case y3 => intro W hW; skip; replace hW := Lib.hid hW; go_simp; try rfl
        case z3 =>
        simp only [Act.put, List.setIfInBounds_toArray, List.set_cons_succ, List.set_cons_zero, List.getElem_toArray, List.getElem_cons_zero, List.getElem_cons_succ]
        refine hx_take ?v4 rfl (by kernel_rfl) ?y4 ?z4
        case y4 => intro W hW; skip; replace hW := Lib.hid hW; go_simp; try rfl
        case z4 =>
        simp only [Act.put, List.setIfInBounds_toArray, List.set_cons_succ, List.set_cons_zero, List.getElem_toArray, List.getElem_cons_zero, List.getElem_cons_succ]
        refine hx_take ?v5 rfl (by kernel_rfl) ?y5 ?z5
        case y5 => intro W hW; change Sep W _ at hW; obtain ⟨x0, d0, d1, d2, d3, g0, g1, g2, g3⟩ := hW.b4; have z0 := (hW.to1.gold.cell (p := ⟨b, off + k * 4, none⟩) hbl).trans y0.out; have z1 := (hW.to1.gold.cell (p := ⟨b, off + k * 4 + 1, none⟩) hbl).trans y1.out; have z2 := (hW.to1.gold.cell (p := ⟨b, off + k * 4 + 2, none⟩) hbl).trans y2.out; have z3 := (hW.to1.gold.cell (p := ⟨b, off + k * 4 + 3, none⟩) hbl).trans y3.out; replace hW := Lib.hid hW; go_simp; try rfl
        case z5 =>
        simp only [Act.put, List.setIfInBounds_toArray, List.set_cons_succ, List.set_cons_zero, List.getElem_toArray, List.getElem_cons_zero, List.getElem_cons_succ]
        refine hx_one (by decide) rfl (by kernel_rfl) (fun K hK => ?_)
        go_simp
        refine (HD.out _ _ hV.out).mono ?_
        rintro e w3 ⟨a3, c3', rfl, q⟩
        replace hV := Lib.hid q
        clear q
        refine hK.out _ _ hV.out.tail ?_
        clear hK K
        try simp only [Act.put, List.setIfInBounds_toArray, List.set_cons_succ, List.set_cons_zero, List.getElem_toArray, List.getElem_cons_zero, List.getElem_cons_succ]
        refine hx_last rfl (by kernel_rfl) (fun K hK => ?_)
        obtain ⟨x0, d0, d1, d2, d3, g0, g1, g2, g3⟩ := hV.out.to1.b4
        go_simp
        refine hK.out _ _ ?_
        clear hK K
        try simp only [Act.put, List.setIfInBounds_toArray, List.set_cons_succ, List.set_cons_zero, List.getElem_toArray, List.getElem_cons_zero, List.getElem_cons_succ]
        refine hx_done ?_
        skip
        clear hS
        replace hV := Lib.hid (show Sep _ [blk HB 26 #[.int .i64 0, .int .i64 (-1), .slice a3 m c3', .int .i64 n2], vq (.slice a3 m c3') l2, old w] from ((((hV.out.to1.set 0 (.int .i64 0)).set 1 (.int .i64 (-1))).set 2 (.slice a3 m c3')).set 3 (.int .i64 n2)))
        generalize World.setCell _ _ _ = wq at *
        go_wp2_with fail
        replace hV := Lib.hid hV.out.drew
        have hS := Lib.hid (show (fun W : World => Sep W [blk HB 26 #[.int .i64 0, .int .i64 (-1), .slice a3 m c3', .int .i64 n2], vq (.slice a3 m c3') l2, old w]) _ from hV.out)
        refine hl_begin (fun W : World => Sep W [blk HB 26 #[.int .i64 0, .int .i64 (-1), .slice a3 m c3', .int .i64 n2], vq (.slice a3 m c3') l2, old w]) [(0, true), (1, false), (2, true), (3, true), (4, true), (5, true), (6, false), (7, true), (8, true)] (by kernel_rfl) (by kernel_rfl) (by kernel_rfl) rfl (fun _ _ _ _ _ h => h) hS.out ?_
        change HL _ _ _ _ _ _ (World.drew _)
        generalize World.drew _ = wd at *
        refine hl_take ?v6 rfl (by kernel_rfl) ?y6 ?z6
        case y6 => intro W hW; change Sep W _ at hW; obtain ⟨x0, d0, d1, d2, d3, g0, g1, g2, g3⟩ := hW.b4; replace hW := Lib.hid hW; go_simp; try rfl
        case z6 =>
        simp only [Act.put, List.setIfInBounds_toArray, List.set_cons_succ, List.set_cons_zero, List.getElem_toArray, List.getElem_cons_zero, List.getElem_cons_succ]
        refine hl_one rfl (by kernel_rfl) (fun K hK => ?_)
        go_simp
        refine (HCk.out _ _ _ (show Sep _ _ from hS.out).to1.vq_rq).mono ?_
        rintro e w9 ⟨rfl, b9⟩
        replace hS := Lib.hid (show (fun W : World => Sep W [blk HB 26 #[.int .i64 0, .int .i64 (-1), .slice a3 m c3', .int .i64 n2], vq (.slice a3 m c3') l2, old w]) _ from (show Sep _ _ from hS.out).below b9)
        clear b9
        refine hK.out _ _ hS.out ?_
        clear hK K
        try simp only [Act.put, List.setIfInBounds_toArray, List.set_cons_succ, List.set_cons_zero, List.getElem_toArray, List.getElem_cons_zero, List.getElem_cons_succ]
        refine hl_take ?v7 rfl (by kernel_rfl) ?y7 ?z7
        case y7 => intro W hW; skip; replace hW := Lib.hid hW; go_simp; try rfl
        case z7 =>
        simp only [Act.put, List.setIfInBounds_toArray, List.set_cons_succ, List.set_cons_zero, List.getElem_toArray, List.getElem_cons_zero, List.getElem_cons_succ]
        refine hl_take ?v8 rfl (by kernel_rfl) ?y8 ?z8
        case y8 => intro W hW; skip; replace hW := Lib.hid hW; go_simp; try rfl
        case z8 =>
        simp only [Act.put, List.setIfInBounds_toArray, List.set_cons_succ, List.set_cons_zero, List.getElem_toArray, List.getElem_cons_zero, List.getElem_cons_succ]
        refine hl_take ?v9 rfl (by kernel_rfl) ?y9 ?z9
        case y9 => intro W hW; skip; replace hW := Lib.hid hW; go_simp; try rfl
        case z9 =>
        simp only [Act.put, List.setIfInBounds_toArray, List.set_cons_succ, List.set_cons_zero, List.getElem_toArray, List.getElem_cons_zero, List.getElem_cons_succ]
        refine hl_take ?v10 rfl (by kernel_rfl) ?y10 ?z10
        case y10 => intro W hW; change Sep W _ at hW; obtain ⟨x0, d0, d1, d2, d3, g0, g1, g2, g3⟩ := hW.b4; replace hW := Lib.hid hW; go_simp; try rfl
        case z10 =>
        simp only [Act.put, List.setIfInBounds_toArray, List.set_cons_succ, List.set_cons_zero, List.getElem_toArray, List.getElem_cons_zero, List.getElem_cons_succ]
        refine hl_one rfl (by kernel_rfl) (fun K hK => ?_)
        go_simp
        refine (HTk.out _).mono ?_
        rintro e w9 ⟨rfl, b9⟩
        replace hS := Lib.hid (show (fun W : World => Sep W [blk HB 26 #[.int .i64 0, .int .i64 (-1), .slice a3 m c3', .int .i64 n2], vq (.slice a3 m c3') l2, old w]) _ from (show Sep _ _ from hS.out).below b9)
        clear b9
        refine hK.out _ _ hS.out ?_
        clear hK K
        try simp only [Act.put, List.setIfInBounds_toArray, List.set_cons_succ, List.set_cons_zero, List.getElem_toArray, List.getElem_cons_zero, List.getElem_cons_succ]
        refine hl_take ?v11 rfl (by kernel_rfl) ?y11 ?z11
        case y11 => intro W hW; skip; replace hW := Lib.hid hW; go_simp; try rfl
        case z11 =>
        simp only [Act.put, List.setIfInBounds_toArray, List.set_cons_succ, List.set_cons_zero, List.getElem_toArray, List.getElem_cons_zero, List.getElem_cons_succ]
        refine hl_take ?v12 rfl (by kernel_rfl) ?y12 ?z12
        case y12 => intro W hW; skip; replace hW := Lib.hid hW; go_simp; try rfl
        case z12 =>
        simp only [Act.put, List.setIfInBounds_toArray, List.set_cons_succ, List.set_cons_zero, List.getElem_toArray, List.getElem_cons_zero, List.getElem_cons_succ]
        refine hl_done ?_
        skip
        clear hV
        replace hV := hS
        clear hS
        obtain ⟨x0, d0, d1, d2, d3, g0, g1, g2, g3⟩ := (show Sep _ _ from hV.out).b4
        go_wp2_with fail
        refine (HSc.out _ _ _ (show Sep _ _ from hV.out).to1.vq_rq).mono ?_
        rintro e w4 ⟨a4, c4, b4, e4, rfl, hS4⟩
        have hV2 := Lib.hid ((Sep.gstar.1 ((Sep.gstar.2 hS4).graft hV.out)).alloc #[.int .i64 0, .int .i64 (-1), .slice a4 m c4, .int .i64 n2] 26)
        clear hS4 HSc x0 d0 d1 d2 d3 g0 g1 g2 g3
        obtain ⟨x0, d0, d1, d2, d3, g0, g1, g2, g3⟩ := hV2.out.b4
        obtain ⟨x1, e0, e1, e2, e3, f0, f1, f2, f3⟩ := hV2.out.to3.b4
        go_wp2_with fail
        refine (HSm.out _ _ _ _ _ hV2.out.to1.vq_rq hV2.out.to4.vq_rq).mono ?_
        rintro e w5 ⟨rfl, b5⟩
        replace hV := Lib.hid (show Sep w5 [blk HB 26 #[.int .i64 0, .int .i64 (-1), .slice a3 m c3', .int .i64 n2], vq (.slice a3 m c3') l2, old w] from (hV2.out.below b5).tail.tail.tail)
        clear hV2 b5 HSm x0 d0 d1 d2 d3 g0 g1 g2 g3 x1 e0 e1 e2 e3 f0 f1 f2 f3
        go_wp2_with fail
        go_loopw [7] (fun y wr => ∃ j : Nat, j ≤ m ∧ y = .int .i64 j ∧ Hid (Sep wr [blk HB 26 #[.int .i64 0, .int .i64 (-1), .slice a3 m c3', .int .i64 n2], vq (.slice a3 m c3') l2, old w])) (fun y _ => m - (intOf y).toNat)
        case atStart => exact ⟨0, Nat.zero_le _, rfl, hV⟩
        case round =>
          clear hV
          obtain ⟨j, hj, rfl, hV⟩ := hrel
          obtain ⟨x0, d0, d1, d2, d3, _⟩ := hV.out.b4
          by_cases hjm : j < m
          · obtain ⟨g, rfl, hgl, hmc, q0, q1, q2, q3, q4, hfz⟩ := hV.out.to1.vq_at hm.out hjm
            have hbj := hbi.out j hjm
            have hgj := hgc.out j hjm
            have hmj := hmo.out j hjm
            have hcj := Lib.hid (fun i h => hca.out i j h hjm)
            generalize l2.getD j default = q at *
            obtain ⟨id, txn, mode, want, since⟩ := q
            simp only at q0 q1 q2 q3 q4 hbj hgj hmj
            have HB1 := Lib.hid (HBk.out id)
            have HM1 := Lib.hid (HMd.out txn)
            rw [hmj] at HM1
            have HC1 := Lib.hid (fun W => coversR_any G mode W)
            rw [hgj] at HC1
            generalize (blkV l2 id).length = L at *
            generalize hbo : decide (0 < since) = bo at *
            have i5 : (0 : Int) ≤ (j : Int) := by omega
            have i6 : (j : Int) < (m : Int) := by omega
            clear hgj hmj hfz hgl hmc
            go_wp2_with fail
            have hV3 := Lib.hid ((hV.out.alloc #[.int .i64 id, .int .i64 txn, .int .i64 mode, .int .i64 want, .int .i64 since] 48).drew)
            clear hV q0 q1 q2 q3 q4 x0 d0 d1 d2 d3
            have hS := Lib.hid (show (fun W : World => Sep W [blk wr.heap.size 48 #[.int .i64 id, .int .i64 txn, .int .i64 mode, .int .i64 want, .int .i64 since], blk HB 26 #[.int .i64 0, .int .i64 (-1), .slice (some ⟨g, 0, none⟩) m c3', .int .i64 n2], vq (.slice (some ⟨g, 0, none⟩) m c3') l2, old w]) _ from hV3.out)
            refine hl_begin (fun W : World => Sep W [blk wr.heap.size 48 #[.int .i64 id, .int .i64 txn, .int .i64 mode, .int .i64 want, .int .i64 since], blk HB 26 #[.int .i64 0, .int .i64 (-1), .slice (some ⟨g, 0, none⟩) m c3', .int .i64 n2], vq (.slice (some ⟨g, 0, none⟩) m c3') l2, old w]) [(0, true), (1, true), (2, true), (6, true), (7, true), (8, true), (3, false), (4, true), (5, true), (9, true), (10, true), (11, true), (13, true), (14, true), (12, false), (15, false), (16, true), (17, true), (18, true), (19, true), (20, true), (21, true), (23, true), (24, true), (22, false), (25, true), (26, true)] (by kernel_rfl) (by kernel_rfl) (by kernel_rfl) rfl (fun _ _ _ _ _ h => h) hS.out ?_
            change HL _ _ _ _ _ _ (World.drew _)
            generalize World.drew _ = wd at *
            refine hl_take ?v13 rfl (by kernel_rfl) ?y13 ?z13
            case y13 => intro W hW; change Sep W _ at hW; obtain ⟨_, r0, r1, r2, r3, r4, _⟩ := hW.b5; obtain ⟨x0, d0, d1, d2, d3, _⟩ := hW.to1.b4; replace hW := Lib.hid hW; go_simp; try rfl
            case z13 =>
            simp only [Act.put, List.setIfInBounds_toArray, List.set_cons_succ, List.set_cons_zero, List.getElem_toArray, List.getElem_cons_zero, List.getElem_cons_succ]
            refine hl_take ?v14 rfl (by kernel_rfl) ?y14 ?z14
            case y14 => intro W hW; skip; replace hW := Lib.hid hW; go_simp; try rfl
            case z14 =>
            simp only [Act.put, List.setIfInBounds_toArray, List.set_cons_succ, List.set_cons_zero, List.getElem_toArray, List.getElem_cons_zero, List.getElem_cons_succ]
            refine hl_take ?v15 rfl (by kernel_rfl) ?y15 ?z15
            case y15 => intro W hW; change Sep W _ at hW; obtain ⟨_, r0, r1, r2, r3, r4, _⟩ := hW.b5; obtain ⟨x0, d0, d1, d2, d3, _⟩ := hW.to1.b4; replace hW := Lib.hid hW; go_simp; try rfl
            case z15 =>
            simp only [Act.put, List.setIfInBounds_toArray, List.set_cons_succ, List.set_cons_zero, List.getElem_toArray, List.getElem_cons_zero, List.getElem_cons_succ]
            refine hl_take ?v16 rfl (by kernel_rfl) ?y16 ?z16
            case y16 => intro W hW; skip; replace hW := Lib.hid hW; go_simp; try rfl
            case z16 =>
            simp only [Act.put, List.setIfInBounds_toArray, List.set_cons_succ, List.set_cons_zero, List.getElem_toArray, List.getElem_cons_zero, List.getElem_cons_succ]
            refine hl_take ?v17 rfl (by kernel_rfl) ?y17 ?z17
            case y17 => intro W hW; change Sep W _ at hW; obtain ⟨_, r0, r1, r2, r3, r4, _⟩ := hW.b5; obtain ⟨x0, d0, d1, d2, d3, _⟩ := hW.to1.b4; replace hW := Lib.hid hW; go_simp; try rfl
            case z17 =>
            simp only [Act.put, List.setIfInBounds_toArray, List.set_cons_succ, List.set_cons_zero, List.getElem_toArray, List.getElem_cons_zero, List.getElem_cons_succ]
            refine hl_take ?v18 rfl (by kernel_rfl) ?y18 ?z18
            case y18 => intro W hW; skip; replace hW := Lib.hid hW; go_simp; try rfl
            case z18 =>
            simp only [Act.put, List.setIfInBounds_toArray, List.set_cons_succ, List.set_cons_zero, List.getElem_toArray, List.getElem_cons_zero, List.getElem_cons_succ]
            refine hl_one rfl (by kernel_rfl) (fun K hK => ?_)
            go_simp
            refine (HB1.out _ _ _ (show Sep _ _ from hS.out).to2.vq_rq).mono ?_
            rintro e w9 ⟨ba, bc, rfl, b9⟩
            replace hS := Lib.hid (show (fun W : World => Sep W [blk wr.heap.size 48 #[.int .i64 id, .int .i64 txn, .int .i64 mode, .int .i64 want, .int .i64 since], blk HB 26 #[.int .i64 0, .int .i64 (-1), .slice (some ⟨g, 0, none⟩) m c3', .int .i64 n2], vq (.slice (some ⟨g, 0, none⟩) m c3') l2, old w]) _ from (show Sep _ _ from hS.out).below b9.tail.gold)
            clear b9
            refine hK.out _ _ hS.out ?_
            clear hK K
            try simp only [Act.put, List.setIfInBounds_toArray, List.set_cons_succ, List.set_cons_zero, List.getElem_toArray, List.getElem_cons_zero, List.getElem_cons_succ]
            refine hl_take ?v19 rfl (by kernel_rfl) ?y19 ?z19
            case y19 => intro W hW; skip; replace hW := Lib.hid hW; go_simp; try rfl
            case z19 =>
            simp only [Act.put, List.setIfInBounds_toArray, List.set_cons_succ, List.set_cons_zero, List.getElem_toArray, List.getElem_cons_zero, List.getElem_cons_succ]
            refine hl_take ?v20 rfl (by kernel_rfl) ?y20 ?z20
            case y20 => intro W hW; skip; replace hW := Lib.hid hW; go_simp; try rfl
            case z20 =>
            simp only [Act.put, List.setIfInBounds_toArray, List.set_cons_succ, List.set_cons_zero, List.getElem_toArray, List.getElem_cons_zero, List.getElem_cons_succ]
            refine hl_take ?v21 rfl (by kernel_rfl) ?y21 ?z21
            case y21 => intro W hW; skip; replace hW := Lib.hid hW; go_simp; try rfl
            case z21 =>
            simp only [Act.put, List.setIfInBounds_toArray, List.set_cons_succ, List.set_cons_zero, List.getElem_toArray, List.getElem_cons_zero, List.getElem_cons_succ]
            refine hl_take ?v22 rfl (by kernel_rfl) ?y22 ?z22
            case y22 => intro W hW; skip; replace hW := Lib.hid hW; go_simp; try rfl
            case z22 =>
            simp only [Act.put, List.setIfInBounds_toArray, List.set_cons_succ, List.set_cons_zero, List.getElem_toArray, List.getElem_cons_zero, List.getElem_cons_succ]
            refine hl_take ?v23 rfl (by kernel_rfl) ?y23 ?z23
            case y23 => intro W hW; change Sep W _ at hW; obtain ⟨_, r0, r1, r2, r3, r4, _⟩ := hW.b5; obtain ⟨x0, d0, d1, d2, d3, _⟩ := hW.to1.b4; replace hW := Lib.hid hW; go_simp; try rfl
            case z23 =>
            simp only [Act.put, List.setIfInBounds_toArray, List.set_cons_succ, List.set_cons_zero, List.getElem_toArray, List.getElem_cons_zero, List.getElem_cons_succ]
            refine hl_take ?v24 rfl (by kernel_rfl) ?y24 ?z24
            case y24 => intro W hW; skip; replace hW := Lib.hid hW; go_simp; try rfl
            case z24 =>
            simp only [Act.put, List.setIfInBounds_toArray, List.set_cons_succ, List.set_cons_zero, List.getElem_toArray, List.getElem_cons_zero, List.getElem_cons_succ]
            refine hl_take ?v25 rfl (by kernel_rfl) ?y25 ?z25
            case y25 => intro W hW; change Sep W _ at hW; obtain ⟨_, r0, r1, r2, r3, r4, _⟩ := hW.b5; obtain ⟨x0, d0, d1, d2, d3, _⟩ := hW.to1.b4; replace hW := Lib.hid hW; go_simp; try rfl
            case z25 =>
            simp only [Act.put, List.setIfInBounds_toArray, List.set_cons_succ, List.set_cons_zero, List.getElem_toArray, List.getElem_cons_zero, List.getElem_cons_succ]
            refine hl_one rfl (by kernel_rfl) (fun K hK => ?_)
            go_simp
            refine (HGp.out _ _ _ (show Sep _ _ from hS.out).to2.vq_rq).mono ?_
            rintro e w9 ⟨rfl, b9⟩
            replace hS := Lib.hid (show (fun W : World => Sep W [blk wr.heap.size 48 #[.int .i64 id, .int .i64 txn, .int .i64 mode, .int .i64 want, .int .i64 since], blk HB 26 #[.int .i64 0, .int .i64 (-1), .slice (some ⟨g, 0, none⟩) m c3', .int .i64 n2], vq (.slice (some ⟨g, 0, none⟩) m c3') l2, old w]) _ from (show Sep _ _ from hS.out).below b9)
            clear b9
            refine hK.out _ _ hS.out ?_
            clear hK K
            try simp only [Act.put, List.setIfInBounds_toArray, List.set_cons_succ, List.set_cons_zero, List.getElem_toArray, List.getElem_cons_zero, List.getElem_cons_succ]
            refine hl_one rfl (by kernel_rfl) (fun K hK => ?_)
            go_simp
            refine (HC1.out _).mono ?_
            rintro e w9 ⟨rfl, b9⟩
            replace hS := Lib.hid (show (fun W : World => Sep W [blk wr.heap.size 48 #[.int .i64 id, .int .i64 txn, .int .i64 mode, .int .i64 want, .int .i64 since], blk HB 26 #[.int .i64 0, .int .i64 (-1), .slice (some ⟨g, 0, none⟩) m c3', .int .i64 n2], vq (.slice (some ⟨g, 0, none⟩) m c3') l2, old w]) _ from (show Sep _ _ from hS.out).below b9)
            clear b9
            refine hK.out _ _ hS.out ?_
            clear hK K
            try simp only [Act.put, List.setIfInBounds_toArray, List.set_cons_succ, List.set_cons_zero, List.getElem_toArray, List.getElem_cons_zero, List.getElem_cons_succ]
            refine hl_take ?v26 rfl (by kernel_rfl) ?y26 ?z26
            case y26 => intro W hW; skip; replace hW := Lib.hid hW; go_simp; try rfl
            case z26 =>
            simp only [Act.put, List.setIfInBounds_toArray, List.set_cons_succ, List.set_cons_zero, List.getElem_toArray, List.getElem_cons_zero, List.getElem_cons_succ]
            refine hl_take ?v27 rfl (by kernel_rfl) ?y27 ?z27
            case y27 => intro W hW; skip; replace hW := Lib.hid hW; go_simp; try rfl
            case z27 =>
            simp only [Act.put, List.setIfInBounds_toArray, List.set_cons_succ, List.set_cons_zero, List.getElem_toArray, List.getElem_cons_zero, List.getElem_cons_succ]
            refine hl_take ?v28 rfl (by kernel_rfl) ?y28 ?z28
            case y28 => intro W hW; skip; replace hW := Lib.hid hW; go_simp; try rfl
            case z28 =>
            simp only [Act.put, List.setIfInBounds_toArray, List.set_cons_succ, List.set_cons_zero, List.getElem_toArray, List.getElem_cons_zero, List.getElem_cons_succ]
            refine hl_take ?v29 rfl (by kernel_rfl) ?y29 ?z29
            case y29 => intro W hW; change Sep W _ at hW; obtain ⟨_, r0, r1, r2, r3, r4, _⟩ := hW.b5; obtain ⟨x0, d0, d1, d2, d3, _⟩ := hW.to1.b4; replace hW := Lib.hid hW; go_simp; try rfl
            case z29 =>
            simp only [Act.put, List.setIfInBounds_toArray, List.set_cons_succ, List.set_cons_zero, List.getElem_toArray, List.getElem_cons_zero, List.getElem_cons_succ]
            refine hl_take ?v30 rfl (by kernel_rfl) ?y30 ?z30
            case y30 => intro W hW; skip; replace hW := Lib.hid hW; go_simp; try rfl
            case z30 =>
            simp only [Act.put, List.setIfInBounds_toArray, List.set_cons_succ, List.set_cons_zero, List.getElem_toArray, List.getElem_cons_zero, List.getElem_cons_succ]
            refine hl_take ?v31 rfl (by kernel_rfl) ?y31 ?z31
            case y31 => intro W hW; change Sep W _ at hW; obtain ⟨_, r0, r1, r2, r3, r4, _⟩ := hW.b5; obtain ⟨x0, d0, d1, d2, d3, _⟩ := hW.to1.b4; replace hW := Lib.hid hW; go_simp; try rfl
            case z31 =>
            simp only [Act.put, List.setIfInBounds_toArray, List.set_cons_succ, List.set_cons_zero, List.getElem_toArray, List.getElem_cons_zero, List.getElem_cons_succ]
            refine hl_take ?v32 rfl (by kernel_rfl) ?y32 ?z32
            case y32 => intro W hW; skip; replace hW := Lib.hid hW; go_simp; try rfl
            case z32 =>
            simp only [Act.put, List.setIfInBounds_toArray, List.set_cons_succ, List.set_cons_zero, List.getElem_toArray, List.getElem_cons_zero, List.getElem_cons_succ]
            refine hl_take ?v33 rfl (by kernel_rfl) ?y33 ?z33
            case y33 => intro W hW; change Sep W _ at hW; obtain ⟨_, r0, r1, r2, r3, r4, _⟩ := hW.b5; obtain ⟨x0, d0, d1, d2, d3, _⟩ := hW.to1.b4; replace hW := Lib.hid hW; go_simp; try rfl
            case z33 =>
            simp only [Act.put, List.setIfInBounds_toArray, List.set_cons_succ, List.set_cons_zero, List.getElem_toArray, List.getElem_cons_zero, List.getElem_cons_succ]
            refine hl_one rfl (by kernel_rfl) (fun K hK => ?_)
            go_simp
            refine (HM1.out _ _ _ (show Sep _ _ from hS.out).to2.vq_rq).mono ?_
            rintro e w9 ⟨rfl, b9⟩
            replace hS := Lib.hid (show (fun W : World => Sep W [blk wr.heap.size 48 #[.int .i64 id, .int .i64 txn, .int .i64 mode, .int .i64 want, .int .i64 since], blk HB 26 #[.int .i64 0, .int .i64 (-1), .slice (some ⟨g, 0, none⟩) m c3', .int .i64 n2], vq (.slice (some ⟨g, 0, none⟩) m c3') l2, old w]) _ from (show Sep _ _ from hS.out).below b9)
            clear b9
            refine hK.out _ _ hS.out ?_
            clear hK K
            try simp only [Act.put, List.setIfInBounds_toArray, List.set_cons_succ, List.set_cons_zero, List.getElem_toArray, List.getElem_cons_zero, List.getElem_cons_succ]
            refine hl_take ?v34 rfl (by kernel_rfl) ?y34 ?z34
            case y34 => intro W hW; skip; replace hW := Lib.hid hW; go_simp; try rfl
            case z34 =>
            simp only [Act.put, List.setIfInBounds_toArray, List.set_cons_succ, List.set_cons_zero, List.getElem_toArray, List.getElem_cons_zero, List.getElem_cons_succ]
            refine hl_take ?v35 rfl (by kernel_rfl) ?y35 ?z35
            case y35 => intro W hW; skip; replace hW := Lib.hid hW; go_simp; try rfl
            case z35 =>
            simp only [Act.put, List.setIfInBounds_toArray, List.set_cons_succ, List.set_cons_zero, List.getElem_toArray, List.getElem_cons_zero, List.getElem_cons_succ]
            refine hl_done ?_
            skip
            clear hV3
            replace hV3 := hS
            clear hS HB1 HM1 HC1 hbj hbo
            go_wp2_with fail
            generalize wr.heap.size = RB at *
            go_loopw [9] (fun y wr => ∃ i : Nat, i ≤ j ∧ y = .int .i64 i ∧ Hid (Sep wr [blk RB 48 #[.int .i64 id, .int .i64 txn, .int .i64 mode, .int .i64 want, .int .i64 since], blk HB 26 #[.int .i64 0, .int .i64 (-1), .slice (some ⟨g, 0, none⟩) m c3', .int .i64 n2], vq (.slice (some ⟨g, 0, none⟩) m c3') l2, old w])) (fun y _ => j - (intOf y).toNat)
            case atStart => exact ⟨0, Nat.zero_le _, rfl, hV3⟩
            case round =>
              clear hV3
              obtain ⟨i, hi, rfl, hV3⟩ := hrel
              by_cases hij : i < j
              · have him : i < m := by omega
                have hci := hcj.out i hij
                have HC2 := Lib.hid (fun W => compatR_any (l2.getD i default).mode mode W)
                rw [hci] at HC2
                have i7 : (0 : Int) ≤ (i : Int) := by omega
                have i8 : (i : Int) < (m : Int) := by omega
                have i9 : (i : Int) < (j : Int) := by omega
                clear hci
                generalize hp : l2.getD i default = p at *
                replace hp := Lib.hid hp
                obtain ⟨pid, ptxn, pmode, pwant, psince⟩ := p
                simp only at HC2
                go_wp2_with fail
                replace hV3 := Lib.hid hV3.out.drew
                have hS := Lib.hid (show (fun W : World => Sep W [blk RB 48 #[.int .i64 id, .int .i64 txn, .int .i64 mode, .int .i64 want, .int .i64 since], blk HB 26 #[.int .i64 0, .int .i64 (-1), .slice (some ⟨g, 0, none⟩) m c3', .int .i64 n2], vq (.slice (some ⟨g, 0, none⟩) m c3') l2, old w]) _ from hV3.out)
                refine hl_begin (fun W : World => Sep W [blk RB 48 #[.int .i64 id, .int .i64 txn, .int .i64 mode, .int .i64 want, .int .i64 since], blk HB 26 #[.int .i64 0, .int .i64 (-1), .slice (some ⟨g, 0, none⟩) m c3', .int .i64 n2], vq (.slice (some ⟨g, 0, none⟩) m c3') l2, old w]) [(0, true), (1, true), (2, true), (3, true), (4, true), (5, true), (6, true), (7, true), (8, false), (9, true)] (by kernel_rfl) (by kernel_rfl) (by kernel_rfl) rfl (fun _ _ _ _ _ h => h) hS.out ?_
                change HL _ _ _ _ _ _ (World.drew _)
                generalize World.drew _ = wd at *
                refine hl_take ?v36 rfl (by kernel_rfl) ?y36 ?z36
                case y36 => intro W hW; skip; replace hW := Lib.hid hW; go_simp; try rfl
                case z36 =>
                simp only [Act.put, List.setIfInBounds_toArray, List.set_cons_succ, List.set_cons_zero, List.getElem_toArray, List.getElem_cons_zero, List.getElem_cons_succ]
                refine hl_take ?v37 rfl (by kernel_rfl) ?y37 ?z37
                case y37 => intro W hW; change Sep W _ at hW; obtain ⟨_, r0, r1, r2, r3, r4, _⟩ := hW.b5; obtain ⟨x0, d0, d1, d2, d3, _⟩ := hW.to1.b4; obtain ⟨g', hg', hgl, hmc, q0, q1, q2, q3, q4, hfz⟩ := hW.to2.vq_at hm.out him; injection hg' with hg'; injection hg' with hg'; subst hg'; rw [hp.out] at q0 q1 q2 q3 q4; simp only at q0 q1 q2 q3 q4; replace hW := Lib.hid hW; go_simp; try rfl
                case z37 =>
                simp only [Act.put, List.setIfInBounds_toArray, List.set_cons_succ, List.set_cons_zero, List.getElem_toArray, List.getElem_cons_zero, List.getElem_cons_succ]
                refine hl_take ?v38 rfl (by kernel_rfl) ?y38 ?z38
                case y38 => intro W hW; skip; replace hW := Lib.hid hW; go_simp; try rfl
                case z38 =>
                simp only [Act.put, List.setIfInBounds_toArray, List.set_cons_succ, List.set_cons_zero, List.getElem_toArray, List.getElem_cons_zero, List.getElem_cons_succ]
                refine hl_take ?v39 rfl (by kernel_rfl) ?y39 ?z39
                case y39 => intro W hW; skip; replace hW := Lib.hid hW; go_simp; try rfl
                case z39 =>
                simp only [Act.put, List.setIfInBounds_toArray, List.set_cons_succ, List.set_cons_zero, List.getElem_toArray, List.getElem_cons_zero, List.getElem_cons_succ]
                refine hl_take ?v40 rfl (by kernel_rfl) ?y40 ?z40
                case y40 => intro W hW; skip; replace hW := Lib.hid hW; go_simp; try rfl
                case z40 =>
                simp only [Act.put, List.setIfInBounds_toArray, List.set_cons_succ, List.set_cons_zero, List.getElem_toArray, List.getElem_cons_zero, List.getElem_cons_succ]
                refine hl_take ?v41 rfl (by kernel_rfl) ?y41 ?z41
                case y41 => intro W hW; change Sep W _ at hW; obtain ⟨_, r0, r1, r2, r3, r4, _⟩ := hW.b5; obtain ⟨x0, d0, d1, d2, d3, _⟩ := hW.to1.b4; obtain ⟨g', hg', hgl, hmc, q0, q1, q2, q3, q4, hfz⟩ := hW.to2.vq_at hm.out him; injection hg' with hg'; injection hg' with hg'; subst hg'; rw [hp.out] at q0 q1 q2 q3 q4; simp only at q0 q1 q2 q3 q4; replace hW := Lib.hid hW; go_simp; try rfl
                case z41 =>
                simp only [Act.put, List.setIfInBounds_toArray, List.set_cons_succ, List.set_cons_zero, List.getElem_toArray, List.getElem_cons_zero, List.getElem_cons_succ]
                refine hl_take ?v42 rfl (by kernel_rfl) ?y42 ?z42
                case y42 => intro W hW; skip; replace hW := Lib.hid hW; go_simp; try rfl
                case z42 =>
                simp only [Act.put, List.setIfInBounds_toArray, List.set_cons_succ, List.set_cons_zero, List.getElem_toArray, List.getElem_cons_zero, List.getElem_cons_succ]
                refine hl_take ?v43 rfl (by kernel_rfl) ?y43 ?z43
                case y43 => intro W hW; change Sep W _ at hW; obtain ⟨_, r0, r1, r2, r3, r4, _⟩ := hW.b5; obtain ⟨x0, d0, d1, d2, d3, _⟩ := hW.to1.b4; obtain ⟨g', hg', hgl, hmc, q0, q1, q2, q3, q4, hfz⟩ := hW.to2.vq_at hm.out him; injection hg' with hg'; injection hg' with hg'; subst hg'; rw [hp.out] at q0 q1 q2 q3 q4; simp only at q0 q1 q2 q3 q4; replace hW := Lib.hid hW; go_simp; try rfl
                case z43 =>
                simp only [Act.put, List.setIfInBounds_toArray, List.set_cons_succ, List.set_cons_zero, List.getElem_toArray, List.getElem_cons_zero, List.getElem_cons_succ]
                refine hl_one rfl (by kernel_rfl) (fun K hK => ?_)
                go_simp
                refine (HC2.out _).mono ?_
                rintro e w9 ⟨rfl, b9⟩
                replace hS := Lib.hid (show (fun W : World => Sep W [blk RB 48 #[.int .i64 id, .int .i64 txn, .int .i64 mode, .int .i64 want, .int .i64 since], blk HB 26 #[.int .i64 0, .int .i64 (-1), .slice (some ⟨g, 0, none⟩) m c3', .int .i64 n2], vq (.slice (some ⟨g, 0, none⟩) m c3') l2, old w]) _ from (show Sep _ _ from hS.out).below b9)
                clear b9
                refine hK.out _ _ hS.out ?_
                clear hK K
                try simp only [Act.put, List.setIfInBounds_toArray, List.set_cons_succ, List.set_cons_zero, List.getElem_toArray, List.getElem_cons_zero, List.getElem_cons_succ]
                refine hl_take ?v44 rfl (by kernel_rfl) ?y44 ?z44
                case y44 => intro W hW; skip; replace hW := Lib.hid hW; go_simp; try rfl
                case z44 =>
                simp only [Act.put, List.setIfInBounds_toArray, List.set_cons_succ, List.set_cons_zero, List.getElem_toArray, List.getElem_cons_zero, List.getElem_cons_succ]
                refine hl_done ?_
                skip
                clear hV3
                replace hV3 := hS
                clear hS HC2
                go_wp2_with fail
                go_roundw
                case rel => exact ⟨i + 1, by omega, by go_num, hV3⟩
                case measure => simp [intOf]; omega
              · obtain rfl : i = j := by omega
                go_wp2_with fail
                go_roundw
                case rel => exact ⟨i + 1, by omega, by go_num, Lib.hid hV3.out.tail⟩
                case measure => simp [intOf]; omega
          · obtain rfl : j = m := by omega
            go_wp2_with fail
            go_roundw
            case rel => exact ⟨k + 1, a3, c3', by omega, by go_num, by rw [hs2.out]; simp only [hm.out]; exact Lib.hid hV.out.to1⟩
            case measure => simp [intOf]; omega
      · obtain rfl : k = len := by omega
        go_wp2_with fail
        go_ret
        exact ⟨rfl, hV.out.to2.gold⟩
  · have i40 : (len : Int) > 40 := by omega
    go_enter Try.func5, Try.ntmps5
    go_wp2_with fail
    refine (lives_any _).mono ?_
    rintro e w1 ⟨rfl, b1⟩
    replace b1 := Lib.hid b1
    go_wp2_with fail
    go_ret
    exact ⟨rfl, b1.out⟩
end Go.Proofs.Ytmacpjnkmkaloaa
