/-
  The walk of VictimBreaks. No condition beside arguments that can be read.
-/
import Derived.Test.YthbamhfnemdebaaVBp
import Derived.Test.YthbamhfnemdebaaVCw
namespace Go.Proofs.Ythbamhfnemdebaa
open Go.RowKit
/-- Edges as they come in. -/
def edL (len : Nat) (z : Nat → Nat → Int) : List Ed := (List.range len).map fun k : Nat => ⟨z k 0, z k 1⟩
theorem edL_len (len : Nat) (z : Nat → Nat → Int) : (edL len z).length = len := by simp [edL]
theorem edL_rl {w : World} {a : Option Addr} {len cap : Nat} {z : Nat → Nat → Int} (h : IsRows 2 w a len cap z) (hn : a = none → cap = 0) : RL w (.slice a len cap) 2 (edL len z).length ((edL len z).flatMap Ed.cells) := by
  refine ⟨flat_len Ed.cells 2 ed_len _, a, cap, by rw [edL_len], by rw [edL_len]; exact h.1, hn, fun h0 => ?_⟩
  rw [edL_len] at h0
  obtain ⟨b, off, rfl, hb, hz⟩ := h.2.2 h0
  refine ⟨b, off, rfl, hb, fun j u hj => ?_⟩
  have hj2 : j < len * 2 := by
    have := (List.getElem?_eq_some_iff.1 hj).1
    rw [flat_len Ed.cells 2 ed_len, edL_len] at this
    exact this
  have hk : (edL len z)[j / 2]? = some ⟨z (j / 2) 0, z (j / 2) 1⟩ := by
    unfold edL
    rw [List.getElem?_map, List.getElem?_range (by omega)]
    rfl
  have hf := flat_at Ed.cells 2 ed_len (edL len z) (j / 2) (j % 2) _ hk (by omega)
  rw [show j / 2 * 2 + j % 2 = j by omega, hj] at hf
  have hc := (hz (j / 2) (by omega) (j % 2) (by omega)).1
  rw [show off + j / 2 * 2 + j % 2 = off + j by omega] at hc
  rw [hc]
  have h2 : j % 2 = 0 ∨ j % 2 = 1 := by omega
  rcases h2 with h2 | h2
  · rw [h2] at hf ⊢; exact hf.symm
  · rw [h2] at hf ⊢; exact hf.symm
theorem int_atV {xs : List Int} {i : Nat} (h : i < xs.length) : (xs.map (Value.int .i64))[i]? = some (.int .i64 (xs.getD i 0)) := by
  rw [List.getElem?_map, List.getElem?_eq_getElem h]
  simp [List.getD, h]
theorem Sep.vec_ptrV {w : World} {e : TypeId} {sz n c : Nat} {a : Option Addr} {cs : List Value} {rs : List Res} (h : Sep w (vec e sz (.slice a n c) n cs :: rs)) (h0 : 0 < n) : ∃ g, a = some ⟨g, 0, none⟩ := by
  rcases h.gvec.2 with ⟨_, h1⟩ | ⟨g, cap, cur, hv, _⟩
  · omega
  · injection hv with e1 _ _
    exact ⟨g, e1⟩
theorem vic_len (A : List Ag) : ∀ (n : Nat) (L : List Ed), L.length ≤ n → (vic A L).length ≤ L.length
  | 0, L, h => by
    cases hb : (cyc L).2 with
    | false => rw [vic_no A L hb]; exact Nat.zero_le _
    | true => have := keepL_lt A L hb; omega
  | n + 1, L, h => by
    cases hb : (cyc L).2 with
    | false => rw [vic_no A L hb]; exact Nat.zero_le _
    | true =>
      have h1 := keepL_lt A L hb
      have h2 := vic_len A n (keepL (onE (vc A L)) L) (by omega)
      rw [vic_yes A L hb]
      simp only [List.length_cons]
      omega
set_option maxHeartbeats 16000000 in
set_option maxRecDepth 100000 in
theorem breaks_walk (a : Option Addr) (len cap : Nat) (z : Nat → Nat → Int) (ga : Option Addr) (gl gc : Nat) (gz : Nat → Nat → Int) (w : World) (hv0 : IsRows 2 w a len cap z) (hna : a = none → cap = 0) (hg : IsRows 2 w ga gl gc gz) (hgn : ga = none → gc = 0) :
    Calls Try.prog 3 #[.slice a len cap, .slice ga gl gc] w fun e w' => e = .returned (.bool true) ∧ Below w.heap.size w w' := by
  have hv := Lib.hid (edL_rl hv0 hna)
  have hlen := edL_len len z
  have hga := Lib.hid (agL_rl hg hgn)
  have hAl := agL_len gl gz
  clear hv0 hna hg hgn
  generalize edL len z = L at *
  generalize agL gl gz = A at *
  by_cases h30 : len ≤ 30
  · have i30 : ¬ ((30 : Int) < (len : Int)) := by omega
    by_cases h20 : gl ≤ 20
    · have i20 : ¬ ((20 : Int) < (gl : Int)) := by omega
      have hl30 : L.length ≤ 30 := by omega
      have HV := Lib.hid (fun W (hb : Below w.heap.size w W) => victims_any (.slice a len cap) (.slice ga gl gc) L A W (hv.out.below hb) (by omega) (hga.out.below hb) (by omega))
      have HO := Lib.hid (fun W (hb : Below w.heap.size w W) => ownE_any (.slice a len cap) L W (hv.out.below hb) (by omega))
      have HAL := Lib.hid (fun W (hb : Below w.heap.size w W) => acyclicR_any (.slice a len cap) L W (hv.out.below hb) (by omega))
      have HAg := Lib.hid (fun t W (hb : Below w.heap.size w W) => age_any (.slice ga gl gc) A t W (hga.out.below hb) (by omega))
      have hlf := Lib.hid (fun i => Nat.le_trans (lf_len A L i) hl30)
      have hat := Lib.hid (fun i h => vic_at A L i h)
      have hin := Lib.hid (fun i h => vic_in A L i h)
      have hon := Lib.hid (fun k i h1 h2 => vic_once A L k i h1 h2)
      have hend := Lib.hid (vic_end A L)
      have hnil := Lib.hid (vic_nil_iff A L)
      have hclen := Lib.hid (fun i => Nat.le_trans (cycL_len (lf A L i)) (Nat.succ_le_succ (Nat.le_trans (lf_len A L i) hl30)))
      have hvl := vic_len A _ L (Nat.le_refl _)
      generalize vic A L = V at *
      obtain ⟨nv, hnv⟩ : ∃ nv, Hid (V.length = nv) := ⟨_, rfl⟩
      simp only [hnv.out] at HV hat hin hon hnil
      rw [hnv.out] at hend hvl
      have hnv30 : nv ≤ 30 := by omega
      replace HV := Lib.hid HV.out
      replace hat := Lib.hid hat.out
      replace hin := Lib.hid hin.out
      replace hon := Lib.hid hon.out
      replace hnil := Lib.hid hnil.out
      go_enter Try.func3, Try.ntmps3
      go_wp2_with fail
      refine (lives_any _).mono ?_
      rintro e w1 ⟨rfl, q⟩
      have hV := Lib.hid ((Sep.start w).below q)
      clear q
      go_wp2_with fail
      refine (HV.out _ hV.out.gold).mono ?_
      rintro e w2 ⟨va, vc0, rfl, q⟩
      replace hV := Lib.hid (q.graft hV.out)
      clear q HV
      go_wp2_with fail
      refine (HO.out _ hV.out.tail.gold).mono ?_
      rintro e w3 ⟨la, lc, rfl, q⟩
      replace hV := Lib.hid (q.graft hV.out)
      clear q HO
      rw [hlen] at hV
      go_wp2_with fail
      go_loopg [6, 7] nv (fun gm s6 s7 W => ∃ (i ll : Nat) (la : Option Addr) (lc : Nat), i ≤ nv ∧ gm = nv - i ∧ s6 = .slice la ll lc ∧ s7 = .int .i64 i ∧ Hid ((lf A L i).length = ll) ∧ Hid (Sep W [vec 29 2 (.slice la ll lc) ll ((lf A L i).flatMap Ed.cells), vec 3 1 (.slice va nv vc0) nv (V.map (Value.int .i64)), old w]))
      case atStart => exact ⟨0, len, la, lc, Nat.zero_le _, rfl, rfl, rfl, Lib.hid hlen, hV⟩
      case round =>
        clear hV
        obtain ⟨i, ll, la, lc, hi, hgm, rfl, rfl, hll, hV⟩ := hrel
        have HC := Lib.hid (cycleR_any (.slice la ll lc) (lf A L i) wr (by rw [hll.out]; exact hV.out.vec_rl) (by have := hlf.out i; omega))
        by_cases hlt : i < nv
        · obtain ⟨vg, rfl⟩ := hV.out.to1.vec_ptrV (by omega)
          obtain ⟨hok, hvce⟩ := hat.out i hlt
          obtain ⟨hmem, hage⟩ := hin.out i hlt
          have hvi := Lib.hid (int_atV (xs := V) (i := i) (by rw [hnv.out]; exact hlt))
          have hon2 := Lib.hid (fun k (h : k < i) => show (V.getD k 0 == V.getD i 0) = false by rw [beq_eq_false_iff_ne]; exact hon.out k i h hlt)
          have hlf1 := Lib.hid (show lf A L (i + 1) = keepL (onE (V.getD i 0)) (lf A L i) by rw [hvce]; rfl)
          have hcn := hclen.out i
          have hlfi := hlf.out i
          rw [hok] at HC
          clear hok hvce
          generalize (cyc (lf A L i)).1 = xs at *
          generalize hLF : lf A L i = LFI at *
          clear hLF
          generalize V.getD i 0 = vi at *
          have HW := Lib.hid (fun W h => withoutR_any (.slice la ll lc) LFI vi W h (by omega))
          obtain ⟨nc, hnc⟩ : ∃ nc, Hid (xs.length = nc) := ⟨_, rfl⟩
          rw [hnc.out] at HC hcn
          have hncp : 0 < nc := by rw [← hnc.out]; exact List.length_pos_of_mem hmem
          have i1 : (0 : Int) ≤ (i : Int) := by omega
          have i2 : (i : Int) < (nv : Int) := by omega
          replace hmem := Lib.hid hmem
          replace hage := Lib.hid hage
          go_wp2_with fail
          refine HC.out.mono ?_
          rintro e w4 ⟨ca, cc, rfl, q⟩
          replace hV := Lib.hid (q.graft hV.out)
          clear q HC
          obtain ⟨cg, rfl⟩ := hV.out.vec_ptrV hncp
          go_wp2_with fail
          go_loopg [10, 11] nc (fun gm s10 s11 W => ∃ (k : Nat) (bb : Bool), k ≤ nc ∧ gm = nc - k ∧ s10 = .bool bb ∧ Hid (bb = (xs.take k).any fun z => z == vi) ∧ s11 = .int .i64 k ∧ Hid (Sep W [vec 3 1 (.slice (some ⟨cg, 0, none⟩) nc cc) nc (xs.map (Value.int .i64)), vec 29 2 (.slice la ll lc) ll (LFI.flatMap Ed.cells), vec 3 1 (.slice (some ⟨vg, 0, none⟩) nv vc0) nv (V.map (Value.int .i64)), old w]))
          case atStart => exact ⟨0, false, Nat.zero_le _, rfl, rfl, Lib.hid rfl, rfl, hV⟩
          case round =>
            clear hV
            obtain ⟨k, bb, hk, hg2, rfl, hbb, rfl, hV2⟩ := hrel
            by_cases hkn : k < nc
            · have hkl : k < xs.length := by rw [hnc.out]; exact hkn
              have hxk := Lib.hid (int_atV hkl)
              have hgk : xs.getD k 0 = xs[k] := by simp [List.getD, hkl]
              have hag2 := hage.out (xs.getD k 0) (by rw [hgk]; exact List.getElem_mem _)
              have hb2 := Lib.hid (show ((xs.take (k + 1)).any fun z => z == vi) = (bb || (xs.getD k 0 == vi)) by
                rw [hgk, List.take_succ_eq_append_getElem hkl, List.any_append, hbb.out]
                simp)
              clear hgk hkl
              generalize xs.getD k 0 = x at *
              have HA1 := Lib.hid (HAg.out x)
              have HA2 := Lib.hid (HAg.out vi)
              generalize ageL A x = ax at *
              generalize ageL A vi = av at *
              have hgt : ¬ av < ax := by omega
              have hgd : decide (av < ax) = false := by simp; omega
              have x0 := (hV2.out.vec_cell hxk.out).1
              have x1 := (hV2.out.to2.vec_cell hvi.out).1
              have k1 : (0 : Int) ≤ (k : Int) := by omega
              have k2 : (k : Int) < (nc : Int) := by omega
              cases bb with
              | true =>
                go_wp2_with fail
                go_quiet (fail)
                generalize hwq : World.drewN _ _ = wq
                replace hV2 := Lib.hid (show Sep wq [vec 3 1 (.slice (some ⟨cg, 0, none⟩) nc cc) nc (xs.map (Value.int .i64)), vec 29 2 (.slice la ll lc) ll (LFI.flatMap Ed.cells), vec 3 1 (.slice (some ⟨vg, 0, none⟩) nv vc0) nv (V.map (Value.int .i64)), old w] by rw [← hwq]; exact hV2.out.drewN _)
                clear hwq
                clear x0 x1
                go_wp2_with fail
                have hS := Lib.hid (show (fun W : World => Sep W [vec 3 1 (.slice (some ⟨cg, 0, none⟩) nc cc) nc (xs.map (Value.int .i64)), vec 29 2 (.slice la ll lc) ll (LFI.flatMap Ed.cells), vec 3 1 (.slice (some ⟨vg, 0, none⟩) nv vc0) nv (V.map (Value.int .i64)), old w]) _ from hV2.out.drew)
                refine hl_begin (fun W : World => Sep W [vec 3 1 (.slice (some ⟨cg, 0, none⟩) nc cc) nc (xs.map (Value.int .i64)), vec 29 2 (.slice la ll lc) ll (LFI.flatMap Ed.cells), vec 3 1 (.slice (some ⟨vg, 0, none⟩) nv vc0) nv (V.map (Value.int .i64)), old w]) [(0, true), (1, true), (2, true), (3, true), (4, true), (6, true), (7, true), (8, true), (9, true), (10, true), (5, false), (11, false), (12, true)] (by kernel_rfl) (by kernel_rfl) (by kernel_rfl) rfl (fun _ _ _ _ _ h => h) hS.out ?_
                change HL _ _ _ _ _ _ (World.drew _)
                generalize World.drew _ = wd at *
                refine hl_take ?v1 rfl (by kernel_rfl) ?y1 ?z1
                case y1 => intro W hW; skip; replace hW := Lib.hid hW; go_simp; try rfl
                case z1 =>
                simp only [Act.put, List.setIfInBounds_toArray, List.set_cons_succ, List.set_cons_zero, List.getElem_toArray, List.getElem_cons_zero, List.getElem_cons_succ]
                refine hl_take ?v2 rfl (by kernel_rfl) ?y2 ?z2
                case y2 => intro W hW; skip; replace hW := Lib.hid hW; go_simp; try rfl
                case z2 =>
                simp only [Act.put, List.setIfInBounds_toArray, List.set_cons_succ, List.set_cons_zero, List.getElem_toArray, List.getElem_cons_zero, List.getElem_cons_succ]
                refine hl_take ?v3 rfl (by kernel_rfl) ?y3 ?z3
                case y3 => intro W hW; skip; replace hW := Lib.hid hW; go_simp; try rfl
                case z3 =>
                simp only [Act.put, List.setIfInBounds_toArray, List.set_cons_succ, List.set_cons_zero, List.getElem_toArray, List.getElem_cons_zero, List.getElem_cons_succ]
                refine hl_take ?v4 rfl (by kernel_rfl) ?y4 ?z4
                case y4 => intro W hW; skip; replace hW := Lib.hid hW; go_simp; try rfl
                case z4 =>
                simp only [Act.put, List.setIfInBounds_toArray, List.set_cons_succ, List.set_cons_zero, List.getElem_toArray, List.getElem_cons_zero, List.getElem_cons_succ]
                refine hl_take ?v5 rfl (by kernel_rfl) ?y5 ?z5
                case y5 => intro W hW; change Sep W _ at hW; have x0 := (hW.vec_cell hxk.out).1; have x1 := (hW.to2.vec_cell hvi.out).1; replace hW := Lib.hid hW; go_simp; try rfl
                case z5 =>
                simp only [Act.put, List.setIfInBounds_toArray, List.set_cons_succ, List.set_cons_zero, List.getElem_toArray, List.getElem_cons_zero, List.getElem_cons_succ]
                refine hl_take ?v6 rfl (by kernel_rfl) ?y6 ?z6
                case y6 => intro W hW; skip; replace hW := Lib.hid hW; go_simp; try rfl
                case z6 =>
                simp only [Act.put, List.setIfInBounds_toArray, List.set_cons_succ, List.set_cons_zero, List.getElem_toArray, List.getElem_cons_zero, List.getElem_cons_succ]
                refine hl_take ?v7 rfl (by kernel_rfl) ?y7 ?z7
                case y7 => intro W hW; skip; replace hW := Lib.hid hW; go_simp; try rfl
                case z7 =>
                simp only [Act.put, List.setIfInBounds_toArray, List.set_cons_succ, List.set_cons_zero, List.getElem_toArray, List.getElem_cons_zero, List.getElem_cons_succ]
                refine hl_take ?v8 rfl (by kernel_rfl) ?y8 ?z8
                case y8 => intro W hW; skip; replace hW := Lib.hid hW; go_simp; try rfl
                case z8 =>
                simp only [Act.put, List.setIfInBounds_toArray, List.set_cons_succ, List.set_cons_zero, List.getElem_toArray, List.getElem_cons_zero, List.getElem_cons_succ]
                refine hl_take ?v9 rfl (by kernel_rfl) ?y9 ?z9
                case y9 => intro W hW; skip; replace hW := Lib.hid hW; go_simp; try rfl
                case z9 =>
                simp only [Act.put, List.setIfInBounds_toArray, List.set_cons_succ, List.set_cons_zero, List.getElem_toArray, List.getElem_cons_zero, List.getElem_cons_succ]
                refine hl_take ?v10 rfl (by kernel_rfl) ?y10 ?z10
                case y10 => intro W hW; change Sep W _ at hW; have x0 := (hW.vec_cell hxk.out).1; have x1 := (hW.to2.vec_cell hvi.out).1; replace hW := Lib.hid hW; go_simp; try rfl
                case z10 =>
                simp only [Act.put, List.setIfInBounds_toArray, List.set_cons_succ, List.set_cons_zero, List.getElem_toArray, List.getElem_cons_zero, List.getElem_cons_succ]
                refine hl_one rfl (by kernel_rfl) (fun K hK => ?_)
                go_simp
                refine (HA1.out wd hS.out.tail.tail.tail.gold).mono ?_
                rintro e w5 ⟨rfl, q⟩
                replace hS := Lib.hid (show Sep w5 [vec 3 1 (.slice (some ⟨cg, 0, none⟩) nc cc) nc (xs.map (Value.int .i64)), vec 29 2 (.slice la ll lc) ll (LFI.flatMap Ed.cells), vec 3 1 (.slice (some ⟨vg, 0, none⟩) nv vc0) nv (V.map (Value.int .i64)), old w] from hS.out.below q)
                clear q
                refine hK.out _ _ hS.out ?_
                clear hK K
                try simp only [Act.put, List.setIfInBounds_toArray, List.set_cons_succ, List.set_cons_zero, List.getElem_toArray, List.getElem_cons_zero, List.getElem_cons_succ]
                refine hl_one rfl (by kernel_rfl) (fun K hK => ?_)
                go_simp
                refine (HA2.out w5 hS.out.tail.tail.tail.gold).mono ?_
                rintro e w6 ⟨rfl, q⟩
                replace hS := Lib.hid (show Sep w6 [vec 3 1 (.slice (some ⟨cg, 0, none⟩) nc cc) nc (xs.map (Value.int .i64)), vec 29 2 (.slice la ll lc) ll (LFI.flatMap Ed.cells), vec 3 1 (.slice (some ⟨vg, 0, none⟩) nv vc0) nv (V.map (Value.int .i64)), old w] from hS.out.below q)
                clear q
                refine hK.out _ _ hS.out ?_
                clear hK K
                try simp only [Act.put, List.setIfInBounds_toArray, List.set_cons_succ, List.set_cons_zero, List.getElem_toArray, List.getElem_cons_zero, List.getElem_cons_succ]
                refine hl_take ?v11 rfl (by kernel_rfl) ?y11 ?z11
                case y11 => intro W hW; skip; replace hW := Lib.hid hW; go_simp; try rfl
                case z11 =>
                simp only [Act.put, List.setIfInBounds_toArray, List.set_cons_succ, List.set_cons_zero, List.getElem_toArray, List.getElem_cons_zero, List.getElem_cons_succ]
                refine hl_done ?_
                clear hV2
                replace hV2 := hS
                clear hS
                go_wp2_with fail
                go_roundg (nc - (k + 1))
                case measure => omega
                case rel => exact ⟨k + 1, true, by omega, rfl, rfl, Lib.hid (by rw [hb2.out]; rfl), by go_num, hV2⟩
              | false =>
                go_wp2_with fail
                go_quiet (fail)
                generalize hwq : World.drewN _ _ = wq
                replace hV2 := Lib.hid (show Sep wq [vec 3 1 (.slice (some ⟨cg, 0, none⟩) nc cc) nc (xs.map (Value.int .i64)), vec 29 2 (.slice la ll lc) ll (LFI.flatMap Ed.cells), vec 3 1 (.slice (some ⟨vg, 0, none⟩) nv vc0) nv (V.map (Value.int .i64)), old w] by rw [← hwq]; exact hV2.out.drewN _)
                clear hwq
                clear x0 x1
                go_wp2_with fail
                have hS := Lib.hid (show (fun W : World => Sep W [vec 3 1 (.slice (some ⟨cg, 0, none⟩) nc cc) nc (xs.map (Value.int .i64)), vec 29 2 (.slice la ll lc) ll (LFI.flatMap Ed.cells), vec 3 1 (.slice (some ⟨vg, 0, none⟩) nv vc0) nv (V.map (Value.int .i64)), old w]) _ from hV2.out.drew)
                refine hl_begin (fun W : World => Sep W [vec 3 1 (.slice (some ⟨cg, 0, none⟩) nc cc) nc (xs.map (Value.int .i64)), vec 29 2 (.slice la ll lc) ll (LFI.flatMap Ed.cells), vec 3 1 (.slice (some ⟨vg, 0, none⟩) nv vc0) nv (V.map (Value.int .i64)), old w]) [(0, true), (1, true), (2, true), (3, true), (4, true), (6, true), (7, true), (8, true), (9, true), (10, true), (5, false), (11, false), (12, true)] (by kernel_rfl) (by kernel_rfl) (by kernel_rfl) rfl (fun _ _ _ _ _ h => h) hS.out ?_
                change HL _ _ _ _ _ _ (World.drew _)
                generalize World.drew _ = wd at *
                refine hl_take ?v12 rfl (by kernel_rfl) ?y12 ?z12
                case y12 => intro W hW; skip; replace hW := Lib.hid hW; go_simp; try rfl
                case z12 =>
                simp only [Act.put, List.setIfInBounds_toArray, List.set_cons_succ, List.set_cons_zero, List.getElem_toArray, List.getElem_cons_zero, List.getElem_cons_succ]
                refine hl_take ?v13 rfl (by kernel_rfl) ?y13 ?z13
                case y13 => intro W hW; skip; replace hW := Lib.hid hW; go_simp; try rfl
                case z13 =>
                simp only [Act.put, List.setIfInBounds_toArray, List.set_cons_succ, List.set_cons_zero, List.getElem_toArray, List.getElem_cons_zero, List.getElem_cons_succ]
                refine hl_take ?v14 rfl (by kernel_rfl) ?y14 ?z14
                case y14 => intro W hW; skip; replace hW := Lib.hid hW; go_simp; try rfl
                case z14 =>
                simp only [Act.put, List.setIfInBounds_toArray, List.set_cons_succ, List.set_cons_zero, List.getElem_toArray, List.getElem_cons_zero, List.getElem_cons_succ]
                refine hl_take ?v15 rfl (by kernel_rfl) ?y15 ?z15
                case y15 => intro W hW; skip; replace hW := Lib.hid hW; go_simp; try rfl
                case z15 =>
                simp only [Act.put, List.setIfInBounds_toArray, List.set_cons_succ, List.set_cons_zero, List.getElem_toArray, List.getElem_cons_zero, List.getElem_cons_succ]
                refine hl_take ?v16 rfl (by kernel_rfl) ?y16 ?z16
                case y16 => intro W hW; change Sep W _ at hW; have x0 := (hW.vec_cell hxk.out).1; have x1 := (hW.to2.vec_cell hvi.out).1; replace hW := Lib.hid hW; go_simp; try rfl
                case z16 =>
                simp only [Act.put, List.setIfInBounds_toArray, List.set_cons_succ, List.set_cons_zero, List.getElem_toArray, List.getElem_cons_zero, List.getElem_cons_succ]
                refine hl_take ?v17 rfl (by kernel_rfl) ?y17 ?z17
                case y17 => intro W hW; skip; replace hW := Lib.hid hW; go_simp; try rfl
                case z17 =>
                simp only [Act.put, List.setIfInBounds_toArray, List.set_cons_succ, List.set_cons_zero, List.getElem_toArray, List.getElem_cons_zero, List.getElem_cons_succ]
                refine hl_take ?v18 rfl (by kernel_rfl) ?y18 ?z18
                case y18 => intro W hW; skip; replace hW := Lib.hid hW; go_simp; try rfl
                case z18 =>
                simp only [Act.put, List.setIfInBounds_toArray, List.set_cons_succ, List.set_cons_zero, List.getElem_toArray, List.getElem_cons_zero, List.getElem_cons_succ]
                refine hl_take ?v19 rfl (by kernel_rfl) ?y19 ?z19
                case y19 => intro W hW; skip; replace hW := Lib.hid hW; go_simp; try rfl
                case z19 =>
                simp only [Act.put, List.setIfInBounds_toArray, List.set_cons_succ, List.set_cons_zero, List.getElem_toArray, List.getElem_cons_zero, List.getElem_cons_succ]
                refine hl_take ?v20 rfl (by kernel_rfl) ?y20 ?z20
                case y20 => intro W hW; skip; replace hW := Lib.hid hW; go_simp; try rfl
                case z20 =>
                simp only [Act.put, List.setIfInBounds_toArray, List.set_cons_succ, List.set_cons_zero, List.getElem_toArray, List.getElem_cons_zero, List.getElem_cons_succ]
                refine hl_take ?v21 rfl (by kernel_rfl) ?y21 ?z21
                case y21 => intro W hW; change Sep W _ at hW; have x0 := (hW.vec_cell hxk.out).1; have x1 := (hW.to2.vec_cell hvi.out).1; replace hW := Lib.hid hW; go_simp; try rfl
                case z21 =>
                simp only [Act.put, List.setIfInBounds_toArray, List.set_cons_succ, List.set_cons_zero, List.getElem_toArray, List.getElem_cons_zero, List.getElem_cons_succ]
                refine hl_one rfl (by kernel_rfl) (fun K hK => ?_)
                go_simp
                refine (HA1.out wd hS.out.tail.tail.tail.gold).mono ?_
                rintro e w5 ⟨rfl, q⟩
                replace hS := Lib.hid (show Sep w5 [vec 3 1 (.slice (some ⟨cg, 0, none⟩) nc cc) nc (xs.map (Value.int .i64)), vec 29 2 (.slice la ll lc) ll (LFI.flatMap Ed.cells), vec 3 1 (.slice (some ⟨vg, 0, none⟩) nv vc0) nv (V.map (Value.int .i64)), old w] from hS.out.below q)
                clear q
                refine hK.out _ _ hS.out ?_
                clear hK K
                try simp only [Act.put, List.setIfInBounds_toArray, List.set_cons_succ, List.set_cons_zero, List.getElem_toArray, List.getElem_cons_zero, List.getElem_cons_succ]
                refine hl_one rfl (by kernel_rfl) (fun K hK => ?_)
                go_simp
                refine (HA2.out w5 hS.out.tail.tail.tail.gold).mono ?_
                rintro e w6 ⟨rfl, q⟩
                replace hS := Lib.hid (show Sep w6 [vec 3 1 (.slice (some ⟨cg, 0, none⟩) nc cc) nc (xs.map (Value.int .i64)), vec 29 2 (.slice la ll lc) ll (LFI.flatMap Ed.cells), vec 3 1 (.slice (some ⟨vg, 0, none⟩) nv vc0) nv (V.map (Value.int .i64)), old w] from hS.out.below q)
                clear q
                refine hK.out _ _ hS.out ?_
                clear hK K
                try simp only [Act.put, List.setIfInBounds_toArray, List.set_cons_succ, List.set_cons_zero, List.getElem_toArray, List.getElem_cons_zero, List.getElem_cons_succ]
                refine hl_take ?v22 rfl (by kernel_rfl) ?y22 ?z22
                case y22 => intro W hW; skip; replace hW := Lib.hid hW; go_simp; try rfl
                case z22 =>
                simp only [Act.put, List.setIfInBounds_toArray, List.set_cons_succ, List.set_cons_zero, List.getElem_toArray, List.getElem_cons_zero, List.getElem_cons_succ]
                refine hl_done ?_
                clear hV2
                replace hV2 := hS
                clear hS
                go_wp2_with fail
                go_roundg (nc - (k + 1))
                case measure => omega
                case rel => exact ⟨k + 1, (x == vi), by omega, rfl, rfl, Lib.hid (by rw [hb2.out]; rfl), by go_num, hV2⟩
            · have hbt : bb = true := by
                rw [hbb.out, show xs.take k = xs by rw [show k = nc by omega, ← hnc.out, List.take_length], List.any_eq_true]
                exact ⟨vi, hmem.out, by simp⟩
              subst hbt
              have k3 : ¬ (k : Int) < (nc : Int) := by omega
              go_wp2_with fail
              go_loopg [12] i (fun gm s12 W => ∃ k : Nat, k ≤ i ∧ gm = i - k ∧ s12 = .int .i64 k ∧ Hid (Sep W [vec 3 1 (.slice (some ⟨cg, 0, none⟩) nc cc) nc (xs.map (Value.int .i64)), vec 29 2 (.slice la ll lc) ll (LFI.flatMap Ed.cells), vec 3 1 (.slice (some ⟨vg, 0, none⟩) nv vc0) nv (V.map (Value.int .i64)), old w]))
              case atStart => exact ⟨0, Nat.zero_le _, rfl, rfl, hV2⟩
              case round =>
                clear hV2
                obtain ⟨k, hk, hg3, rfl, hV3⟩ := hrel
                have x1 := (hV3.out.to2.vec_cell hvi.out).1
                by_cases hki : k < i
                · have x0 := (hV3.out.to2.vec_cell (int_atV (xs := V) (i := k) (by rw [hnv.out]; omega))).1
                  have hne := hon2.out k hki
                  generalize V.getD k 0 = vk at *
                  have k1 : (0 : Int) ≤ (k : Int) := by omega
                  have k2 : (k : Int) < (i : Int) := by omega
                  have k4 : (k : Int) < (nv : Int) := by omega
                  go_wp2_with fail
                  go_quiet (fail)
                  go_wp2_with fail
                  go_roundg (i - (k + 1))
                  case measure => omega
                  case rel => exact ⟨k + 1, by omega, rfl, by go_num, Lib.hid (hV3.out.drewN _)⟩
                · have k2 : ¬ (k : Int) < (i : Int) := by omega
                  go_wp2_with fail
                  refine (HW.out _ (by have h := hV3.out.to1.vec_rl; rw [hll.out]; exact h)).mono ?_
                  rintro e w7 ⟨na, nl, rfl, q⟩
                  have hV4 := Lib.hid (q.graft hV3.out)
                  clear q HW
                  go_wp2_with fail
                  go_roundg (nv - (i + 1))
                  case measure => omega
                  case rel => exact ⟨i + 1, _, na, nl, by omega, rfl, rfl, by go_num, Lib.hid (by rw [hlf1.out]), Lib.hid (by rw [hlf1.out]; exact hV4.out.drop1.drop1)⟩
        · obtain rfl : i = nv := by omega
          have HAC := Lib.hid (acyclicR_any (.slice la ll lc) (lf A L i) wr (by rw [hll.out]; exact hV.out.vec_rl) (by have := hlf.out i; omega))
          rw [hend] at HAC
          have hnil2 := hnil.out
          have i2 : ¬ (i : Int) < (i : Int) := by omega
          by_cases h0 : i = 0
          · rw [← hnil2, decide_eq_true h0] at HAL
            subst h0
            go_wp2_with fail
            refine HAC.out.mono ?_
            rintro e w4 ⟨rfl, q⟩
            replace hV := Lib.hid (hV.out.below q)
            clear q HAC
            go_wp2_with fail
            refine (HAL.out _ hV.out.tail.tail.gold).mono ?_
            rintro e w5 ⟨rfl, q⟩
            replace hV := Lib.hid (hV.out.below q)
            clear q HAL
            go_wp2_with fail
            go_ret
            exact ⟨rfl, hV.out.tail.tail.gold⟩
          · rw [← hnil2, decide_eq_false h0] at HAL
            have h01 : ¬ (i : Int) = 0 := by omega
            have h02 : ((i : Int) == 0) = false := by simpa using h0
            go_wp2_with fail
            refine HAC.out.mono ?_
            rintro e w4 ⟨rfl, q⟩
            replace hV := Lib.hid (hV.out.below q)
            clear q HAC
            go_wp2_with fail
            refine (HAL.out _ hV.out.tail.tail.gold).mono ?_
            rintro e w5 ⟨rfl, q⟩
            replace hV := Lib.hid (hV.out.below q)
            clear q HAL
            go_wp2_with fail
            go_ret
            exact ⟨rfl, hV.out.tail.tail.gold⟩
    · have i20 : ((20 : Int) < (gl : Int)) := by omega
      clear hv hga
      go_enter Try.func3, Try.ntmps3
      go_wp2_with fail
      refine (lives_any _).mono ?_
      rintro e w1 ⟨rfl, q⟩
      have hb := Lib.hid q
      clear q
      go_wp2_with fail
      go_ret
      exact ⟨rfl, hb.out⟩
  · have i30 : (30 : Int) < (len : Int) := by omega
    clear hv hga
    go_enter Try.func3, Try.ntmps3
    go_wp2_with fail
    refine (lives_any _).mono ?_
    rintro e w1 ⟨rfl, q⟩
    have hb := Lib.hid q
    clear q
    go_wp2_with fail
    go_ret
    exact ⟨rfl, hb.out⟩
end Go.Proofs.Ythbamhfnemdebaa
