/-
  The walk of UndoParts. No condition beside acts that can be read.
-/
import Derived.Test.YtidbidalalajbaaUBk
namespace Go.Proofs.Ytidbidalalajbaa
open Go.RowKit
set_option maxHeartbeats 32000000 in
set_option maxRecDepth 100000 in
theorem uparts_walk (a0 : Option Addr) (len0 cap0 : Nat) (L0 : List Ac) (cut : Int) (w : World) (hv0 : RL w (.slice a0 len0 cap0) 8 len0 (accells L0)) (hn0 : L0.length = len0) :
    Calls Try.prog 6 #[.slice a0 len0 cap0, .int .i64 cut] w fun e w' => e = .returned (.bool true) ∧ Below w.heap.size w w' := by
  have HV0 := Lib.hid hv0
  have hl0 := Lib.hid hn0
  clear hv0 hn0
  by_cases h40 : len0 ≤ 40
  · have i40 : ¬ ((40 : Int) < (len0 : Int)) := by omega
    obtain ⟨kc, PC⟩ := pick_nat cut ((len0 : Int) + 1) (by omega) (by omega)
    have hkc := PC.lt
    have hPC := PC.run
    clear PC
    go_enter Try.func6, Try.ntmps6
    go_wp2_with fail
    refine (lives_any _).mono ?_
    rintro e w1 ⟨rfl, q0⟩
    have hV := Lib.hid ((Sep.start w).below q0)
    clear q0
    go_wp2_with fail
    refine (hPC.out _).mono ?_
    rintro e w2 ⟨rfl, rfl⟩
    clear hPC
    go_wp2_with fail
    refine (new_x _).mono ?_
    rintro e w3 ⟨p, rfl, q2⟩
    replace hV := Lib.hid (q2.graft hV.out)
    clear q2
    go_wp2_with fail
    refine (lnew_x _).mono ?_
    rintro e w4 ⟨qa, rfl, q3⟩
    replace hV := Lib.hid (q3.graft hV.out).to1
    clear q3
    go_wp2_with fail
    refine (lnew_x _).mono ?_
    rintro e w5 ⟨qf, rfl, q3⟩
    replace hV := Lib.hid (q3.graft hV.out).to2.to2
    clear q3
    go_wp2_with fail
    refine (lnew_x _).mono ?_
    rintro e w6 ⟨ql, rfl, q3⟩
    replace hV := Lib.hid (show Sep w6 [stX p [], lgX qa [], lgX qf [], lgX ql [], old w] from (q3.graft hV.out).to3.to3.to3)
    clear q3
    go_wp2_with fail
    go_loopg [9] len0 (fun gm s9 W => ∃ (k : Nat) (E : Ent) (La Lf Ll : List Wa), k ≤ len0 ∧ gm = len0 - k ∧ s9 = .int .i64 k ∧ Hid (La = Lf ++ Ll) ∧ Hid (k ≤ kc → Ll = []) ∧ Hid (Lf.length ≤ k) ∧ Hid (Ll.length ≤ k) ∧ Hid (E.length ≤ k) ∧ Hid (eqvE (undoA La E) []) ∧ Hid (Sep W [stX p E, lgX qa La, lgX qf Lf, lgX ql Ll, old w]))
    case atStart => exact ⟨0, [], [], [], [], Nat.zero_le _, rfl, rfl, Lib.hid rfl, Lib.hid (fun _ => rfl), Lib.hid (Nat.le_refl _), Lib.hid (Nat.le_refl _), Lib.hid (Nat.le_refl _), Lib.hid (fun _ => rfl), hV⟩
    case round =>
      clear hV
      obtain ⟨k, E, La, Lf, Ll, hk, hgm, rfl, hsum, hnil, hfl, hll, hEl, hun, hV⟩ := hrel
      by_cases hlt : k < len0
      · obtain ⟨b, off, rfl, hb, zz⟩ := ac_cells HV0.out hl0.out (by omega)
        obtain ⟨x, hx⟩ : ∃ x, L0[k]? = some x := ⟨L0[k]'(by rw [hl0.out]; exact hlt), List.getElem?_eq_getElem _⟩
        have v0 := zz k x hx 0 _ rfl
        have v1 := zz k x hx 1 _ rfl
        have v2 := zz k x hx 2 _ rfl
        have v3 := zz k x hx 3 _ rfl
        simp only [← Nat.add_assoc, Nat.add_zero] at v0 v1 v2 v3
        obtain ⟨kd, t, r, v, ⟨wt, wr', wv, wth⟩⟩ := x
        simp only at v0 v1 v2 v3
        have i1 : (0 : Int) ≤ (k : Int) := by omega
        have i2 : (k : Int) < (len0 : Int) := by omega
        have hms := Lib.hid (show len0 - (k + 1) < len0 - k from Nat.sub_lt_sub_left hlt (Nat.lt_succ_self k))
        clear zz hx
        obtain ⟨kp, PK⟩ := pick_nat kd 2 (by omega) (by omega)
        have hP := PK.run
        clear PK
        by_cases hkp : kp = 0
        · subst hkp
          cases hrec : isRec (t, r) with
          | true =>
            have HP := Lib.hid (fun W rs h => put_yes p E t r v W rs h hrec)
            unfold wasV at HP
            generalize hgv : (getL E (t, r)).getD 0 = gv at HP
            generalize hgh : hasL E (t, r) = gh at HP
            replace hgv := Lib.hid hgv
            replace hgh := Lib.hid hgh
            have hB := Lib.hid (hV.out.alloc #[.int .i64 0, .int .i64 0, .int .i64 0, .bool false] 31)
            have z0 := (hB.out.to5.gold.cell (p := ⟨b, off + k * 8, none⟩) hb).trans v0
            go_wp2_with fail
            generalize hgs : wr.heap.size = g at *
            replace hgs := Lib.hid hgs
            clear hV z0
            refine (hP.out _).mono ?_
            rintro e w5 ⟨rfl, rfl⟩
            go_wp2_with fail
            replace hB := Lib.hid hB.out.drew
            have hS := Lib.hid (show (fun W : World => ∃ E' c0 c1 c2 c3, Sep W [blk g 31 #[c0, c1, c2, c3], stX p E', lgX qa La, lgX qf Lf, lgX ql Ll, old w]) _ from ⟨_, _, _, _, _, hB.out⟩)
            refine hl_begin (fun W : World => ∃ E' c0 c1 c2 c3, Sep W [blk g 31 #[c0, c1, c2, c3], stX p E', lgX qa La, lgX qf Lf, lgX ql Ll, old w]) [(0, true), (1, true), (2, true), (3, true), (4, true), (5, true), (6, true), (7, true), (8, true), (9, true), (10, true), (11, false), (12, true), (13, true), (14, true), (15, false), (16, true)] (by kernel_rfl) (by kernel_rfl) (by kernel_rfl) rfl (fun _ _ _ _ _ h => h) hS.out ?_
            change HL _ _ _ _ _ _ (World.drew _)
            generalize World.drew _ = wd at *
            refine hl_take ?v1 rfl (by kernel_rfl) ?y1 ?z1
            case y1 => intro W hW; skip; replace hW := Lib.hid hW; go_simp; try rfl
            case z1 =>
            simp only [Act.put, List.setIfInBounds_toArray, List.set_cons_succ, List.set_cons_zero, List.getElem_toArray, List.getElem_cons_zero, List.getElem_cons_succ]
            refine hl_take ?v2 rfl (by kernel_rfl) ?y2 ?z2
            case y2 => intro W hW; skip; replace hW := Lib.hid hW; go_simp; try rfl
            case z2 =>
            simp only [Act.put, List.setIfInBounds_toArray, List.set_cons_succ, List.set_cons_zero, List.getElem_toArray, List.getElem_cons_zero, List.getElem_cons_succ]
            refine hl_take ?v3 rfl (by kernel_rfl) ?y3 ?z3
            case y3 => intro W hW; skip; replace hW := Lib.hid hW; go_simp; try rfl
            case z3 =>
            simp only [Act.put, List.setIfInBounds_toArray, List.set_cons_succ, List.set_cons_zero, List.getElem_toArray, List.getElem_cons_zero, List.getElem_cons_succ]
            refine hl_take ?v4 rfl (by kernel_rfl) ?y4 ?z4
            case y4 => intro W hW; skip; replace hW := Lib.hid hW; go_simp; try rfl
            case z4 =>
            simp only [Act.put, List.setIfInBounds_toArray, List.set_cons_succ, List.set_cons_zero, List.getElem_toArray, List.getElem_cons_zero, List.getElem_cons_succ]
            refine hl_take ?v5 rfl (by kernel_rfl) ?y5 ?z5
            case y5 => intro W hW; skip; replace hW := Lib.hid hW; go_simp; try rfl
            case z5 =>
            simp only [Act.put, List.setIfInBounds_toArray, List.set_cons_succ, List.set_cons_zero, List.getElem_toArray, List.getElem_cons_zero, List.getElem_cons_succ]
            refine hl_take ?v6 rfl (by kernel_rfl) ?y6 ?z6
            case y6 => intro W hW; obtain ⟨_, _, _, _, _, hW⟩ := hW; have y1 := (hW.to5.gold.cell (p := ⟨b, off + k * 8 + 1, none⟩) hb).trans v1; have y2 := (hW.to5.gold.cell (p := ⟨b, off + k * 8 + 2, none⟩) hb).trans v2; have y3 := (hW.to5.gold.cell (p := ⟨b, off + k * 8 + 3, none⟩) hb).trans v3; replace hW := Lib.hid hW; go_simp; try rfl
            case z6 =>
            simp only [Act.put, List.setIfInBounds_toArray, List.set_cons_succ, List.set_cons_zero, List.getElem_toArray, List.getElem_cons_zero, List.getElem_cons_succ]
            refine hl_take ?v7 rfl (by kernel_rfl) ?y7 ?z7
            case y7 => intro W hW; skip; replace hW := Lib.hid hW; go_simp; try rfl
            case z7 =>
            simp only [Act.put, List.setIfInBounds_toArray, List.set_cons_succ, List.set_cons_zero, List.getElem_toArray, List.getElem_cons_zero, List.getElem_cons_succ]
            refine hl_take ?v8 rfl (by kernel_rfl) ?y8 ?z8
            case y8 => intro W hW; skip; replace hW := Lib.hid hW; go_simp; try rfl
            case z8 =>
            simp only [Act.put, List.setIfInBounds_toArray, List.set_cons_succ, List.set_cons_zero, List.getElem_toArray, List.getElem_cons_zero, List.getElem_cons_succ]
            refine hl_take ?v9 rfl (by kernel_rfl) ?y9 ?z9
            case y9 => intro W hW; skip; replace hW := Lib.hid hW; go_simp; try rfl
            case z9 =>
            simp only [Act.put, List.setIfInBounds_toArray, List.set_cons_succ, List.set_cons_zero, List.getElem_toArray, List.getElem_cons_zero, List.getElem_cons_succ]
            refine hl_take ?v10 rfl (by kernel_rfl) ?y10 ?z10
            case y10 => intro W hW; skip; replace hW := Lib.hid hW; go_simp; try rfl
            case z10 =>
            simp only [Act.put, List.setIfInBounds_toArray, List.set_cons_succ, List.set_cons_zero, List.getElem_toArray, List.getElem_cons_zero, List.getElem_cons_succ]
            refine hl_take ?v11 rfl (by kernel_rfl) ?y11 ?z11
            case y11 => intro W hW; obtain ⟨_, _, _, _, _, hW⟩ := hW; have y1 := (hW.to5.gold.cell (p := ⟨b, off + k * 8 + 1, none⟩) hb).trans v1; have y2 := (hW.to5.gold.cell (p := ⟨b, off + k * 8 + 2, none⟩) hb).trans v2; have y3 := (hW.to5.gold.cell (p := ⟨b, off + k * 8 + 3, none⟩) hb).trans v3; replace hW := Lib.hid hW; go_simp; try rfl
            case z11 =>
            simp only [Act.put, List.setIfInBounds_toArray, List.set_cons_succ, List.set_cons_zero, List.getElem_toArray, List.getElem_cons_zero, List.getElem_cons_succ]
            refine hl_one rfl (by kernel_rfl) (fun K hK => ?_)
            go_simp
            refine (HP.out _ _ hB.out.to1).mono ?_
            rintro e w6 ⟨rfl, q6⟩
            replace hB := Lib.hid q6.to1
            clear q6
            refine hK.out _ _ ⟨_, _, _, _, _, hB.out⟩ ?_
            clear hK K
            try simp only [Act.put, List.setIfInBounds_toArray, List.set_cons_succ, List.set_cons_zero, List.getElem_toArray, List.getElem_cons_zero, List.getElem_cons_succ]
            refine hl_take ?v12 rfl (by kernel_rfl) ?y12 ?z12
            case y12 => intro W hW; skip; replace hW := Lib.hid hW; go_simp; try rfl
            case z12 =>
            simp only [Act.put, List.setIfInBounds_toArray, List.set_cons_succ, List.set_cons_zero, List.getElem_toArray, List.getElem_cons_zero, List.getElem_cons_succ]
            refine hl_take ?v13 rfl (by kernel_rfl) ?y13 ?z13
            case y13 => intro W hW; skip; replace hW := Lib.hid hW; go_simp; try rfl
            case z13 =>
            simp only [Act.put, List.setIfInBounds_toArray, List.set_cons_succ, List.set_cons_zero, List.getElem_toArray, List.getElem_cons_zero, List.getElem_cons_succ]
            refine hl_take ?v14 rfl (by kernel_rfl) ?y14 ?z14
            case y14 => intro W hW; skip; replace hW := Lib.hid hW; go_simp; try rfl
            case z14 =>
            simp only [Act.put, List.setIfInBounds_toArray, List.set_cons_succ, List.set_cons_zero, List.getElem_toArray, List.getElem_cons_zero, List.getElem_cons_succ]
            refine hl_one rfl (by kernel_rfl) (fun K hK => ?_)
            obtain ⟨_, x0, x1, x2, x3, f0, f1, f2, f3⟩ := hB.out.b4
            go_simp
            replace hB := Lib.hid (show Sep _ (blk g 31 #[.int .i64 t, .int .i64 r, .int .i64 gv, .bool gh] :: _) from (((hB.out.set 0 (.int .i64 t)).set 1 (.int .i64 r)).set 2 (.int .i64 gv)).set 3 (.bool gh))
            clear x0 x1 x2 x3 f0 f1 f2 f3
            refine hK.out _ _ ⟨_, _, _, _, _, hB.out⟩ ?_
            clear hK K
            try simp only [Act.put, List.setIfInBounds_toArray, List.set_cons_succ, List.set_cons_zero, List.getElem_toArray, List.getElem_cons_zero, List.getElem_cons_succ]
            refine hl_take ?v15 rfl (by kernel_rfl) ?y15 ?z15
            case y15 => intro W hW; skip; replace hW := Lib.hid hW; go_simp; try rfl
            case z15 =>
            simp only [Act.put, List.setIfInBounds_toArray, List.set_cons_succ, List.set_cons_zero, List.getElem_toArray, List.getElem_cons_zero, List.getElem_cons_succ]
            refine hl_done ?_
            clear hS
            clear v0 v1 v2 v3 HP
            obtain ⟨_, y0, y1, y2, y3, _⟩ := hB.out.b4
            have HN := Lib.hid (note_yes qa La ⟨t, r, gv, gh⟩ _ _ hB.out.to2 hrec (by have h1 := hsum.out; have h2 := hfl.out; have h3 := hll.out; rw [h1, List.length_append]; omega))
            simp only [Wa.val] at HN
            go_wp2_with fail
            refine HN.out.mono ?_
            rintro e w7 ⟨rfl, q7⟩
            replace hB := Lib.hid q7
            clear q7 HN y0 y1 y2 y3
            obtain ⟨_, y0, y1, y2, y3, _⟩ := hB.out.to1.b4
            by_cases hcut : (k : Int) < (kc : Int)
            · have HN2 := Lib.hid (note_yes qf Lf ⟨t, r, gv, gh⟩ _ _ hB.out.to3 hrec (by have h2 := hfl.out; have h3 := hll.out; omega))
              simp only [Wa.val] at HN2
              go_wp2_with fail
              refine HN2.out.mono ?_
              rintro e w8 ⟨rfl, q8⟩
              clear y0 y1 y2 y3 HN2
              replace hB := Lib.hid q8.to2.tail.to1.to2
              clear q8
              go_wp2_with fail
              go_roundg (len0 - (k + 1))
              case measure => first | exact hms.out | (rw [hgm]; exact hms.out)
              case rel => exact ⟨k + 1, putL E (t, r) v, La ++ [⟨t, r, gv, gh⟩], Lf ++ [⟨t, r, gv, gh⟩], Ll, by omega, rfl, by go_num, Lib.hid (by rw [hsum.out, hnil.out (by omega)]; simp), Lib.hid (fun _ => hnil.out (by omega)), Lib.hid (by have := hfl.out; simp; omega), Lib.hid (by have := hll.out; omega), Lib.hid (by have h1 := hEl.out; have h2 := putL_len E (t, r) v; omega), (by rw [← hgv.out, ← hgh.out]; exact Lib.hid (undo_put v hrec hun.out)), hB⟩
            · have HN2 := Lib.hid (note_yes ql Ll ⟨t, r, gv, gh⟩ _ _ hB.out.to4 hrec (by have h2 := hfl.out; have h3 := hll.out; omega))
              simp only [Wa.val] at HN2
              go_wp2_with fail
              refine HN2.out.mono ?_
              rintro e w8 ⟨rfl, q8⟩
              clear y0 y1 y2 y3 HN2
              replace hB := Lib.hid q8.to2.tail.to3.to2.to3
              clear q8
              go_wp2_with fail
              go_roundg (len0 - (k + 1))
              case measure => first | exact hms.out | (rw [hgm]; exact hms.out)
              case rel => exact ⟨k + 1, putL E (t, r) v, La ++ [⟨t, r, gv, gh⟩], Lf, Ll ++ [⟨t, r, gv, gh⟩], by omega, rfl, by go_num, Lib.hid (by rw [hsum.out, List.append_assoc]), Lib.hid (fun h => absurd h (by omega)), Lib.hid (by have := hfl.out; omega), Lib.hid (by have := hll.out; simp; omega), Lib.hid (by have h1 := hEl.out; have h2 := putL_len E (t, r) v; omega), (by rw [← hgv.out, ← hgh.out]; exact Lib.hid (undo_put v hrec hun.out)), hB⟩
          | false =>
            have HP := Lib.hid (fun W rs h => put_no p E t r v W rs h hrec)
            unfold was0 at HP
            have hB := Lib.hid (hV.out.alloc #[.int .i64 0, .int .i64 0, .int .i64 0, .bool false] 31)
            have z0 := (hB.out.to5.gold.cell (p := ⟨b, off + k * 8, none⟩) hb).trans v0
            go_wp2_with fail
            generalize hgs : wr.heap.size = g at *
            replace hgs := Lib.hid hgs
            clear hV z0
            refine (hP.out _).mono ?_
            rintro e w5 ⟨rfl, rfl⟩
            go_wp2_with fail
            replace hB := Lib.hid hB.out.drew
            have hS := Lib.hid (show (fun W : World => ∃ E' c0 c1 c2 c3, Sep W [blk g 31 #[c0, c1, c2, c3], stX p E', lgX qa La, lgX qf Lf, lgX ql Ll, old w]) _ from ⟨_, _, _, _, _, hB.out⟩)
            refine hl_begin (fun W : World => ∃ E' c0 c1 c2 c3, Sep W [blk g 31 #[c0, c1, c2, c3], stX p E', lgX qa La, lgX qf Lf, lgX ql Ll, old w]) [(0, true), (1, true), (2, true), (3, true), (4, true), (5, true), (6, true), (7, true), (8, true), (9, true), (10, true), (11, false), (12, true), (13, true), (14, true), (15, false), (16, true)] (by kernel_rfl) (by kernel_rfl) (by kernel_rfl) rfl (fun _ _ _ _ _ h => h) hS.out ?_
            change HL _ _ _ _ _ _ (World.drew _)
            generalize World.drew _ = wd at *
            refine hl_take ?v16 rfl (by kernel_rfl) ?y16 ?z16
            case y16 => intro W hW; skip; replace hW := Lib.hid hW; go_simp; try rfl
            case z16 =>
            simp only [Act.put, List.setIfInBounds_toArray, List.set_cons_succ, List.set_cons_zero, List.getElem_toArray, List.getElem_cons_zero, List.getElem_cons_succ]
            refine hl_take ?v17 rfl (by kernel_rfl) ?y17 ?z17
            case y17 => intro W hW; skip; replace hW := Lib.hid hW; go_simp; try rfl
            case z17 =>
            simp only [Act.put, List.setIfInBounds_toArray, List.set_cons_succ, List.set_cons_zero, List.getElem_toArray, List.getElem_cons_zero, List.getElem_cons_succ]
            refine hl_take ?v18 rfl (by kernel_rfl) ?y18 ?z18
            case y18 => intro W hW; skip; replace hW := Lib.hid hW; go_simp; try rfl
            case z18 =>
            simp only [Act.put, List.setIfInBounds_toArray, List.set_cons_succ, List.set_cons_zero, List.getElem_toArray, List.getElem_cons_zero, List.getElem_cons_succ]
            refine hl_take ?v19 rfl (by kernel_rfl) ?y19 ?z19
            case y19 => intro W hW; skip; replace hW := Lib.hid hW; go_simp; try rfl
            case z19 =>
            simp only [Act.put, List.setIfInBounds_toArray, List.set_cons_succ, List.set_cons_zero, List.getElem_toArray, List.getElem_cons_zero, List.getElem_cons_succ]
            refine hl_take ?v20 rfl (by kernel_rfl) ?y20 ?z20
            case y20 => intro W hW; skip; replace hW := Lib.hid hW; go_simp; try rfl
            case z20 =>
            simp only [Act.put, List.setIfInBounds_toArray, List.set_cons_succ, List.set_cons_zero, List.getElem_toArray, List.getElem_cons_zero, List.getElem_cons_succ]
            refine hl_take ?v21 rfl (by kernel_rfl) ?y21 ?z21
            case y21 => intro W hW; obtain ⟨_, _, _, _, _, hW⟩ := hW; have y1 := (hW.to5.gold.cell (p := ⟨b, off + k * 8 + 1, none⟩) hb).trans v1; have y2 := (hW.to5.gold.cell (p := ⟨b, off + k * 8 + 2, none⟩) hb).trans v2; have y3 := (hW.to5.gold.cell (p := ⟨b, off + k * 8 + 3, none⟩) hb).trans v3; replace hW := Lib.hid hW; go_simp; try rfl
            case z21 =>
            simp only [Act.put, List.setIfInBounds_toArray, List.set_cons_succ, List.set_cons_zero, List.getElem_toArray, List.getElem_cons_zero, List.getElem_cons_succ]
            refine hl_take ?v22 rfl (by kernel_rfl) ?y22 ?z22
            case y22 => intro W hW; skip; replace hW := Lib.hid hW; go_simp; try rfl
            case z22 =>
            simp only [Act.put, List.setIfInBounds_toArray, List.set_cons_succ, List.set_cons_zero, List.getElem_toArray, List.getElem_cons_zero, List.getElem_cons_succ]
            refine hl_take ?v23 rfl (by kernel_rfl) ?y23 ?z23
            case y23 => intro W hW; skip; replace hW := Lib.hid hW; go_simp; try rfl
            case z23 =>
            simp only [Act.put, List.setIfInBounds_toArray, List.set_cons_succ, List.set_cons_zero, List.getElem_toArray, List.getElem_cons_zero, List.getElem_cons_succ]
            refine hl_take ?v24 rfl (by kernel_rfl) ?y24 ?z24
            case y24 => intro W hW; skip; replace hW := Lib.hid hW; go_simp; try rfl
            case z24 =>
            simp only [Act.put, List.setIfInBounds_toArray, List.set_cons_succ, List.set_cons_zero, List.getElem_toArray, List.getElem_cons_zero, List.getElem_cons_succ]
            refine hl_take ?v25 rfl (by kernel_rfl) ?y25 ?z25
            case y25 => intro W hW; skip; replace hW := Lib.hid hW; go_simp; try rfl
            case z25 =>
            simp only [Act.put, List.setIfInBounds_toArray, List.set_cons_succ, List.set_cons_zero, List.getElem_toArray, List.getElem_cons_zero, List.getElem_cons_succ]
            refine hl_take ?v26 rfl (by kernel_rfl) ?y26 ?z26
            case y26 => intro W hW; obtain ⟨_, _, _, _, _, hW⟩ := hW; have y1 := (hW.to5.gold.cell (p := ⟨b, off + k * 8 + 1, none⟩) hb).trans v1; have y2 := (hW.to5.gold.cell (p := ⟨b, off + k * 8 + 2, none⟩) hb).trans v2; have y3 := (hW.to5.gold.cell (p := ⟨b, off + k * 8 + 3, none⟩) hb).trans v3; replace hW := Lib.hid hW; go_simp; try rfl
            case z26 =>
            simp only [Act.put, List.setIfInBounds_toArray, List.set_cons_succ, List.set_cons_zero, List.getElem_toArray, List.getElem_cons_zero, List.getElem_cons_succ]
            refine hl_one rfl (by kernel_rfl) (fun K hK => ?_)
            go_simp
            refine (HP.out _ _ hB.out.to1).mono ?_
            rintro e w6 ⟨rfl, q6⟩
            replace hB := Lib.hid q6.to1
            clear q6
            refine hK.out _ _ ⟨_, _, _, _, _, hB.out⟩ ?_
            clear hK K
            try simp only [Act.put, List.setIfInBounds_toArray, List.set_cons_succ, List.set_cons_zero, List.getElem_toArray, List.getElem_cons_zero, List.getElem_cons_succ]
            refine hl_take ?v27 rfl (by kernel_rfl) ?y27 ?z27
            case y27 => intro W hW; skip; replace hW := Lib.hid hW; go_simp; try rfl
            case z27 =>
            simp only [Act.put, List.setIfInBounds_toArray, List.set_cons_succ, List.set_cons_zero, List.getElem_toArray, List.getElem_cons_zero, List.getElem_cons_succ]
            refine hl_take ?v28 rfl (by kernel_rfl) ?y28 ?z28
            case y28 => intro W hW; skip; replace hW := Lib.hid hW; go_simp; try rfl
            case z28 =>
            simp only [Act.put, List.setIfInBounds_toArray, List.set_cons_succ, List.set_cons_zero, List.getElem_toArray, List.getElem_cons_zero, List.getElem_cons_succ]
            refine hl_take ?v29 rfl (by kernel_rfl) ?y29 ?z29
            case y29 => intro W hW; skip; replace hW := Lib.hid hW; go_simp; try rfl
            case z29 =>
            simp only [Act.put, List.setIfInBounds_toArray, List.set_cons_succ, List.set_cons_zero, List.getElem_toArray, List.getElem_cons_zero, List.getElem_cons_succ]
            refine hl_one rfl (by kernel_rfl) (fun K hK => ?_)
            obtain ⟨_, x0, x1, x2, x3, f0, f1, f2, f3⟩ := hB.out.b4
            go_simp
            replace hB := Lib.hid (show Sep _ (blk g 31 #[.int .i64 0, .int .i64 0, .int .i64 0, .bool false] :: _) from (((hB.out.set 0 (.int .i64 0)).set 1 (.int .i64 0)).set 2 (.int .i64 0)).set 3 (.bool false))
            clear x0 x1 x2 x3 f0 f1 f2 f3
            refine hK.out _ _ ⟨_, _, _, _, _, hB.out⟩ ?_
            clear hK K
            try simp only [Act.put, List.setIfInBounds_toArray, List.set_cons_succ, List.set_cons_zero, List.getElem_toArray, List.getElem_cons_zero, List.getElem_cons_succ]
            refine hl_take ?v30 rfl (by kernel_rfl) ?y30 ?z30
            case y30 => intro W hW; skip; replace hW := Lib.hid hW; go_simp; try rfl
            case z30 =>
            simp only [Act.put, List.setIfInBounds_toArray, List.set_cons_succ, List.set_cons_zero, List.getElem_toArray, List.getElem_cons_zero, List.getElem_cons_succ]
            refine hl_done ?_
            clear hS
            clear v0 v1 v2 v3 HP
            go_wp2_with fail
            replace hB := Lib.hid hB.out.tail
            go_roundg (len0 - (k + 1))
            case measure => first | exact hms.out | (rw [hgm]; exact hms.out)
            case rel => exact ⟨k + 1, E, La, Lf, Ll, by omega, rfl, by go_num, hsum, Lib.hid (fun h => hnil.out (by omega)), Lib.hid (by have := hfl.out; omega), Lib.hid (by have := hll.out; omega), Lib.hid (by have h1 := hEl.out; omega), hun, hB⟩
        · have hkp2 : ((kp : Int) == 0) = false := by rw [beq_eq_false_iff_ne]; omega
          have hkp3 : ¬ (kp : Int) = 0 := by omega
          cases hrec : isRec (t, r) with
          | true =>
            have HP := Lib.hid (fun W rs h => del_yes p E t r W rs h hrec)
            unfold wasV at HP
            generalize hgv : (getL E (t, r)).getD 0 = gv at HP
            generalize hgh : hasL E (t, r) = gh at HP
            replace hgv := Lib.hid hgv
            replace hgh := Lib.hid hgh
            have hB := Lib.hid (hV.out.alloc #[.int .i64 0, .int .i64 0, .int .i64 0, .bool false] 31)
            have z0 := (hB.out.to5.gold.cell (p := ⟨b, off + k * 8, none⟩) hb).trans v0
            go_wp2_with fail
            generalize hgs : wr.heap.size = g at *
            replace hgs := Lib.hid hgs
            clear hV z0
            refine (hP.out _).mono ?_
            rintro e w5 ⟨rfl, rfl⟩
            have y1 := (hB.out.to5.gold.cell (p := ⟨b, off + k * 8 + 1, none⟩) hb).trans v1
            have y2 := (hB.out.to5.gold.cell (p := ⟨b, off + k * 8 + 2, none⟩) hb).trans v2
            go_wp2_with fail
            refine (HP.out _ _ hB.out.to1).mono ?_
            rintro e w6 ⟨rfl, q6⟩
            replace hB := Lib.hid q6.to1
            clear q6 y1 y2
            obtain ⟨_, x0, x1, x2, x3, f0, f1, f2, f3⟩ := hB.out.b4
            have hZ := Lib.hid (show Sep _ (blk g 31 #[.int .i64 t, .int .i64 r, .int .i64 gv, .bool gh] :: _) from (((hB.out.set 0 (.int .i64 t)).set 1 (.int .i64 r)).set 2 (.int .i64 gv)).set 3 (.bool gh))
            clear v0 v1 v2 v3 HP
            replace hB := hZ
            clear hZ
            obtain ⟨_, y0, y1, y2, y3, _⟩ := hB.out.b4
            have HN := Lib.hid (note_yes qa La ⟨t, r, gv, gh⟩ _ _ hB.out.to2 hrec (by have h1 := hsum.out; have h2 := hfl.out; have h3 := hll.out; rw [h1, List.length_append]; omega))
            simp only [Wa.val] at HN
            go_wp2_with fail
            refine HN.out.mono ?_
            rintro e w7 ⟨rfl, q7⟩
            replace hB := Lib.hid q7
            clear q7 HN y0 y1 y2 y3
            obtain ⟨_, y0, y1, y2, y3, _⟩ := hB.out.to1.b4
            by_cases hcut : (k : Int) < (kc : Int)
            · have HN2 := Lib.hid (note_yes qf Lf ⟨t, r, gv, gh⟩ _ _ hB.out.to3 hrec (by have h2 := hfl.out; have h3 := hll.out; omega))
              simp only [Wa.val] at HN2
              go_wp2_with fail
              refine HN2.out.mono ?_
              rintro e w8 ⟨rfl, q8⟩
              clear y0 y1 y2 y3 HN2
              replace hB := Lib.hid q8.to2.tail.to1.to2
              clear q8
              go_wp2_with fail
              go_roundg (len0 - (k + 1))
              case measure => first | exact hms.out | (rw [hgm]; exact hms.out)
              case rel => exact ⟨k + 1, delL E (t, r), La ++ [⟨t, r, gv, gh⟩], Lf ++ [⟨t, r, gv, gh⟩], Ll, by omega, rfl, by go_num, Lib.hid (by rw [hsum.out, hnil.out (by omega)]; simp), Lib.hid (fun _ => hnil.out (by omega)), Lib.hid (by have := hfl.out; simp; omega), Lib.hid (by have := hll.out; omega), Lib.hid (by have h1 := hEl.out; have h2 := delL_len E (t, r); omega), (by rw [← hgv.out, ← hgh.out]; exact Lib.hid (undo_del hrec hun.out)), hB⟩
            · have HN2 := Lib.hid (note_yes ql Ll ⟨t, r, gv, gh⟩ _ _ hB.out.to4 hrec (by have h2 := hfl.out; have h3 := hll.out; omega))
              simp only [Wa.val] at HN2
              go_wp2_with fail
              refine HN2.out.mono ?_
              rintro e w8 ⟨rfl, q8⟩
              clear y0 y1 y2 y3 HN2
              replace hB := Lib.hid q8.to2.tail.to3.to2.to3
              clear q8
              go_wp2_with fail
              go_roundg (len0 - (k + 1))
              case measure => first | exact hms.out | (rw [hgm]; exact hms.out)
              case rel => exact ⟨k + 1, delL E (t, r), La ++ [⟨t, r, gv, gh⟩], Lf, Ll ++ [⟨t, r, gv, gh⟩], by omega, rfl, by go_num, Lib.hid (by rw [hsum.out, List.append_assoc]), Lib.hid (fun h => absurd h (by omega)), Lib.hid (by have := hfl.out; omega), Lib.hid (by have := hll.out; simp; omega), Lib.hid (by have h1 := hEl.out; have h2 := delL_len E (t, r); omega), (by rw [← hgv.out, ← hgh.out]; exact Lib.hid (undo_del hrec hun.out)), hB⟩
          | false =>
            have HP := Lib.hid (fun W rs h => del_no p E t r W rs h hrec)
            unfold was0 at HP
            have hB := Lib.hid (hV.out.alloc #[.int .i64 0, .int .i64 0, .int .i64 0, .bool false] 31)
            have z0 := (hB.out.to5.gold.cell (p := ⟨b, off + k * 8, none⟩) hb).trans v0
            go_wp2_with fail
            generalize hgs : wr.heap.size = g at *
            replace hgs := Lib.hid hgs
            clear hV z0
            refine (hP.out _).mono ?_
            rintro e w5 ⟨rfl, rfl⟩
            have y1 := (hB.out.to5.gold.cell (p := ⟨b, off + k * 8 + 1, none⟩) hb).trans v1
            have y2 := (hB.out.to5.gold.cell (p := ⟨b, off + k * 8 + 2, none⟩) hb).trans v2
            go_wp2_with fail
            refine (HP.out _ _ hB.out.to1).mono ?_
            rintro e w6 ⟨rfl, q6⟩
            replace hB := Lib.hid q6.to1
            clear q6 y1 y2
            obtain ⟨_, x0, x1, x2, x3, f0, f1, f2, f3⟩ := hB.out.b4
            have hZ := Lib.hid (show Sep _ (blk g 31 #[.int .i64 0, .int .i64 0, .int .i64 0, .bool false] :: _) from (((hB.out.set 0 (.int .i64 0)).set 1 (.int .i64 0)).set 2 (.int .i64 0)).set 3 (.bool false))
            clear v0 v1 v2 v3 HP
            replace hB := Lib.hid hZ.out.tail
            clear hZ
            go_wp2_with fail
            go_roundg (len0 - (k + 1))
            case measure => first | exact hms.out | (rw [hgm]; exact hms.out)
            case rel => exact ⟨k + 1, E, La, Lf, Ll, by omega, rfl, by go_num, hsum, Lib.hid (fun h => hnil.out (by omega)), Lib.hid (by have := hfl.out; omega), Lib.hid (by have := hll.out; omega), Lib.hid (by have h1 := hEl.out; omega), hun, hB⟩
      · obtain rfl : k = len0 := by omega
        have hEl2 := hEl.out
        have hfl2 := hfl.out
        have hll2 := hll.out
        have hal : La.length = Ll.length + Lf.length := by rw [hsum.out, List.length_append]; omega
        have hap := Lib.hid (show undoA Lf (undoA Ll E) = undoA La E by rw [hsum.out, undoA_append])
        have hul := undoA_len La E
        have hU2 : (undoA La E).length ≤ 1000 := by omega
        have HBa := Lib.hid (fun W rs h => back_x p qa E La W rs h (by omega))
        have HBl := Lib.hid (fun p' W rs h => back_x p' ql E Ll W rs h (by omega))
        have HBf := Lib.hid (fun p' W rs h => back_x p' qf (undoA Ll E) Lf W rs h (by omega))
        rw [hap.out] at HBf
        rw [hal] at HBa
        generalize undoA La E = U at *
        generalize undoA Ll E = U1 at *
        obtain ⟨nl, hnl⟩ : ∃ nl, Hid (Ll.length = nl) := ⟨_, rfl⟩
        obtain ⟨nf, hnf⟩ : ∃ nf, Hid (Lf.length = nf) := ⟨_, rfl⟩
        rw [hnl.out] at HBa HBl hll2
        rw [hnf.out] at HBa HBf hfl2
        clear hap hal hul hEl hEl2 hsum hnil hgm hfl hll
        go_wp2_with fail
        refine (clone_x p E wr _ hV.out).mono ?_
        rintro e w7 ⟨pt, rfl, q4⟩
        have hB := Lib.hid q4.to2.to2
        clear q4 hV
        go_wp2_with fail
        refine (HBa.out _ _ (show Sep w7 [stX p E, lgX qa La, stX pt E, lgX qf Lf, lgX ql Ll, old w] from hB.out.to1.to1)).mono ?_
        rintro e w8 ⟨rfl, q5⟩
        replace hB := Lib.hid q5
        clear q5 HBa
        go_wp2_with fail
        refine (HBl.out _ _ _ (show Sep w8 [stX pt E, lgX ql Ll, stX p U, lgX qa [], lgX qf Lf, old w] from hB.out.to4.to3)).mono ?_
        rintro e w9 ⟨rfl, q6⟩
        replace hB := Lib.hid q6
        clear q6 HBl
        go_wp2_with fail
        refine (HBf.out _ _ _ (show Sep w9 [stX pt U1, lgX qf Lf, lgX ql [], stX p U, lgX qa [], old w] from hB.out.to4.to1)).mono ?_
        rintro e w10 ⟨rfl, q7⟩
        replace hB := Lib.hid (show Sep w10 [stX p U, stX pt U, lgX qf [], lgX ql [], lgX qa [], old w] from q7.to3)
        have hz := Lib.hid (show (srtE U).length = 0 by rw [srtE_congr (stX_nodup hB.out) (by simp [NodupL]) hun.out, srtE_len]; rfl)
        clear q7 HBf
        have HS := Lib.hid (same_x p pt U U _ _ hB.out hU2 hU2)
        rw [decide_eq_true (rfl : srtE U = srtE U)] at HS
        have hn1 : ((nl + nf : Nat) : Int) = (nl : Int) + (nf : Int) := by omega
        go_wp2_with fail
        refine HS.out.mono ?_
        rintro e w11 ⟨rfl, q8⟩
        replace hB := Lib.hid q8
        clear q8 HS
        have HLn := Lib.hid (len_x p U _ _ hB.out hU2)
        rw [hz.out] at HLn
        go_wp2_with fail
        refine HLn.out.mono ?_
        rintro e w12 ⟨rfl, q9⟩
        have hG := Lib.hid q9.to5.gold
        go_wp2_with fail
        go_ret
        exact ⟨rfl, hG.out⟩
  · have i40 : (40 : Int) < (len0 : Int) := by omega
    clear HV0
    go_enter Try.func6, Try.ntmps6
    go_wp2_with fail
    refine (lives_any _).mono ?_
    rintro e w1 ⟨rfl, q0⟩
    replace q0 := Lib.hid q0
    go_wp2_with fail
    go_ret
    exact ⟨rfl, q0.out⟩
end Go.Proofs.Ytidbidalalajbaa
