/-
  The walk of UndoBack. No condition beside acts that can be read.
-/
import Derived.Test.YtidbidalalajbaaUx
import Derived.Test.YtidbidalalajbaaUnL
import Derived.Test.YtidbidalalajbaaPick
import Derived.Test.YtidbidalalajbaaHx
namespace Go.Proofs.Ytidbidalalajbaa
open Go.RowKit
theorem boxWas (w : World) (cs : Array Value) (rs : List Res) (h : Sep w rs) : Sep ((w.alloc (.cells cs 51)).alloc (.cells #[.int .i64 0, .int .i64 0, .int .i64 0, .bool false] 31)) (blk (w.heap.size + 1) 31 #[.int .i64 0, .int .i64 0, .int .i64 0, .bool false] :: blk w.heap.size 51 cs :: rs) := by
  have h0 := (h.alloc cs 51).alloc #[.int .i64 0, .int .i64 0, .int .i64 0, .bool false] 31
  rw [World.size_alloc] at h0
  exact h0
theorem Sep.b8 {w : World} {g : Nat} {t : TypeId} {x0 x1 x2 x3 x4 x5 x6 x7 : Value} {rs : List Res} (h : Sep w (blk g t #[x0, x1, x2, x3, x4, x5, x6, x7] :: rs)) : g < w.heap.size ∧ w.cell? ⟨g, 0, none⟩ = some x0 ∧ w.cell? ⟨g, 1, none⟩ = some x1 ∧ w.cell? ⟨g, 2, none⟩ = some x2 ∧ w.cell? ⟨g, 3, none⟩ = some x3 ∧ w.cell? ⟨g, 4, none⟩ = some x4 ∧ w.cell? ⟨g, 5, none⟩ = some x5 ∧ w.cell? ⟨g, 6, none⟩ = some x6 ∧ w.cell? ⟨g, 7, none⟩ = some x7 := ⟨h.gblk.lt, h.gblk.cell 0, h.gblk.cell 1, h.gblk.cell 2, h.gblk.cell 3, h.gblk.cell 4, h.gblk.cell 5, h.gblk.cell 6, h.gblk.cell 7⟩
set_option maxHeartbeats 16000000 in
set_option maxRecDepth 100000 in
theorem uback_walk (a0 : Option Addr) (len0 cap0 : Nat) (L0 : List Ac) (a1 : Option Addr) (len1 cap1 : Nat) (L1 : List Ac) (w : World) (hv0 : RL w (.slice a0 len0 cap0) 8 len0 (accells L0)) (hn0 : L0.length = len0) (hv1 : RL w (.slice a1 len1 cap1) 8 len1 (accells L1)) (hn1 : L1.length = len1) :
    Calls Try.prog 5 #[.slice a0 len0 cap0, .slice a1 len1 cap1] w fun e w' => e = .returned (.bool true) ∧ Below w.heap.size w w' := by
  have HV0 := Lib.hid hv0
  have HV1 := Lib.hid hv1
  have hl0 := Lib.hid hn0
  have hl1 := Lib.hid hn1
  clear hv0 hv1 hn0 hn1
  by_cases h40 : len0 ≤ 40
  · have i40 : ¬ ((40 : Int) < (len0 : Int)) := by omega
    by_cases h41 : len1 ≤ 40
    · have i41 : ¬ ((40 : Int) < (len1 : Int)) := by omega
      go_enter Try.func5, Try.ntmps5
      go_wp2_with fail
      refine (lives_any _).mono ?_
      rintro e w1 ⟨rfl, q0⟩
      have hV := Lib.hid ((Sep.start w).below q0)
      clear q0
      go_wp2_with fail
      refine (new_x _).mono ?_
      rintro e w2 ⟨p, rfl, q2⟩
      replace hV := Lib.hid (q2.graft hV.out)
      clear q2
      go_wp2_with fail
      refine (lnew_x _).mono ?_
      rintro e w3 ⟨q, rfl, q3⟩
      replace hV := Lib.hid (q3.graft hV.out).to1
      clear q3
      go_wp2_with fail
      go_loopg [7] len0 (fun gm s7 W => ∃ (k : Nat) (E : Ent), k ≤ len0 ∧ gm = len0 - k ∧ s7 = .int .i64 k ∧ Hid (E.length ≤ k) ∧ Hid (Sep W [stX p E, lgX q [], old w]))
      case atStart => exact ⟨0, [], Nat.zero_le _, rfl, rfl, Lib.hid (by simp), hV⟩
      case round =>
        clear hV
        obtain ⟨k, E, hk, hgm, rfl, hEl, hV⟩ := hrel
        by_cases hlt : k < len0
        · obtain ⟨b, off, rfl, hb, zz⟩ := ac_cells HV0.out hl0.out (by omega)
          obtain ⟨x, hx⟩ : ∃ x, L0[k]? = some x := ⟨L0[k]'(by rw [hl0.out]; exact hlt), List.getElem?_eq_getElem _⟩
          have z1 := zz k x hx 1 _ rfl
          have z2 := zz k x hx 2 _ rfl
          have z3 := zz k x hx 3 _ rfl
          simp only [← Nat.add_assoc] at z1 z2 z3
          have i1 : (0 : Int) ≤ (k : Int) := by omega
          have i2 : (k : Int) < (len0 : Int) := by omega
          have hms := Lib.hid (show len0 - (k + 1) < len0 - k from Nat.sub_lt_sub_left hlt (Nat.lt_succ_self k))
          clear zz hx
          obtain ⟨kd, t, r, v, wa⟩ := x
          simp only at z1 z2 z3
          cases hrec : isRec (t, r) with
          | true =>
            have HP := Lib.hid (fun W rs h => put_yes p E t r v W rs h hrec)
            go_wp2_with fail
            have hB := Lib.hid hV.out.drew
            clear hV
            have hS := Lib.hid (show (fun W : World => ∃ E', Sep W [stX p E', lgX q [], old w]) _ from ⟨_, hB.out⟩)
            refine hl_begin (fun W : World => ∃ E', Sep W [stX p E', lgX q [], old w]) [(0, true), (1, true), (2, true), (3, true), (4, true), (5, true), (6, true), (7, true), (8, true), (9, true), (10, true), (11, false)] (by kernel_rfl) (by kernel_rfl) (by kernel_rfl) rfl (fun _ _ _ _ _ h => h) hS.out ?_
            change HL _ _ _ _ _ _ (World.drew _)
            generalize World.drew _ = wd at *
            refine hl_take ?v1 rfl (by kernel_rfl) ?y1 ?z1
            case y1 => intro W hW; skip; replace hW := Lib.hid hW; go_simp; try rfl
            case z1 =>
            simp only [Act.put, List.setIfInBounds_toArray, List.set_cons_succ, List.set_cons_zero, List.getElem_toArray, List.getElem_cons_zero, List.getElem_cons_succ]
            refine hl_take ?v2 rfl (by kernel_rfl) ?y2 ?z2
            case y2 => intro W hW; skip; replace hW := Lib.hid hW; go_simp; try rfl
            case z2 =>
            simp only [Act.put, List.setIfInBounds_toArray, List.set_cons_succ, List.set_cons_zero, List.getElem_toArray, List.getElem_cons_zero, List.getElem_cons_succ]
            refine hl_take ?v3 rfl (by kernel_rfl) ?y3 ?z3
            case y3 => intro W hW; skip; replace hW := Lib.hid hW; go_simp; try rfl
            case z3 =>
            simp only [Act.put, List.setIfInBounds_toArray, List.set_cons_succ, List.set_cons_zero, List.getElem_toArray, List.getElem_cons_zero, List.getElem_cons_succ]
            refine hl_take ?v4 rfl (by kernel_rfl) ?y4 ?z4
            case y4 => intro W hW; skip; replace hW := Lib.hid hW; go_simp; try rfl
            case z4 =>
            simp only [Act.put, List.setIfInBounds_toArray, List.set_cons_succ, List.set_cons_zero, List.getElem_toArray, List.getElem_cons_zero, List.getElem_cons_succ]
            refine hl_take ?v5 rfl (by kernel_rfl) ?y5 ?z5
            case y5 => intro W hW; skip; replace hW := Lib.hid hW; go_simp; try rfl
            case z5 =>
            simp only [Act.put, List.setIfInBounds_toArray, List.set_cons_succ, List.set_cons_zero, List.getElem_toArray, List.getElem_cons_zero, List.getElem_cons_succ]
            refine hl_take ?v6 rfl (by kernel_rfl) ?y6 ?z6
            case y6 => intro W hW; obtain ⟨_, hW⟩ := hW; have y1 := (hW.to2.gold.cell (p := ⟨b, off + k * 8 + 1, none⟩) hb).trans z1; have y2 := (hW.to2.gold.cell (p := ⟨b, off + k * 8 + 2, none⟩) hb).trans z2; have y3 := (hW.to2.gold.cell (p := ⟨b, off + k * 8 + 3, none⟩) hb).trans z3; replace hW := Lib.hid hW; go_simp; try rfl
            case z6 =>
            simp only [Act.put, List.setIfInBounds_toArray, List.set_cons_succ, List.set_cons_zero, List.getElem_toArray, List.getElem_cons_zero, List.getElem_cons_succ]
            refine hl_take ?v7 rfl (by kernel_rfl) ?y7 ?z7
            case y7 => intro W hW; skip; replace hW := Lib.hid hW; go_simp; try rfl
            case z7 =>
            simp only [Act.put, List.setIfInBounds_toArray, List.set_cons_succ, List.set_cons_zero, List.getElem_toArray, List.getElem_cons_zero, List.getElem_cons_succ]
            refine hl_take ?v8 rfl (by kernel_rfl) ?y8 ?z8
            case y8 => intro W hW; skip; replace hW := Lib.hid hW; go_simp; try rfl
            case z8 =>
            simp only [Act.put, List.setIfInBounds_toArray, List.set_cons_succ, List.set_cons_zero, List.getElem_toArray, List.getElem_cons_zero, List.getElem_cons_succ]
            refine hl_take ?v9 rfl (by kernel_rfl) ?y9 ?z9
            case y9 => intro W hW; skip; replace hW := Lib.hid hW; go_simp; try rfl
            case z9 =>
            simp only [Act.put, List.setIfInBounds_toArray, List.set_cons_succ, List.set_cons_zero, List.getElem_toArray, List.getElem_cons_zero, List.getElem_cons_succ]
            refine hl_take ?v10 rfl (by kernel_rfl) ?y10 ?z10
            case y10 => intro W hW; skip; replace hW := Lib.hid hW; go_simp; try rfl
            case z10 =>
            simp only [Act.put, List.setIfInBounds_toArray, List.set_cons_succ, List.set_cons_zero, List.getElem_toArray, List.getElem_cons_zero, List.getElem_cons_succ]
            refine hl_take ?v11 rfl (by kernel_rfl) ?y11 ?z11
            case y11 => intro W hW; obtain ⟨_, hW⟩ := hW; have y1 := (hW.to2.gold.cell (p := ⟨b, off + k * 8 + 1, none⟩) hb).trans z1; have y2 := (hW.to2.gold.cell (p := ⟨b, off + k * 8 + 2, none⟩) hb).trans z2; have y3 := (hW.to2.gold.cell (p := ⟨b, off + k * 8 + 3, none⟩) hb).trans z3; replace hW := Lib.hid hW; go_simp; try rfl
            case z11 =>
            simp only [Act.put, List.setIfInBounds_toArray, List.set_cons_succ, List.set_cons_zero, List.getElem_toArray, List.getElem_cons_zero, List.getElem_cons_succ]
            refine hl_one rfl (by kernel_rfl) (fun K hK => ?_)
            go_simp
            refine (HP.out _ _ hB.out).mono ?_
            rintro e w5 ⟨rfl, q2⟩
            replace hB := Lib.hid q2
            clear q2
            refine hK.out _ _ ⟨_, hB.out⟩ ?_
            clear hK K
            try simp only [Act.put, List.setIfInBounds_toArray, List.set_cons_succ, List.set_cons_zero, List.getElem_toArray, List.getElem_cons_zero, List.getElem_cons_succ]
            refine hl_done ?_
            clear hS
            go_wp2_with fail
            go_roundg (len0 - (k + 1))
            case measure => first | exact hms.out | (rw [hgm]; exact hms.out)
            case rel => exact ⟨k + 1, putL E (t, r) v, by omega, rfl, by go_num, Lib.hid (by have h1 := hEl.out; have h2 := putL_len E (t, r) v; omega), hB⟩
          | false =>
            have HP := Lib.hid (fun W rs h => put_no p E t r v W rs h hrec)
            go_wp2_with fail
            have hB := Lib.hid hV.out.drew
            clear hV
            have hS := Lib.hid (show (fun W : World => ∃ E', Sep W [stX p E', lgX q [], old w]) _ from ⟨_, hB.out⟩)
            refine hl_begin (fun W : World => ∃ E', Sep W [stX p E', lgX q [], old w]) [(0, true), (1, true), (2, true), (3, true), (4, true), (5, true), (6, true), (7, true), (8, true), (9, true), (10, true), (11, false)] (by kernel_rfl) (by kernel_rfl) (by kernel_rfl) rfl (fun _ _ _ _ _ h => h) hS.out ?_
            change HL _ _ _ _ _ _ (World.drew _)
            generalize World.drew _ = wd at *
            refine hl_take ?v12 rfl (by kernel_rfl) ?y12 ?z12
            case y12 => intro W hW; skip; replace hW := Lib.hid hW; go_simp; try rfl
            case z12 =>
            simp only [Act.put, List.setIfInBounds_toArray, List.set_cons_succ, List.set_cons_zero, List.getElem_toArray, List.getElem_cons_zero, List.getElem_cons_succ]
            refine hl_take ?v13 rfl (by kernel_rfl) ?y13 ?z13
            case y13 => intro W hW; skip; replace hW := Lib.hid hW; go_simp; try rfl
            case z13 =>
            simp only [Act.put, List.setIfInBounds_toArray, List.set_cons_succ, List.set_cons_zero, List.getElem_toArray, List.getElem_cons_zero, List.getElem_cons_succ]
            refine hl_take ?v14 rfl (by kernel_rfl) ?y14 ?z14
            case y14 => intro W hW; skip; replace hW := Lib.hid hW; go_simp; try rfl
            case z14 =>
            simp only [Act.put, List.setIfInBounds_toArray, List.set_cons_succ, List.set_cons_zero, List.getElem_toArray, List.getElem_cons_zero, List.getElem_cons_succ]
            refine hl_take ?v15 rfl (by kernel_rfl) ?y15 ?z15
            case y15 => intro W hW; skip; replace hW := Lib.hid hW; go_simp; try rfl
            case z15 =>
            simp only [Act.put, List.setIfInBounds_toArray, List.set_cons_succ, List.set_cons_zero, List.getElem_toArray, List.getElem_cons_zero, List.getElem_cons_succ]
            refine hl_take ?v16 rfl (by kernel_rfl) ?y16 ?z16
            case y16 => intro W hW; skip; replace hW := Lib.hid hW; go_simp; try rfl
            case z16 =>
            simp only [Act.put, List.setIfInBounds_toArray, List.set_cons_succ, List.set_cons_zero, List.getElem_toArray, List.getElem_cons_zero, List.getElem_cons_succ]
            refine hl_take ?v17 rfl (by kernel_rfl) ?y17 ?z17
            case y17 => intro W hW; obtain ⟨_, hW⟩ := hW; have y1 := (hW.to2.gold.cell (p := ⟨b, off + k * 8 + 1, none⟩) hb).trans z1; have y2 := (hW.to2.gold.cell (p := ⟨b, off + k * 8 + 2, none⟩) hb).trans z2; have y3 := (hW.to2.gold.cell (p := ⟨b, off + k * 8 + 3, none⟩) hb).trans z3; replace hW := Lib.hid hW; go_simp; try rfl
            case z17 =>
            simp only [Act.put, List.setIfInBounds_toArray, List.set_cons_succ, List.set_cons_zero, List.getElem_toArray, List.getElem_cons_zero, List.getElem_cons_succ]
            refine hl_take ?v18 rfl (by kernel_rfl) ?y18 ?z18
            case y18 => intro W hW; skip; replace hW := Lib.hid hW; go_simp; try rfl
            case z18 =>
            simp only [Act.put, List.setIfInBounds_toArray, List.set_cons_succ, List.set_cons_zero, List.getElem_toArray, List.getElem_cons_zero, List.getElem_cons_succ]
            refine hl_take ?v19 rfl (by kernel_rfl) ?y19 ?z19
            case y19 => intro W hW; skip; replace hW := Lib.hid hW; go_simp; try rfl
            case z19 =>
            simp only [Act.put, List.setIfInBounds_toArray, List.set_cons_succ, List.set_cons_zero, List.getElem_toArray, List.getElem_cons_zero, List.getElem_cons_succ]
            refine hl_take ?v20 rfl (by kernel_rfl) ?y20 ?z20
            case y20 => intro W hW; skip; replace hW := Lib.hid hW; go_simp; try rfl
            case z20 =>
            simp only [Act.put, List.setIfInBounds_toArray, List.set_cons_succ, List.set_cons_zero, List.getElem_toArray, List.getElem_cons_zero, List.getElem_cons_succ]
            refine hl_take ?v21 rfl (by kernel_rfl) ?y21 ?z21
            case y21 => intro W hW; skip; replace hW := Lib.hid hW; go_simp; try rfl
            case z21 =>
            simp only [Act.put, List.setIfInBounds_toArray, List.set_cons_succ, List.set_cons_zero, List.getElem_toArray, List.getElem_cons_zero, List.getElem_cons_succ]
            refine hl_take ?v22 rfl (by kernel_rfl) ?y22 ?z22
            case y22 => intro W hW; obtain ⟨_, hW⟩ := hW; have y1 := (hW.to2.gold.cell (p := ⟨b, off + k * 8 + 1, none⟩) hb).trans z1; have y2 := (hW.to2.gold.cell (p := ⟨b, off + k * 8 + 2, none⟩) hb).trans z2; have y3 := (hW.to2.gold.cell (p := ⟨b, off + k * 8 + 3, none⟩) hb).trans z3; replace hW := Lib.hid hW; go_simp; try rfl
            case z22 =>
            simp only [Act.put, List.setIfInBounds_toArray, List.set_cons_succ, List.set_cons_zero, List.getElem_toArray, List.getElem_cons_zero, List.getElem_cons_succ]
            refine hl_one rfl (by kernel_rfl) (fun K hK => ?_)
            go_simp
            refine (HP.out _ _ hB.out).mono ?_
            rintro e w5 ⟨rfl, q2⟩
            replace hB := Lib.hid q2
            clear q2
            refine hK.out _ _ ⟨_, hB.out⟩ ?_
            clear hK K
            try simp only [Act.put, List.setIfInBounds_toArray, List.set_cons_succ, List.set_cons_zero, List.getElem_toArray, List.getElem_cons_zero, List.getElem_cons_succ]
            refine hl_done ?_
            clear hS
            go_wp2_with fail
            go_roundg (len0 - (k + 1))
            case measure => first | exact hms.out | (rw [hgm]; exact hms.out)
            case rel => exact ⟨k + 1, E, by omega, rfl, by go_num, Lib.hid (by have h1 := hEl.out; omega), hB⟩
        · obtain rfl : k = len0 := by omega
          go_wp2_with fail
          refine (clone_x p E wr _ hV.out).mono ?_
          rintro e w4 ⟨p', rfl, q4⟩
          replace hV := Lib.hid (q4.to2.to2)
          have hE40 := Lib.hid (show E.length ≤ 40 by have := hEl.out; omega)
          clear q4 hEl hgm
          generalize hE0 : E = E0 at hV hE40
          clear hE0
          replace hV := Lib.hid (show Sep w4 [stX p E0, lgX q [], stX p' E0, old w] from (show Sep w4 [stX p E0, lgX q [], stX p' E0, old w] from hV.out))
          go_wp2_with fail
          go_loopg [9, 10] len1 (fun gm s9 s10 W => ∃ (k nw : Nat) (E : Ent) (Lw : List Wa), k ≤ len1 ∧ gm = len1 - k ∧ s9 = .int .i64 nw ∧ s10 = .int .i64 k ∧ Hid (Lw.length = nw) ∧ Hid (nw ≤ k) ∧ Hid (E.length ≤ 40 + k) ∧ Hid (eqvE (undoA Lw E) E0) ∧ Hid (Sep W [stX p E, lgX q Lw, stX p' E0, old w]))
          case atStart => exact ⟨0, 0, E0, [], Nat.zero_le _, rfl, rfl, rfl, Lib.hid rfl, Lib.hid (Nat.le_refl _), Lib.hid (by have := hE40.out; omega), Lib.hid (fun _ => rfl), hV⟩
          case round =>
            clear hV
            have hE0l := hE40
            obtain ⟨k, nw, E, Lw, hk, hgm, rfl, rfl, hnw, hnk0, hEl, hun, hV⟩ := hrel
            have hnk := hnk0.out
            clear hnk0
            by_cases hlt : k < len1
            · obtain ⟨b, off, rfl, hb, zz⟩ := ac_cells HV1.out hl1.out (by omega)
              obtain ⟨x, hx⟩ : ∃ x, L1[k]? = some x := ⟨L1[k]'(by rw [hl1.out]; exact hlt), List.getElem?_eq_getElem _⟩
              have kk : ∀ o, w.cell? ⟨b, o, none⟩ = wr.cell? ⟨b, o, none⟩ := fun o => (hV.out.to3.gold.cell (p := ⟨b, o, none⟩) hb).symm
              have z0 := zz k x hx 0 _ rfl
              have z1 := zz k x hx 1 _ rfl
              have z2 := zz k x hx 2 _ rfl
              have z3 := zz k x hx 3 _ rfl
              have z4 := zz k x hx 4 _ rfl
              have z5 := zz k x hx 5 _ rfl
              have z6 := zz k x hx 6 _ rfl
              have z7 := zz k x hx 7 _ rfl
              rw [kk] at z0 z1 z2 z3 z4 z5 z6 z7
              simp only [← Nat.add_assoc, Nat.add_zero] at z0 z1 z2 z3 z4 z5 z6 z7
              have i1 : (0 : Int) ≤ (k : Int) := by omega
              have i2 : (k : Int) < (len1 : Int) := by omega
              have hms := Lib.hid (show len1 - (k + 1) < len1 - k from Nat.sub_lt_sub_left hlt (Nat.lt_succ_self k))
              clear zz hx kk
              obtain ⟨kd, t, r, v, ⟨wt, wr', wv, wth⟩⟩ := x
              simp only at z0 z1 z2 z3 z4 z5 z6 z7
              obtain ⟨kp, PK⟩ := pick_nat kd 5 (by omega) (by omega)
              have hP := PK.run
              clear PK
              by_cases hkp : (kp : Int) < 2
              · cases hrec : isRec (t, r) with
                | true =>
                  have HP := Lib.hid (fun W rs h => put_yes p E t r v W rs h hrec)
                  go_wp2_with fail
                  have hB := Lib.hid (boxWas wr #[.int .i64 kd, .int .i64 t, .int .i64 r, .int .i64 v, .int .i64 wt, .int .i64 wr', .int .i64 wv, .bool wth] _ hV.out)
                  generalize hgs : wr.heap.size = g at *
                  replace hgs := Lib.hid hgs
                  clear hV z0 z1 z2 z3 z4 z5 z6 z7
                  refine (hP.out _).mono ?_
                  rintro e w5 ⟨rfl, rfl⟩
                  obtain ⟨_, d0, d1, d2, d3, _⟩ := hB.out.to1.b8
                  go_wp2_with fail
                  refine (HP.out _ _ hB.out.to2).mono ?_
                  rintro e w6 ⟨rfl, q6⟩
                  replace hB := Lib.hid q6.to2.to2
                  clear q6 d0 d1 d2 d3 HP
                  obtain ⟨_, e0, e1, e2, e3, f0, f1, f2, f3⟩ := hB.out.b4
                  unfold wasV
                  generalize hgv : (getL E (t, r)).getD 0 = gv at *
                  generalize hgh : hasL E (t, r) = gh at *
                  replace hgv := Lib.hid hgv
                  replace hgh := Lib.hid hgh
                  have hZ := Lib.hid ((((hB.out.set 0 (.int .i64 t)).set 1 (.int .i64 r)).set 2 (.int .i64 gv)).set 3 (.bool gh))
                  have hZ2 := Lib.hid (show Sep _ (blk (g + 1) 31 #[.int .i64 t, .int .i64 r, .int .i64 gv, .bool gh] :: _) from hZ.out)
                  obtain ⟨_, y0, y1, y2, y3, _⟩ := hZ2.out.b4
                  have HN := Lib.hid (note_yes q Lw ⟨t, r, gv, gh⟩ _ _ hZ2.out.to3 hrec (by have := hnw.out; omega))
                  simp only [Wa.val] at HN
                  clear hB hZ
                  go_wp2_with fail
                  refine HN.out.mono ?_
                  rintro e w7 ⟨rfl, q7⟩
                  have hlg := Lib.hid q7.drop1.drop1.to1
                  clear q7 HN y0 y1 y2 y3 e0 e1 e2 e3 f0 f1 f2 f3 hZ2
                  go_wp2_with fail
                  go_roundg (len1 - (k + 1))
                  case measure => first | exact hms.out | (rw [hgm]; exact hms.out)
                  case rel => exact ⟨k + 1, nw + 1, putL E (t, r) v, Lw ++ [⟨t, r, gv, gh⟩], by omega, rfl, by go_num, by go_num, Lib.hid (by have := hnw.out; simp; omega), Lib.hid (by omega), Lib.hid (by have h1 := hEl.out; have h2 := putL_len E (t, r) v; omega), (by rw [← hgv.out, ← hgh.out]; exact Lib.hid (undo_put v hrec hun.out)), hlg⟩
                | false =>
                  have HP := Lib.hid (fun W rs h => put_no p E t r v W rs h hrec)
                  go_wp2_with fail
                  have hB := Lib.hid (boxWas wr #[.int .i64 kd, .int .i64 t, .int .i64 r, .int .i64 v, .int .i64 wt, .int .i64 wr', .int .i64 wv, .bool wth] _ hV.out)
                  generalize hgs : wr.heap.size = g at *
                  replace hgs := Lib.hid hgs
                  clear hV z0 z1 z2 z3 z4 z5 z6 z7
                  refine (hP.out _).mono ?_
                  rintro e w5 ⟨rfl, rfl⟩
                  obtain ⟨_, d0, d1, d2, d3, _⟩ := hB.out.to1.b8
                  go_wp2_with fail
                  refine (HP.out _ _ hB.out.to2).mono ?_
                  rintro e w6 ⟨rfl, q6⟩
                  replace hB := Lib.hid q6.to2.to2
                  clear q6 d0 d1 d2 d3 HP
                  obtain ⟨_, e0, e1, e2, e3, f0, f1, f2, f3⟩ := hB.out.b4
                  unfold was0
                  have hZ := Lib.hid ((((hB.out.set 0 (.int .i64 0)).set 1 (.int .i64 0)).set 2 (.int .i64 0)).set 3 (.bool false))
                  replace hB := Lib.hid hZ.out.tail.tail
                  clear hZ
                  go_wp2_with fail
                  go_roundg (len1 - (k + 1))
                  case measure => first | exact hms.out | (rw [hgm]; exact hms.out)
                  case rel => exact ⟨k + 1, nw, E, Lw, by omega, rfl, by go_num, by go_num, hnw, Lib.hid (by omega), Lib.hid (by have := hEl.out; omega), hun, hB⟩
              · cases hrec : isRec (t, r) with
                | true =>
                  have HP := Lib.hid (fun W rs h => del_yes p E t r W rs h hrec)
                  go_wp2_with fail
                  have hB := Lib.hid (boxWas wr #[.int .i64 kd, .int .i64 t, .int .i64 r, .int .i64 v, .int .i64 wt, .int .i64 wr', .int .i64 wv, .bool wth] _ hV.out)
                  generalize hgs : wr.heap.size = g at *
                  replace hgs := Lib.hid hgs
                  clear hV z0 z1 z2 z3 z4 z5 z6 z7
                  refine (hP.out _).mono ?_
                  rintro e w5 ⟨rfl, rfl⟩
                  obtain ⟨_, d0, d1, d2, d3, _⟩ := hB.out.to1.b8
                  go_wp2_with fail
                  refine (HP.out _ _ hB.out.to2).mono ?_
                  rintro e w6 ⟨rfl, q6⟩
                  replace hB := Lib.hid q6.to2.to2
                  clear q6 d0 d1 d2 d3 HP
                  obtain ⟨_, e0, e1, e2, e3, f0, f1, f2, f3⟩ := hB.out.b4
                  unfold wasV
                  generalize hgv : (getL E (t, r)).getD 0 = gv at *
                  generalize hgh : hasL E (t, r) = gh at *
                  replace hgv := Lib.hid hgv
                  replace hgh := Lib.hid hgh
                  have hZ := Lib.hid ((((hB.out.set 0 (.int .i64 t)).set 1 (.int .i64 r)).set 2 (.int .i64 gv)).set 3 (.bool gh))
                  have hZ2 := Lib.hid (show Sep _ (blk (g + 1) 31 #[.int .i64 t, .int .i64 r, .int .i64 gv, .bool gh] :: _) from hZ.out)
                  obtain ⟨_, y0, y1, y2, y3, _⟩ := hZ2.out.b4
                  have HN := Lib.hid (note_yes q Lw ⟨t, r, gv, gh⟩ _ _ hZ2.out.to3 hrec (by have := hnw.out; omega))
                  simp only [Wa.val] at HN
                  clear hB hZ
                  go_wp2_with fail
                  refine HN.out.mono ?_
                  rintro e w7 ⟨rfl, q7⟩
                  have hlg := Lib.hid q7.drop1.drop1.to1
                  clear q7 HN y0 y1 y2 y3 e0 e1 e2 e3 f0 f1 f2 f3 hZ2
                  go_wp2_with fail
                  go_roundg (len1 - (k + 1))
                  case measure => first | exact hms.out | (rw [hgm]; exact hms.out)
                  case rel => exact ⟨k + 1, nw + 1, delL E (t, r), Lw ++ [⟨t, r, gv, gh⟩], by omega, rfl, by go_num, by go_num, Lib.hid (by have := hnw.out; simp; omega), Lib.hid (by omega), Lib.hid (by have h1 := hEl.out; have h2 := delL_len E (t, r); omega), (by rw [← hgv.out, ← hgh.out]; exact Lib.hid (undo_del hrec hun.out)), hlg⟩
                | false =>
                  have HP := Lib.hid (fun W rs h => del_no p E t r W rs h hrec)
                  go_wp2_with fail
                  have hB := Lib.hid (boxWas wr #[.int .i64 kd, .int .i64 t, .int .i64 r, .int .i64 v, .int .i64 wt, .int .i64 wr', .int .i64 wv, .bool wth] _ hV.out)
                  generalize hgs : wr.heap.size = g at *
                  replace hgs := Lib.hid hgs
                  clear hV z0 z1 z2 z3 z4 z5 z6 z7
                  refine (hP.out _).mono ?_
                  rintro e w5 ⟨rfl, rfl⟩
                  obtain ⟨_, d0, d1, d2, d3, _⟩ := hB.out.to1.b8
                  go_wp2_with fail
                  refine (HP.out _ _ hB.out.to2).mono ?_
                  rintro e w6 ⟨rfl, q6⟩
                  replace hB := Lib.hid q6.to2.to2
                  clear q6 d0 d1 d2 d3 HP
                  obtain ⟨_, e0, e1, e2, e3, f0, f1, f2, f3⟩ := hB.out.b4
                  unfold was0
                  have hZ := Lib.hid ((((hB.out.set 0 (.int .i64 0)).set 1 (.int .i64 0)).set 2 (.int .i64 0)).set 3 (.bool false))
                  replace hB := Lib.hid hZ.out.tail.tail
                  clear hZ
                  go_wp2_with fail
                  go_roundg (len1 - (k + 1))
                  case measure => first | exact hms.out | (rw [hgm]; exact hms.out)
                  case rel => exact ⟨k + 1, nw, E, Lw, by omega, rfl, by go_num, by go_num, hnw, Lib.hid (by omega), Lib.hid (by have := hEl.out; omega), hun, hB⟩
            · obtain rfl : k = len1 := by omega
              have HB := Lib.hid (back_x p q E Lw wr _ hV.out (by have := hnw.out; omega))
              rw [hnw.out] at HB
              have hul := undoA_len Lw E
              have hEl2 := hEl.out
              rw [hnw.out] at hul
              have hU2 : (undoA Lw E).length ≤ 1000 := by omega
              clear hul hEl2 hEl hgm
              generalize undoA Lw E = U at *
              go_wp2_with fail
              refine HB.out.mono ?_
              rintro e w8 ⟨rfl, q8⟩
              have hB := Lib.hid q8
              have hsm := Lib.hid (show decide (srtE U = srtE E0) = true from decide_eq_true (srtE_congr (stX_nodup q8) (stX_nodup (show Sep w8 (stX p' E0 :: _) from (show Sep w8 [stX p U, lgX q [], stX p' E0, old w] from q8).to2)) hun.out))
              clear q8 hV HB
              have hE02 : E0.length ≤ 1000 := by have := hE0l.out; omega
              go_wp2_with fail
              refine (llen_x q [] _ _ hB.out.to1 (by simp)).mono ?_
              rintro e w9 ⟨rfl, q9⟩
              replace hB := Lib.hid (show Sep w9 [stX p U, stX p' E0, lgX q [], old w] from (show Sep w9 [lgX q [], stX p U, stX p' E0, old w] from q9).to2.to2)
              clear q9
              have HS := Lib.hid (same_x p p' U E0 _ _ hB.out hU2 hE02)
              rw [hsm.out] at HS
              go_wp2_with fail
              refine HS.out.mono ?_
              rintro e w10 ⟨rfl, q10⟩
              have hG := Lib.hid (show Sep w10 [stX p U, stX p' E0, lgX q [], old w] from q10).to3.gold
              go_wp2_with fail
              go_ret
              exact ⟨rfl, hG.out⟩
    · have i41 : (40 : Int) < (len1 : Int) := by omega
      clear HV0 HV1
      go_enter Try.func5, Try.ntmps5
      go_wp2_with fail
      refine (lives_any _).mono ?_
      rintro e w1 ⟨rfl, q0⟩
      replace q0 := Lib.hid q0
      go_wp2_with fail
      go_ret
      exact ⟨rfl, q0.out⟩
  · have i40 : (40 : Int) < (len0 : Int) := by omega
    clear HV0 HV1
    go_enter Try.func5, Try.ntmps5
    go_wp2_with fail
    refine (lives_any _).mono ?_
    rintro e w1 ⟨rfl, q0⟩
    replace q0 := Lib.hid q0
    go_wp2_with fail
    go_ret
    exact ⟨rfl, q0.out⟩
end Go.Proofs.Ytidbidalalajbaa
