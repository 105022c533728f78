/-
  The walk of StoreMap. No condition beside acts that can be read.
-/
import Derived.Test.YtbpeajcfabjphaaSMp
import Derived.Test.YtbpeajcfabjphaaSLv
import Derived.Test.YtbpeajcfabjphaaR2
import Derived.Test.YtbpeajcfabjphaaPick
namespace Go.Proofs.Ytbpeajcfabjphaa
open Go.RowKit
theorem zeroJ (w : World) : (zeroValue 3).run Try.prog w = .ok (evI 0) w := by kernel_rfl
theorem eqB_was_self (a b c : Int) (d : Bool) : eqB_was a a b b c c d d = true := by
  rw [eqB_was_iff]
  simp
theorem row_cell {w : World} {rb ro n c k j : Nat} {l : Ent} {x : (Int × Int) × Int} {u : Value} {rs : List Res} (h : Sep w (vec 39 3 (.slice (some ⟨rb, ro, none⟩) n c) n (l.flatMap rowC) :: rs)) (hn : l.length = n) (hk : l[k]? = some x) (hj : (rowC x)[j]? = some u) : w.cell? ⟨rb, ro + k * 3 + j, none⟩ = some u := by
  have hk2 := (List.getElem?_eq_some_iff.1 hk).1
  obtain ⟨b, off, he, _, hc⟩ := cells_row h.vec_rl hn (by omega)
  have h2 := hc k x hk j u hj
  injection he with he
  injection he with h3 h4
  rw [h3, h4, Nat.add_assoc]
  exact h2
theorem look_ek (M : Ent) (a : Int × Int) : ((getL M a).map evI).getD (evI 0) = .int .i64 (lastV M a) := look_val M a
theorem was2 (w : World) (a b c d t r : Int) (v : Int) (z : Bool) {rs : List Res} (h : Sep w rs) : Sep ((w.alloc (.cells #[.int .i64 a, .int .i64 b, .int .i64 c, .int .i64 d] 26)).alloc (.cells #[.int .i64 t, .int .i64 r, .int .i64 v, .bool z] 31)) (blk (w.heap.size + 1) 31 #[.int .i64 t, .int .i64 r, .int .i64 v, .bool z] :: blk w.heap.size 26 #[.int .i64 a, .int .i64 b, .int .i64 c, .int .i64 d] :: rs) := by
  have h0 := (h.alloc #[.int .i64 a, .int .i64 b, .int .i64 c, .int .i64 d] 26).alloc #[.int .i64 t, .int .i64 r, .int .i64 v, .bool z] 31
  rw [World.size_alloc] at h0
  exact h0
set_option maxHeartbeats 64000000 in
set_option maxRecDepth 100000 in
theorem smap_walk (a0 : Option Addr) (len0 cap0 : Nat) (L0 : List A4) (w : World) (hv0 : RL w (.slice a0 len0 cap0) 4 len0 (a4cells L0)) (hn0 : L0.length = len0) :
    Calls Try.prog 4 #[.slice a0 len0 cap0] w fun e w' => e = .returned (.bool true) ∧ Below w.heap.size w w' := by
  have HV0 := Lib.hid hv0
  have hl0 := Lib.hid hn0
  have hmm := @run_makeMap Try.prog
  clear hv0 hn0
  by_cases h80 : len0 ≤ 80
  · have i80 : ¬ ((80 : Int) < (len0 : Int)) := by omega
    go_enter Try.func4, Try.ntmps4
    go_wp2_with fail
    refine (lives_any _).mono ?_
    rintro e w1 ⟨rfl, q0⟩
    have hV := Lib.hid ((Sep.start w).below q0)
    clear q0
    go_wp2_with fail
    refine (new_x _).mono ?_
    rintro e w3 ⟨p, rfl, q2⟩
    replace hV := Lib.hid (q2.graft hV.out)
    replace hV := Lib.hid (show Sep _ [stX p [], mapr ekN evI w3.heap.size [], old w] from (hV.out.map_new ekN evI).to1)
    clear q2
    go_wp2_with fail
    clear hmm
    generalize w3.heap.size = mb at *
    go_loopg [5] len0 (fun gm s5 W => ∃ (k : Nat) (E M : Ent), k ≤ len0 ∧ gm = len0 - k ∧ s5 = .int .i64 k ∧ Hid (E.length ≤ k) ∧ Hid (Inv E M L0 k) ∧ Hid (Sep W [stX p E, mapr ekN evI mb M, old w]))
    case atStart => exact ⟨0, [], [], Nat.zero_le _, rfl, rfl, Lib.hid (Nat.le_refl _), Lib.hid (Inv.zero L0), hV⟩
    case round =>
      clear hV
      obtain ⟨k, E, M, hk, hgm, rfl, hEl, hI, hV⟩ := hrel
      by_cases hlt : k < len0
      · obtain ⟨b, off, rfl, hb, zz⟩ := a4_at HV0.out hl0.out (by omega)
        obtain ⟨x, hx⟩ : ∃ x, L0[k]? = some x := ⟨L0[k]'(by rw [hl0.out]; exact hlt), List.getElem?_eq_getElem _⟩
        have kk : ∀ o, w.cell? ⟨b, o, none⟩ = wr.cell? ⟨b, o, none⟩ := fun o => (hV.out.to2.gold.cell (p := ⟨b, o, none⟩) hb).symm
        have z0 := zz k x hx 0 _ rfl
        have z1 := zz k x hx 1 _ rfl
        have z2 := zz k x hx 2 _ rfl
        have z3 := zz k x hx 3 _ rfl
        rw [kk] at z0 z1 z2 z3
        simp only [← Nat.add_assoc, Nat.add_zero] at z0 z1 z2 z3
        have i1 : (0 : Int) ≤ (k : Int) := by omega
        have i2 : (k : Int) < (len0 : Int) := by omega
        have hms := Lib.hid (show len0 - (k + 1) < len0 - k from Nat.sub_lt_sub_left hlt (Nat.lt_succ_self k))
        have hput := Lib.hid (fun hr => hI.out.put hx hr)
        have hdel := Lib.hid (hI.out.del x.key)
        have hno := Lib.hid (fun hr => hI.out.no x.key hr)
        have hst := Lib.hid hI.out.stay
        have hkv := hI.out.v x.key
        have hnl1 := Lib.hid (Nat.le_trans (putL_len E x.key x.v) (Nat.succ_le_succ hEl.out))
        have hnl2 := Lib.hid (Nat.le_trans (delL_len E x.key) (Nat.le_succ_of_le hEl.out))
        have hnl3 := Lib.hid (Nat.le_succ_of_le hEl.out)
        clear hx kk hI hEl
        obtain ⟨kd, t, r, v⟩ := x
        simp only [A4.key] at z0 z1 z2 z3 hput hdel hno hst hkv hnl1 hnl2
        obtain ⟨kp, PK⟩ := pick_nat kd 3 (by omega) (by omega)
        have hkp5 := PK.lt
        have hP := PK.run
        clear PK
        have hq := fun a0 b0 a1 b1 a2 b2 a3 b3 W => run_neq_was a0 b0 a1 b1 a2 b2 a3 b3 W
        have hlk := Lib.hid (look_ek M (t, r))
        have hin0 : ∀ u, getL E (t, r) = u → (getL E (t, r)).getD 0 = u.getD 0 ∧ hasL E (t, r) = u.isSome := fun u hu => by rw [← getL_isSome, hu]; exact ⟨rfl, rfl⟩
        have hA := Lib.hid (hV.out.alloc #[.int .i64 kd, .int .i64 t, .int .i64 r, .int .i64 v] 26)
        have hB := Lib.hid (was2 wr kd t r v 0 0 0 false hV.out)
        clear hV
        generalize lastV M (t, r) = kv at *
        obtain ⟨_, d0, d1, d2, d3, _⟩ := hA.out.b4
        obtain ⟨_, b0, b1, b2, b3, _⟩ := hB.out.to1.b4
        go_wp2_with (at_lookup; refine wpList_lookup_map (hA.out.bring 2 rfl) lawN Try.underlying44 rfl (.tmp 36) (.tmp 38) false rfl (zeroJ _) rfl (t, r) rfl ?_; rw [if_neg (by simp), hlk.out])
        refine (hP.out _).mono ?_
        rintro e w5 ⟨rfl, rfl⟩
        generalize hgs : wr.heap.size = g at *
        replace hgs := Lib.hid hgs
        clear hP hA hlk d0 d1 d2 d3 z0 z1 z2 z3
        by_cases h5 : (kp : Int) = 0
        · cases hrec : isRec (t, r) with
          | true =>
            have HP := Lib.hid (fun W rs h => put_yes p E t r v W rs h hrec)
            have hI2 := Lib.hid (hput.out hrec)
            clear hput hdel hno hst
            rcases hkv with ⟨rfl, h6⟩ | ⟨j, x, hj, hx, rfl, h6⟩
            · have hin := hin0 none h6
              simp only [Option.getD_none, Option.isSome_none] at hin
              have hq1 := fun W => hq t t r r 0 0 false false W
              rw [eqB_was_self, Bool.not_true] at hq1
              clear hq
              unfold wasV at HP
              have hgh := hin.2
              rw [hin.1, hin.2] at HP
              go_wp2_with fail
              refine (HP.out _ _ (hB.out.bring 2 rfl)).mono ?_
              rintro e w6 ⟨rfl, q⟩
              have n1 : ¬ g = g + 1 := by omega
              have n2 : ¬ g + 1 = g := by omega
              obtain ⟨_, e0, e1, e2, e3, f0, f1, f2, f3⟩ := q.to1.b4
              obtain ⟨_, d0, d1, d2, d3, _⟩ := (q.bring 2 rfl).b4
              have hZ := Lib.hid (((((q.to1).set 0 (.int .i64 t)).set 1 (.int .i64 r)).set 2 (.int .i64 0)).set 3 (.bool false))
              replace q := Lib.hid q
              clear hB
              go_wp2_with (at_mapUpdate; refine wpList_mapUpdate_map (hZ.out.bring 3 rfl) lawN Try.underlying44 rfl (.tmp 56) (.tmp 58) (.tmp 60) rfl rfl (t, r) ((k : Int) + 1) rfl rfl ?_; intro w7 q7; obtain ⟨_, x0, x1, x2, x3, _⟩ := q7.to1.b4; obtain ⟨_, y0, y1, y2, y3, _⟩ := (q7.bring 3 rfl).b4; have hC := Lib.hid (q7.alloc #[.int .i64 t, .int .i64 r, .int .i64 0, .bool false] 31); have n3 := Blk.lt (Sep.gblk (q7.to1)); have n4 : ¬ w7.heap.size = g + 1 := Nat.ne_of_gt n3; have n5 : ¬ g + 1 = w7.heap.size := Nat.ne_of_lt n3; obtain ⟨_, c0, c1, c2, c3, _⟩ := hC.out.b4; obtain ⟨_, x0, x1, x2, x3, _⟩ := (hC.out.bring 2 rfl).b4)
              go_roundg (len0 - (k + 1))
              case measure => first | exact hms.out | (rw [hgm]; exact hms.out)
              case rel => exact ⟨k + 1, _, _, by omega, rfl, by go_num, hnl1, hI2, Lib.hid ((((hC.out.tail.to1).tail.to1).bring 2 rfl).tail)⟩
            · have hin := hin0 _ h6
              simp only [Option.getD_some, Option.isSome_some] at hin
              have zj := zz j x hx 3 _ rfl
              simp only [← Nat.add_assoc] at zj
              have j1 : (j : Int) < (len0 : Int) := by omega
              have j0 : (0 : Int) ≤ (j : Int) := by omega
              have hq1 := fun W => hq t t r r x.v x.v true true W
              rw [eqB_was_self, Bool.not_true] at hq1
              clear hq
              generalize x.v = xv at *
              clear hx zz
              unfold wasV at HP
              have hgh := hin.2
              rw [hin.1, hin.2] at HP
              go_wp2_with fail
              refine (HP.out _ _ (hB.out.bring 2 rfl)).mono ?_
              rintro e w6 ⟨rfl, q⟩
              have n1 : ¬ g = g + 1 := by omega
              have n2 : ¬ g + 1 = g := by omega
              obtain ⟨_, e0, e1, e2, e3, f0, f1, f2, f3⟩ := q.to1.b4
              obtain ⟨_, d0, d1, d2, d3, _⟩ := (q.bring 2 rfl).b4
              have hZ := Lib.hid (((((q.to1).set 0 (.int .i64 t)).set 1 (.int .i64 r)).set 2 (.int .i64 xv)).set 3 (.bool true))
              replace q := Lib.hid q
              clear hB
              go_wp2_with (at_mapUpdate; refine wpList_mapUpdate_map (hZ.out.bring 3 rfl) lawN Try.underlying44 rfl (.tmp 56) (.tmp 58) (.tmp 60) rfl rfl (t, r) ((k : Int) + 1) rfl rfl ?_; intro w7 q7; obtain ⟨_, x0, x1, x2, x3, _⟩ := q7.to1.b4; obtain ⟨_, y0, y1, y2, y3, _⟩ := (q7.bring 3 rfl).b4; have hC := Lib.hid (q7.alloc #[.int .i64 t, .int .i64 r, .int .i64 0, .bool false] 31); have n3 := Blk.lt (Sep.gblk (q7.to1)); have n4 : ¬ w7.heap.size = g + 1 := Nat.ne_of_gt n3; have n5 : ¬ g + 1 = w7.heap.size := Nat.ne_of_lt n3; obtain ⟨_, c0, c1, c2, c3, _⟩ := hC.out.b4; obtain ⟨_, x0, x1, x2, x3, _⟩ := (hC.out.bring 2 rfl).b4; have hF := Lib.hid (q7.alloc #[.int .i64 t, .int .i64 r, .int .i64 xv, .bool true] 31); have u2 := (((hC.out.bring 5 rfl).gold).cell (p := ⟨b, off + j * 4 + 3, none⟩) hb).trans zj)
              go_roundg (len0 - (k + 1))
              case measure => first | exact hms.out | (rw [hgm]; exact hms.out)
              case rel => exact ⟨k + 1, _, _, by omega, rfl, by go_num, hnl1, hI2, Lib.hid ((((hF.out.tail.to1).tail.to1).bring 2 rfl).tail)⟩
          | false =>
            have HP := Lib.hid (fun W rs h => put_no p E t r v W rs h hrec)
            clear hput hdel hno
            have hlv := Lib.hid (rec_no hrec)
            have hq1 := fun W => hq 0 0 0 0 0 0 false false W
            rw [eqB_was_self, Bool.not_true] at hq1
            clear hq hkv hin0 zz
            unfold was0 at HP
            go_wp2_with fail
            refine (HP.out _ _ (hB.out.bring 2 rfl)).mono ?_
            rintro e w6 ⟨rfl, q⟩
            have n1 : ¬ g = g + 1 := by omega
            have n2 : ¬ g + 1 = g := by omega
            obtain ⟨_, e0, e1, e2, e3, f0, f1, f2, f3⟩ := q.to1.b4
            obtain ⟨_, d0, d1, d2, d3, _⟩ := (q.bring 2 rfl).b4
            have hZ := Lib.hid (((((q.to1).set 0 (.int .i64 0)).set 1 (.int .i64 0)).set 2 (.int .i64 0)).set 3 (.bool false))
            replace q := Lib.hid q
            clear hB
            have hW := Lib.hid hZ.out
            obtain ⟨_, x0, x1, x2, x3, _⟩ := hW.out.b4
            obtain ⟨_, y0, y1, y2, y3, _⟩ := (hW.out.bring 2 rfl).b4
            go_wp2_with fail
            refine (checkR_any t r _).mono ?_
            rintro e w8 ⟨rfl, qb⟩
            replace hW := Lib.hid (hW.out.below qb)
            clear qb
            by_cases hl : lv t r = -1
            · rw [if_pos hl]
              clear hl
              go_wp2_with fail
              go_roundg (len0 - (k + 1))
              case measure => first | exact hms.out | (rw [hgm]; exact hms.out)
              case rel => exact ⟨k + 1, _, _, by omega, rfl, by go_num, hnl3, hst, Lib.hid (hW.out.tail.to1).tail⟩
            · rw [if_neg hl]
              obtain ⟨_, d0, d1, d2, d3, _⟩ := (hW.out.bring 2 rfl).b4
              go_wp2_with fail
              refine (levelR_any t r _).mono ?_
              rintro e w9 ⟨rfl, qb⟩
              replace hW := Lib.hid (hW.out.below qb)
              clear qb
              have i9 : (lv t r == 2) = false := hlv.out.1
              go_wp2_with fail
              go_roundg (len0 - (k + 1))
              case measure => first | exact hms.out | (rw [hgm]; exact hms.out)
              case rel => exact ⟨k + 1, _, _, by omega, rfl, by go_num, hnl3, hst, Lib.hid (hW.out.tail.to1).tail⟩
        · cases hrec : isRec (t, r) with
          | true =>
            have HP := Lib.hid (fun W rs h => del_yes p E t r W rs h hrec)
            have hI2 := hdel
            clear hput hst hno hdel
            rcases hkv with ⟨rfl, h6⟩ | ⟨j, x, hj, hx, rfl, h6⟩
            · have hin := hin0 none h6
              simp only [Option.getD_none, Option.isSome_none] at hin
              have hq1 := fun W => hq t t r r 0 0 false false W
              rw [eqB_was_self, Bool.not_true] at hq1
              clear hq
              unfold wasV at HP
              have hgh := hin.2
              rw [hin.1, hin.2] at HP
              go_wp2_with fail
              refine (HP.out _ _ (hB.out.bring 2 rfl)).mono ?_
              rintro e w6 ⟨rfl, q⟩
              have n1 : ¬ g = g + 1 := by omega
              have n2 : ¬ g + 1 = g := by omega
              obtain ⟨_, e0, e1, e2, e3, f0, f1, f2, f3⟩ := q.to1.b4
              obtain ⟨_, d0, d1, d2, d3, _⟩ := (q.bring 2 rfl).b4
              have hZ := Lib.hid (((((q.to1).set 0 (.int .i64 t)).set 1 (.int .i64 r)).set 2 (.int .i64 0)).set 3 (.bool false))
              replace q := Lib.hid q
              clear hB
              go_wp2_with (at_mapUpdate; refine wpList_mapUpdate_map (hZ.out.bring 3 rfl) lawN Try.underlying44 rfl (.tmp 68) (.tmp 70) (.const (.int .i64 0)) rfl rfl (t, r) 0 rfl rfl ?_; intro w7 q7; obtain ⟨_, x0, x1, x2, x3, _⟩ := q7.to1.b4; obtain ⟨_, y0, y1, y2, y3, _⟩ := (q7.bring 3 rfl).b4; have hC := Lib.hid (q7.alloc #[.int .i64 t, .int .i64 r, .int .i64 0, .bool false] 31); have n3 := Blk.lt (Sep.gblk (q7.to1)); have n4 : ¬ w7.heap.size = g + 1 := Nat.ne_of_gt n3; have n5 : ¬ g + 1 = w7.heap.size := Nat.ne_of_lt n3; obtain ⟨_, c0, c1, c2, c3, _⟩ := hC.out.b4; obtain ⟨_, x0, x1, x2, x3, _⟩ := (hC.out.bring 2 rfl).b4)
              go_roundg (len0 - (k + 1))
              case measure => first | exact hms.out | (rw [hgm]; exact hms.out)
              case rel => exact ⟨k + 1, _, _, by omega, rfl, by go_num, hnl2, hI2, Lib.hid ((((hC.out.tail.to1).tail.to1).bring 2 rfl).tail)⟩
            · have hin := hin0 _ h6
              simp only [Option.getD_some, Option.isSome_some] at hin
              have zj := zz j x hx 3 _ rfl
              simp only [← Nat.add_assoc] at zj
              have j1 : (j : Int) < (len0 : Int) := by omega
              have j0 : (0 : Int) ≤ (j : Int) := by omega
              have hq1 := fun W => hq t t r r x.v x.v true true W
              rw [eqB_was_self, Bool.not_true] at hq1
              clear hq
              generalize x.v = xv at *
              clear hx zz
              unfold wasV at HP
              have hgh := hin.2
              rw [hin.1, hin.2] at HP
              go_wp2_with fail
              refine (HP.out _ _ (hB.out.bring 2 rfl)).mono ?_
              rintro e w6 ⟨rfl, q⟩
              have n1 : ¬ g = g + 1 := by omega
              have n2 : ¬ g + 1 = g := by omega
              obtain ⟨_, e0, e1, e2, e3, f0, f1, f2, f3⟩ := q.to1.b4
              obtain ⟨_, d0, d1, d2, d3, _⟩ := (q.bring 2 rfl).b4
              have hZ := Lib.hid (((((q.to1).set 0 (.int .i64 t)).set 1 (.int .i64 r)).set 2 (.int .i64 xv)).set 3 (.bool true))
              replace q := Lib.hid q
              clear hB
              go_wp2_with (at_mapUpdate; refine wpList_mapUpdate_map (hZ.out.bring 3 rfl) lawN Try.underlying44 rfl (.tmp 68) (.tmp 70) (.const (.int .i64 0)) rfl rfl (t, r) 0 rfl rfl ?_; intro w7 q7; obtain ⟨_, x0, x1, x2, x3, _⟩ := q7.to1.b4; obtain ⟨_, y0, y1, y2, y3, _⟩ := (q7.bring 3 rfl).b4; have hC := Lib.hid (q7.alloc #[.int .i64 t, .int .i64 r, .int .i64 0, .bool false] 31); have n3 := Blk.lt (Sep.gblk (q7.to1)); have n4 : ¬ w7.heap.size = g + 1 := Nat.ne_of_gt n3; have n5 : ¬ g + 1 = w7.heap.size := Nat.ne_of_lt n3; obtain ⟨_, c0, c1, c2, c3, _⟩ := hC.out.b4; obtain ⟨_, x0, x1, x2, x3, _⟩ := (hC.out.bring 2 rfl).b4; have hF := Lib.hid (q7.alloc #[.int .i64 t, .int .i64 r, .int .i64 xv, .bool true] 31); have u2 := (((hC.out.bring 5 rfl).gold).cell (p := ⟨b, off + j * 4 + 3, none⟩) hb).trans zj)
              go_roundg (len0 - (k + 1))
              case measure => first | exact hms.out | (rw [hgm]; exact hms.out)
              case rel => exact ⟨k + 1, _, _, by omega, rfl, by go_num, hnl2, hI2, Lib.hid ((((hF.out.tail.to1).tail.to1).bring 2 rfl).tail)⟩
          | false =>
            have HP := Lib.hid (fun W rs h => del_no p E t r W rs h hrec)
            have hI2 := Lib.hid (hno.out hrec)
            clear hput hdel hst hno
            have hlv := Lib.hid (rec_no hrec)
            have hq1 := fun W => hq 0 0 0 0 0 0 false false W
            rw [eqB_was_self, Bool.not_true] at hq1
            clear hq hkv hin0 zz
            unfold was0 at HP
            go_wp2_with fail
            refine (HP.out _ _ (hB.out.bring 2 rfl)).mono ?_
            rintro e w6 ⟨rfl, q⟩
            have n1 : ¬ g = g + 1 := by omega
            have n2 : ¬ g + 1 = g := by omega
            obtain ⟨_, e0, e1, e2, e3, f0, f1, f2, f3⟩ := q.to1.b4
            obtain ⟨_, d0, d1, d2, d3, _⟩ := (q.bring 2 rfl).b4
            have hZ := Lib.hid (((((q.to1).set 0 (.int .i64 0)).set 1 (.int .i64 0)).set 2 (.int .i64 0)).set 3 (.bool false))
            replace q := Lib.hid q
            clear hB
            go_wp2_with (at_mapUpdate; refine wpList_mapUpdate_map (hZ.out.bring 3 rfl) lawN Try.underlying44 rfl (.tmp 68) (.tmp 70) (.const (.int .i64 0)) rfl rfl (t, r) 0 rfl rfl ?_; intro w7 q7; obtain ⟨_, x0, x1, x2, x3, _⟩ := q7.to1.b4; obtain ⟨_, y0, y1, y2, y3, _⟩ := (q7.bring 3 rfl).b4; have hW := Lib.hid (((q7.bring 3 rfl).bring 3 rfl).bring 3 rfl))
            refine (checkR_any t r _).mono ?_
            rintro e w8 ⟨rfl, qb⟩
            replace hW := Lib.hid (hW.out.below qb)
            clear qb
            by_cases hl : lv t r = -1
            · rw [if_pos hl]
              clear hl
              go_wp2_with fail
              go_roundg (len0 - (k + 1))
              case measure => first | exact hms.out | (rw [hgm]; exact hms.out)
              case rel => exact ⟨k + 1, _, _, by omega, rfl, by go_num, hnl3, hI2, Lib.hid (hW.out.tail.to1).tail⟩
            · rw [if_neg hl]
              obtain ⟨_, d0, d1, d2, d3, _⟩ := (hW.out.bring 2 rfl).b4
              go_wp2_with fail
              refine (levelR_any t r _).mono ?_
              rintro e w9 ⟨rfl, qb⟩
              replace hW := Lib.hid (hW.out.below qb)
              clear qb
              have i9 : (lv t r == 2) = false := hlv.out.1
              go_wp2_with fail
              go_roundg (len0 - (k + 1))
              case measure => first | exact hms.out | (rw [hgm]; exact hms.out)
              case rel => exact ⟨k + 1, _, _, by omega, rfl, by go_num, hnl3, hI2, Lib.hid (hW.out.tail.to1).tail⟩
      · obtain rfl : k = len0 := by omega
        clear hgm
        have hl80 : E.length ≤ 80 := by have := hEl.out; omega
        have HA := Lib.hid (fun W rs h => all_x p E W rs h (by omega))
        have HS := Lib.hid (fun (T : Nat) W rs h => scan_x p E (T : Int) W rs h (by omega))
        have HLn := Lib.hid (fun W rs h => len_x p E W rs h (by omega))
        have hns := Lib.hid (stX_nodup hV.out)
        have hsum := Lib.hid (sumT_all hI.out)
        have hrl : (srtE E).length ≤ 80 := by rw [srtE_len]; exact hl80
        have hsl := Lib.hid (fun T => Nat.le_trans (sumT_le E T) hl80)
        obtain ⟨nr, hnr⟩ : ∃ nr, (srtE E).length = nr := ⟨_, rfl⟩
        rw [hnr] at HA HLn hsum hrl
        replace hnr := Lib.hid hnr
        go_wp2_with fail
        refine (HA.out _ _ hV.out).mono ?_
        rintro e w4 ⟨ra, rc, rfl, q⟩
        replace hV := Lib.hid (show Sep _ [stX p E, vec 39 3 (.slice ra nr rc) nr ((srtE E).flatMap rowC), mapr ekN evI mb M, old w] from q.to1)
        clear q HA
        go_wp2_with fail
        go_loopg [12, 13] 100 (fun gm s12 s13 W => ∃ T : Nat, T ≤ 100 ∧ gm = 100 - T ∧ s12 = .int .i64 (sumT E T) ∧ s13 = .int .i64 T ∧ Hid (Sep W [stX p E, vec 39 3 (.slice ra nr rc) nr ((srtE E).flatMap rowC), mapr ekN evI mb M, old w]))
        case atStart => exact ⟨0, Nat.zero_le _, rfl, rfl, rfl, hV⟩
        case round =>
          clear hV
          obtain ⟨T, hT, hgm, rfl, rfl, hV⟩ := hrel
          by_cases hlt : T < 100
          · have hms := Lib.hid (show 100 - (T + 1) < 100 - T from Nat.sub_lt_sub_left hlt (Nat.lt_succ_self T))
            have i1 : (T : Int) < 100 := by omega
            have HS1 := Lib.hid (fun W rs h => HS.out T W rs h)
            have b1 := hsl.out T
            have b2 := hsl.out (T + 1)
            have hsu : sumT E (T + 1) = sumT E T + (tabL T E).length := rfl
            have i2 : ((T + 1 : Nat) : Int) = (T : Int) + 1 := by omega
            clear HS
            generalize hdd : sumT E (T + 1) = d at *
            replace hdd := Lib.hid hdd
            generalize sumT E T = a at *
            generalize tabL T E = tl at *
            generalize hcl : tl.length = c at *
            replace hsu := Lib.hid hsu
            replace hcl := Lib.hid hcl
            replace i2 := Lib.hid i2
            have b3 : (a : Int) + (c : Int) ≤ 80 := by have := hsu.out; omega
            go_wp2_with fail
            refine (HS1.out _ _ hV.out).mono ?_
            rintro e w5 ⟨va, vc, rfl, q⟩
            replace hV := Lib.hid q.tail
            clear q HS1
            go_wp2_with fail
            go_roundg (100 - (T + 1))
            case measure => first | exact hms.out | (rw [hgm]; exact hms.out)
            case rel => exact ⟨T + 1, by omega, rfl, by rw [hdd.out]; have := hsu.out; subst this; go_num, by go_num, hV⟩
          · obtain rfl : T = 100 := by omega
            rw [hsum.out]
            clear hgm HS hsl hsum
            go_wp2_with fail
            go_loopg [14] nr (fun gm s14 W => ∃ (i : Nat) (M2 : Ent), i ≤ nr ∧ gm = nr - i ∧ s14 = .int .i64 i ∧ Hid (Inv2 E M M2 i) ∧ Hid (Sep W [stX p E, vec 39 3 (.slice ra nr rc) nr ((srtE E).flatMap rowC), mapr ekN evI mb M2, old w]))
            case atStart => exact ⟨0, M, Nat.zero_le _, rfl, rfl, Lib.hid (Inv2.zero E M), hV⟩
            case round =>
              clear hV
              obtain ⟨i, M2, hi, hgm, rfl, hi2, hV⟩ := hrel
              by_cases hlt : i < nr
              · have hms := Lib.hid (show nr - (i + 1) < nr - i from Nat.sub_lt_sub_left hlt (Nat.lt_succ_self i))
                obtain ⟨rb, ro, rfl, _, _⟩ := cells_row hV.out.to1.vec_rl hnr.out (by omega)
                obtain ⟨y, hy⟩ : ∃ y, (srtE E)[i]? = some y := ⟨(srtE E)[i]'(by rw [hnr.out]; exact hlt), List.getElem?_eq_getElem _⟩
                have hri := Lib.hid hy
                obtain ⟨j, x, hj, hx, hl1, hxv, hgl, hi3⟩ := row_at hI.out hns.out hi2.out hy
                replace hi3 := Lib.hid hi3
                have hhl : hasL E y.1 = true := by rw [← getL_isSome, hgl]; rfl
                obtain ⟨b, off, rfl, hb, zz⟩ := a4_at HV0.out hl0.out (by omega)
                have zj := zz j x hx 3 _ rfl
                simp only [← Nat.add_assoc] at zj
                rw [hxv] at zj
                have hrp := Lib.hid (fun (u : (Int × Int) × Int) (m : Nat) (hm : m + 1 = i) (hu : (srtE E)[m]? = some u) => row_lt hns.out hu (by rw [hm]; exact hy))
                obtain ⟨⟨rt, rr⟩, rv⟩ := y
                have HG := Lib.hid (fun W rs h => get_x p E rt rr W rs h)
                rw [hgl, hhl] at HG
                simp only [Option.getD_some] at HG
                simp only at hl1 zj hi3
                have hlk := Lib.hid (look_ek M2 (rt, rr))
                rw [hl1] at hlk
                have i1 : (0 : Int) ≤ (i : Int) := by omega
                have i2 : (i : Int) < (nr : Int) := by omega
                have hjw := Lib.hid (show IntKind.i64.wrap (j : Int) = (j : Int) from IntWalk.i64_in _ (by omega))
                have j1 : (j : Int) < (k : Int) := by omega
                have j0 : (0 : Int) ≤ (j : Int) := by omega
                have j2 : ((j : Int) + 1 == 0) = false := by rw [beq_eq_false_iff_ne]; omega
                clear hy hx hl1 hxv hgl hhl zz hi2
                have y0 := row_cell (j := 0) hV.out.to1 hnr.out hri.out rfl
                have y1 := row_cell (j := 1) hV.out.to1 hnr.out hri.out rfl
                rw [Nat.add_zero] at y0
                go_wp2_with (at_lookup; refine wpList_lookup_map (hV.out.bring 2 rfl) lawN Try.underlying44 rfl (.tmp 122) (.tmp 127) false rfl (zeroJ _) rfl (rt, rr) rfl ?_; rw [if_neg (by simp), hlk.out])
                refine (HG.out _ _ hV.out).mono ?_
                rintro e w5 ⟨rfl, q⟩
                clear hV HG y0 y1 hlk
                go_wp2_with fail
                have hB := Lib.hid q.drew
                clear q
                by_cases hpos : 0 < i
                · obtain ⟨m, him0⟩ : ∃ m, m + 1 = i := ⟨i - 1, by omega⟩
                  obtain ⟨y, hy⟩ : ∃ y, (srtE E)[m]? = some y := ⟨(srtE E)[m]'(by rw [hnr.out]; omega), List.getElem?_eq_getElem _⟩
                  have hcm := hrp.out y m him0 hy
                  have him := Lib.hid (show (i : Int) - 1 = (m : Int) by omega)
                  have hmw := Lib.hid (show IntKind.i64.wrap (m : Int) = (m : Int) from IntWalk.i64_in _ (by omega))
                  have m1 : (0 : Int) ≤ (m : Int) := by omega
                  have m2 : (m : Int) < (nr : Int) := by omega
                  have i9 : (0 : Int) < (i : Int) := by omega
                  obtain ⟨⟨pt, pr⟩, pv⟩ := y
                  clear hrp him0
                  have hrp := Lib.hid hy
                  have HC := Lib.hid (fun W => compareR_any pt pr rt rr W)
                  simp only at hcm
                  rw [hcm] at HC
                  clear hcm hy
                  have hS := Lib.hid (show (fun W : World => Sep W [stX p E, vec 39 3 (.slice (some ⟨rb, ro, none⟩) nr rc) nr ((srtE E).flatMap rowC), mapr ekN evI mb M2, old w]) _ from hB.out)
                  refine hl_begin (fun W : World => Sep W [stX p E, vec 39 3 (.slice (some ⟨rb, ro, none⟩) nr rc) nr ((srtE E).flatMap rowC), mapr ekN evI mb M2, old w]) [(0, true), (1, true), (2, true), (3, true), (4, true), (5, true), (6, true), (7, true), (8, true), (9, true), (10, true), (11, true), (12, true), (13, true), (14, true), (15, true), (16, true), (17, true), (18, true), (19, true), (20, true), (21, true), (22, true), (23, true), (24, true), (25, true), (26, true), (27, true), (28, true), (29, true), (30, true), (31, true), (32, true), (33, true), (34, true), (35, true), (36, true), (37, true), (38, true), (39, true), (40, true), (41, true), (42, true), (43, true), (44, false), (45, true), (46, true), (47, true)] (by kernel_rfl) (by kernel_rfl) (by kernel_rfl) rfl (fun _ _ _ _ _ h => h) hS.out ?_
                  change HL _ _ _ _ _ _ (World.drew _)
                  generalize World.drew _ = wd at *
                  refine hl_take ?v36 rfl (by kernel_rfl) ?y36 ?z36
                  case y36 => intro W hW; have jw := hjw.out; have mw := hmw.out; have him := him.out; replace hW := Lib.hid hW; go_simp; try rfl
                  case z36 =>
                  simp only [Act.put, List.setIfInBounds_toArray, List.set_cons_succ, List.set_cons_zero, List.getElem_toArray, List.getElem_cons_zero]
                  refine hl_take ?v37 rfl (by kernel_rfl) ?y37 ?z37
                  case y37 => intro W hW; have jw := hjw.out; have mw := hmw.out; have him := him.out; replace hW := Lib.hid hW; go_simp; try rfl
                  case z37 =>
                  simp only [Act.put, List.setIfInBounds_toArray, List.set_cons_succ, List.set_cons_zero, List.getElem_toArray, List.getElem_cons_zero, List.getElem_cons_succ]
                  refine hl_take ?v38 rfl (by kernel_rfl) ?y38 ?z38
                  case y38 => intro W hW; have jw := hjw.out; have mw := hmw.out; have him := him.out; replace hW := Lib.hid hW; go_simp; try rfl
                  case z38 =>
                  simp only [Act.put, List.setIfInBounds_toArray, List.set_cons_succ, List.set_cons_zero, List.getElem_toArray, List.getElem_cons_zero, List.getElem_cons_succ]
                  refine hl_take ?v39 rfl (by kernel_rfl) ?y39 ?z39
                  case y39 => intro W hW; have jw := hjw.out; have mw := hmw.out; have him := him.out; replace hW := Lib.hid hW; go_simp; try rfl
                  case z39 =>
                  simp only [Act.put, List.setIfInBounds_toArray, List.set_cons_succ, List.set_cons_zero, List.getElem_toArray, List.getElem_cons_zero, List.getElem_cons_succ]
                  refine hl_take ?v40 rfl (by kernel_rfl) ?y40 ?z40
                  case y40 => intro W hW; have jw := hjw.out; have mw := hmw.out; have him := him.out; replace hW := Lib.hid hW; go_simp; try rfl
                  case z40 =>
                  simp only [Act.put, List.setIfInBounds_toArray, List.set_cons_succ, List.set_cons_zero, List.getElem_toArray, List.getElem_cons_zero, List.getElem_cons_succ]
                  refine hl_take ?v41 rfl (by kernel_rfl) ?y41 ?z41
                  case y41 => intro W hW; have jw := hjw.out; have mw := hmw.out; have him := him.out; replace hW := Lib.hid hW; go_simp; try rfl
                  case z41 =>
                  simp only [Act.put, List.setIfInBounds_toArray, List.set_cons_succ, List.set_cons_zero, List.getElem_toArray, List.getElem_cons_zero, List.getElem_cons_succ]
                  refine hl_take ?v42 rfl (by kernel_rfl) ?y42 ?z42
                  case y42 => intro W hW; have jw := hjw.out; have mw := hmw.out; have him := him.out; replace hW := Lib.hid hW; go_simp; try rfl
                  case z42 =>
                  simp only [Act.put, List.setIfInBounds_toArray, List.set_cons_succ, List.set_cons_zero, List.getElem_toArray, List.getElem_cons_zero, List.getElem_cons_succ]
                  refine hl_take ?v43 rfl (by kernel_rfl) ?y43 ?z43
                  case y43 => intro W hW; have jw := hjw.out; have mw := hmw.out; have him := him.out; replace hW := Lib.hid hW; go_simp; try rfl
                  case z43 =>
                  simp only [Act.put, List.setIfInBounds_toArray, List.set_cons_succ, List.set_cons_zero, List.getElem_toArray, List.getElem_cons_zero, List.getElem_cons_succ]
                  refine hl_take ?v44 rfl (by kernel_rfl) ?y44 ?z44
                  case y44 => intro W hW; have hW1 := (show Sep _ _ from hW).to1; have y2 := row_cell (j := 2) hW1 hnr.out hri.out rfl; have y0 := row_cell (j := 0) hW1 hnr.out hri.out rfl; have y1 := row_cell (j := 1) hW1 hnr.out hri.out rfl; have u3 := ((show Sep _ _ from hW).to3.gold.cell (p := ⟨b, off + j * 4 + 3, none⟩) hb).trans zj; rw [Nat.add_zero] at y0; have x0 := row_cell (j := 0) hW1 hnr.out hrp.out rfl; have x1 := row_cell (j := 1) hW1 hnr.out hrp.out rfl; rw [Nat.add_zero] at x0; clear hW1; replace hW := Lib.hid hW; go_simp; try rfl
                  case z44 =>
                  simp only [Act.put, List.setIfInBounds_toArray, List.set_cons_succ, List.set_cons_zero, List.getElem_toArray, List.getElem_cons_zero, List.getElem_cons_succ]
                  refine hl_take ?v45 rfl (by kernel_rfl) ?y45 ?z45
                  case y45 => intro W hW; have jw := hjw.out; have mw := hmw.out; have him := him.out; replace hW := Lib.hid hW; go_simp; try rfl
                  case z45 =>
                  simp only [Act.put, List.setIfInBounds_toArray, List.set_cons_succ, List.set_cons_zero, List.getElem_toArray, List.getElem_cons_zero, List.getElem_cons_succ]
                  refine hl_take ?v46 rfl (by kernel_rfl) ?y46 ?z46
                  case y46 => intro W hW; have jw := hjw.out; have mw := hmw.out; have him := him.out; replace hW := Lib.hid hW; go_simp; try rfl
                  case z46 =>
                  simp only [Act.put, List.setIfInBounds_toArray, List.set_cons_succ, List.set_cons_zero, List.getElem_toArray, List.getElem_cons_zero, List.getElem_cons_succ]
                  refine hl_take ?v47 rfl (by kernel_rfl) ?y47 ?z47
                  case y47 => intro W hW; have jw := hjw.out; have mw := hmw.out; have him := him.out; replace hW := Lib.hid hW; go_simp; try rfl
                  case z47 =>
                  simp only [Act.put, List.setIfInBounds_toArray, List.set_cons_succ, List.set_cons_zero, List.getElem_toArray, List.getElem_cons_zero, List.getElem_cons_succ]
                  refine hl_take ?v48 rfl (by kernel_rfl) ?y48 ?z48
                  case y48 => intro W hW; have jw := hjw.out; have mw := hmw.out; have him := him.out; replace hW := Lib.hid hW; go_simp; try rfl
                  case z48 =>
                  simp only [Act.put, List.setIfInBounds_toArray, List.set_cons_succ, List.set_cons_zero, List.getElem_toArray, List.getElem_cons_zero, List.getElem_cons_succ]
                  refine hl_take ?v49 rfl (by kernel_rfl) ?y49 ?z49
                  case y49 => intro W hW; have hW1 := (show Sep _ _ from hW).to1; have y2 := row_cell (j := 2) hW1 hnr.out hri.out rfl; have y0 := row_cell (j := 0) hW1 hnr.out hri.out rfl; have y1 := row_cell (j := 1) hW1 hnr.out hri.out rfl; have u3 := ((show Sep _ _ from hW).to3.gold.cell (p := ⟨b, off + j * 4 + 3, none⟩) hb).trans zj; rw [Nat.add_zero] at y0; have x0 := row_cell (j := 0) hW1 hnr.out hrp.out rfl; have x1 := row_cell (j := 1) hW1 hnr.out hrp.out rfl; rw [Nat.add_zero] at x0; clear hW1; replace hW := Lib.hid hW; go_simp; try rfl
                  case z49 =>
                  simp only [Act.put, List.setIfInBounds_toArray, List.set_cons_succ, List.set_cons_zero, List.getElem_toArray, List.getElem_cons_zero, List.getElem_cons_succ]
                  refine hl_take ?v50 rfl (by kernel_rfl) ?y50 ?z50
                  case y50 => intro W hW; have jw := hjw.out; have mw := hmw.out; have him := him.out; replace hW := Lib.hid hW; go_simp; try rfl
                  case z50 =>
                  simp only [Act.put, List.setIfInBounds_toArray, List.set_cons_succ, List.set_cons_zero, List.getElem_toArray, List.getElem_cons_zero, List.getElem_cons_succ]
                  refine hl_take ?v51 rfl (by kernel_rfl) ?y51 ?z51
                  case y51 => intro W hW; have jw := hjw.out; have mw := hmw.out; have him := him.out; replace hW := Lib.hid hW; go_simp; try rfl
                  case z51 =>
                  simp only [Act.put, List.setIfInBounds_toArray, List.set_cons_succ, List.set_cons_zero, List.getElem_toArray, List.getElem_cons_zero, List.getElem_cons_succ]
                  refine hl_take ?v52 rfl (by kernel_rfl) ?y52 ?z52
                  case y52 => intro W hW; have jw := hjw.out; have mw := hmw.out; have him := him.out; replace hW := Lib.hid hW; go_simp; try rfl
                  case z52 =>
                  simp only [Act.put, List.setIfInBounds_toArray, List.set_cons_succ, List.set_cons_zero, List.getElem_toArray, List.getElem_cons_zero, List.getElem_cons_succ]
                  refine hl_take ?v53 rfl (by kernel_rfl) ?y53 ?z53
                  case y53 => intro W hW; have jw := hjw.out; have mw := hmw.out; have him := him.out; replace hW := Lib.hid hW; go_simp; try rfl
                  case z53 =>
                  simp only [Act.put, List.setIfInBounds_toArray, List.set_cons_succ, List.set_cons_zero, List.getElem_toArray, List.getElem_cons_zero, List.getElem_cons_succ]
                  refine hl_take ?v54 rfl (by kernel_rfl) ?y54 ?z54
                  case y54 => intro W hW; have jw := hjw.out; have mw := hmw.out; have him := him.out; replace hW := Lib.hid hW; go_simp; try rfl
                  case z54 =>
                  simp only [Act.put, List.setIfInBounds_toArray, List.set_cons_succ, List.set_cons_zero, List.getElem_toArray, List.getElem_cons_zero, List.getElem_cons_succ]
                  refine hl_take ?v55 rfl (by kernel_rfl) ?y55 ?z55
                  case y55 => intro W hW; have jw := hjw.out; have mw := hmw.out; have him := him.out; replace hW := Lib.hid hW; go_simp; try rfl
                  case z55 =>
                  simp only [Act.put, List.setIfInBounds_toArray, List.set_cons_succ, List.set_cons_zero, List.getElem_toArray, List.getElem_cons_zero, List.getElem_cons_succ]
                  refine hl_take ?v56 rfl (by kernel_rfl) ?y56 ?z56
                  case y56 => intro W hW; have jw := hjw.out; have mw := hmw.out; have him := him.out; replace hW := Lib.hid hW; go_simp; try rfl
                  case z56 =>
                  simp only [Act.put, List.setIfInBounds_toArray, List.set_cons_succ, List.set_cons_zero, List.getElem_toArray, List.getElem_cons_zero, List.getElem_cons_succ]
                  refine hl_take ?v57 rfl (by kernel_rfl) ?y57 ?z57
                  case y57 => intro W hW; have jw := hjw.out; have mw := hmw.out; have him := him.out; replace hW := Lib.hid hW; go_simp; try rfl
                  case z57 =>
                  simp only [Act.put, List.setIfInBounds_toArray, List.set_cons_succ, List.set_cons_zero, List.getElem_toArray, List.getElem_cons_zero, List.getElem_cons_succ]
                  refine hl_take ?v58 rfl (by kernel_rfl) ?y58 ?z58
                  case y58 => intro W hW; have jw := hjw.out; have mw := hmw.out; have him := him.out; replace hW := Lib.hid hW; go_simp; try rfl
                  case z58 =>
                  simp only [Act.put, List.setIfInBounds_toArray, List.set_cons_succ, List.set_cons_zero, List.getElem_toArray, List.getElem_cons_zero, List.getElem_cons_succ]
                  refine hl_take ?v59 rfl (by kernel_rfl) ?y59 ?z59
                  case y59 => intro W hW; have jw := hjw.out; have mw := hmw.out; have him := him.out; replace hW := Lib.hid hW; go_simp; try rfl
                  case z59 =>
                  simp only [Act.put, List.setIfInBounds_toArray, List.set_cons_succ, List.set_cons_zero, List.getElem_toArray, List.getElem_cons_zero, List.getElem_cons_succ]
                  refine hl_take ?v60 rfl (by kernel_rfl) ?y60 ?z60
                  case y60 => intro W hW; have jw := hjw.out; have mw := hmw.out; have him := him.out; replace hW := Lib.hid hW; go_simp; try rfl
                  case z60 =>
                  simp only [Act.put, List.setIfInBounds_toArray, List.set_cons_succ, List.set_cons_zero, List.getElem_toArray, List.getElem_cons_zero, List.getElem_cons_succ]
                  refine hl_take ?v61 rfl (by kernel_rfl) ?y61 ?z61
                  case y61 => intro W hW; have jw := hjw.out; have mw := hmw.out; have him := him.out; replace hW := Lib.hid hW; go_simp; try rfl
                  case z61 =>
                  simp only [Act.put, List.setIfInBounds_toArray, List.set_cons_succ, List.set_cons_zero, List.getElem_toArray, List.getElem_cons_zero, List.getElem_cons_succ]
                  refine hl_take ?v62 rfl (by kernel_rfl) ?y62 ?z62
                  case y62 => intro W hW; have hW1 := (show Sep _ _ from hW).to1; have y2 := row_cell (j := 2) hW1 hnr.out hri.out rfl; have y0 := row_cell (j := 0) hW1 hnr.out hri.out rfl; have y1 := row_cell (j := 1) hW1 hnr.out hri.out rfl; have u3 := ((show Sep _ _ from hW).to3.gold.cell (p := ⟨b, off + j * 4 + 3, none⟩) hb).trans zj; rw [Nat.add_zero] at y0; have x0 := row_cell (j := 0) hW1 hnr.out hrp.out rfl; have x1 := row_cell (j := 1) hW1 hnr.out hrp.out rfl; rw [Nat.add_zero] at x0; clear hW1; replace hW := Lib.hid hW; go_simp; try rfl
                  case z62 =>
                  simp only [Act.put, List.setIfInBounds_toArray, List.set_cons_succ, List.set_cons_zero, List.getElem_toArray, List.getElem_cons_zero, List.getElem_cons_succ]
                  refine hl_take ?v63 rfl (by kernel_rfl) ?y63 ?z63
                  case y63 => intro W hW; have jw := hjw.out; have mw := hmw.out; have him := him.out; replace hW := Lib.hid hW; go_simp; try rfl
                  case z63 =>
                  simp only [Act.put, List.setIfInBounds_toArray, List.set_cons_succ, List.set_cons_zero, List.getElem_toArray, List.getElem_cons_zero, List.getElem_cons_succ]
                  refine hl_take ?v64 rfl (by kernel_rfl) ?y64 ?z64
                  case y64 => intro W hW; have jw := hjw.out; have mw := hmw.out; have him := him.out; replace hW := Lib.hid hW; go_simp; try rfl
                  case z64 =>
                  simp only [Act.put, List.setIfInBounds_toArray, List.set_cons_succ, List.set_cons_zero, List.getElem_toArray, List.getElem_cons_zero, List.getElem_cons_succ]
                  refine hl_take ?v65 rfl (by kernel_rfl) ?y65 ?z65
                  case y65 => intro W hW; have jw := hjw.out; have mw := hmw.out; have him := him.out; replace hW := Lib.hid hW; go_simp; try rfl
                  case z65 =>
                  simp only [Act.put, List.setIfInBounds_toArray, List.set_cons_succ, List.set_cons_zero, List.getElem_toArray, List.getElem_cons_zero, List.getElem_cons_succ]
                  refine hl_take ?v66 rfl (by kernel_rfl) ?y66 ?z66
                  case y66 => intro W hW; have jw := hjw.out; have mw := hmw.out; have him := him.out; replace hW := Lib.hid hW; go_simp; try rfl
                  case z66 =>
                  simp only [Act.put, List.setIfInBounds_toArray, List.set_cons_succ, List.set_cons_zero, List.getElem_toArray, List.getElem_cons_zero, List.getElem_cons_succ]
                  refine hl_take ?v67 rfl (by kernel_rfl) ?y67 ?z67
                  case y67 => intro W hW; have jw := hjw.out; have mw := hmw.out; have him := him.out; replace hW := Lib.hid hW; go_simp; try rfl
                  case z67 =>
                  simp only [Act.put, List.setIfInBounds_toArray, List.set_cons_succ, List.set_cons_zero, List.getElem_toArray, List.getElem_cons_zero, List.getElem_cons_succ]
                  refine hl_take ?v68 rfl (by kernel_rfl) ?y68 ?z68
                  case y68 => intro W hW; have jw := hjw.out; have mw := hmw.out; have him := him.out; replace hW := Lib.hid hW; go_simp; try rfl
                  case z68 =>
                  simp only [Act.put, List.setIfInBounds_toArray, List.set_cons_succ, List.set_cons_zero, List.getElem_toArray, List.getElem_cons_zero, List.getElem_cons_succ]
                  refine hl_take ?v69 rfl (by kernel_rfl) ?y69 ?z69
                  case y69 => intro W hW; have jw := hjw.out; have mw := hmw.out; have him := him.out; replace hW := Lib.hid hW; go_simp; try rfl
                  case z69 =>
                  simp only [Act.put, List.setIfInBounds_toArray, List.set_cons_succ, List.set_cons_zero, List.getElem_toArray, List.getElem_cons_zero, List.getElem_cons_succ]
                  refine hl_take ?v70 rfl (by kernel_rfl) ?y70 ?z70
                  case y70 => intro W hW; have jw := hjw.out; have mw := hmw.out; have him := him.out; replace hW := Lib.hid hW; go_simp; try rfl
                  case z70 =>
                  simp only [Act.put, List.setIfInBounds_toArray, List.set_cons_succ, List.set_cons_zero, List.getElem_toArray, List.getElem_cons_zero, List.getElem_cons_succ]
                  refine hl_take ?v71 rfl (by kernel_rfl) ?y71 ?z71
                  case y71 => intro W hW; have jw := hjw.out; have mw := hmw.out; have him := him.out; replace hW := Lib.hid hW; go_simp; try rfl
                  case z71 =>
                  simp only [Act.put, List.setIfInBounds_toArray, List.set_cons_succ, List.set_cons_zero, List.getElem_toArray, List.getElem_cons_zero, List.getElem_cons_succ]
                  refine hl_take ?v72 rfl (by kernel_rfl) ?y72 ?z72
                  case y72 => intro W hW; have jw := hjw.out; have mw := hmw.out; have him := him.out; replace hW := Lib.hid hW; go_simp; try rfl
                  case z72 =>
                  simp only [Act.put, List.setIfInBounds_toArray, List.set_cons_succ, List.set_cons_zero, List.getElem_toArray, List.getElem_cons_zero, List.getElem_cons_succ]
                  refine hl_take ?v73 rfl (by kernel_rfl) ?y73 ?z73
                  case y73 => intro W hW; have jw := hjw.out; have mw := hmw.out; have him := him.out; replace hW := Lib.hid hW; go_simp; try rfl
                  case z73 =>
                  simp only [Act.put, List.setIfInBounds_toArray, List.set_cons_succ, List.set_cons_zero, List.getElem_toArray, List.getElem_cons_zero, List.getElem_cons_succ]
                  refine hl_take ?v74 rfl (by kernel_rfl) ?y74 ?z74
                  case y74 => intro W hW; have hW1 := (show Sep _ _ from hW).to1; have y2 := row_cell (j := 2) hW1 hnr.out hri.out rfl; have y0 := row_cell (j := 0) hW1 hnr.out hri.out rfl; have y1 := row_cell (j := 1) hW1 hnr.out hri.out rfl; have u3 := ((show Sep _ _ from hW).to3.gold.cell (p := ⟨b, off + j * 4 + 3, none⟩) hb).trans zj; rw [Nat.add_zero] at y0; have x0 := row_cell (j := 0) hW1 hnr.out hrp.out rfl; have x1 := row_cell (j := 1) hW1 hnr.out hrp.out rfl; rw [Nat.add_zero] at x0; clear hW1; replace hW := Lib.hid hW; go_simp; try rfl
                  case z74 =>
                  simp only [Act.put, List.setIfInBounds_toArray, List.set_cons_succ, List.set_cons_zero, List.getElem_toArray, List.getElem_cons_zero, List.getElem_cons_succ]
                  refine hl_take ?v75 rfl (by kernel_rfl) ?y75 ?z75
                  case y75 => intro W hW; have jw := hjw.out; have mw := hmw.out; have him := him.out; replace hW := Lib.hid hW; go_simp; try rfl
                  case z75 =>
                  simp only [Act.put, List.setIfInBounds_toArray, List.set_cons_succ, List.set_cons_zero, List.getElem_toArray, List.getElem_cons_zero, List.getElem_cons_succ]
                  refine hl_take ?v76 rfl (by kernel_rfl) ?y76 ?z76
                  case y76 => intro W hW; have jw := hjw.out; have mw := hmw.out; have him := him.out; replace hW := Lib.hid hW; go_simp; try rfl
                  case z76 =>
                  simp only [Act.put, List.setIfInBounds_toArray, List.set_cons_succ, List.set_cons_zero, List.getElem_toArray, List.getElem_cons_zero, List.getElem_cons_succ]
                  refine hl_take ?v77 rfl (by kernel_rfl) ?y77 ?z77
                  case y77 => intro W hW; have jw := hjw.out; have mw := hmw.out; have him := him.out; replace hW := Lib.hid hW; go_simp; try rfl
                  case z77 =>
                  simp only [Act.put, List.setIfInBounds_toArray, List.set_cons_succ, List.set_cons_zero, List.getElem_toArray, List.getElem_cons_zero, List.getElem_cons_succ]
                  refine hl_take ?v78 rfl (by kernel_rfl) ?y78 ?z78
                  case y78 => intro W hW; have jw := hjw.out; have mw := hmw.out; have him := him.out; replace hW := Lib.hid hW; go_simp; try rfl
                  case z78 =>
                  simp only [Act.put, List.setIfInBounds_toArray, List.set_cons_succ, List.set_cons_zero, List.getElem_toArray, List.getElem_cons_zero, List.getElem_cons_succ]
                  refine hl_take ?v79 rfl (by kernel_rfl) ?y79 ?z79
                  case y79 => intro W hW; have hW1 := (show Sep _ _ from hW).to1; have y2 := row_cell (j := 2) hW1 hnr.out hri.out rfl; have y0 := row_cell (j := 0) hW1 hnr.out hri.out rfl; have y1 := row_cell (j := 1) hW1 hnr.out hri.out rfl; have u3 := ((show Sep _ _ from hW).to3.gold.cell (p := ⟨b, off + j * 4 + 3, none⟩) hb).trans zj; rw [Nat.add_zero] at y0; have x0 := row_cell (j := 0) hW1 hnr.out hrp.out rfl; have x1 := row_cell (j := 1) hW1 hnr.out hrp.out rfl; rw [Nat.add_zero] at x0; clear hW1; replace hW := Lib.hid hW; go_simp; try rfl
                  case z79 =>
                  simp only [Act.put, List.setIfInBounds_toArray, List.set_cons_succ, List.set_cons_zero, List.getElem_toArray, List.getElem_cons_zero, List.getElem_cons_succ]
                  refine hl_one rfl (by kernel_rfl) (fun K hK => ?_)
                  go_simp
                  refine (HC.out _).mono ?_
                  rintro e w9 ⟨rfl, b9⟩
                  replace hB := Lib.hid (show Sep _ _ from (show Sep _ _ from hB.out).below b9)
                  clear b9
                  refine hK.out _ _ hB.out ?_
                  clear hK K
                  try simp only [Act.put, List.setIfInBounds_toArray, List.set_cons_succ, List.set_cons_zero, List.getElem_toArray, List.getElem_cons_zero, List.getElem_cons_succ]
                  refine hl_take ?v80 rfl (by kernel_rfl) ?y80 ?z80
                  case y80 => intro W hW; have jw := hjw.out; have mw := hmw.out; have him := him.out; replace hW := Lib.hid hW; go_simp; try rfl
                  case z80 =>
                  simp only [Act.put, List.setIfInBounds_toArray, List.set_cons_succ, List.set_cons_zero, List.getElem_toArray, List.getElem_cons_zero, List.getElem_cons_succ]
                  refine hl_take ?v81 rfl (by kernel_rfl) ?y81 ?z81
                  case y81 => intro W hW; have jw := hjw.out; have mw := hmw.out; have him := him.out; replace hW := Lib.hid hW; go_simp; try rfl
                  case z81 =>
                  simp only [Act.put, List.setIfInBounds_toArray, List.set_cons_succ, List.set_cons_zero, List.getElem_toArray, List.getElem_cons_zero, List.getElem_cons_succ]
                  refine hl_take ?v82 rfl (by kernel_rfl) ?y82 ?z82
                  case y82 => intro W hW; have jw := hjw.out; have mw := hmw.out; have him := him.out; replace hW := Lib.hid hW; go_simp; try rfl
                  case z82 =>
                  simp only [Act.put, List.setIfInBounds_toArray, List.set_cons_succ, List.set_cons_zero, List.getElem_toArray, List.getElem_cons_zero, List.getElem_cons_succ]
                  refine hl_done ?_
                  clear hS
                  have hW1 := hB.out.to1
                  have y0 := row_cell (j := 0) hW1 hnr.out hri.out rfl
                  have y1 := row_cell (j := 1) hW1 hnr.out hri.out rfl
                  rw [Nat.add_zero] at y0
                  clear hW1
                  go_wp2_with (at_mapUpdate; refine wpList_mapUpdate_map (hB.out.bring 2 rfl) lawN Try.underlying44 rfl (.tmp 187) (.tmp 192) (.const (.int .i64 0)) rfl rfl (rt, rr) 0 rfl rfl ?_; intro w10 q10)
                  go_roundg (nr - (i + 1))
                  case measure => first | exact hms.out | (rw [hgm]; exact hms.out)
                  case rel => exact ⟨i + 1, _, by omega, rfl, by go_num, hi3, Lib.hid ((q10.bring 2 rfl).bring 2 rfl)⟩
                · have i9 : ¬ (0 : Int) < (i : Int) := by omega
                  clear hrp
                  have hS := Lib.hid (show (fun W : World => Sep W [stX p E, vec 39 3 (.slice (some ⟨rb, ro, none⟩) nr rc) nr ((srtE E).flatMap rowC), mapr ekN evI mb M2, old w]) _ from hB.out)
                  refine hl_begin (fun W : World => Sep W [stX p E, vec 39 3 (.slice (some ⟨rb, ro, none⟩) nr rc) nr ((srtE E).flatMap rowC), mapr ekN evI mb M2, old w]) [(0, true), (1, true), (2, true), (3, true), (4, true), (5, true), (6, true), (7, true), (8, true), (9, true), (10, true), (11, true), (12, true), (13, true), (14, true), (15, true), (16, true), (17, true), (18, true), (19, true), (20, true), (21, true), (22, true), (23, true), (24, true), (25, true), (26, true), (27, true), (28, true), (29, true), (30, true), (31, true), (32, true), (33, true), (34, true), (35, true), (36, true), (37, true), (38, true), (39, true), (40, true), (41, true), (42, true), (43, true), (44, false), (45, true), (46, true), (47, true)] (by kernel_rfl) (by kernel_rfl) (by kernel_rfl) rfl (fun _ _ _ _ _ h => h) hS.out ?_
                  change HL _ _ _ _ _ _ (World.drew _)
                  generalize World.drew _ = wd at *
                  refine hl_take ?v1 rfl (by kernel_rfl) ?y1 ?z1
                  case y1 => intro W hW; have jw := hjw.out; replace hW := Lib.hid hW; go_simp; try rfl
                  case z1 =>
                  simp only [Act.put, List.setIfInBounds_toArray, List.set_cons_succ, List.set_cons_zero, List.getElem_toArray, List.getElem_cons_zero]
                  refine hl_take ?v2 rfl (by kernel_rfl) ?y2 ?z2
                  case y2 => intro W hW; have jw := hjw.out; replace hW := Lib.hid hW; go_simp; try rfl
                  case z2 =>
                  simp only [Act.put, List.setIfInBounds_toArray, List.set_cons_succ, List.set_cons_zero, List.getElem_toArray, List.getElem_cons_zero, List.getElem_cons_succ]
                  refine hl_take ?v3 rfl (by kernel_rfl) ?y3 ?z3
                  case y3 => intro W hW; have jw := hjw.out; replace hW := Lib.hid hW; go_simp; try rfl
                  case z3 =>
                  simp only [Act.put, List.setIfInBounds_toArray, List.set_cons_succ, List.set_cons_zero, List.getElem_toArray, List.getElem_cons_zero, List.getElem_cons_succ]
                  refine hl_take ?v4 rfl (by kernel_rfl) ?y4 ?z4
                  case y4 => intro W hW; have jw := hjw.out; replace hW := Lib.hid hW; go_simp; try rfl
                  case z4 =>
                  simp only [Act.put, List.setIfInBounds_toArray, List.set_cons_succ, List.set_cons_zero, List.getElem_toArray, List.getElem_cons_zero, List.getElem_cons_succ]
                  refine hl_take ?v5 rfl (by kernel_rfl) ?y5 ?z5
                  case y5 => intro W hW; have jw := hjw.out; replace hW := Lib.hid hW; go_simp; try rfl
                  case z5 =>
                  simp only [Act.put, List.setIfInBounds_toArray, List.set_cons_succ, List.set_cons_zero, List.getElem_toArray, List.getElem_cons_zero, List.getElem_cons_succ]
                  refine hl_take ?v6 rfl (by kernel_rfl) ?y6 ?z6
                  case y6 => intro W hW; have jw := hjw.out; replace hW := Lib.hid hW; go_simp; try rfl
                  case z6 =>
                  simp only [Act.put, List.setIfInBounds_toArray, List.set_cons_succ, List.set_cons_zero, List.getElem_toArray, List.getElem_cons_zero, List.getElem_cons_succ]
                  refine hl_take ?v7 rfl (by kernel_rfl) ?y7 ?z7
                  case y7 => intro W hW; have jw := hjw.out; replace hW := Lib.hid hW; go_simp; try rfl
                  case z7 =>
                  simp only [Act.put, List.setIfInBounds_toArray, List.set_cons_succ, List.set_cons_zero, List.getElem_toArray, List.getElem_cons_zero, List.getElem_cons_succ]
                  refine hl_take ?v8 rfl (by kernel_rfl) ?y8 ?z8
                  case y8 => intro W hW; have jw := hjw.out; replace hW := Lib.hid hW; go_simp; try rfl
                  case z8 =>
                  simp only [Act.put, List.setIfInBounds_toArray, List.set_cons_succ, List.set_cons_zero, List.getElem_toArray, List.getElem_cons_zero, List.getElem_cons_succ]
                  refine hl_take ?v9 rfl (by kernel_rfl) ?y9 ?z9
                  case y9 => intro W hW; have hW1 := (show Sep _ _ from hW).to1; have y2 := row_cell (j := 2) hW1 hnr.out hri.out rfl; have y0 := row_cell (j := 0) hW1 hnr.out hri.out rfl; have y1 := row_cell (j := 1) hW1 hnr.out hri.out rfl; have u3 := ((show Sep _ _ from hW).to3.gold.cell (p := ⟨b, off + j * 4 + 3, none⟩) hb).trans zj; rw [Nat.add_zero] at y0; clear hW1; replace hW := Lib.hid hW; go_simp; try rfl
                  case z9 =>
                  simp only [Act.put, List.setIfInBounds_toArray, List.set_cons_succ, List.set_cons_zero, List.getElem_toArray, List.getElem_cons_zero, List.getElem_cons_succ]
                  refine hl_take ?v10 rfl (by kernel_rfl) ?y10 ?z10
                  case y10 => intro W hW; have jw := hjw.out; replace hW := Lib.hid hW; go_simp; try rfl
                  case z10 =>
                  simp only [Act.put, List.setIfInBounds_toArray, List.set_cons_succ, List.set_cons_zero, List.getElem_toArray, List.getElem_cons_zero, List.getElem_cons_succ]
                  refine hl_take ?v11 rfl (by kernel_rfl) ?y11 ?z11
                  case y11 => intro W hW; have jw := hjw.out; replace hW := Lib.hid hW; go_simp; try rfl
                  case z11 =>
                  simp only [Act.put, List.setIfInBounds_toArray, List.set_cons_succ, List.set_cons_zero, List.getElem_toArray, List.getElem_cons_zero, List.getElem_cons_succ]
                  refine hl_take ?v12 rfl (by kernel_rfl) ?y12 ?z12
                  case y12 => intro W hW; have jw := hjw.out; replace hW := Lib.hid hW; go_simp; try rfl
                  case z12 =>
                  simp only [Act.put, List.setIfInBounds_toArray, List.set_cons_succ, List.set_cons_zero, List.getElem_toArray, List.getElem_cons_zero, List.getElem_cons_succ]
                  refine hl_take ?v13 rfl (by kernel_rfl) ?y13 ?z13
                  case y13 => intro W hW; have jw := hjw.out; replace hW := Lib.hid hW; go_simp; try rfl
                  case z13 =>
                  simp only [Act.put, List.setIfInBounds_toArray, List.set_cons_succ, List.set_cons_zero, List.getElem_toArray, List.getElem_cons_zero, List.getElem_cons_succ]
                  refine hl_take ?v14 rfl (by kernel_rfl) ?y14 ?z14
                  case y14 => intro W hW; have hW1 := (show Sep _ _ from hW).to1; have y2 := row_cell (j := 2) hW1 hnr.out hri.out rfl; have y0 := row_cell (j := 0) hW1 hnr.out hri.out rfl; have y1 := row_cell (j := 1) hW1 hnr.out hri.out rfl; have u3 := ((show Sep _ _ from hW).to3.gold.cell (p := ⟨b, off + j * 4 + 3, none⟩) hb).trans zj; rw [Nat.add_zero] at y0; clear hW1; replace hW := Lib.hid hW; go_simp; try rfl
                  case z14 =>
                  simp only [Act.put, List.setIfInBounds_toArray, List.set_cons_succ, List.set_cons_zero, List.getElem_toArray, List.getElem_cons_zero, List.getElem_cons_succ]
                  refine hl_take ?v15 rfl (by kernel_rfl) ?y15 ?z15
                  case y15 => intro W hW; have jw := hjw.out; replace hW := Lib.hid hW; go_simp; try rfl
                  case z15 =>
                  simp only [Act.put, List.setIfInBounds_toArray, List.set_cons_succ, List.set_cons_zero, List.getElem_toArray, List.getElem_cons_zero, List.getElem_cons_succ]
                  refine hl_take ?v16 rfl (by kernel_rfl) ?y16 ?z16
                  case y16 => intro W hW; have jw := hjw.out; replace hW := Lib.hid hW; go_simp; try rfl
                  case z16 =>
                  simp only [Act.put, List.setIfInBounds_toArray, List.set_cons_succ, List.set_cons_zero, List.getElem_toArray, List.getElem_cons_zero, List.getElem_cons_succ]
                  refine hl_take ?v17 rfl (by kernel_rfl) ?y17 ?z17
                  case y17 => intro W hW; have jw := hjw.out; replace hW := Lib.hid hW; go_simp; try rfl
                  case z17 =>
                  simp only [Act.put, List.setIfInBounds_toArray, List.set_cons_succ, List.set_cons_zero, List.getElem_toArray, List.getElem_cons_zero, List.getElem_cons_succ]
                  refine hl_take ?v18 rfl (by kernel_rfl) ?y18 ?z18
                  case y18 => intro W hW; have jw := hjw.out; replace hW := Lib.hid hW; go_simp; try rfl
                  case z18 =>
                  simp only [Act.put, List.setIfInBounds_toArray, List.set_cons_succ, List.set_cons_zero, List.getElem_toArray, List.getElem_cons_zero, List.getElem_cons_succ]
                  refine hl_take ?v19 rfl (by kernel_rfl) ?y19 ?z19
                  case y19 => intro W hW; have jw := hjw.out; replace hW := Lib.hid hW; go_simp; try rfl
                  case z19 =>
                  simp only [Act.put, List.setIfInBounds_toArray, List.set_cons_succ, List.set_cons_zero, List.getElem_toArray, List.getElem_cons_zero, List.getElem_cons_succ]
                  refine hl_take ?v20 rfl (by kernel_rfl) ?y20 ?z20
                  case y20 => intro W hW; have jw := hjw.out; replace hW := Lib.hid hW; go_simp; try rfl
                  case z20 =>
                  simp only [Act.put, List.setIfInBounds_toArray, List.set_cons_succ, List.set_cons_zero, List.getElem_toArray, List.getElem_cons_zero, List.getElem_cons_succ]
                  refine hl_take ?v21 rfl (by kernel_rfl) ?y21 ?z21
                  case y21 => intro W hW; have jw := hjw.out; replace hW := Lib.hid hW; go_simp; try rfl
                  case z21 =>
                  simp only [Act.put, List.setIfInBounds_toArray, List.set_cons_succ, List.set_cons_zero, List.getElem_toArray, List.getElem_cons_zero, List.getElem_cons_succ]
                  refine hl_take ?v22 rfl (by kernel_rfl) ?y22 ?z22
                  case y22 => intro W hW; have jw := hjw.out; replace hW := Lib.hid hW; go_simp; try rfl
                  case z22 =>
                  simp only [Act.put, List.setIfInBounds_toArray, List.set_cons_succ, List.set_cons_zero, List.getElem_toArray, List.getElem_cons_zero, List.getElem_cons_succ]
                  refine hl_take ?v23 rfl (by kernel_rfl) ?y23 ?z23
                  case y23 => intro W hW; have jw := hjw.out; replace hW := Lib.hid hW; go_simp; try rfl
                  case z23 =>
                  simp only [Act.put, List.setIfInBounds_toArray, List.set_cons_succ, List.set_cons_zero, List.getElem_toArray, List.getElem_cons_zero, List.getElem_cons_succ]
                  refine hl_take ?v24 rfl (by kernel_rfl) ?y24 ?z24
                  case y24 => intro W hW; have jw := hjw.out; replace hW := Lib.hid hW; go_simp; try rfl
                  case z24 =>
                  simp only [Act.put, List.setIfInBounds_toArray, List.set_cons_succ, List.set_cons_zero, List.getElem_toArray, List.getElem_cons_zero, List.getElem_cons_succ]
                  refine hl_take ?v25 rfl (by kernel_rfl) ?y25 ?z25
                  case y25 => intro W hW; have jw := hjw.out; replace hW := Lib.hid hW; go_simp; try rfl
                  case z25 =>
                  simp only [Act.put, List.setIfInBounds_toArray, List.set_cons_succ, List.set_cons_zero, List.getElem_toArray, List.getElem_cons_zero, List.getElem_cons_succ]
                  refine hl_take ?v26 rfl (by kernel_rfl) ?y26 ?z26
                  case y26 => intro W hW; have jw := hjw.out; replace hW := Lib.hid hW; go_simp; try rfl
                  case z26 =>
                  simp only [Act.put, List.setIfInBounds_toArray, List.set_cons_succ, List.set_cons_zero, List.getElem_toArray, List.getElem_cons_zero, List.getElem_cons_succ]
                  refine hl_take ?v27 rfl (by kernel_rfl) ?y27 ?z27
                  case y27 => intro W hW; have hW1 := (show Sep _ _ from hW).to1; have y2 := row_cell (j := 2) hW1 hnr.out hri.out rfl; have y0 := row_cell (j := 0) hW1 hnr.out hri.out rfl; have y1 := row_cell (j := 1) hW1 hnr.out hri.out rfl; have u3 := ((show Sep _ _ from hW).to3.gold.cell (p := ⟨b, off + j * 4 + 3, none⟩) hb).trans zj; rw [Nat.add_zero] at y0; clear hW1; replace hW := Lib.hid hW; go_simp; try rfl
                  case z27 =>
                  simp only [Act.put, List.setIfInBounds_toArray, List.set_cons_succ, List.set_cons_zero, List.getElem_toArray, List.getElem_cons_zero, List.getElem_cons_succ]
                  refine hl_take ?v28 rfl (by kernel_rfl) ?y28 ?z28
                  case y28 => intro W hW; have jw := hjw.out; replace hW := Lib.hid hW; go_simp; try rfl
                  case z28 =>
                  simp only [Act.put, List.setIfInBounds_toArray, List.set_cons_succ, List.set_cons_zero, List.getElem_toArray, List.getElem_cons_zero, List.getElem_cons_succ]
                  refine hl_take ?v29 rfl (by kernel_rfl) ?y29 ?z29
                  case y29 => intro W hW; have jw := hjw.out; replace hW := Lib.hid hW; go_simp; try rfl
                  case z29 =>
                  simp only [Act.put, List.setIfInBounds_toArray, List.set_cons_succ, List.set_cons_zero, List.getElem_toArray, List.getElem_cons_zero, List.getElem_cons_succ]
                  refine hl_take ?v30 rfl (by kernel_rfl) ?y30 ?z30
                  case y30 => intro W hW; have jw := hjw.out; replace hW := Lib.hid hW; go_simp; try rfl
                  case z30 =>
                  simp only [Act.put, List.setIfInBounds_toArray, List.set_cons_succ, List.set_cons_zero, List.getElem_toArray, List.getElem_cons_zero, List.getElem_cons_succ]
                  refine hl_take ?v31 rfl (by kernel_rfl) ?y31 ?z31
                  case y31 => intro W hW; have jw := hjw.out; replace hW := Lib.hid hW; go_simp; try rfl
                  case z31 =>
                  simp only [Act.put, List.setIfInBounds_toArray, List.set_cons_succ, List.set_cons_zero, List.getElem_toArray, List.getElem_cons_zero, List.getElem_cons_succ]
                  refine hl_take ?v32 rfl (by kernel_rfl) ?y32 ?z32
                  case y32 => intro W hW; have jw := hjw.out; replace hW := Lib.hid hW; go_simp; try rfl
                  case z32 =>
                  simp only [Act.put, List.setIfInBounds_toArray, List.set_cons_succ, List.set_cons_zero, List.getElem_toArray, List.getElem_cons_zero, List.getElem_cons_succ]
                  refine hl_take ?v33 rfl (by kernel_rfl) ?y33 ?z33
                  case y33 => intro W hW; have jw := hjw.out; replace hW := Lib.hid hW; go_simp; try rfl
                  case z33 =>
                  simp only [Act.put, List.setIfInBounds_toArray, List.set_cons_succ, List.set_cons_zero, List.getElem_toArray, List.getElem_cons_zero, List.getElem_cons_succ]
                  refine hl_skip rfl (by kernel_rfl) ?_
                  simp only [Act.put, List.setIfInBounds_toArray, List.set_cons_succ, List.set_cons_zero, List.getElem_toArray, List.getElem_cons_zero, List.getElem_cons_succ]
                  refine hl_skip rfl (by kernel_rfl) ?_
                  simp only [Act.put, List.setIfInBounds_toArray, List.set_cons_succ, List.set_cons_zero, List.getElem_toArray, List.getElem_cons_zero, List.getElem_cons_succ]
                  refine hl_skip rfl (by kernel_rfl) ?_
                  simp only [Act.put, List.setIfInBounds_toArray, List.set_cons_succ, List.set_cons_zero, List.getElem_toArray, List.getElem_cons_zero, List.getElem_cons_succ]
                  refine hl_skip rfl (by kernel_rfl) ?_
                  simp only [Act.put, List.setIfInBounds_toArray, List.set_cons_succ, List.set_cons_zero, List.getElem_toArray, List.getElem_cons_zero, List.getElem_cons_succ]
                  refine hl_skip rfl (by kernel_rfl) ?_
                  simp only [Act.put, List.setIfInBounds_toArray, List.set_cons_succ, List.set_cons_zero, List.getElem_toArray, List.getElem_cons_zero, List.getElem_cons_succ]
                  refine hl_skip rfl (by kernel_rfl) ?_
                  simp only [Act.put, List.setIfInBounds_toArray, List.set_cons_succ, List.set_cons_zero, List.getElem_toArray, List.getElem_cons_zero, List.getElem_cons_succ]
                  refine hl_skip rfl (by kernel_rfl) ?_
                  simp only [Act.put, List.setIfInBounds_toArray, List.set_cons_succ, List.set_cons_zero, List.getElem_toArray, List.getElem_cons_zero, List.getElem_cons_succ]
                  refine hl_skip rfl (by kernel_rfl) ?_
                  simp only [Act.put, List.setIfInBounds_toArray, List.set_cons_succ, List.set_cons_zero, List.getElem_toArray, List.getElem_cons_zero, List.getElem_cons_succ]
                  refine hl_skip rfl (by kernel_rfl) ?_
                  simp only [Act.put, List.setIfInBounds_toArray, List.set_cons_succ, List.set_cons_zero, List.getElem_toArray, List.getElem_cons_zero, List.getElem_cons_succ]
                  refine hl_skip rfl (by kernel_rfl) ?_
                  simp only [Act.put, List.setIfInBounds_toArray, List.set_cons_succ, List.set_cons_zero, List.getElem_toArray, List.getElem_cons_zero, List.getElem_cons_succ]
                  refine hl_skip rfl (by kernel_rfl) ?_
                  simp only [Act.put, List.setIfInBounds_toArray, List.set_cons_succ, List.set_cons_zero, List.getElem_toArray, List.getElem_cons_zero, List.getElem_cons_succ]
                  refine hl_skip1 rfl (by kernel_rfl) ?_
                  simp only [Act.put, List.setIfInBounds_toArray, List.set_cons_succ, List.set_cons_zero, List.getElem_toArray, List.getElem_cons_zero, List.getElem_cons_succ]
                  refine hl_skip rfl (by kernel_rfl) ?_
                  simp only [Act.put, List.setIfInBounds_toArray, List.set_cons_succ, List.set_cons_zero, List.getElem_toArray, List.getElem_cons_zero, List.getElem_cons_succ]
                  refine hl_take ?v34 rfl (by kernel_rfl) ?y34 ?z34
                  case y34 => intro W hW; have jw := hjw.out; replace hW := Lib.hid hW; go_simp; try rfl
                  case z34 =>
                  simp only [Act.put, List.setIfInBounds_toArray, List.set_cons_succ, List.set_cons_zero, List.getElem_toArray, List.getElem_cons_zero, List.getElem_cons_succ]
                  refine hl_take ?v35 rfl (by kernel_rfl) ?y35 ?z35
                  case y35 => intro W hW; have jw := hjw.out; replace hW := Lib.hid hW; go_simp; try rfl
                  case z35 =>
                  simp only [Act.put, List.setIfInBounds_toArray, List.set_cons_succ, List.set_cons_zero, List.getElem_toArray, List.getElem_cons_zero, List.getElem_cons_succ]
                  refine hl_done ?_
                  clear hS
                  have hW1 := hB.out.to1
                  have y0 := row_cell (j := 0) hW1 hnr.out hri.out rfl
                  have y1 := row_cell (j := 1) hW1 hnr.out hri.out rfl
                  rw [Nat.add_zero] at y0
                  clear hW1
                  go_wp2_with (at_mapUpdate; refine wpList_mapUpdate_map (hB.out.bring 2 rfl) lawN Try.underlying44 rfl (.tmp 187) (.tmp 192) (.const (.int .i64 0)) rfl rfl (rt, rr) 0 rfl rfl ?_; intro w10 q10)
                  go_roundg (nr - (i + 1))
                  case measure => first | exact hms.out | (rw [hgm]; exact hms.out)
                  case rel => exact ⟨i + 1, _, by omega, rfl, by go_num, hi3, Lib.hid ((q10.bring 2 rfl).bring 2 rfl)⟩
              · obtain rfl : nr = i := by omega
                have hz := Lib.hid (fun a => Inv2.done hI.out (by rw [hnr.out]; exact hi2.out) a)
                clear hgm hi2
                go_wp2_with fail
                go_loopg [18] k (fun gm s18 W => ∃ c : Nat, c ≤ k ∧ gm = k - c ∧ s18 = .int .i64 c ∧ Hid (Sep W [stX p E, vec 39 3 (.slice ra nr rc) nr ((srtE E).flatMap rowC), mapr ekN evI mb M2, old w]))
                case atStart => exact ⟨0, Nat.zero_le _, rfl, rfl, hV⟩
                case round =>
                  clear hV
                  obtain ⟨c, hc, hgm, rfl, hV⟩ := hrel
                  by_cases hlt : c < k
                  · have hms := Lib.hid (show k - (c + 1) < k - c from Nat.sub_lt_sub_left hlt (Nat.lt_succ_self c))
                    obtain ⟨b, off, rfl, hb, zz⟩ := a4_at HV0.out hl0.out (by omega)
                    obtain ⟨x, hx⟩ : ∃ x, L0[c]? = some x := ⟨L0[c]'(by rw [hl0.out]; exact hlt), List.getElem?_eq_getElem _⟩
                    have kk : ∀ o, w.cell? ⟨b, o, none⟩ = wr.cell? ⟨b, o, none⟩ := fun o => (hV.out.to3.gold.cell (p := ⟨b, o, none⟩) hb).symm
                    have z1 := zz c x hx 1 _ rfl
                    have z2 := zz c x hx 2 _ rfl
                    rw [kk] at z1 z2
                    simp only [← Nat.add_assoc] at z1 z2
                    have hlk := Lib.hid (look_ek M2 (x.t, x.r))
                    rw [hz.out] at hlk
                    obtain ⟨kd, t, r, v⟩ := x
                    simp only at z1 z2 hlk
                    have i1 : (0 : Int) ≤ (c : Int) := by omega
                    have i2 : (c : Int) < (k : Int) := by omega
                    clear zz kk hx
                    go_wp2_with (at_lookup; refine wpList_lookup_map (hV.out.bring 2 rfl) lawN Try.underlying44 rfl (.tmp 199) (.tmp 204) false rfl (zeroJ _) rfl (t, r) rfl ?_; rw [if_neg (by simp), hlk.out])
                    go_roundg (k - (c + 1))
                    case measure => first | exact hms.out | (rw [hgm]; exact hms.out)
                    case rel => exact ⟨c + 1, by omega, rfl, by go_num, hV⟩
                  · obtain rfl : k = c := by omega
                    clear hgm
                    go_wp2_with fail
                    refine (HLn.out _ _ hV.out).mono ?_
                    rintro e w6 ⟨rfl, q⟩
                    have hG := Lib.hid q.to3.gold
                    clear q hV HLn
                    go_wp2_with fail
                    go_ret
                    exact ⟨rfl, hG.out⟩
  · have i80 : (80 : Int) < (len0 : Int) := by omega
    clear HV0
    go_enter Try.func4, Try.ntmps4
    go_wp2_with fail
    refine (lives_any _).mono ?_
    rintro e w1 ⟨rfl, q0⟩
    replace q0 := Lib.hid q0
    go_wp2_with fail
    go_ret
    exact ⟨rfl, q0.out⟩
end Go.Proofs.Ytbpeajcfabjphaa
