/-
  The walk of StoreTurns. No condition beside acts that can be read.
-/
import Derived.Test.YtbpeajcfabjphaaTAct
import Derived.Test.YtbpeajcfabjphaaSLv
import Derived.Test.YtbpeajcfabjphaaPick
namespace Go.Proofs.Ytbpeajcfabjphaa
open Go.RowKit
theorem put_u (p : Nat) (E : Ent) (x : A4) (w : World) (rs : List Res) (hS : Sep w (stX p E :: rs)) :
    Calls Try.prog 9 #[.pointer (some ⟨p, 0, none⟩), (.agg #[.int .i64 x.t, .int .i64 x.r]), .int .i64 x.v] w fun e w' => (∃ a b, e = .returned (.tuple #[a, b])) ∧ Sep w' (stX p (putX E x) :: rs) := by
  unfold putX A4.key
  cases h : isRec (x.t, x.r) with
  | true => exact (put_yes p E x.t x.r x.v w rs hS h).mono fun e w' ⟨he, hs⟩ => ⟨⟨_, _, he⟩, hs⟩
  | false => exact (put_no p E x.t x.r x.v w rs hS h).mono fun e w' ⟨he, hs⟩ => ⟨⟨_, _, he⟩, hs⟩
theorem back_put {A : Ent} {k : Int × Int} (v : Int) (h : hasL A k = true) : eqvE (putL (putL A k v) k ((getL A k).getD 0)) A := fun a => by
  rw [getL_putL, getL_putL]
  by_cases ha : a = k
  · subst ha
    rw [if_pos rfl]
    rw [← getL_isSome] at h
    obtain ⟨u, hu⟩ := Option.isSome_iff_exists.1 h
    rw [hu]
    rfl
  · rw [if_neg ha, if_neg ha]
theorem back_del {A : Ent} {k : Int × Int} (v : Int) (h : hasL A k = false) : eqvE (delL (putL A k v) k) A := fun a => by
  rw [getL_delL, getL_putL]
  by_cases ha : a = k
  · subst ha
    rw [if_pos rfl, getL_none_iff.2 h]
  · rw [if_neg ha, if_neg ha]
set_option maxHeartbeats 32000000 in
set_option maxRecDepth 100000 in
theorem sturns_walk (a0 : Option Addr) (n cap0 : Nat) (L : List A4) (turn : Int) (x : A4) (w : World) (hv0 : RL w (.slice a0 n cap0) 4 n (a4cells L)) (hn0 : L.length = n) :
    Calls Try.prog 3 #[.slice a0 n cap0, .int .i64 turn, x.val] w fun e w' => e = .returned (.bool true) ∧ Below w.heap.size w w' := by
  have HV0 := Lib.hid hv0
  have hl0 := Lib.hid hn0
  clear hv0 hn0
  obtain ⟨xk, xt, xr, xv⟩ := x
  unfold A4.val
  simp only
  have hV := Lib.hid ((Sep.start w).alloc #[.int .i64 xk, .int .i64 xt, .int .i64 xr, .int .i64 xv] 26)
  by_cases h20 : n ≤ 20
  · have i20 : ¬ ((20 : Int) < (n : Int)) := by omega
    obtain ⟨s, HSH⟩ : ∃ s : Nat, 0 < n → Picks turn n s := by
      by_cases h : 0 < n
      · obtain ⟨s, hs⟩ := pick_nat turn n (by omega) (by omega)
        exact ⟨s, fun _ => hs⟩
      · exact ⟨0, fun h' => absurd h' h⟩
    replace HSH := Lib.hid HSH
    go_enter Try.func3, Try.ntmps3
    go_wp2_with fail
    generalize hbx : w.heap.size = bx at *
    replace hbx := Lib.hid hbx
    refine (lives_any _).mono ?_
    rintro e w1 ⟨rfl, q0⟩
    replace hV := Lib.hid (hV.out.below q0)
    clear q0
    go_wp2_with fail
    refine (new_x _).mono ?_
    rintro e w2 ⟨p, rfl, q2⟩
    replace hV := Lib.hid (q2.graft hV.out)
    clear q2
    go_wp2_with fail
    refine (new_x _).mono ?_
    rintro e w3 ⟨p', rfl, q2⟩
    replace hV := Lib.hid (show Sep w3 [stX p [], stX p' [], blk bx 26 #[.int .i64 xk, .int .i64 xt, .int .i64 xr, .int .i64 xv], old w] from (q2.graft hV.out).to1)
    clear q2
    go_wp2_with fail
    go_loopg [10] n (fun gm s10 W => ∃ i : Nat, i ≤ n ∧ gm = n - i ∧ s10 = .int .i64 i ∧ Hid (∀ (a b : Nat) (x y : A4), a < i → b < a → L[a]? = some x → L[b]? = some y → y.key ≠ x.key) ∧ Hid (Sep W [stX p [], stX p' [], blk bx 26 #[.int .i64 xk, .int .i64 xt, .int .i64 xr, .int .i64 xv], old w]))
    case atStart => exact ⟨0, Nat.zero_le _, rfl, rfl, Lib.hid (fun a b x y h => absurd h (by omega)), hV⟩
    case round =>
      clear hV
      obtain ⟨i, hi, hgm, rfl, hap, hV⟩ := hrel
      by_cases hlt : i < n
      · have hms := Lib.hid (show n - (i + 1) < n - i from Nat.sub_lt_sub_left hlt (Nat.lt_succ_self i))
        obtain ⟨b, off, rfl, hb, zz0⟩ := a4_at HV0.out hl0.out (by omega)
        have zz := Lib.hid zz0
        clear zz0
        obtain ⟨xi, hxi⟩ : ∃ x, L[i]? = some x := ⟨L[i]'(by rw [hl0.out]; exact hlt), List.getElem?_eq_getElem _⟩
        have v1 := zz.out i xi hxi 1 _ rfl
        have v2 := zz.out i xi hxi 2 _ rfl
        simp only [← Nat.add_assoc, Nat.add_zero] at v1 v2
        obtain ⟨ik, it, ir, iv⟩ := xi
        simp only at v1 v2
        replace hxi := Lib.hid hxi
        have i1 : (0 : Int) ≤ (i : Int) := by omega
        have i2 : (i : Int) < (n : Int) := by omega
        go_wp2_with fail
        go_loopg [11] i (fun gm s11 W => ∃ j : Nat, j ≤ i ∧ gm = i - j ∧ s11 = .int .i64 j ∧ Hid (∀ (c : Nat) (y : A4), c < j → L[c]? = some y → y.key ≠ (it, ir)) ∧ Hid (Sep W [stX p [], stX p' [], blk bx 26 #[.int .i64 xk, .int .i64 xt, .int .i64 xr, .int .i64 xv], old w]))
        case atStart => exact ⟨0, Nat.zero_le _, rfl, rfl, Lib.hid (fun c y h => absurd h (by omega)), hV⟩
        case round =>
          clear hV
          obtain ⟨j, hj, hgm2, rfl, hlow, hV⟩ := hrel
          by_cases hjlt : j < i
          · have hms2 := Lib.hid (show i - (j + 1) < i - j from Nat.sub_lt_sub_left hjlt (Nat.lt_succ_self j))
            obtain ⟨xj, hxj⟩ : ∃ x, L[j]? = some x := ⟨L[j]'(by rw [hl0.out]; omega), List.getElem?_eq_getElem _⟩
            have u1 := zz.out j xj hxj 1 _ rfl
            have u2 := zz.out j xj hxj 2 _ rfl
            simp only [← Nat.add_assoc, Nat.add_zero] at u1 u2
            have kk : ∀ o, w.cell? ⟨b, o, none⟩ = wr.cell? ⟨b, o, none⟩ := fun o => (hV.out.to3.gold.cell (p := ⟨b, o, none⟩) hb).symm
            rw [kk] at u1 u2
            have z1 := v1
            have z2 := v2
            rw [kk] at z1 z2
            have hlow2 := Lib.hid (fun (h : ¬ xj.key = (it, ir)) (c : Nat) (y : A4) (hc : c < j + 1) (hy : L[c]? = some y) => show y.key ≠ (it, ir) from by
              rcases Nat.lt_or_ge c j with h1 | h1
              · exact hlow.out c y h1 hy
              · obtain rfl : c = j := by omega
                rw [hxj] at hy
                obtain rfl := Option.some.inj hy
                exact h)
            obtain ⟨jk, jt, jr, jv⟩ := xj
            simp only [A4.key] at u1 u2 hlow2
            have j1 : (0 : Int) ≤ (j : Int) := by omega
            have j2 : (j : Int) < (n : Int) := by omega
            have j3 : (j : Int) < (i : Int) := by omega
            have hq := fun W => run_eql_name jt it jr ir W
            have hiff := eqB_name_iff jt it jr ir
            generalize eqB_name jt it jr ir = eb at hiff hq
            clear kk hxj
            by_cases he : (jt, jr) = (it, ir)
            · obtain ⟨rfl, rfl⟩ := Prod.mk.inj he
              obtain rfl : eb = true := hiff.trans (decide_eq_true ⟨rfl, rfl⟩)
              clear hiff he hlow2
              go_wp2_with fail
              go_quiet (fail)
              generalize hwq : World.drewN _ _ = wq
              replace hV := Lib.hid (hwq ▸ hV.out.drewN _ : Sep wq [stX p [], stX p' [], blk bx 26 #[.int .i64 xk, .int .i64 xt, .int .i64 xr, .int .i64 xv], old w])
              go_wp2_with fail
              go_ret
              exact ⟨rfl, hV.out.to3.gold⟩
            · have hlow3 := Lib.hid (hlow2.out he)
              obtain rfl : eb = false := hiff.trans (decide_eq_false fun e => he (by rw [e.1, e.2]))
              clear hiff hlow2
              replace he := Lib.hid he
              go_wp2_with fail
              go_quiet (fail)
              go_wp2_with fail
              go_roundg (i - (j + 1))
              case measure => first | exact hms2.out | (rw [hgm2]; exact hms2.out)
              case rel => exact ⟨j + 1, by omega, rfl, by go_num, hlow3, Lib.hid (hV.out.drewN _)⟩
          · obtain rfl : j = i := by omega
            have hap2 := Lib.hid (show ∀ (a b : Nat) (x y : A4), a < j + 1 → b < a → L[a]? = some x → L[b]? = some y → y.key ≠ x.key from fun a b x y ha hb hx hy => by
              rcases Nat.lt_or_ge a j with h1 | h1
              · exact hap.out a b x y h1 hb hx hy
              · obtain rfl : a = j := by omega
                rw [hxi.out] at hx
                obtain rfl := Option.some.inj hx
                exact hlow.out b y hb hy)
            clear hap hlow
            go_wp2_with fail
            go_roundg (n - (j + 1))
            case measure => first | exact hms.out | (rw [hgm]; exact hms.out)
            case rel => exact ⟨j + 1, by omega, rfl, by go_num, hap2, hV⟩
      · obtain rfl : n = i := by omega
        have hApart := Lib.hid (apart_of (L := L) (fun a b x y hba ha hb => hap.out a b x y (by have := (List.getElem?_eq_some_iff.1 ha).1; rw [hl0.out] at this; exact this) hba ha hb))
        clear hap hgm
        go_wp2_with fail
        go_loopg [12] n (fun gm s12 W => ∃ k : Nat, k ≤ n ∧ gm = n - k ∧ s12 = .int .i64 k ∧ Hid (Sep W [stX p (foldP (L.take k)), stX p' (foldP ((turnL L s).take k)), blk bx 26 #[.int .i64 xk, .int .i64 xt, .int .i64 xr, .int .i64 xv], old w]))
        case atStart => exact ⟨0, Nat.zero_le _, rfl, rfl, by simpa [foldP] using hV⟩
        case round =>
          clear hV
          obtain ⟨k, hk, hgm, rfl, hV⟩ := hrel
          by_cases hlt : k < n
          · have hms := Lib.hid (show n - (k + 1) < n - k from Nat.sub_lt_sub_left hlt (Nat.lt_succ_self k))
            have PS := HSH.out (by omega)
            have hsn := PS.lt
            have hP := PS.run
            clear PS
            obtain ⟨b, off, rfl, hb, zz⟩ := a4_at HV0.out hl0.out (by omega)
            obtain ⟨y, hy⟩ : ∃ x, L[k]? = some x := ⟨L[k]'(by rw [hl0.out]; exact hlt), List.getElem?_eq_getElem _⟩
            have hpos := posT_lt (m := n) (s := s) (i := k) (by omega) hlt
            have hmd := posT_mod (m := n) (s := s) (i := k) (by omega) hlt
            have htu := turnL_at (L := L) (s := s) (i := k) (by rw [hl0.out]; omega) (by rw [hl0.out]; exact hlt)
            rw [hl0.out] at htu
            generalize posT n s k = m at *
            obtain ⟨yt, hyt⟩ : ∃ x, L[m]? = some x := ⟨L[m]'(by rw [hl0.out]; exact hpos), List.getElem?_eq_getElem _⟩
            have z1 := zz k y hy 1 _ rfl
            have z2 := zz k y hy 2 _ rfl
            have z3 := zz k y hy 3 _ rfl
            have u0 := zz m yt hyt 0 _ rfl
            have u1 := zz m yt hyt 1 _ rfl
            have u2 := zz m yt hyt 2 _ rfl
            have u3 := zz m yt hyt 3 _ rfl
            simp only [← Nat.add_assoc, Nat.add_zero] at z1 z2 z3 u0 u1 u2 u3
            have hA := Lib.hid (take_succ_at hy)
            have hB2 := Lib.hid (take_succ_at (htu.trans hyt))
            have HP := Lib.hid (fun E W rs h => put_u p E y W rs h)
            have HQ := Lib.hid (fun E W rs h => put_u p' E yt W rs h)
            have hfA := Lib.hid (show foldP (L.take (k + 1)) = putX (foldP (L.take k)) y by rw [hA.out, foldP_snoc])
            have hfB := Lib.hid (show foldP ((turnL L s).take (k + 1)) = putX (foldP ((turnL L s).take k)) yt by rw [hB2.out, foldP_snoc])
            clear hA hB2 htu hy hyt zz
            have i1 : (0 : Int) ≤ (k : Int) := by omega
            have i2 : (k : Int) < (n : Int) := by omega
            have i3 : (0 : Int) ≤ (m : Int) := by omega
            have i4 : (m : Int) < (n : Int) := by omega
            have i5 : ¬ (n : Int) = 0 := by omega
            have i6 : ((n : Int) == 0) = false := by rw [beq_eq_false_iff_ne]; omega
            obtain ⟨yk, yT, yr, yv⟩ := y
            obtain ⟨tk, tt, tr, tv⟩ := yt
            simp only at z1 z2 z3 u0 u1 u2 u3 HP HQ
            generalize foldP (L.take k) = A0 at *
            generalize foldP ((turnL L s).take k) = BB0 at *
            go_wp2_with fail
            have hB := Lib.hid hV.out.drew
            clear hV
            replace HP := Lib.hid (fun W rs h => HP.out A0 W rs h)
            replace HQ := Lib.hid (fun W rs h => HQ.out BB0 W rs h)
            have hS := Lib.hid (show (fun W : World => ∃ E', Sep W [stX p E', stX p' BB0, blk bx 26 #[.int .i64 xk, .int .i64 xt, .int .i64 xr, .int .i64 xv], old w]) _ from ⟨_, hB.out⟩)
            refine hl_begin (fun W : World => ∃ E', Sep W [stX p E', stX p' BB0, blk bx 26 #[.int .i64 xk, .int .i64 xt, .int .i64 xr, .int .i64 xv], old w]) [(0, true), (1, true), (2, true), (3, true), (4, true), (5, true), (6, true), (7, true), (8, true), (9, true), (10, true), (11, false)] (by kernel_rfl) (by kernel_rfl) (by kernel_rfl) rfl (fun _ _ _ _ _ h => h) hS.out ?_
            change HL _ _ _ _ _ _ (World.drew _)
            generalize World.drew _ = wd at *
            refine hl_take ?v1 rfl (by kernel_rfl) ?y1 ?z1
            case y1 => intro W hW; skip; replace hW := Lib.hid hW; go_simp; try rfl
            case z1 =>
            simp only [Act.put, List.setIfInBounds_toArray, List.set_cons_succ, List.set_cons_zero, List.getElem_toArray, List.getElem_cons_zero, List.getElem_cons_succ]
            refine hl_take ?v2 rfl (by kernel_rfl) ?y2 ?z2
            case y2 => intro W hW; skip; replace hW := Lib.hid hW; go_simp; try rfl
            case z2 =>
            simp only [Act.put, List.setIfInBounds_toArray, List.set_cons_succ, List.set_cons_zero, List.getElem_toArray, List.getElem_cons_zero, List.getElem_cons_succ]
            refine hl_take ?v3 rfl (by kernel_rfl) ?y3 ?z3
            case y3 => intro W hW; skip; replace hW := Lib.hid hW; go_simp; try rfl
            case z3 =>
            simp only [Act.put, List.setIfInBounds_toArray, List.set_cons_succ, List.set_cons_zero, List.getElem_toArray, List.getElem_cons_zero, List.getElem_cons_succ]
            refine hl_take ?v4 rfl (by kernel_rfl) ?y4 ?z4
            case y4 => intro W hW; skip; replace hW := Lib.hid hW; go_simp; try rfl
            case z4 =>
            simp only [Act.put, List.setIfInBounds_toArray, List.set_cons_succ, List.set_cons_zero, List.getElem_toArray, List.getElem_cons_zero, List.getElem_cons_succ]
            refine hl_take ?v5 rfl (by kernel_rfl) ?y5 ?z5
            case y5 => intro W hW; skip; replace hW := Lib.hid hW; go_simp; try rfl
            case z5 =>
            simp only [Act.put, List.setIfInBounds_toArray, List.set_cons_succ, List.set_cons_zero, List.getElem_toArray, List.getElem_cons_zero, List.getElem_cons_succ]
            refine hl_take ?v6 rfl (by kernel_rfl) ?y6 ?z6
            case y6 => intro W hW; obtain ⟨_, hW⟩ := hW; have y1 := (hW.to3.gold.cell (p := ⟨b, off + k * 4 + 1, none⟩) hb).trans z1; have y2 := (hW.to3.gold.cell (p := ⟨b, off + k * 4 + 2, none⟩) hb).trans z2; have y3 := (hW.to3.gold.cell (p := ⟨b, off + k * 4 + 3, none⟩) hb).trans z3; replace hW := Lib.hid hW; go_simp; try rfl
            case z6 =>
            simp only [Act.put, List.setIfInBounds_toArray, List.set_cons_succ, List.set_cons_zero, List.getElem_toArray, List.getElem_cons_zero, List.getElem_cons_succ]
            refine hl_take ?v7 rfl (by kernel_rfl) ?y7 ?z7
            case y7 => intro W hW; skip; replace hW := Lib.hid hW; go_simp; try rfl
            case z7 =>
            simp only [Act.put, List.setIfInBounds_toArray, List.set_cons_succ, List.set_cons_zero, List.getElem_toArray, List.getElem_cons_zero, List.getElem_cons_succ]
            refine hl_take ?v8 rfl (by kernel_rfl) ?y8 ?z8
            case y8 => intro W hW; skip; replace hW := Lib.hid hW; go_simp; try rfl
            case z8 =>
            simp only [Act.put, List.setIfInBounds_toArray, List.set_cons_succ, List.set_cons_zero, List.getElem_toArray, List.getElem_cons_zero, List.getElem_cons_succ]
            refine hl_take ?v9 rfl (by kernel_rfl) ?y9 ?z9
            case y9 => intro W hW; skip; replace hW := Lib.hid hW; go_simp; try rfl
            case z9 =>
            simp only [Act.put, List.setIfInBounds_toArray, List.set_cons_succ, List.set_cons_zero, List.getElem_toArray, List.getElem_cons_zero, List.getElem_cons_succ]
            refine hl_take ?v10 rfl (by kernel_rfl) ?y10 ?z10
            case y10 => intro W hW; skip; replace hW := Lib.hid hW; go_simp; try rfl
            case z10 =>
            simp only [Act.put, List.setIfInBounds_toArray, List.set_cons_succ, List.set_cons_zero, List.getElem_toArray, List.getElem_cons_zero, List.getElem_cons_succ]
            refine hl_take ?v11 rfl (by kernel_rfl) ?y11 ?z11
            case y11 => intro W hW; obtain ⟨_, hW⟩ := hW; have y1 := (hW.to3.gold.cell (p := ⟨b, off + k * 4 + 1, none⟩) hb).trans z1; have y2 := (hW.to3.gold.cell (p := ⟨b, off + k * 4 + 2, none⟩) hb).trans z2; have y3 := (hW.to3.gold.cell (p := ⟨b, off + k * 4 + 3, none⟩) hb).trans z3; replace hW := Lib.hid hW; go_simp; try rfl
            case z11 =>
            simp only [Act.put, List.setIfInBounds_toArray, List.set_cons_succ, List.set_cons_zero, List.getElem_toArray, List.getElem_cons_zero, List.getElem_cons_succ]
            refine hl_one rfl (by kernel_rfl) (fun K hK => ?_)
            go_simp
            refine (HP.out _ _ hB.out).mono ?_
            rintro e w5 ⟨⟨ra, rb, rfl⟩, q2⟩
            replace hB := Lib.hid q2
            clear q2
            refine hK.out _ _ ⟨_, hB.out⟩ ?_
            clear hK K
            try simp only [Act.put, List.setIfInBounds_toArray, List.set_cons_succ, List.set_cons_zero, List.getElem_toArray, List.getElem_cons_zero, List.getElem_cons_succ]
            refine hl_done ?_
            clear hS
            go_wp2_with fail
            refine (hP.out _).mono ?_
            rintro e w6 ⟨rfl, rfl⟩
            have hW5 := hB.out
            have kk : ∀ o, w.cell? ⟨b, o, none⟩ = _ := fun o => (hW5.to3.gold.cell (p := ⟨b, o, none⟩) hb).symm
            rw [kk] at u0 u1 u2 u3
            replace hB := Lib.hid (hW5.alloc #[.int .i64 tk, .int .i64 tt, .int .i64 tr, .int .i64 tv] 26).to2
            clear hW5 kk z1 z2 z3
            go_wp2_with fail
            refine (HQ.out _ _ hB.out).mono ?_
            rintro e w7 ⟨⟨ra, rb, rfl⟩, q3⟩
            replace hB := Lib.hid q3.drop1.to1
            clear q3 HP HQ hP u0 u1 u2 u3
            go_wp2_with fail
            go_roundg (n - (k + 1))
            case measure => first | exact hms.out | (rw [hgm]; exact hms.out)
            case rel => exact ⟨k + 1, by omega, rfl, by go_num, by rw [hfA.out, hfB.out]; exact hB⟩
          · obtain rfl : n = k := by omega
            have hLA : L.take n = L := by rw [← hl0.out, List.take_length]
            have hLB : (turnL L s).take n = turnL L s := by rw [← hl0.out, ← turnL_len L s, List.take_length]
            rw [hLA, hLB] at hV
            have hAB := Lib.hid (foldP_perm hApart.out (turnL_perm L s))
            have hAl : (foldP L).length ≤ 20 := by have := foldP_len L; rw [hl0.out] at this; omega
            have hBl : (foldP (turnL L s)).length ≤ 20 := by have := foldP_len (turnL L s); rw [turnL_len, hl0.out] at this; omega
            clear hLA hLB hApart hgm HSH HV0
            generalize foldP L = A at *
            generalize foldP (turnL L s) = B at *
            have hnA := Lib.hid (stX_nodup hV.out)
            have hnB := Lib.hid (stX_nodup hV.out.to1)
            have hsr := Lib.hid (srtE_congr hnA.out hnB.out hAB.out)
            have HS := Lib.hid (same_x p p' A B _ _ hV.out (by omega) (by omega))
            rw [decide_eq_true hsr.out] at HS
            have HA1 := Lib.hid (fun W rs h => all_x p A W rs h (by omega))
            have HA2 := Lib.hid (fun W rs h => all_x p' B W rs h (by omega))
            rw [← hsr.out] at HA2
            have hlS : (srtE A).length ≤ 1000 := by rw [srtE_len]; omega
            go_wp2_with fail
            refine HS.out.mono ?_
            rintro e w4 ⟨rfl, q4⟩
            replace hV := Lib.hid q4
            clear q4 HS
            go_wp2_with fail
            refine (HA1.out _ _ hV.out).mono ?_
            rintro e w5 ⟨aa, ac, rfl, q4⟩
            replace hV := Lib.hid q4.to2
            clear q4 HA1
            go_wp2_with fail
            refine (HA2.out _ _ hV.out).mono ?_
            rintro e w6 ⟨ba, bc, rfl, q4⟩
            replace hV := Lib.hid q4
            clear q4 HA2
            have HR := Lib.hid (fun u v W hu hv => same_row u v (srtE A) (srtE A) W hlS hu hv)
            rw [decide_eq_true (rfl : srtE A = srtE A)] at HR
            go_wp2_with fail
            refine (HR.out _ _ _ hV.out.to2.vec_rl hV.out.vec_rl).mono ?_
            rintro e w7 ⟨rfl, q4⟩
            replace hV := Lib.hid (show Sep w7 [stX p A, stX p' B, blk bx 26 #[.int .i64 xk, .int .i64 xt, .int .i64 xr, .int .i64 xv], old w] from (hV.out.below q4).tail.to1.tail.to1)
            clear q4 HR
            obtain ⟨_, d0, d1, d2, d3, _⟩ := hV.out.to2.b4
            cases hrec : isRec (xt, xr) with
            | false =>
              have HP := Lib.hid (put_no p A xt xr xv _ _ hV.out hrec)
              unfold was0 at HP
              go_wp2_with fail
              refine HP.out.mono ?_
              rintro e w8 ⟨rfl, q5⟩
              have HS := Lib.hid (same_x p p' A B _ _ (q5.allocG (.cells #[.int .i64 0, .int .i64 0, .int .i64 0, .bool false] 31)) (by omega) (by omega))
              rw [decide_eq_true hsr.out] at HS
              clear HP
              replace q5 := Lib.hid q5
              go_wp2_with fail
              refine HS.out.mono ?_
              rintro e w9 ⟨rfl, q6⟩
              have hG := Lib.hid q6.to3.gold
              go_wp2_with fail
              go_ret
              exact ⟨rfl, hG.out⟩
            | true =>
              have HP := Lib.hid (put_yes p A xt xr xv _ _ hV.out hrec)
              unfold wasV at HP
              obtain ⟨gv, hgv⟩ : ∃ gv, (getL A (xt, xr)).getD 0 = gv := ⟨_, rfl⟩
              rw [hgv] at HP
              cases hgh : hasL A (xt, xr) with
              | true =>
                have hbk := back_put xv hgh
                rw [hgv] at hbk
                rw [hgh] at HP
                have hln := putL_len A (xt, xr) xv
                have hln2 := putL_len (putL A (xt, xr) xv) (xt, xr) gv
                replace hgv := Lib.hid hgv
                replace hgh := Lib.hid hgh
                generalize putL A (xt, xr) xv = A2 at *
                have HP2 := Lib.hid (fun W rs h => put_yes p A2 xt xr gv W rs h hrec)
                generalize putL A2 (xt, xr) gv = A3 at *
                replace hbk := Lib.hid hbk
                go_wp2_with fail
                refine HP.out.mono ?_
                rintro e w8 ⟨rfl, q5⟩
                have hB := Lib.hid (q5.alloc #[.int .i64 xt, .int .i64 xr, .int .i64 gv, .bool true] 31).to1
                clear q5 HP d0 d1 d2 d3
                obtain ⟨_, e0, e1, e2, e3, _⟩ := hB.out.to1.b4
                obtain ⟨_, d0, d1, d2, d3, _⟩ := (hB.out.bring 3 rfl).b4
                go_wp2_with fail
                refine (HP2.out _ _ hB.out).mono ?_
                rintro e w9 ⟨rfl, q6⟩
                replace hB := Lib.hid (q6.drop1)
                have hs3 := Lib.hid (srtE_congr (stX_nodup q6) hnB.out (hbk.out.trans hAB.out))
                clear q6 e0 e1 e2 e3 d0 d1 d2 d3 HP2
                have HS := Lib.hid (same_x p p' A3 B _ _ hB.out (by omega) (by omega))
                rw [decide_eq_true hs3.out] at HS
                go_wp2_with fail
                refine HS.out.mono ?_
                rintro e w10 ⟨rfl, q7⟩
                have hG := Lib.hid q7.to3.gold
                go_wp2_with fail
                go_ret
                exact ⟨rfl, hG.out⟩
              | false =>
                have hbk := back_del xv hgh
                rw [hgh] at HP
                have hln := putL_len A (xt, xr) xv
                have hln2 := delL_len (putL A (xt, xr) xv) (xt, xr)
                replace hgv := Lib.hid hgv
                replace hgh := Lib.hid hgh
                generalize putL A (xt, xr) xv = A2 at *
                have HP2 := Lib.hid (fun W rs h => del_yes p A2 xt xr W rs h hrec)
                generalize delL A2 (xt, xr) = A3 at *
                replace hbk := Lib.hid hbk
                go_wp2_with fail
                refine HP.out.mono ?_
                rintro e w8 ⟨rfl, q5⟩
                have hB := Lib.hid (q5.alloc #[.int .i64 xt, .int .i64 xr, .int .i64 gv, .bool false] 31).to1
                clear q5 HP d0 d1 d2 d3
                obtain ⟨_, e0, e1, e2, e3, _⟩ := hB.out.to1.b4
                obtain ⟨_, d0, d1, d2, d3, _⟩ := (hB.out.bring 3 rfl).b4
                go_wp2_with fail
                refine (HP2.out _ _ hB.out).mono ?_
                rintro e w9 ⟨rfl, q6⟩
                replace hB := Lib.hid (q6.drop1)
                have hs3 := Lib.hid (srtE_congr (stX_nodup q6) hnB.out (hbk.out.trans hAB.out))
                clear q6 e0 e1 e2 e3 d0 d1 d2 d3 HP2
                have HS := Lib.hid (same_x p p' A3 B _ _ hB.out (by omega) (by omega))
                rw [decide_eq_true hs3.out] at HS
                go_wp2_with fail
                refine HS.out.mono ?_
                rintro e w10 ⟨rfl, q7⟩
                have hG := Lib.hid q7.to3.gold
                go_wp2_with fail
                go_ret
                exact ⟨rfl, hG.out⟩
  · have i20 : (20 : Int) < (n : Int) := by omega
    clear HV0
    go_enter Try.func3, Try.ntmps3
    go_wp2_with fail
    refine (lives_any _).mono ?_
    rintro e w1 ⟨rfl, q0⟩
    replace hV := Lib.hid (hV.out.below q0)
    go_wp2_with fail
    go_ret
    exact ⟨rfl, hV.out.tail.gold⟩
end Go.Proofs.Ytbpeajcfabjphaa
