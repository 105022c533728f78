/-
  The walk of HistoryThreads. No condition beside an argument that can be read.
-/
import Derived.Test.YtechagciefhpbaaHSp
import Derived.Test.YtechagciefhpbaaHOf
import Derived.Test.YtechagciefhpbaaHThB
namespace Go.Proofs.Ytechagciefhpbaa
open Go.RowKit
theorem zeroI (w : World) : (zeroValue 3).run Try.prog w = .ok (ekI 0) w := by kernel_rfl
theorem look_int (E : List (Int × Int)) (t : Int) : ((getL E t).map ekI).getD (ekI 0) = .int .i64 ((getL E t).getD 0) := by cases getL E t <;> rfl
set_option maxHeartbeats 20000000 in
set_option maxRecDepth 100000 in
theorem threads_walk (a : Option Addr) (len cap : Nat) (l : List Ev) (w : World) (hv : RL w (.slice a len cap) 9 len (ecells l)) (hn : l.length = len) :
    Calls Try.prog 5 #[.slice a len cap] w fun e w' => e = .returned (.bool true) ∧ Below w.heap.size w w' := by
  have hmm := @run_makeMap Try.prog
  by_cases h60 : len ≤ 60
  · have i60 : ¬ ((len : Int) > 60) := by omega
    have hlen : l.length ≤ 1000 := by omega
    have hvn : RL w (.slice a len cap) 9 l.length (ecells l) := by rw [hn]; exact hv
    have HC := Lib.hid (fun W hb => check_any (.slice a len cap) l W (hvn.below hb) hlen)
    by_cases hR2 : (walkS l 0 []).2.2 = 0
    · have HS := Lib.hid (fun W hb => spans_any (.slice a len cap) l W (hvn.below hb) hlen)
      obtain ⟨hR, hH⟩ := hist_of hR2
      rw [hR] at HC
      have hOwn := Lib.hid (fun t : Int => own_walk t l 0 [] [] 0 hR2 (by simp) .nil)
      have HO := Lib.hid (fun t W hb => of_any (.slice a len cap) l t W (hvn.below hb) hlen)
      obtain ⟨S, hS0⟩ : ∃ S, (walkS l 0 []).1 = S := ⟨_, rfl⟩
      simp only [hS0] at HS hOwn
      rw [hS0] at hH
      obtain ⟨n, hnS⟩ : ∃ n, Hid (S.length = n) := ⟨_, rfl⟩
      simp only [hnS.out] at HS
      have hcnt := hH.count
      rw [hnS.out] at hcnt
      have hn60 : n ≤ 60 := by omega
      replace HC := Lib.hid HC.out
      replace HS := Lib.hid HS.out
      replace HO := Lib.hid HO.out
      replace hOwn := Lib.hid hOwn.out
      have hv2 := Lib.hid hv
      replace hn := Lib.hid hn
      replace hH := Lib.hid hH
      clear hR hR2 hS0 hv hvn hcnt h60
      go_enter Try.func5, Try.ntmps5
      go_wp2_with fail
      refine (lives_any _).mono ?_
      rintro e w1 ⟨rfl, q⟩
      have hb1 := Lib.hid q
      clear q
      go_wp2_with fail
      refine (HC.out _ hb1.out).mono ?_
      rintro e w2 ⟨rfl, q⟩
      replace hb1 := Lib.hid (belT hb1.out q)
      have hA := Lib.hid ((Sep.start w).below hb1.out)
      clear q HC
      go_wp2_with fail
      refine (HS.out _ hb1.out).mono ?_
      rintro e w3 ⟨sa, sc, rfl, q⟩
      have hV0 := Lib.hid ((q.graft hA.out).map_new ekI ekI)
      clear q HS hb1 hA
      go_wp2_with fail
      clear hmm
      generalize w3.heap.size = mb at *
      go_loopw [6, 8] (fun v x wr => ∃ (i tot : Nat) (E : List (Int × Int)), i ≤ len ∧ v = .int .i64 tot ∧ x = .int .i64 i ∧ Hid (tot = (inTh (l.take i) l).length) ∧ Hid (∀ t, (getL E t).getD 0 = if (l.take i).any (fun x => x.thread == t) then 1 else 0) ∧ Hid (Sep wr [mapr ekI ekI mb E, vec 36 10 (.slice sa n sc) n (scells S), old w])) (fun _ x _ => len - (intOf x).toNat)
      case atStart => exact ⟨0, 0, [], Nat.zero_le _, rfl, rfl, Lib.hid (by rw [show inTh (l.take 0) l = [] from List.filter_eq_nil_iff.2 (by simp)]; rfl), Lib.hid (by simp [getL]), hV0⟩
      case round =>
        clear hV0
        obtain ⟨i, tot, E, hi, rfl, rfl, htot, hseen, hV⟩ := hrel
        by_cases hlt : i < len
        · obtain ⟨b, off, rfl, hbl, hz⟩ := ev_cells hv2.out hn.out (by omega)
          obtain ⟨e, he⟩ : ∃ e, l[i]? = some e := ⟨l[i]'(by rw [hn.out]; exact hlt), List.getElem?_eq_getElem _⟩
          have hzi := hz i e he
          have y1 := (hV.out.to2.gold.cell (p := ⟨b, off + i * 9 + 1, none⟩) hbl).trans hzi.2.1
          have htk := take_snoc_get he
          have hsee := hseen.out e.thread
          have i1 : (0 : Int) ≤ (i : Int) := by omega
          have i2 : (i : Int) < (len : Int) := by omega
          cases hany : (l.take i).any (fun x => x.thread == e.thread) with
          | true =>
            rw [hany, if_pos rfl] at hsee
            have htot2 := Lib.hid (show tot = (inTh (l.take (i + 1)) l).length by rw [htk, inTh_old hany]; exact htot.out)
            have hseen2 : Hid (∀ t, (getL E t).getD 0 = if (l.take (i + 1)).any (fun x => x.thread == t) then 1 else 0) := by
              refine Lib.hid fun t => ?_
              rw [hseen.out t, htk, List.any_append]
              by_cases ht : e.thread = t
              · subst ht
                rw [hany]
                simp
              · simp [ht]
            clear hz hzi he htk hany htot hseen
            generalize e.thread = t at *
            go_wp2_with (at_lookup; refine wpList_lookup_map hV.out lawI Try.underlying47 rfl (.tmp 42) (.tmp 43) false rfl (zeroI _) rfl t rfl ?_; rw [if_neg (by simp), look_int, hsee])
            go_roundw
            case rel => exact ⟨i + 1, tot, E, by omega, rfl, by go_num, htot2, hseen2, hV⟩
            case measure => simp [intOf]; omega
          | false =>
            rw [hany, if_neg (by simp)] at hsee
            have htb : tot ≤ len := by rw [htot.out, ← hn.out]; exact List.length_filter_le _ _
            have htot2 := Lib.hid (show tot + (l.filter fun y => y.thread == e.thread).length = (inTh (l.take (i + 1)) l).length by rw [htk, inTh_new hany]; rw [htot.out])
            have hseen2 : Hid (∀ t, (getL (putL E e.thread 1) t).getD 0 = if (l.take (i + 1)).any (fun x => x.thread == t) then 1 else 0) := by
              refine Lib.hid fun t => ?_
              rw [getL_putL, htk, List.any_append]
              by_cases ht : t = e.thread
              · subst ht
                simp
              · have ht2 : ¬ e.thread = t := fun h => ht h.symm
                rw [if_neg ht, hseen.out t]
                simp [ht2]
            obtain ⟨hw0, hOw⟩ := hOwn.out e.thread
            have HO1 := Lib.hid (fun W hb => HO.out e.thread W hb)
            have hot : ∀ x ∈ (l.filter fun y => y.thread == e.thread), x.thread = e.thread := fun x hx => by simpa using (List.mem_filter.1 hx).2
            have hol := List.length_filter_le (fun y : Ev => y.thread == e.thread) l
            clear hz hzi he htk hany htot hseen
            generalize e.thread = t at *
            generalize hown : (l.filter fun y => y.thread == t) = own at *
            clear hown
            have hno : own.length ≤ 60 := by have := hn.out; omega
            obtain ⟨hRo, hHo⟩ := hist_of hw0
            have HCo := Lib.hid (fun v W hv => check_any v own W hv (by omega))
            have HSo := Lib.hid (fun v W hv => spans_any v own W hv (by omega))
            have HPo := Lib.hid (fun v W hv => pendings_any v own W hv (by omega))
            rw [hRo] at HCo
            obtain ⟨M, hM⟩ : ∃ M, (walkS own 0 []).1 = M := ⟨_, rfl⟩
            simp only [hM] at HSo HPo
            rw [hM] at hHo hOw
            have hpo := pend_one M hHo.apart (t := t) (fun s hs => by
              obtain ⟨e, he, _, _, het⟩ := hHo.begins s hs
              rw [← het]
              exact hot e (List.mem_of_getElem? he))
            have hlM := hOw.len
            clear hRo hw0 hM hot hHo
            obtain ⟨no, hno2⟩ : ∃ no, own.length = no := ⟨_, rfl⟩
            obtain ⟨nm, hnm⟩ : ∃ nm, M.length = nm := ⟨_, rfl⟩
            obtain ⟨np, hnp⟩ : ∃ np, (pendC M).length = np := ⟨_, rfl⟩
            simp only [hnm] at HSo
            simp only [hnp] at HPo
            rw [hno2] at hno htot2
            rw [hnm] at hlM
            rw [hnp] at hpo
            simp only [hno2] at HO1
            replace HCo := Lib.hid HCo.out
            replace HSo := Lib.hid HSo.out
            replace HPo := Lib.hid HPo.out
            replace HO1 := Lib.hid HO1.out
            replace hnm := Lib.hid hnm
            replace hno2 := Lib.hid hno2
            replace hOw := Lib.hid hOw
            replace hlM := Lib.hid hlM
            clear hnp hol
            go_wp2_with (first | (at_lookup; refine wpList_lookup_map hV.out lawI Try.underlying47 rfl (.tmp 42) (.tmp 43) false rfl (zeroI _) rfl t rfl ?_; rw [if_neg (by simp), look_int, hsee]) | (at_mapUpdate; refine wpList_mapUpdate_map hV.out lawI Try.underlying47 rfl (.tmp 46) (.tmp 47) (.const (.int .i64 1)) rfl rfl t 1 rfl rfl ?_; intro w4 hS4))
            replace hV := Lib.hid hS4
            clear hS4
            refine (HO1.out _ hV.out.to2.gold).mono ?_
            rintro e w5 ⟨oa, oc, rfl, q⟩
            replace hV := Lib.hid (q.graft hV.out)
            clear q HO1
            go_wp2_with fail
            refine (HCo.out _ _ (by rw [hno2.out]; exact hV.out.vec_rl)).mono ?_
            rintro e w6 ⟨rfl, q⟩
            replace hV := Lib.hid (hV.out.below q)
            clear q HCo
            go_wp2_with fail
            refine (HSo.out _ _ (by rw [hno2.out]; exact hV.out.vec_rl)).mono ?_
            rintro e w7 ⟨ma, mc, rfl, q⟩
            replace hV := Lib.hid (q.graft hV.out)
            clear q HSo
            go_wp2_with fail
            go_loopw [14, 15] (fun x y wr => ∃ (k q : Nat), k ≤ n ∧ x = .int .i64 q ∧ y = .int .i64 k ∧ Hid (thN t (S.take k) = q) ∧ q ≤ k ∧ Hid (Sep wr [vec 36 10 (.slice ma nm mc) nm (scells M), vec 43 9 (.slice oa no oc) no (ecells own), mapr ekI ekI mb (putL E t 1), vec 36 10 (.slice sa n sc) n (scells S), old w])) (fun _ y _ => n - (intOf y).toNat)
            case atStart => exact ⟨0, 0, Nat.zero_le _, rfl, rfl, Lib.hid rfl, Nat.le_refl _, hV⟩
            case round =>
              clear hV
              obtain ⟨k, q, hk, rfl, rfl, hthn, hqk, hV⟩ := hrel
              by_cases hkn : k < n
              · obtain ⟨gs, rfl⟩ : ∃ gs, sa = some ⟨gs, 0, none⟩ := by
                  rcases hV.out.to3.gvec.2 with ⟨_, h1⟩ | ⟨g, cap, cur, hv, _⟩
                  · omega
                  · injection hv with e1 _ _
                    exact ⟨g, e1⟩
                obtain ⟨s, hs⟩ : ∃ s, S[k]? = some s := ⟨S[k]'(by rw [hnS.out]; exact hkn), List.getElem?_eq_getElem _⟩
                have hst := Lib.hid (thN_step (t := t) hs)
                have z1 := (hV.out.to3.vec_cell (sp10 hs).2.1).1
                have i3 : (0 : Int) ≤ (k : Int) := by omega
                have i4 : (k : Int) < (n : Int) := by omega
                by_cases hth : s.thread = t
                · obtain ⟨u, hu, ec, ea, eo⟩ := hOw.out.at_ k s hs hth
                  rw [hthn.out] at hu
                  have hqm : q < nm := by rw [← hnm.out]; exact (List.getElem?_eq_some_iff.1 hu).1
                  obtain ⟨gm, rfl⟩ : ∃ gm, ma = some ⟨gm, 0, none⟩ := by
                    rcases hV.out.gvec.2 with ⟨_, h1⟩ | ⟨g, cap, cur, hv, _⟩
                    · omega
                    · injection hv with e1 _ _
                      exact ⟨g, e1⟩
                  have hst2 := hst.out
                  rw [if_pos hth, hthn.out] at hst2
                  replace hst2 := Lib.hid hst2
                  have hthb : (s.thread == t) = true := by rw [hth]; simp
                  replace hs := Lib.hid hs
                  replace hu := Lib.hid hu
                  have hcb : (u.call != s.call) = false := by rw [ec]; simp
                  have hqa : ∀ W, (binOp .neq 34 (.agg #[.int .i64 u.act.kind, .int .i64 u.act.txn, .int .i64 u.act.t, .int .i64 u.act.r, .int .i64 u.act.mode, .int .i64 u.act.code]) (.agg #[.int .i64 s.act.kind, .int .i64 s.act.txn, .int .i64 s.act.t, .int .i64 s.act.r, .int .i64 s.act.mode, .int .i64 s.act.code])).run Try.prog W = .ok (.bool false) W := fun W => by
                    rw [ea, run_neq_act, eqB_act_iff]
                    simp
                  have ho1 : decide (s.to < 0) = opens s := rfl
                  have ho2 : decide (u.to < 0) = opens s := by rw [eo]; rfl
                  generalize opens s = bo at *
                  have i5 : (0 : Int) ≤ (q : Int) := by omega
                  have i6 : (q : Int) < (nm : Int) := by omega
                  have i7 : ¬ (q : Int) ≥ (nm : Int) := by omega
                  have i8 : decide (nm ≤ q) = false := decide_eq_false (by omega)
                  have hB := Lib.hid hV.out
                  clear hst hthn hth ec ea eo
                  go_wp2_with fail
                  clear hV
                  have hS := Lib.hid (show (fun W : World => Sep W [vec 36 10 (.slice (some ⟨gm, 0, none⟩) nm mc) nm (scells M), vec 43 9 (.slice oa no oc) no (ecells own), mapr ekI ekI mb (putL E t 1), vec 36 10 (.slice (some ⟨gs, 0, none⟩) n sc) n (scells S), old w]) _ from hB.out.drew)
                  try dsimp only [List.append]
                  refine hl_begin_n (fun W : World => Sep W [vec 36 10 (.slice (some ⟨gm, 0, none⟩) nm mc) nm (scells M), vec 43 9 (.slice oa no oc) no (ecells own), mapr ekI ekI mb (putL E t 1), vec 36 10 (.slice (some ⟨gs, 0, none⟩) n sc) n (scells S), old w]) ((0, true) :: (1, true) :: (2, true) :: (3, true) :: (4, true) :: (5, true) :: (6, true) :: (7, true) :: (8, true) :: (9, true) :: (10, true) :: (11, true) :: (12, true) :: (13, true) :: (14, true) :: (15, true) :: (16, true) :: (17, true) :: (18, true) :: (19, true) :: (20, true) :: (21, true) :: (22, true) :: (23, true) :: (24, true) :: (25, true) :: (26, true) :: (27, true) :: (28, true) :: (29, true) :: (30, true) :: (31, true) :: (32, true) :: (33, true) :: (34, true) :: (35, true) :: (36, true) :: (37, true) :: (38, true) :: (39, true) :: (40, true) :: (41, true) :: (42, true) :: (43, true) :: (44, true) :: []) (([], [14], 76) :: ([], [13], 77) :: ([1], [76], 78) :: ([0, 2], [75, 77], 79) :: ([3], [78], 80) :: ([4], [13, 79], 81) :: ([4], [14, 79], 82) :: ([5, 6, 4], [80, 81, 79], 83) :: ([7, 4], [82, 79], 84) :: ([8, 4], [83, 79], 85) :: ([4], [5, 79], 86) :: ([4], [15, 79], 87) :: ([10, 11, 4], [85, 86, 79], 88) :: ([12, 4], [87, 79], 89) :: ([13, 4], [88, 79], 90) :: ([9, 14, 4], [84, 89, 79], 91) :: ([4, 15], [79, 90], 92) :: ([16, 4], [91], 93) :: ([17], [13, 92], 94) :: ([17], [14, 92], 95) :: ([18, 19, 17], [93, 94, 92], 96) :: ([20, 17], [95, 92], 97) :: ([21, 17], [96, 92], 98) :: ([17], [5, 92], 99) :: ([17], [15, 92], 100) :: ([23, 24, 17], [98, 99, 92], 101) :: ([25, 17], [100, 92], 102) :: ([26, 17], [101, 92], 103) :: ([22, 27, 17], [97, 102, 92], 104) :: ([17, 28], [92, 103], 105) :: ([29, 17], [104], 106) :: ([30], [13, 105], 107) :: ([30], [14, 105], 108) :: ([31, 32, 30], [106, 107, 105], 109) :: ([33, 30], [108, 105], 110) :: ([34, 30], [109, 105], 111) :: ([35, 30], [110, 105], 112) :: ([30], [5, 105], 113) :: ([30], [15, 105], 114) :: ([37, 38, 30], [112, 113, 105], 115) :: ([39, 30], [114, 105], 116) :: ([40, 30], [115, 105], 117) :: ([41, 30], [116, 105], 118) :: ([36, 42, 30], [111, 117, 105], 119) :: ([30, 43], [105, 118], 120) :: []) (by kernel_rfl) (by kernel_rfl) (by kernel_rfl) (by kernel_rfl) rfl (by intro _ _ _ _ _ h; exact h) hS.out ?_
                  change HL _ _ _ _ _ _ (World.drew _)
                  generalize World.drew _ = wd at *
                  refine hl_take ?v1 rfl (by kernel_rfl) ?y1 ?z1
                  case y1 => intro W hW; skip; replace hW := Lib.hid hW; go_simp; try rfl
                  case z1 =>
                  simp only [Act.put, List.setIfInBounds_toArray, List.set_cons_succ, List.set_cons_zero, List.getElem_toArray, List.getElem_cons_zero, List.getElem_cons_succ]
                  refine hl_take ?v2 rfl (by kernel_rfl) ?y2 ?z2
                  case y2 => intro W hW; skip; replace hW := Lib.hid hW; go_simp; try rfl
                  case z2 =>
                  simp only [Act.put, List.setIfInBounds_toArray, List.set_cons_succ, List.set_cons_zero, List.getElem_toArray, List.getElem_cons_zero, List.getElem_cons_succ]
                  refine hl_take ?v3 rfl (by kernel_rfl) ?y3 ?z3
                  case y3 => intro W hW; skip; replace hW := Lib.hid hW; go_simp; try rfl
                  case z3 =>
                  simp only [Act.put, List.setIfInBounds_toArray, List.set_cons_succ, List.set_cons_zero, List.getElem_toArray, List.getElem_cons_zero, List.getElem_cons_succ]
                  refine hl_take ?v4 rfl (by kernel_rfl) ?y4 ?z4
                  case y4 => intro W hW; skip; replace hW := Lib.hid hW; go_simp; try rfl
                  case z4 =>
                  simp only [Act.put, List.setIfInBounds_toArray, List.set_cons_succ, List.set_cons_zero, List.getElem_toArray, List.getElem_cons_zero, List.getElem_cons_succ]
                  refine hl_take ?v5 rfl (by kernel_rfl) ?y5 ?z5
                  case y5 => intro W hW; skip; replace hW := Lib.hid hW; go_simp; try rfl
                  case z5 =>
                  simp only [Act.put, List.setIfInBounds_toArray, List.set_cons_succ, List.set_cons_zero, List.getElem_toArray, List.getElem_cons_zero, List.getElem_cons_succ]
                  refine hl_take ?v6 rfl (by kernel_rfl) ?y6 ?z6
                  case y6 => intro W hW; skip; replace hW := Lib.hid hW; go_simp; try rfl
                  case z6 =>
                  simp only [Act.put, List.setIfInBounds_toArray, List.set_cons_succ, List.set_cons_zero, List.getElem_toArray, List.getElem_cons_zero, List.getElem_cons_succ]
                  refine hl_take ?v7 rfl (by kernel_rfl) ?y7 ?z7
                  case y7 => intro W hW; skip; replace hW := Lib.hid hW; go_simp; try rfl
                  case z7 =>
                  simp only [Act.put, List.setIfInBounds_toArray, List.set_cons_succ, List.set_cons_zero, List.getElem_toArray, List.getElem_cons_zero, List.getElem_cons_succ]
                  refine hl_take ?v8 rfl (by kernel_rfl) ?y8 ?z8
                  case y8 => intro W hW; skip; replace hW := Lib.hid hW; go_simp; try rfl
                  case z8 =>
                  simp only [Act.put, List.setIfInBounds_toArray, List.set_cons_succ, List.set_cons_zero, List.getElem_toArray, List.getElem_cons_zero, List.getElem_cons_succ]
                  refine hl_take ?v9 rfl (by kernel_rfl) ?y9 ?z9
                  case y9 => intro W hW; skip; replace hW := Lib.hid hW; go_simp; try rfl
                  case z9 =>
                  simp only [Act.put, List.setIfInBounds_toArray, List.set_cons_succ, List.set_cons_zero, List.getElem_toArray, List.getElem_cons_zero, List.getElem_cons_succ]
                  refine hl_take ?v10 rfl (by kernel_rfl) ?y10 ?z10
                  case y10 => intro W hW; change Sep W _ at hW; obtain ⟨y0, y1, y2, y3, y4, y5, y6, y7, y8, y9⟩ := sp10 hu.out; replace y0 := (hW.vec_cell y0).1; replace y1 := (hW.vec_cell y1).1; replace y2 := (hW.vec_cell y2).1; replace y3 := (hW.vec_cell y3).1; replace y4 := (hW.vec_cell y4).1; replace y5 := (hW.vec_cell y5).1; replace y6 := (hW.vec_cell y6).1; replace y7 := (hW.vec_cell y7).1; replace y8 := (hW.vec_cell y8).1; replace y9 := (hW.vec_cell y9).1; obtain ⟨x0, x1, x2, x3, x4, x5, x6, x7, x8, x9⟩ := sp10 hs.out; replace x0 := (hW.to3.vec_cell x0).1; replace x1 := (hW.to3.vec_cell x1).1; replace x2 := (hW.to3.vec_cell x2).1; replace x3 := (hW.to3.vec_cell x3).1; replace x4 := (hW.to3.vec_cell x4).1; replace x5 := (hW.to3.vec_cell x5).1; replace x6 := (hW.to3.vec_cell x6).1; replace x7 := (hW.to3.vec_cell x7).1; replace x8 := (hW.to3.vec_cell x8).1; replace x9 := (hW.to3.vec_cell x9).1; replace hW := Lib.hid hW; go_simp; try rfl
                  case z10 =>
                  simp only [Act.put, List.setIfInBounds_toArray, List.set_cons_succ, List.set_cons_zero, List.getElem_toArray, List.getElem_cons_zero, List.getElem_cons_succ]
                  refine hl_take ?v11 rfl (by kernel_rfl) ?y11 ?z11
                  case y11 => intro W hW; skip; replace hW := Lib.hid hW; go_simp; try rfl
                  case z11 =>
                  simp only [Act.put, List.setIfInBounds_toArray, List.set_cons_succ, List.set_cons_zero, List.getElem_toArray, List.getElem_cons_zero, List.getElem_cons_succ]
                  refine hl_take ?v12 rfl (by kernel_rfl) ?y12 ?z12
                  case y12 => intro W hW; skip; replace hW := Lib.hid hW; go_simp; try rfl
                  case z12 =>
                  simp only [Act.put, List.setIfInBounds_toArray, List.set_cons_succ, List.set_cons_zero, List.getElem_toArray, List.getElem_cons_zero, List.getElem_cons_succ]
                  refine hl_take ?v13 rfl (by kernel_rfl) ?y13 ?z13
                  case y13 => intro W hW; skip; replace hW := Lib.hid hW; go_simp; try rfl
                  case z13 =>
                  simp only [Act.put, List.setIfInBounds_toArray, List.set_cons_succ, List.set_cons_zero, List.getElem_toArray, List.getElem_cons_zero, List.getElem_cons_succ]
                  refine hl_take ?v14 rfl (by kernel_rfl) ?y14 ?z14
                  case y14 => intro W hW; skip; replace hW := Lib.hid hW; go_simp; try rfl
                  case z14 =>
                  simp only [Act.put, List.setIfInBounds_toArray, List.set_cons_succ, List.set_cons_zero, List.getElem_toArray, List.getElem_cons_zero, List.getElem_cons_succ]
                  refine hl_take ?v15 rfl (by kernel_rfl) ?y15 ?z15
                  case y15 => intro W hW; change Sep W _ at hW; obtain ⟨y0, y1, y2, y3, y4, y5, y6, y7, y8, y9⟩ := sp10 hu.out; replace y0 := (hW.vec_cell y0).1; replace y1 := (hW.vec_cell y1).1; replace y2 := (hW.vec_cell y2).1; replace y3 := (hW.vec_cell y3).1; replace y4 := (hW.vec_cell y4).1; replace y5 := (hW.vec_cell y5).1; replace y6 := (hW.vec_cell y6).1; replace y7 := (hW.vec_cell y7).1; replace y8 := (hW.vec_cell y8).1; replace y9 := (hW.vec_cell y9).1; obtain ⟨x0, x1, x2, x3, x4, x5, x6, x7, x8, x9⟩ := sp10 hs.out; replace x0 := (hW.to3.vec_cell x0).1; replace x1 := (hW.to3.vec_cell x1).1; replace x2 := (hW.to3.vec_cell x2).1; replace x3 := (hW.to3.vec_cell x3).1; replace x4 := (hW.to3.vec_cell x4).1; replace x5 := (hW.to3.vec_cell x5).1; replace x6 := (hW.to3.vec_cell x6).1; replace x7 := (hW.to3.vec_cell x7).1; replace x8 := (hW.to3.vec_cell x8).1; replace x9 := (hW.to3.vec_cell x9).1; replace hW := Lib.hid hW; go_simp; try rfl
                  case z15 =>
                  simp only [Act.put, List.setIfInBounds_toArray, List.set_cons_succ, List.set_cons_zero, List.getElem_toArray, List.getElem_cons_zero, List.getElem_cons_succ]
                  refine hl_take ?v16 rfl (by kernel_rfl) ?y16 ?z16
                  case y16 => intro W hW; skip; replace hW := Lib.hid hW; go_simp; try rfl
                  case z16 =>
                  simp only [Act.put, List.setIfInBounds_toArray, List.set_cons_succ, List.set_cons_zero, List.getElem_toArray, List.getElem_cons_zero, List.getElem_cons_succ]
                  refine hl_take ?v17 rfl (by kernel_rfl) ?y17 ?z17
                  case y17 => intro W hW; skip; replace hW := Lib.hid hW; go_simp; try rfl
                  case z17 =>
                  simp only [Act.put, List.setIfInBounds_toArray, List.set_cons_succ, List.set_cons_zero, List.getElem_toArray, List.getElem_cons_zero, List.getElem_cons_succ]
                  refine hl_take ?v18 rfl (by kernel_rfl) ?y18 ?z18
                  case y18 => intro W hW; skip; replace hW := Lib.hid hW; go_simp; try rfl
                  case z18 =>
                  simp only [Act.put, List.setIfInBounds_toArray, List.set_cons_succ, List.set_cons_zero, List.getElem_toArray, List.getElem_cons_zero, List.getElem_cons_succ]
                  refine hl_take ?v19 rfl (by kernel_rfl) ?y19 ?z19
                  case y19 => intro W hW; skip; replace hW := Lib.hid hW; go_simp; try rfl
                  case z19 =>
                  simp only [Act.put, List.setIfInBounds_toArray, List.set_cons_succ, List.set_cons_zero, List.getElem_toArray, List.getElem_cons_zero, List.getElem_cons_succ]
                  refine hl_take ?v20 rfl (by kernel_rfl) ?y20 ?z20
                  case y20 => intro W hW; skip; replace hW := Lib.hid hW; go_simp; try rfl
                  case z20 =>
                  simp only [Act.put, List.setIfInBounds_toArray, List.set_cons_succ, List.set_cons_zero, List.getElem_toArray, List.getElem_cons_zero, List.getElem_cons_succ]
                  refine hl_take ?v21 rfl (by kernel_rfl) ?y21 ?z21
                  case y21 => intro W hW; skip; replace hW := Lib.hid hW; go_simp; try rfl
                  case z21 =>
                  simp only [Act.put, List.setIfInBounds_toArray, List.set_cons_succ, List.set_cons_zero, List.getElem_toArray, List.getElem_cons_zero, List.getElem_cons_succ]
                  refine hl_take ?v22 rfl (by kernel_rfl) ?y22 ?z22
                  case y22 => intro W hW; skip; replace hW := Lib.hid hW; go_simp; try rfl
                  case z22 =>
                  simp only [Act.put, List.setIfInBounds_toArray, List.set_cons_succ, List.set_cons_zero, List.getElem_toArray, List.getElem_cons_zero, List.getElem_cons_succ]
                  refine hl_take ?v23 rfl (by kernel_rfl) ?y23 ?z23
                  case y23 => intro W hW; change Sep W _ at hW; obtain ⟨y0, y1, y2, y3, y4, y5, y6, y7, y8, y9⟩ := sp10 hu.out; replace y0 := (hW.vec_cell y0).1; replace y1 := (hW.vec_cell y1).1; replace y2 := (hW.vec_cell y2).1; replace y3 := (hW.vec_cell y3).1; replace y4 := (hW.vec_cell y4).1; replace y5 := (hW.vec_cell y5).1; replace y6 := (hW.vec_cell y6).1; replace y7 := (hW.vec_cell y7).1; replace y8 := (hW.vec_cell y8).1; replace y9 := (hW.vec_cell y9).1; obtain ⟨x0, x1, x2, x3, x4, x5, x6, x7, x8, x9⟩ := sp10 hs.out; replace x0 := (hW.to3.vec_cell x0).1; replace x1 := (hW.to3.vec_cell x1).1; replace x2 := (hW.to3.vec_cell x2).1; replace x3 := (hW.to3.vec_cell x3).1; replace x4 := (hW.to3.vec_cell x4).1; replace x5 := (hW.to3.vec_cell x5).1; replace x6 := (hW.to3.vec_cell x6).1; replace x7 := (hW.to3.vec_cell x7).1; replace x8 := (hW.to3.vec_cell x8).1; replace x9 := (hW.to3.vec_cell x9).1; replace hW := Lib.hid hW; go_simp; try rfl
                  case z23 =>
                  simp only [Act.put, List.setIfInBounds_toArray, List.set_cons_succ, List.set_cons_zero, List.getElem_toArray, List.getElem_cons_zero, List.getElem_cons_succ]
                  refine hl_take ?v24 rfl (by kernel_rfl) ?y24 ?z24
                  case y24 => intro W hW; skip; replace hW := Lib.hid hW; go_simp; try rfl
                  case z24 =>
                  simp only [Act.put, List.setIfInBounds_toArray, List.set_cons_succ, List.set_cons_zero, List.getElem_toArray, List.getElem_cons_zero, List.getElem_cons_succ]
                  refine hl_take ?v25 rfl (by kernel_rfl) ?y25 ?z25
                  case y25 => intro W hW; skip; replace hW := Lib.hid hW; go_simp; try rfl
                  case z25 =>
                  simp only [Act.put, List.setIfInBounds_toArray, List.set_cons_succ, List.set_cons_zero, List.getElem_toArray, List.getElem_cons_zero, List.getElem_cons_succ]
                  refine hl_take ?v26 rfl (by kernel_rfl) ?y26 ?z26
                  case y26 => intro W hW; skip; replace hW := Lib.hid hW; go_simp; try rfl
                  case z26 =>
                  simp only [Act.put, List.setIfInBounds_toArray, List.set_cons_succ, List.set_cons_zero, List.getElem_toArray, List.getElem_cons_zero, List.getElem_cons_succ]
                  refine hl_take ?v27 rfl (by kernel_rfl) ?y27 ?z27
                  case y27 => intro W hW; skip; replace hW := Lib.hid hW; go_simp; try rfl
                  case z27 =>
                  simp only [Act.put, List.setIfInBounds_toArray, List.set_cons_succ, List.set_cons_zero, List.getElem_toArray, List.getElem_cons_zero, List.getElem_cons_succ]
                  refine hl_take ?v28 rfl (by kernel_rfl) ?y28 ?z28
                  case y28 => intro W hW; change Sep W _ at hW; obtain ⟨y0, y1, y2, y3, y4, y5, y6, y7, y8, y9⟩ := sp10 hu.out; replace y0 := (hW.vec_cell y0).1; replace y1 := (hW.vec_cell y1).1; replace y2 := (hW.vec_cell y2).1; replace y3 := (hW.vec_cell y3).1; replace y4 := (hW.vec_cell y4).1; replace y5 := (hW.vec_cell y5).1; replace y6 := (hW.vec_cell y6).1; replace y7 := (hW.vec_cell y7).1; replace y8 := (hW.vec_cell y8).1; replace y9 := (hW.vec_cell y9).1; obtain ⟨x0, x1, x2, x3, x4, x5, x6, x7, x8, x9⟩ := sp10 hs.out; replace x0 := (hW.to3.vec_cell x0).1; replace x1 := (hW.to3.vec_cell x1).1; replace x2 := (hW.to3.vec_cell x2).1; replace x3 := (hW.to3.vec_cell x3).1; replace x4 := (hW.to3.vec_cell x4).1; replace x5 := (hW.to3.vec_cell x5).1; replace x6 := (hW.to3.vec_cell x6).1; replace x7 := (hW.to3.vec_cell x7).1; replace x8 := (hW.to3.vec_cell x8).1; replace x9 := (hW.to3.vec_cell x9).1; replace hW := Lib.hid hW; go_simp; try rfl
                  case z28 =>
                  simp only [Act.put, List.setIfInBounds_toArray, List.set_cons_succ, List.set_cons_zero, List.getElem_toArray, List.getElem_cons_zero, List.getElem_cons_succ]
                  refine hl_take ?v29 rfl (by kernel_rfl) ?y29 ?z29
                  case y29 => intro W hW; skip; replace hW := Lib.hid hW; go_simp; try rfl
                  case z29 =>
                  simp only [Act.put, List.setIfInBounds_toArray, List.set_cons_succ, List.set_cons_zero, List.getElem_toArray, List.getElem_cons_zero, List.getElem_cons_succ]
                  refine hl_take ?v30 rfl (by kernel_rfl) ?y30 ?z30
                  case y30 => intro W hW; skip; replace hW := Lib.hid hW; go_simp; try rfl
                  case z30 =>
                  simp only [Act.put, List.setIfInBounds_toArray, List.set_cons_succ, List.set_cons_zero, List.getElem_toArray, List.getElem_cons_zero, List.getElem_cons_succ]
                  refine hl_take ?v31 rfl (by kernel_rfl) ?y31 ?z31
                  case y31 => intro W hW; skip; replace hW := Lib.hid hW; go_simp; try rfl
                  case z31 =>
                  simp only [Act.put, List.setIfInBounds_toArray, List.set_cons_succ, List.set_cons_zero, List.getElem_toArray, List.getElem_cons_zero, List.getElem_cons_succ]
                  refine hl_take ?v32 rfl (by kernel_rfl) ?y32 ?z32
                  case y32 => intro W hW; skip; replace hW := Lib.hid hW; go_simp; try rfl
                  case z32 =>
                  simp only [Act.put, List.setIfInBounds_toArray, List.set_cons_succ, List.set_cons_zero, List.getElem_toArray, List.getElem_cons_zero, List.getElem_cons_succ]
                  refine hl_take ?v33 rfl (by kernel_rfl) ?y33 ?z33
                  case y33 => intro W hW; skip; replace hW := Lib.hid hW; go_simp; try rfl
                  case z33 =>
                  simp only [Act.put, List.setIfInBounds_toArray, List.set_cons_succ, List.set_cons_zero, List.getElem_toArray, List.getElem_cons_zero, List.getElem_cons_succ]
                  refine hl_take ?v34 rfl (by kernel_rfl) ?y34 ?z34
                  case y34 => intro W hW; skip; replace hW := Lib.hid hW; go_simp; try rfl
                  case z34 =>
                  simp only [Act.put, List.setIfInBounds_toArray, List.set_cons_succ, List.set_cons_zero, List.getElem_toArray, List.getElem_cons_zero, List.getElem_cons_succ]
                  refine hl_take ?v35 rfl (by kernel_rfl) ?y35 ?z35
                  case y35 => intro W hW; skip; replace hW := Lib.hid hW; go_simp; try rfl
                  case z35 =>
                  simp only [Act.put, List.setIfInBounds_toArray, List.set_cons_succ, List.set_cons_zero, List.getElem_toArray, List.getElem_cons_zero, List.getElem_cons_succ]
                  refine hl_take ?v36 rfl (by kernel_rfl) ?y36 ?z36
                  case y36 => intro W hW; change Sep W _ at hW; obtain ⟨y0, y1, y2, y3, y4, y5, y6, y7, y8, y9⟩ := sp10 hu.out; replace y0 := (hW.vec_cell y0).1; replace y1 := (hW.vec_cell y1).1; replace y2 := (hW.vec_cell y2).1; replace y3 := (hW.vec_cell y3).1; replace y4 := (hW.vec_cell y4).1; replace y5 := (hW.vec_cell y5).1; replace y6 := (hW.vec_cell y6).1; replace y7 := (hW.vec_cell y7).1; replace y8 := (hW.vec_cell y8).1; replace y9 := (hW.vec_cell y9).1; obtain ⟨x0, x1, x2, x3, x4, x5, x6, x7, x8, x9⟩ := sp10 hs.out; replace x0 := (hW.to3.vec_cell x0).1; replace x1 := (hW.to3.vec_cell x1).1; replace x2 := (hW.to3.vec_cell x2).1; replace x3 := (hW.to3.vec_cell x3).1; replace x4 := (hW.to3.vec_cell x4).1; replace x5 := (hW.to3.vec_cell x5).1; replace x6 := (hW.to3.vec_cell x6).1; replace x7 := (hW.to3.vec_cell x7).1; replace x8 := (hW.to3.vec_cell x8).1; replace x9 := (hW.to3.vec_cell x9).1; replace hW := Lib.hid hW; go_simp; try rfl
                  case z36 =>
                  simp only [Act.put, List.setIfInBounds_toArray, List.set_cons_succ, List.set_cons_zero, List.getElem_toArray, List.getElem_cons_zero, List.getElem_cons_succ]
                  refine hl_take ?v37 rfl (by kernel_rfl) ?y37 ?z37
                  case y37 => intro W hW; skip; replace hW := Lib.hid hW; go_simp; try rfl
                  case z37 =>
                  simp only [Act.put, List.setIfInBounds_toArray, List.set_cons_succ, List.set_cons_zero, List.getElem_toArray, List.getElem_cons_zero, List.getElem_cons_succ]
                  refine hl_take ?v38 rfl (by kernel_rfl) ?y38 ?z38
                  case y38 => intro W hW; skip; replace hW := Lib.hid hW; go_simp; try rfl
                  case z38 =>
                  simp only [Act.put, List.setIfInBounds_toArray, List.set_cons_succ, List.set_cons_zero, List.getElem_toArray, List.getElem_cons_zero, List.getElem_cons_succ]
                  refine hl_take ?v39 rfl (by kernel_rfl) ?y39 ?z39
                  case y39 => intro W hW; skip; replace hW := Lib.hid hW; go_simp; try rfl
                  case z39 =>
                  simp only [Act.put, List.setIfInBounds_toArray, List.set_cons_succ, List.set_cons_zero, List.getElem_toArray, List.getElem_cons_zero, List.getElem_cons_succ]
                  refine hl_take ?v40 rfl (by kernel_rfl) ?y40 ?z40
                  case y40 => intro W hW; skip; replace hW := Lib.hid hW; go_simp; try rfl
                  case z40 =>
                  simp only [Act.put, List.setIfInBounds_toArray, List.set_cons_succ, List.set_cons_zero, List.getElem_toArray, List.getElem_cons_zero, List.getElem_cons_succ]
                  refine hl_take ?v41 rfl (by kernel_rfl) ?y41 ?z41
                  case y41 => intro W hW; skip; replace hW := Lib.hid hW; go_simp; try rfl
                  case z41 =>
                  simp only [Act.put, List.setIfInBounds_toArray, List.set_cons_succ, List.set_cons_zero, List.getElem_toArray, List.getElem_cons_zero, List.getElem_cons_succ]
                  refine hl_take ?v42 rfl (by kernel_rfl) ?y42 ?z42
                  case y42 => intro W hW; change Sep W _ at hW; obtain ⟨y0, y1, y2, y3, y4, y5, y6, y7, y8, y9⟩ := sp10 hu.out; replace y0 := (hW.vec_cell y0).1; replace y1 := (hW.vec_cell y1).1; replace y2 := (hW.vec_cell y2).1; replace y3 := (hW.vec_cell y3).1; replace y4 := (hW.vec_cell y4).1; replace y5 := (hW.vec_cell y5).1; replace y6 := (hW.vec_cell y6).1; replace y7 := (hW.vec_cell y7).1; replace y8 := (hW.vec_cell y8).1; replace y9 := (hW.vec_cell y9).1; obtain ⟨x0, x1, x2, x3, x4, x5, x6, x7, x8, x9⟩ := sp10 hs.out; replace x0 := (hW.to3.vec_cell x0).1; replace x1 := (hW.to3.vec_cell x1).1; replace x2 := (hW.to3.vec_cell x2).1; replace x3 := (hW.to3.vec_cell x3).1; replace x4 := (hW.to3.vec_cell x4).1; replace x5 := (hW.to3.vec_cell x5).1; replace x6 := (hW.to3.vec_cell x6).1; replace x7 := (hW.to3.vec_cell x7).1; replace x8 := (hW.to3.vec_cell x8).1; replace x9 := (hW.to3.vec_cell x9).1; replace hW := Lib.hid hW; go_simp; try rfl
                  case z42 =>
                  simp only [Act.put, List.setIfInBounds_toArray, List.set_cons_succ, List.set_cons_zero, List.getElem_toArray, List.getElem_cons_zero, List.getElem_cons_succ]
                  refine hl_take ?v43 rfl (by kernel_rfl) ?y43 ?z43
                  case y43 => intro W hW; skip; replace hW := Lib.hid hW; go_simp; try rfl
                  case z43 =>
                  simp only [Act.put, List.setIfInBounds_toArray, List.set_cons_succ, List.set_cons_zero, List.getElem_toArray, List.getElem_cons_zero, List.getElem_cons_succ]
                  refine hl_take ?v44 rfl (by kernel_rfl) ?y44 ?z44
                  case y44 => intro W hW; skip; replace hW := Lib.hid hW; go_simp; try rfl
                  case z44 =>
                  simp only [Act.put, List.setIfInBounds_toArray, List.set_cons_succ, List.set_cons_zero, List.getElem_toArray, List.getElem_cons_zero, List.getElem_cons_succ]
                  refine hl_take ?v45 rfl (by kernel_rfl) ?y45 ?z45
                  case y45 => intro W hW; skip; replace hW := Lib.hid hW; go_simp; try rfl
                  case z45 =>
                  simp only [Act.put, List.setIfInBounds_toArray, List.set_cons_succ, List.set_cons_zero, List.getElem_toArray, List.getElem_cons_zero, List.getElem_cons_succ]
                  refine hl_done ?_
                  clear hB
                  replace hB := hS
                  clear hS
                  go_wp2_with fail
                  go_roundw
                  case rel => exact ⟨k + 1, q + 1, by omega, by go_num, by go_num, hst2, by omega, hB⟩
                  case measure => simp [intOf]; omega
                · have hthb : (s.thread != t) = true := by simpa using hth
                  have hst2 := hst.out
                  rw [if_neg hth, hthn.out] at hst2
                  replace hst2 := Lib.hid (show thN t (S.take (k + 1)) = q from hst2)
                  clear hst hth
                  go_wp2_with fail
                  go_roundw
                  case rel => exact ⟨k + 1, q, by omega, rfl, by go_num, hst2, by omega, hV⟩
                  case measure => simp [intOf]; omega
              · have hk2 : k = n := by omega
                have hq2 : q = nm := by
                  have h1 := hlM.out
                  have h2 := hthn.out
                  rw [List.take_of_length_le (by rw [hnS.out]; omega)] at h2
                  omega
                subst hq2
                subst hk2
                have i8 : decide (1 < np) = false := decide_eq_false (by omega)
                have i9 : ¬ (np : Int) > 1 := by omega
                clear hthn hkn
                go_wp2_with fail
                refine (HPo.out _ _ (by rw [hno2.out]; exact hV.out.to1.vec_rl)).mono ?_
                rintro e w8 ⟨pa, pc, rfl, q8⟩
                replace hV := Lib.hid (q8.graft hV.out)
                clear q8
                go_wp2_with fail
                go_roundw
                case rel => exact ⟨i + 1, tot + no, putL E t 1, by omega, by go_num, by go_num, htot2, hseen2, Lib.hid hV.out.tail.tail.tail⟩
                case measure => simp [intOf]; omega
        · have hi2 : i = len := by omega
          have ht2 : tot = len := by
            have h1 := htot.out
            rw [List.take_of_length_le (by rw [hn.out]; omega), inTh_all, hn.out] at h1
            exact h1
          subst ht2
          clear hseen htot
          go_wp2_with fail
          go_ret
          exact ⟨by simp, hV.out.to2.gold⟩
    · generalize (walkS l 0 []).2.2 = x2 at *
      generalize (walkS l 0 []).2.1 = x1 at *
      have hx : (x2 != 0) = true := by simpa using hR2
      clear hmm hR2
      go_enter Try.func5, Try.ntmps5
      go_wp2_with fail
      refine (lives_any _).mono ?_
      rintro e w1 ⟨rfl, q⟩
      replace q := Lib.hid q
      go_wp2_with fail
      refine (HC.out _ q.out).mono ?_
      rintro e w2 ⟨rfl, q2⟩
      replace q := Lib.hid (belT q.out q2)
      clear q2
      go_wp2_with fail
      go_ret
      exact ⟨rfl, q.out⟩
  · have i60 : (len : Int) > 60 := by omega
    clear hmm
    go_enter Try.func5, Try.ntmps5
    go_wp2_with fail
    refine (lives_any _).mono ?_
    rintro e w1 ⟨rfl, q⟩
    replace q := Lib.hid q
    go_wp2_with fail
    go_ret
    exact ⟨rfl, q.out⟩
end Go.Proofs.Ytechagciefhpbaa
