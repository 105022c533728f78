/-
  The walk of NameUnder. No condition beside arguments that can be read.
-/
import Derived.Test.YtiaibmabmholaaaDoorNmV
import Derived.Test.YtiaibmabmholaaaDoorHl
namespace Go.Proofs.YtiaibmabmholaaaDoor
open Go.RowKit
theorem box3 (w : World) (a a' b b' c c' : Int) : Sep (((w.alloc (.cells #[Value.int .i64 (a), Value.int .i64 (a')] 23)).alloc (.cells #[Value.int .i64 (b), Value.int .i64 (b')] 23)).alloc (.cells #[Value.int .i64 (c), Value.int .i64 (c')] 23)) [blk (w.heap.size + 1 + 1) 23 #[Value.int .i64 (c), Value.int .i64 (c')], blk (w.heap.size + 1) 23 #[Value.int .i64 (b), Value.int .i64 (b')], blk w.heap.size 23 #[Value.int .i64 (a), Value.int .i64 (a')], old w] := by
  have := (((Sep.start w).alloc #[Value.int .i64 (a), Value.int .i64 (a')] 23).alloc #[Value.int .i64 (b), Value.int .i64 (b')] 23).alloc #[Value.int .i64 (c), Value.int .i64 (c')] 23
  simpa only [World.size_alloc] using this
theorem check_v (t r n : Int) (w : World) (h : n = if lv t r = -1 then 2 else 0) : Calls Tryd.prog 10 #[(.agg #[.int .i64 t, .int .i64 r])] w fun e w' => e = .returned (.int .i64 n) ∧ Below w.heap.size w w' := by
  subst h
  exact check_any t r w
theorem under_v (t r t' r' : Int) (x : Bool) (w : World) (h : undB t r t' r' = x) : Calls Tryd.prog 11 #[(.agg #[.int .i64 t, .int .i64 r]), (.agg #[.int .i64 t', .int .i64 r'])] w fun e w' => e = .returned (.bool x) ∧ Below w.heap.size w w' := by
  subst h
  exact under_any t r t' r' w
theorem level_v (t r n : Int) (w : World) (h : lv t r = n) : Calls Tryd.prog 15 #[(.agg #[.int .i64 t, .int .i64 r])] w fun e w' => e = .returned (.int .i64 n) ∧ Below w.heap.size w w' := by
  subst h
  exact level_any t r w
theorem table_yes (t : Int) (w : World) (h : 0 ≤ t ∧ t < 100) : Calls Tryd.prog 13 #[.int .i64 t] w fun e w' => e = .returned (.tuple #[(.agg #[.int .i64 t, .int .i64 (-1)]), .int .i64 0]) ∧ Below w.heap.size w w' := by
  refine (table_any t w).mono ?_
  rintro e w1 ⟨a, b, c, rfl, hv, b1⟩
  rcases hv with ⟨_, rfl, rfl, rfl⟩ | ⟨h1, _⟩
  · exact ⟨rfl, b1⟩
  · exact absurd (by have := lv_spec t (-1); omega) h1
theorem table_no (t : Int) (w : World) (h : ¬(0 ≤ t ∧ t < 100)) : Calls Tryd.prog 13 #[.int .i64 t] w fun e w' => e = .returned (.tuple #[(.agg #[.int .i64 0, .int .i64 0]), .int .i64 2]) ∧ Below w.heap.size w w' := by
  refine (table_any t w).mono ?_
  rintro e w1 ⟨a, b, c, rfl, hv, b1⟩
  rcases hv with ⟨h1, _⟩ | ⟨_, rfl, rfl, rfl⟩
  · exact absurd h1 (by have := lv_spec t (-1); omega)
  · exact ⟨rfl, b1⟩
theorem record_yes (t r : Int) (w : World) (h : 0 ≤ t ∧ t < 100) (k : 0 ≤ r ∧ r < 100) : Calls Tryd.prog 14 #[.int .i64 t, .int .i64 r] w fun e w' => e = .returned (.tuple #[(.agg #[.int .i64 t, .int .i64 r]), .int .i64 0]) ∧ Below w.heap.size w w' := by
  refine (record_any t r w).mono ?_
  rintro e w1 ⟨a, b, c, rfl, hv, b1⟩
  rcases hv with ⟨_, rfl, rfl, rfl⟩ | ⟨h1, _⟩
  · exact ⟨rfl, b1⟩
  · exact absurd (by have := lv_spec t r; omega) h1
theorem record_no (t r : Int) (w : World) (h : ¬((0 ≤ t ∧ t < 100) ∧ (0 ≤ r ∧ r < 100))) : Calls Tryd.prog 14 #[.int .i64 t, .int .i64 r] w fun e w' => e = .returned (.tuple #[(.agg #[.int .i64 0, .int .i64 0]), .int .i64 2]) ∧ Below w.heap.size w w' := by
  refine (record_any t r w).mono ?_
  rintro e w1 ⟨a, b, c, rfl, hv, b1⟩
  rcases hv with ⟨h1, _⟩ | ⟨_, rfl, rfl, rfl⟩
  · exact absurd h1 (by have := lv_spec t r; omega)
  · exact ⟨rfl, b1⟩
set_option maxHeartbeats 8000000 in
set_option maxRecDepth 100000 in
theorem under_walk (a a' b b' c c' t r : Int) (w : World) : Calls Tryd.prog 3 #[(.agg #[.int .i64 a, .int .i64 a']), (.agg #[.int .i64 b, .int .i64 b']), (.agg #[.int .i64 c, .int .i64 c']), .int .i64 t, .int .i64 r] w fun e w' => e = .returned (.bool true) ∧ Below w.heap.size w w' := by
  have hB := Lib.hid (box3 w a a' b b' c c')
  obtain ⟨n, hn⟩ : ∃ n : Int, Hid (n = if lv a a' = -1 then 2 else 0) := ⟨_, rfl⟩
  have CH := Lib.hid (fun W => check_v a a' n W hn.out)
  go_enter Tryd.func3, Tryd.ntmps3
  go_wp2_with fail
  refine (lives_any _).mono ?_
  rintro e w1 ⟨rfl, b1⟩
  replace hB := Lib.hid (hB.out.below b1)
  clear b1
  obtain ⟨_, f0, f1, _⟩ := hB.out.to2.b2
  go_wp2_with fail
  refine (CH.out _).mono ?_
  rintro e w2 ⟨rfl, b2⟩
  replace hB := Lib.hid (hB.out.below b2)
  clear b2 f0 f1 CH
  go_wp2_with fail
  refine held_cut (fun (x : Act) (y : World) => ∃ u11 u12 u13 u14 u15 u16 u17 u18 u19 u20 u21 u22 u23 u24 u25 u26 u27 u28 u29 u30 u31 u32 u33 u34 u35 u36 u37 u38 u39 u40 u41 u42 u43 u44 u45 u46 u47 u48 u49 u50 u51 u52 u53 u54 u55 u56 u57 u58 u59 u60 u61 u62 u63 u64 : Value, x = { tmps := #[(.agg #[.int .i64 a, .int .i64 a']), (.agg #[.int .i64 b, .int .i64 b']), (.agg #[.int .i64 c, .int .i64 c']), .int .i64 t, .int .i64 r, .pointer (some ⟨w.heap.size, 0, none⟩), .pointer (some ⟨w.heap.size + 1, 0, none⟩), .pointer (some ⟨w.heap.size + 1 + 1, 0, none⟩), undef, undef, .bool false, u11, u12, u13, u14, u15, u16, u17, u18, u19, u20, u21, u22, u23, u24, u25, u26, u27, u28, u29, u30, u31, u32, u33, u34, u35, u36, u37, u38, u39, u40, u41, u42, u43, u44, u45, u46, u47, u48, u49, u50, u51, u52, u53, u54, u55, u56, u57, u58, u59, u60, u61, u62, u63, u64, .bool false, undef, undef, undef, undef, undef, undef, undef, undef, undef, undef, undef, undef, undef, undef, undef, undef, undef, undef, undef, undef, undef, undef, undef, undef, undef, undef, undef, undef, undef, undef, undef, undef, undef, undef, undef, undef, undef, undef, undef, undef, undef, undef, undef, undef, undef, undef, undef, undef, undef, undef, undef, undef, undef, undef, undef, undef, undef, undef, undef, undef, undef, undef, undef], defers := [] } ∧ Hid (Sep y [old w])) ?cutA ?cutB
  case cutA =>
    rintro x y ⟨u11, u12, u13, u14, u15, u16, u17, u18, u19, u20, u21, u22, u23, u24, u25, u26, u27, u28, u29, u30, u31, u32, u33, u34, u35, u36, u37, u38, u39, u40, u41, u42, u43, u44, u45, u46, u47, u48, u49, u50, u51, u52, u53, u54, u55, u56, u57, u58, u59, u60, u61, u62, u63, u64, rfl, hS1⟩
    clear hB hn
    by_cases ht : 0 ≤ t ∧ t < 100
    · have TA := Lib.hid (fun W => table_yes t W ht)
      have LN := Lib.hid (fun W => level_v t (-1) 1 W (by have := lv_spec t (-1); omega))
      by_cases hr : 0 ≤ r ∧ r < 100
      · have RE := Lib.hid (fun W => record_yes t r W ht hr)
        have LM := Lib.hid (fun W => level_v t r 2 W (by have := lv_spec t r; omega))
        have UMN := Lib.hid (fun W => under_v t r t (-1) true W (by unfold undB; rw [decide_eq_true_eq]; have := lv_spec t r; omega))
        have UNM := Lib.hid (fun W => under_v t (-1) t r false W (by unfold undB; rw [decide_eq_false_iff_not]; have := lv_spec t (-1); omega))
        obtain ⟨ht1, ht2⟩ := ht
        obtain ⟨hr1, hr2⟩ := hr
        go_wp2_with fail
        refine (TA.out _).mono ?_
        rintro e w4 ⟨rfl, b4⟩
        have hS2 := Lib.hid (((hS1.out).below b4).alloc #[Value.int .i64 (t), Value.int .i64 ((-1))] 23)
        clear b4 hS1
        go_wp2_with fail
        refine (RE.out _).mono ?_
        rintro e w5 ⟨rfl, b5⟩
        have hS := Lib.hid (((hS2.out).below b5).alloc #[Value.int .i64 (t), Value.int .i64 (r)] 23)
        clear b5 hS2
        obtain ⟨_, m0, m1, _⟩ := hS.out.b2
        obtain ⟨_, n0, n1, _⟩ := hS.out.to1.b2
        go_wp2_with fail
        refine (LN.out _).mono ?_
        rintro e w2 ⟨rfl, b2⟩
        replace hS := Lib.hid (hS.out.below b2)
        clear b2
        clear m0 m1 n0 n1
        obtain ⟨_, m0, m1, _⟩ := hS.out.b2
        obtain ⟨_, n0, n1, _⟩ := hS.out.to1.b2
        go_wp2_with fail
        refine (UMN.out _).mono ?_
        rintro e w2 ⟨rfl, b2⟩
        replace hS := Lib.hid (hS.out.below b2)
        clear b2
        clear m0 m1 n0 n1
        obtain ⟨_, m0, m1, _⟩ := hS.out.b2
        obtain ⟨_, n0, n1, _⟩ := hS.out.to1.b2
        go_wp2_with fail
        refine (LM.out _).mono ?_
        rintro e w2 ⟨rfl, b2⟩
        replace hS := Lib.hid (hS.out.below b2)
        clear b2
        clear m0 m1 n0 n1
        obtain ⟨_, m0, m1, _⟩ := hS.out.b2
        obtain ⟨_, n0, n1, _⟩ := hS.out.to1.b2
        go_wp2_with fail
        refine (UNM.out _).mono ?_
        rintro e w2 ⟨rfl, b2⟩
        replace hS := Lib.hid (hS.out.below b2)
        clear b2
        go_wp2_with fail
        go_ret
        exact ⟨rfl, hS.out.tail.tail.gold⟩
      · have RE := Lib.hid (fun W => record_no t r W (fun h => hr h.2))
        obtain ⟨ht1, ht2⟩ := ht
        have h3 : r < 0 ∨ (0 ≤ r ∧ ¬ r < 100) := by omega
        clear hr
        rcases h3 with hr1 | ⟨hr1, hr2⟩
        all_goals
          go_wp2_with fail
          refine (TA.out _).mono ?_
          rintro e w4 ⟨rfl, b4⟩
          have hS2 := Lib.hid (((hS1.out).below b4).alloc #[Value.int .i64 (t), Value.int .i64 ((-1))] 23)
          clear b4 hS1
          go_wp2_with fail
          refine (RE.out _).mono ?_
          rintro e w5 ⟨rfl, b5⟩
          have hS := Lib.hid (((hS2.out).below b5).alloc #[Value.int .i64 (0), Value.int .i64 (0)] 23)
          clear b5 hS2
          obtain ⟨_, m0, m1, _⟩ := hS.out.b2
          obtain ⟨_, n0, n1, _⟩ := hS.out.to1.b2
          go_wp2_with fail
          refine (LN.out _).mono ?_
          rintro e w2 ⟨rfl, b2⟩
          replace hS := Lib.hid (hS.out.below b2)
          clear b2
          go_wp2_with fail
          go_ret
          exact ⟨rfl, hS.out.tail.tail.gold⟩
    · have TA := Lib.hid (fun W => table_no t W ht)
      have RE := Lib.hid (fun W => record_no t r W (fun h => ht h.1))
      have h2 : t < 0 ∨ (0 ≤ t ∧ ¬ t < 100) := by omega
      have h3 : r < 0 ∨ (0 ≤ r ∧ r < 100) ∨ (0 ≤ r ∧ ¬ r < 100) := by omega
      clear ht
      rcases h2 with ht1 | ⟨ht1, ht2⟩
      all_goals rcases h3 with hr1 | ⟨hr1, hr2⟩ | ⟨hr1, hr2⟩
      all_goals
        go_wp2_with fail
        refine (TA.out _).mono ?_
        rintro e w4 ⟨rfl, b4⟩
        have hS2 := Lib.hid (((hS1.out).below b4).alloc #[Value.int .i64 (0), Value.int .i64 (0)] 23)
        clear b4 hS1
        go_wp2_with fail
        refine (RE.out _).mono ?_
        rintro e w5 ⟨rfl, b5⟩
        have hS := Lib.hid (((hS2.out).below b5).alloc #[Value.int .i64 (0), Value.int .i64 (0)] 23)
        clear b5 hS2
        go_wp2_with fail
        go_ret
        exact ⟨rfl, hS.out.tail.tail.gold⟩
  case cutB =>
    obtain ⟨ok, hok⟩ : ∃ ok : Bool, Hid (ok = !(lv a a' == -1)) := ⟨_, rfl⟩
    have e0 : (n == 0) = ok := by rw [hn.out, hok.out]; by_cases h : lv a a' = -1 <;> simp [h]
    rw [e0]
    clear e0 hn
    have UAA := Lib.hid (fun W => under_v a a' a a' ok W (by rw [und_self, hok.out]))
    have UAD := Lib.hid (fun W => under_v a a' (-1) (-1) ok W (by rw [und_db, hok.out]))
    clear hok
    have hS := Lib.hid (show (fun W : World => Sep W [blk (w.heap.size + 1 + 1) 23 #[Value.int .i64 (c), Value.int .i64 (c')], blk (w.heap.size + 1) 23 #[Value.int .i64 (b), Value.int .i64 (b')], blk w.heap.size 23 #[Value.int .i64 (a), Value.int .i64 (a')], old w]) _ from hB.out.drew)
    refine hl_begin (fun W : World => Sep W [blk (w.heap.size + 1 + 1) 23 #[Value.int .i64 (c), Value.int .i64 (c')], blk (w.heap.size + 1) 23 #[Value.int .i64 (b), Value.int .i64 (b')], blk w.heap.size 23 #[Value.int .i64 (a), Value.int .i64 (a')], old w]) [(0, true), (1, true), (3, true), (2, false), (4, true), (5, true), (6, true), (9, true), (7, false), (8, false), (10, true), (11, true), (12, true), (13, true), (14, true), (15, false), (16, true), (17, true), (18, true), (19, false), (20, true), (21, true), (22, true), (23, true), (24, false), (25, true), (26, true), (27, true), (28, true), (29, true), (30, true), (31, false), (32, true), (33, true), (34, true), (35, false), (36, true), (37, true), (38, true), (39, true), (40, true), (41, true), (42, true)] (by kernel_rfl) (by kernel_rfl) (by kernel_rfl) rfl (fun _ _ _ _ _ h => h) hS.out ?_
    change HL _ _ _ _ _ _ (World.drew _)
    generalize World.drew _ = wd at *
    refine hl_take ?v1 rfl (by kernel_rfl) ?y1 ?z1
    case y1 => intro W hW; change Sep W _ at hW; have d0 := hW.b2.2.1; have d1 := hW.b2.2.2.1; have c0 := hW.to1.b2.2.1; have c1 := hW.to1.b2.2.2.1; have f0 := hW.to2.b2.2.1; have f1 := hW.to2.b2.2.2.1; replace hW := Lib.hid hW; go_simp; try rfl
    case z1 =>
    simp only [Act.put, List.setIfInBounds_toArray, List.set_cons_succ, List.set_cons_zero, List.getElem_toArray, List.getElem_cons_zero, List.getElem_cons_succ]
    refine hl_take ?v2 rfl (by kernel_rfl) ?y2 ?z2
    case y2 => intro W hW; change Sep W _ at hW; have d0 := hW.b2.2.1; have d1 := hW.b2.2.2.1; have c0 := hW.to1.b2.2.1; have c1 := hW.to1.b2.2.2.1; have f0 := hW.to2.b2.2.1; have f1 := hW.to2.b2.2.2.1; replace hW := Lib.hid hW; go_simp; try rfl
    case z2 =>
    simp only [Act.put, List.setIfInBounds_toArray, List.set_cons_succ, List.set_cons_zero, List.getElem_toArray, List.getElem_cons_zero, List.getElem_cons_succ]
    refine hl_take ?v3 rfl (by kernel_rfl) ?y3 ?z3
    case y3 => intro W hW; skip; replace hW := Lib.hid hW; go_simp; try rfl
    case z3 =>
    simp only [Act.put, List.setIfInBounds_toArray, List.set_cons_succ, List.set_cons_zero, List.getElem_toArray, List.getElem_cons_zero, List.getElem_cons_succ]
    refine hl_one rfl (by kernel_rfl) (fun K hK => ?_)
    go_simp
    refine (UAA.out _).mono ?_
    rintro e w2 ⟨rfl, b2⟩
    replace hS := Lib.hid (hS.out.below b2)
    clear b2
    refine hK.out _ _ hS.out ?_
    clear hK K
    try simp only [Act.put, List.setIfInBounds_toArray, List.set_cons_succ, List.set_cons_zero, List.getElem_toArray, List.getElem_cons_zero, List.getElem_cons_succ]
    refine hl_take ?v4 rfl (by kernel_rfl) ?y4 ?z4
    case y4 => intro W hW; skip; replace hW := Lib.hid hW; go_simp; try rfl
    case z4 =>
    simp only [Act.put, List.setIfInBounds_toArray, List.set_cons_succ, List.set_cons_zero, List.getElem_toArray, List.getElem_cons_zero, List.getElem_cons_succ]
    refine hl_take ?v5 rfl (by kernel_rfl) ?y5 ?z5
    case y5 => intro W hW; skip; replace hW := Lib.hid hW; go_simp; try rfl
    case z5 =>
    simp only [Act.put, List.setIfInBounds_toArray, List.set_cons_succ, List.set_cons_zero, List.getElem_toArray, List.getElem_cons_zero, List.getElem_cons_succ]
    refine hl_take ?v6 rfl (by kernel_rfl) ?y6 ?z6
    case y6 => intro W hW; change Sep W _ at hW; have d0 := hW.b2.2.1; have d1 := hW.b2.2.2.1; have c0 := hW.to1.b2.2.1; have c1 := hW.to1.b2.2.2.1; have f0 := hW.to2.b2.2.1; have f1 := hW.to2.b2.2.2.1; replace hW := Lib.hid hW; go_simp; try rfl
    case z6 =>
    simp only [Act.put, List.setIfInBounds_toArray, List.set_cons_succ, List.set_cons_zero, List.getElem_toArray, List.getElem_cons_zero, List.getElem_cons_succ]
    refine hl_take ?v7 rfl (by kernel_rfl) ?y7 ?z7
    case y7 => intro W hW; skip; replace hW := Lib.hid hW; go_simp; try rfl
    case z7 =>
    simp only [Act.put, List.setIfInBounds_toArray, List.set_cons_succ, List.set_cons_zero, List.getElem_toArray, List.getElem_cons_zero, List.getElem_cons_succ]
    refine hl_one rfl (by kernel_rfl) (fun K hK => ?_)
    go_simp
    refine (db_any _).mono ?_
    rintro e w2 ⟨rfl, b2⟩
    replace hS := Lib.hid (hS.out.below b2)
    clear b2
    refine hK.out _ _ hS.out ?_
    clear hK K
    try simp only [Act.put, List.setIfInBounds_toArray, List.set_cons_succ, List.set_cons_zero, List.getElem_toArray, List.getElem_cons_zero, List.getElem_cons_succ]
    refine hl_one rfl (by kernel_rfl) (fun K hK => ?_)
    go_simp
    refine (UAD.out _).mono ?_
    rintro e w2 ⟨rfl, b2⟩
    replace hS := Lib.hid (hS.out.below b2)
    clear b2
    refine hK.out _ _ hS.out ?_
    clear hK K
    try simp only [Act.put, List.setIfInBounds_toArray, List.set_cons_succ, List.set_cons_zero, List.getElem_toArray, List.getElem_cons_zero, List.getElem_cons_succ]
    refine hl_take ?v8 rfl (by kernel_rfl) ?y8 ?z8
    case y8 => intro W hW; skip; replace hW := Lib.hid hW; go_simp; try rfl
    case z8 =>
    simp only [Act.put, List.setIfInBounds_toArray, List.set_cons_succ, List.set_cons_zero, List.getElem_toArray, List.getElem_cons_zero, List.getElem_cons_succ]
    refine hl_take ?v9 rfl (by kernel_rfl) ?y9 ?z9
    case y9 => intro W hW; skip; replace hW := Lib.hid hW; go_simp; try rfl
    case z9 =>
    simp only [Act.put, List.setIfInBounds_toArray, List.set_cons_succ, List.set_cons_zero, List.getElem_toArray, List.getElem_cons_zero, List.getElem_cons_succ]
    refine hl_take ?v10 rfl (by kernel_rfl) ?y10 ?z10
    case y10 => intro W hW; skip; replace hW := Lib.hid hW; go_simp; try rfl
    case z10 =>
    simp only [Act.put, List.setIfInBounds_toArray, List.set_cons_succ, List.set_cons_zero, List.getElem_toArray, List.getElem_cons_zero, List.getElem_cons_succ]
    refine hl_take ?v11 rfl (by kernel_rfl) ?y11 ?z11
    case y11 => intro W hW; change Sep W _ at hW; have d0 := hW.b2.2.1; have d1 := hW.b2.2.2.1; have c0 := hW.to1.b2.2.1; have c1 := hW.to1.b2.2.2.1; have f0 := hW.to2.b2.2.1; have f1 := hW.to2.b2.2.2.1; replace hW := Lib.hid hW; go_simp; try rfl
    case z11 =>
    simp only [Act.put, List.setIfInBounds_toArray, List.set_cons_succ, List.set_cons_zero, List.getElem_toArray, List.getElem_cons_zero, List.getElem_cons_succ]
    refine hl_take ?v12 rfl (by kernel_rfl) ?y12 ?z12
    case y12 => intro W hW; change Sep W _ at hW; have d0 := hW.b2.2.1; have d1 := hW.b2.2.2.1; have c0 := hW.to1.b2.2.1; have c1 := hW.to1.b2.2.2.1; have f0 := hW.to2.b2.2.1; have f1 := hW.to2.b2.2.2.1; replace hW := Lib.hid hW; go_simp; try rfl
    case z12 =>
    simp only [Act.put, List.setIfInBounds_toArray, List.set_cons_succ, List.set_cons_zero, List.getElem_toArray, List.getElem_cons_zero, List.getElem_cons_succ]
    cases ab : undB a a' b b' with
    | false =>
      refine hl_one rfl (by kernel_rfl) (fun K hK => ?_)
      go_simp
      refine (under_v _ _ _ _ false _ ab).mono ?_
      rintro e w2 ⟨rfl, b2⟩
      replace hS := Lib.hid (hS.out.below b2)
      clear b2
      refine hK.out _ _ hS.out ?_
      clear hK K
      try simp only [Act.put, List.setIfInBounds_toArray, List.set_cons_succ, List.set_cons_zero, List.getElem_toArray, List.getElem_cons_zero, List.getElem_cons_succ]
      refine hl_take ?v13 rfl (by kernel_rfl) ?y13 ?z13
      case y13 => intro W hW; skip; replace hW := Lib.hid hW; go_simp; try rfl
      case z13 =>
      simp only [Act.put, List.setIfInBounds_toArray, List.set_cons_succ, List.set_cons_zero, List.getElem_toArray, List.getElem_cons_zero, List.getElem_cons_succ]
      refine hl_skip rfl (by kernel_rfl) ?_
      simp only [Act.put, List.setIfInBounds_toArray, List.set_cons_succ, List.set_cons_zero, List.getElem_toArray, List.getElem_cons_zero, List.getElem_cons_succ]
      refine hl_skip rfl (by kernel_rfl) ?_
      simp only [Act.put, List.setIfInBounds_toArray, List.set_cons_succ, List.set_cons_zero, List.getElem_toArray, List.getElem_cons_zero, List.getElem_cons_succ]
      refine hl_skip1 rfl (by kernel_rfl) ?_
      simp only [Act.put, List.setIfInBounds_toArray, List.set_cons_succ, List.set_cons_zero, List.getElem_toArray, List.getElem_cons_zero, List.getElem_cons_succ]
      refine hl_take ?v14 rfl (by kernel_rfl) ?y14 ?z14
      case y14 => intro W hW; skip; replace hW := Lib.hid hW; go_simp; try rfl
      case z14 =>
      simp only [Act.put, List.setIfInBounds_toArray, List.set_cons_succ, List.set_cons_zero, List.getElem_toArray, List.getElem_cons_zero, List.getElem_cons_succ]
      refine hl_take ?v15 rfl (by kernel_rfl) ?y15 ?z15
      case y15 => intro W hW; skip; replace hW := Lib.hid hW; go_simp; try rfl
      case z15 =>
      simp only [Act.put, List.setIfInBounds_toArray, List.set_cons_succ, List.set_cons_zero, List.getElem_toArray, List.getElem_cons_zero, List.getElem_cons_succ]
      refine hl_skip rfl (by kernel_rfl) ?_
      simp only [Act.put, List.setIfInBounds_toArray, List.set_cons_succ, List.set_cons_zero, List.getElem_toArray, List.getElem_cons_zero, List.getElem_cons_succ]
      refine hl_skip rfl (by kernel_rfl) ?_
      simp only [Act.put, List.setIfInBounds_toArray, List.set_cons_succ, List.set_cons_zero, List.getElem_toArray, List.getElem_cons_zero, List.getElem_cons_succ]
      refine hl_skip1 rfl (by kernel_rfl) ?_
      simp only [Act.put, List.setIfInBounds_toArray, List.set_cons_succ, List.set_cons_zero, List.getElem_toArray, List.getElem_cons_zero, List.getElem_cons_succ]
      refine hl_skip rfl (by kernel_rfl) ?_
      simp only [Act.put, List.setIfInBounds_toArray, List.set_cons_succ, List.set_cons_zero, List.getElem_toArray, List.getElem_cons_zero, List.getElem_cons_succ]
      refine hl_take ?v16 rfl (by kernel_rfl) ?y16 ?z16
      case y16 => intro W hW; skip; replace hW := Lib.hid hW; go_simp; try rfl
      case z16 =>
      simp only [Act.put, List.setIfInBounds_toArray, List.set_cons_succ, List.set_cons_zero, List.getElem_toArray, List.getElem_cons_zero, List.getElem_cons_succ]
      refine hl_take ?v17 rfl (by kernel_rfl) ?y17 ?z17
      case y17 => intro W hW; skip; replace hW := Lib.hid hW; go_simp; try rfl
      case z17 =>
      simp only [Act.put, List.setIfInBounds_toArray, List.set_cons_succ, List.set_cons_zero, List.getElem_toArray, List.getElem_cons_zero, List.getElem_cons_succ]
      refine hl_take ?v18 rfl (by kernel_rfl) ?y18 ?z18
      case y18 => intro W hW; skip; replace hW := Lib.hid hW; go_simp; try rfl
      case z18 =>
      simp only [Act.put, List.setIfInBounds_toArray, List.set_cons_succ, List.set_cons_zero, List.getElem_toArray, List.getElem_cons_zero, List.getElem_cons_succ]
      refine hl_take ?v19 rfl (by kernel_rfl) ?y19 ?z19
      case y19 => intro W hW; change Sep W _ at hW; have d0 := hW.b2.2.1; have d1 := hW.b2.2.2.1; have c0 := hW.to1.b2.2.1; have c1 := hW.to1.b2.2.2.1; have f0 := hW.to2.b2.2.1; have f1 := hW.to2.b2.2.2.1; replace hW := Lib.hid hW; go_simp; try rfl
      case z19 =>
      simp only [Act.put, List.setIfInBounds_toArray, List.set_cons_succ, List.set_cons_zero, List.getElem_toArray, List.getElem_cons_zero, List.getElem_cons_succ]
      refine hl_take ?v20 rfl (by kernel_rfl) ?y20 ?z20
      case y20 => intro W hW; change Sep W _ at hW; have d0 := hW.b2.2.1; have d1 := hW.b2.2.2.1; have c0 := hW.to1.b2.2.1; have c1 := hW.to1.b2.2.2.1; have f0 := hW.to2.b2.2.1; have f1 := hW.to2.b2.2.2.1; replace hW := Lib.hid hW; go_simp; try rfl
      case z20 =>
      simp only [Act.put, List.setIfInBounds_toArray, List.set_cons_succ, List.set_cons_zero, List.getElem_toArray, List.getElem_cons_zero, List.getElem_cons_succ]
      refine hl_one rfl (by kernel_rfl) (fun K hK => ?_)
      go_simp
      refine (under_v _ _ _ _ false _ ab).mono ?_
      rintro e w2 ⟨rfl, b2⟩
      replace hS := Lib.hid (hS.out.below b2)
      clear b2
      refine hK.out _ _ hS.out ?_
      clear hK K
      try simp only [Act.put, List.setIfInBounds_toArray, List.set_cons_succ, List.set_cons_zero, List.getElem_toArray, List.getElem_cons_zero, List.getElem_cons_succ]
      refine hl_take ?v21 rfl (by kernel_rfl) ?y21 ?z21
      case y21 => intro W hW; skip; replace hW := Lib.hid hW; go_simp; try rfl
      case z21 =>
      simp only [Act.put, List.setIfInBounds_toArray, List.set_cons_succ, List.set_cons_zero, List.getElem_toArray, List.getElem_cons_zero, List.getElem_cons_succ]
      refine hl_skip rfl (by kernel_rfl) ?_
      simp only [Act.put, List.setIfInBounds_toArray, List.set_cons_succ, List.set_cons_zero, List.getElem_toArray, List.getElem_cons_zero, List.getElem_cons_succ]
      refine hl_skip rfl (by kernel_rfl) ?_
      simp only [Act.put, List.setIfInBounds_toArray, List.set_cons_succ, List.set_cons_zero, List.getElem_toArray, List.getElem_cons_zero, List.getElem_cons_succ]
      refine hl_skip1 rfl (by kernel_rfl) ?_
      simp only [Act.put, List.setIfInBounds_toArray, List.set_cons_succ, List.set_cons_zero, List.getElem_toArray, List.getElem_cons_zero, List.getElem_cons_succ]
      refine hl_take ?v22 rfl (by kernel_rfl) ?y22 ?z22
      case y22 => intro W hW; skip; replace hW := Lib.hid hW; go_simp; try rfl
      case z22 =>
      simp only [Act.put, List.setIfInBounds_toArray, List.set_cons_succ, List.set_cons_zero, List.getElem_toArray, List.getElem_cons_zero, List.getElem_cons_succ]
      refine hl_take ?v23 rfl (by kernel_rfl) ?y23 ?z23
      case y23 => intro W hW; skip; replace hW := Lib.hid hW; go_simp; try rfl
      case z23 =>
      simp only [Act.put, List.setIfInBounds_toArray, List.set_cons_succ, List.set_cons_zero, List.getElem_toArray, List.getElem_cons_zero, List.getElem_cons_succ]
      refine hl_skip rfl (by kernel_rfl) ?_
      simp only [Act.put, List.setIfInBounds_toArray, List.set_cons_succ, List.set_cons_zero, List.getElem_toArray, List.getElem_cons_zero, List.getElem_cons_succ]
      refine hl_skip rfl (by kernel_rfl) ?_
      simp only [Act.put, List.setIfInBounds_toArray, List.set_cons_succ, List.set_cons_zero, List.getElem_toArray, List.getElem_cons_zero, List.getElem_cons_succ]
      refine hl_skip rfl (by kernel_rfl) ?_
      simp only [Act.put, List.setIfInBounds_toArray, List.set_cons_succ, List.set_cons_zero, List.getElem_toArray, List.getElem_cons_zero, List.getElem_cons_succ]
      refine hl_take ?v24 rfl (by kernel_rfl) ?y24 ?z24
      case y24 => intro W hW; skip; replace hW := Lib.hid hW; go_simp; try rfl
      case z24 =>
      simp only [Act.put, List.setIfInBounds_toArray, List.set_cons_succ, List.set_cons_zero, List.getElem_toArray, List.getElem_cons_zero, List.getElem_cons_succ]
      refine hl_take ?v25 rfl (by kernel_rfl) ?y25 ?z25
      case y25 => intro W hW; skip; replace hW := Lib.hid hW; go_simp; try rfl
      case z25 =>
      simp only [Act.put, List.setIfInBounds_toArray, List.set_cons_succ, List.set_cons_zero, List.getElem_toArray, List.getElem_cons_zero, List.getElem_cons_succ]
      refine hl_done ?_
      exact CutQ.mk ⟨_, _, _, _, _, _, _, _, _, _, _, _, _, _, _, _, _, _, _, _, _, _, _, _, _, _, _, _, _, _, _, _, _, _, _, _, _, _, _, _, _, _, _, _, _, _, _, _, _, _, _, _, _, _, rfl, Lib.hid hS.out.tail.tail.tail⟩
    | true =>
      refine hl_one rfl (by kernel_rfl) (fun K hK => ?_)
      go_simp
      refine (under_v _ _ _ _ true _ ab).mono ?_
      rintro e w2 ⟨rfl, b2⟩
      replace hS := Lib.hid (hS.out.below b2)
      clear b2
      refine hK.out _ _ hS.out ?_
      clear hK K
      try simp only [Act.put, List.setIfInBounds_toArray, List.set_cons_succ, List.set_cons_zero, List.getElem_toArray, List.getElem_cons_zero, List.getElem_cons_succ]
      refine hl_take ?v26 rfl (by kernel_rfl) ?y26 ?z26
      case y26 => intro W hW; skip; replace hW := Lib.hid hW; go_simp; try rfl
      case z26 =>
      simp only [Act.put, List.setIfInBounds_toArray, List.set_cons_succ, List.set_cons_zero, List.getElem_toArray, List.getElem_cons_zero, List.getElem_cons_succ]
      refine hl_take ?v27 rfl (by kernel_rfl) ?y27 ?z27
      case y27 => intro W hW; change Sep W _ at hW; have d0 := hW.b2.2.1; have d1 := hW.b2.2.2.1; have c0 := hW.to1.b2.2.1; have c1 := hW.to1.b2.2.2.1; have f0 := hW.to2.b2.2.1; have f1 := hW.to2.b2.2.2.1; replace hW := Lib.hid hW; go_simp; try rfl
      case z27 =>
      simp only [Act.put, List.setIfInBounds_toArray, List.set_cons_succ, List.set_cons_zero, List.getElem_toArray, List.getElem_cons_zero, List.getElem_cons_succ]
      refine hl_take ?v28 rfl (by kernel_rfl) ?y28 ?z28
      case y28 => intro W hW; change Sep W _ at hW; have d0 := hW.b2.2.1; have d1 := hW.b2.2.2.1; have c0 := hW.to1.b2.2.1; have c1 := hW.to1.b2.2.2.1; have f0 := hW.to2.b2.2.1; have f1 := hW.to2.b2.2.2.1; replace hW := Lib.hid hW; go_simp; try rfl
      case z28 =>
      simp only [Act.put, List.setIfInBounds_toArray, List.set_cons_succ, List.set_cons_zero, List.getElem_toArray, List.getElem_cons_zero, List.getElem_cons_succ]
      cases bc : undB b b' c c' with
      | false =>
        refine hl_one rfl (by kernel_rfl) (fun K hK => ?_)
        go_simp
        refine (under_v _ _ _ _ false _ bc).mono ?_
        rintro e w2 ⟨rfl, b2⟩
        replace hS := Lib.hid (hS.out.below b2)
        clear b2
        refine hK.out _ _ hS.out ?_
        clear hK K
        try simp only [Act.put, List.setIfInBounds_toArray, List.set_cons_succ, List.set_cons_zero, List.getElem_toArray, List.getElem_cons_zero, List.getElem_cons_succ]
        refine hl_take ?v29 rfl (by kernel_rfl) ?y29 ?z29
        case y29 => intro W hW; skip; replace hW := Lib.hid hW; go_simp; try rfl
        case z29 =>
        simp only [Act.put, List.setIfInBounds_toArray, List.set_cons_succ, List.set_cons_zero, List.getElem_toArray, List.getElem_cons_zero, List.getElem_cons_succ]
        refine hl_take ?v30 rfl (by kernel_rfl) ?y30 ?z30
        case y30 => intro W hW; skip; replace hW := Lib.hid hW; go_simp; try rfl
        case z30 =>
        simp only [Act.put, List.setIfInBounds_toArray, List.set_cons_succ, List.set_cons_zero, List.getElem_toArray, List.getElem_cons_zero, List.getElem_cons_succ]
        refine hl_skip rfl (by kernel_rfl) ?_
        simp only [Act.put, List.setIfInBounds_toArray, List.set_cons_succ, List.set_cons_zero, List.getElem_toArray, List.getElem_cons_zero, List.getElem_cons_succ]
        refine hl_skip rfl (by kernel_rfl) ?_
        simp only [Act.put, List.setIfInBounds_toArray, List.set_cons_succ, List.set_cons_zero, List.getElem_toArray, List.getElem_cons_zero, List.getElem_cons_succ]
        refine hl_skip1 rfl (by kernel_rfl) ?_
        simp only [Act.put, List.setIfInBounds_toArray, List.set_cons_succ, List.set_cons_zero, List.getElem_toArray, List.getElem_cons_zero, List.getElem_cons_succ]
        refine hl_skip rfl (by kernel_rfl) ?_
        simp only [Act.put, List.setIfInBounds_toArray, List.set_cons_succ, List.set_cons_zero, List.getElem_toArray, List.getElem_cons_zero, List.getElem_cons_succ]
        refine hl_take ?v31 rfl (by kernel_rfl) ?y31 ?z31
        case y31 => intro W hW; skip; replace hW := Lib.hid hW; go_simp; try rfl
        case z31 =>
        simp only [Act.put, List.setIfInBounds_toArray, List.set_cons_succ, List.set_cons_zero, List.getElem_toArray, List.getElem_cons_zero, List.getElem_cons_succ]
        refine hl_take ?v32 rfl (by kernel_rfl) ?y32 ?z32
        case y32 => intro W hW; skip; replace hW := Lib.hid hW; go_simp; try rfl
        case z32 =>
        simp only [Act.put, List.setIfInBounds_toArray, List.set_cons_succ, List.set_cons_zero, List.getElem_toArray, List.getElem_cons_zero, List.getElem_cons_succ]
        refine hl_take ?v33 rfl (by kernel_rfl) ?y33 ?z33
        case y33 => intro W hW; skip; replace hW := Lib.hid hW; go_simp; try rfl
        case z33 =>
        simp only [Act.put, List.setIfInBounds_toArray, List.set_cons_succ, List.set_cons_zero, List.getElem_toArray, List.getElem_cons_zero, List.getElem_cons_succ]
        refine hl_take ?v34 rfl (by kernel_rfl) ?y34 ?z34
        case y34 => intro W hW; change Sep W _ at hW; have d0 := hW.b2.2.1; have d1 := hW.b2.2.2.1; have c0 := hW.to1.b2.2.1; have c1 := hW.to1.b2.2.2.1; have f0 := hW.to2.b2.2.1; have f1 := hW.to2.b2.2.2.1; replace hW := Lib.hid hW; go_simp; try rfl
        case z34 =>
        simp only [Act.put, List.setIfInBounds_toArray, List.set_cons_succ, List.set_cons_zero, List.getElem_toArray, List.getElem_cons_zero, List.getElem_cons_succ]
        refine hl_take ?v35 rfl (by kernel_rfl) ?y35 ?z35
        case y35 => intro W hW; change Sep W _ at hW; have d0 := hW.b2.2.1; have d1 := hW.b2.2.2.1; have c0 := hW.to1.b2.2.1; have c1 := hW.to1.b2.2.2.1; have f0 := hW.to2.b2.2.1; have f1 := hW.to2.b2.2.2.1; replace hW := Lib.hid hW; go_simp; try rfl
        case z35 =>
        simp only [Act.put, List.setIfInBounds_toArray, List.set_cons_succ, List.set_cons_zero, List.getElem_toArray, List.getElem_cons_zero, List.getElem_cons_succ]
        refine hl_one rfl (by kernel_rfl) (fun K hK => ?_)
        go_simp
        refine (under_v _ _ _ _ true _ ab).mono ?_
        rintro e w2 ⟨rfl, b2⟩
        replace hS := Lib.hid (hS.out.below b2)
        clear b2
        refine hK.out _ _ hS.out ?_
        clear hK K
        try simp only [Act.put, List.setIfInBounds_toArray, List.set_cons_succ, List.set_cons_zero, List.getElem_toArray, List.getElem_cons_zero, List.getElem_cons_succ]
        refine hl_take ?v36 rfl (by kernel_rfl) ?y36 ?z36
        case y36 => intro W hW; skip; replace hW := Lib.hid hW; go_simp; try rfl
        case z36 =>
        simp only [Act.put, List.setIfInBounds_toArray, List.set_cons_succ, List.set_cons_zero, List.getElem_toArray, List.getElem_cons_zero, List.getElem_cons_succ]
        refine hl_take ?v37 rfl (by kernel_rfl) ?y37 ?z37
        case y37 => intro W hW; change Sep W _ at hW; have d0 := hW.b2.2.1; have d1 := hW.b2.2.2.1; have c0 := hW.to1.b2.2.1; have c1 := hW.to1.b2.2.2.1; have f0 := hW.to2.b2.2.1; have f1 := hW.to2.b2.2.2.1; replace hW := Lib.hid hW; go_simp; try rfl
        case z37 =>
        simp only [Act.put, List.setIfInBounds_toArray, List.set_cons_succ, List.set_cons_zero, List.getElem_toArray, List.getElem_cons_zero, List.getElem_cons_succ]
        refine hl_take ?v38 rfl (by kernel_rfl) ?y38 ?z38
        case y38 => intro W hW; change Sep W _ at hW; have d0 := hW.b2.2.1; have d1 := hW.b2.2.2.1; have c0 := hW.to1.b2.2.1; have c1 := hW.to1.b2.2.2.1; have f0 := hW.to2.b2.2.1; have f1 := hW.to2.b2.2.2.1; replace hW := Lib.hid hW; go_simp; try rfl
        case z38 =>
        simp only [Act.put, List.setIfInBounds_toArray, List.set_cons_succ, List.set_cons_zero, List.getElem_toArray, List.getElem_cons_zero, List.getElem_cons_succ]
        cases ba : undB b b' a a' with
        | false =>
          refine hl_one rfl (by kernel_rfl) (fun K hK => ?_)
          go_simp
          refine (under_v _ _ _ _ false _ ba).mono ?_
          rintro e w2 ⟨rfl, b2⟩
          replace hS := Lib.hid (hS.out.below b2)
          clear b2
          refine hK.out _ _ hS.out ?_
          clear hK K
          try simp only [Act.put, List.setIfInBounds_toArray, List.set_cons_succ, List.set_cons_zero, List.getElem_toArray, List.getElem_cons_zero, List.getElem_cons_succ]
          refine hl_take ?v39 rfl (by kernel_rfl) ?y39 ?z39
          case y39 => intro W hW; skip; replace hW := Lib.hid hW; go_simp; try rfl
          case z39 =>
          simp only [Act.put, List.setIfInBounds_toArray, List.set_cons_succ, List.set_cons_zero, List.getElem_toArray, List.getElem_cons_zero, List.getElem_cons_succ]
          refine hl_take ?v40 rfl (by kernel_rfl) ?y40 ?z40
          case y40 => intro W hW; skip; replace hW := Lib.hid hW; go_simp; try rfl
          case z40 =>
          simp only [Act.put, List.setIfInBounds_toArray, List.set_cons_succ, List.set_cons_zero, List.getElem_toArray, List.getElem_cons_zero, List.getElem_cons_succ]
          refine hl_skip rfl (by kernel_rfl) ?_
          simp only [Act.put, List.setIfInBounds_toArray, List.set_cons_succ, List.set_cons_zero, List.getElem_toArray, List.getElem_cons_zero, List.getElem_cons_succ]
          refine hl_skip rfl (by kernel_rfl) ?_
          simp only [Act.put, List.setIfInBounds_toArray, List.set_cons_succ, List.set_cons_zero, List.getElem_toArray, List.getElem_cons_zero, List.getElem_cons_succ]
          refine hl_skip rfl (by kernel_rfl) ?_
          simp only [Act.put, List.setIfInBounds_toArray, List.set_cons_succ, List.set_cons_zero, List.getElem_toArray, List.getElem_cons_zero, List.getElem_cons_succ]
          refine hl_take ?v41 rfl (by kernel_rfl) ?y41 ?z41
          case y41 => intro W hW; skip; replace hW := Lib.hid hW; go_simp; try rfl
          case z41 =>
          simp only [Act.put, List.setIfInBounds_toArray, List.set_cons_succ, List.set_cons_zero, List.getElem_toArray, List.getElem_cons_zero, List.getElem_cons_succ]
          refine hl_take ?v42 rfl (by kernel_rfl) ?y42 ?z42
          case y42 => intro W hW; skip; replace hW := Lib.hid hW; go_simp; try rfl
          case z42 =>
          simp only [Act.put, List.setIfInBounds_toArray, List.set_cons_succ, List.set_cons_zero, List.getElem_toArray, List.getElem_cons_zero, List.getElem_cons_succ]
          refine hl_done ?_
          exact CutQ.mk ⟨_, _, _, _, _, _, _, _, _, _, _, _, _, _, _, _, _, _, _, _, _, _, _, _, _, _, _, _, _, _, _, _, _, _, _, _, _, _, _, _, _, _, _, _, _, _, _, _, _, _, _, _, _, _, rfl, Lib.hid hS.out.tail.tail.tail⟩
        | true =>
          have en : nmB a a' b b' = true := nmB_true (und_anti ab ba)
          have hq := fun a b c d => run_neq_nm a b c d
          refine hl_one rfl (by kernel_rfl) (fun K hK => ?_)
          go_simp
          refine (under_v _ _ _ _ true _ ba).mono ?_
          rintro e w2 ⟨rfl, b2⟩
          replace hS := Lib.hid (hS.out.below b2)
          clear b2
          refine hK.out _ _ hS.out ?_
          clear hK K
          try simp only [Act.put, List.setIfInBounds_toArray, List.set_cons_succ, List.set_cons_zero, List.getElem_toArray, List.getElem_cons_zero, List.getElem_cons_succ]
          refine hl_take ?v43 rfl (by kernel_rfl) ?y43 ?z43
          case y43 => intro W hW; skip; replace hW := Lib.hid hW; go_simp; try rfl
          case z43 =>
          simp only [Act.put, List.setIfInBounds_toArray, List.set_cons_succ, List.set_cons_zero, List.getElem_toArray, List.getElem_cons_zero, List.getElem_cons_succ]
          refine hl_take ?v44 rfl (by kernel_rfl) ?y44 ?z44
          case y44 => intro W hW; skip; replace hW := Lib.hid hW; go_simp; try rfl
          case z44 =>
          simp only [Act.put, List.setIfInBounds_toArray, List.set_cons_succ, List.set_cons_zero, List.getElem_toArray, List.getElem_cons_zero, List.getElem_cons_succ]
          refine hl_take ?v45 rfl (by kernel_rfl) ?y45 ?z45
          case y45 => intro W hW; change Sep W _ at hW; have d0 := hW.b2.2.1; have d1 := hW.b2.2.2.1; have c0 := hW.to1.b2.2.1; have c1 := hW.to1.b2.2.2.1; have f0 := hW.to2.b2.2.1; have f1 := hW.to2.b2.2.2.1; replace hW := Lib.hid hW; go_simp; try rfl
          case z45 =>
          simp only [Act.put, List.setIfInBounds_toArray, List.set_cons_succ, List.set_cons_zero, List.getElem_toArray, List.getElem_cons_zero, List.getElem_cons_succ]
          refine hl_take ?v46 rfl (by kernel_rfl) ?y46 ?z46
          case y46 => intro W hW; change Sep W _ at hW; have d0 := hW.b2.2.1; have d1 := hW.b2.2.2.1; have c0 := hW.to1.b2.2.1; have c1 := hW.to1.b2.2.2.1; have f0 := hW.to2.b2.2.1; have f1 := hW.to2.b2.2.2.1; replace hW := Lib.hid hW; go_simp; try rfl
          case z46 =>
          simp only [Act.put, List.setIfInBounds_toArray, List.set_cons_succ, List.set_cons_zero, List.getElem_toArray, List.getElem_cons_zero, List.getElem_cons_succ]
          refine hl_take ?v47 rfl (by kernel_rfl) ?y47 ?z47
          case y47 => intro W hW; skip; replace hW := Lib.hid hW; go_simp; try rfl
          case z47 =>
          simp only [Act.put, List.setIfInBounds_toArray, List.set_cons_succ, List.set_cons_zero, List.getElem_toArray, List.getElem_cons_zero, List.getElem_cons_succ]
          refine hl_take ?v48 rfl (by kernel_rfl) ?y48 ?z48
          case y48 => intro W hW; skip; replace hW := Lib.hid hW; go_simp; try rfl
          case z48 =>
          simp only [Act.put, List.setIfInBounds_toArray, List.set_cons_succ, List.set_cons_zero, List.getElem_toArray, List.getElem_cons_zero, List.getElem_cons_succ]
          refine hl_take ?v49 rfl (by kernel_rfl) ?y49 ?z49
          case y49 => intro W hW; skip; replace hW := Lib.hid hW; go_simp; try rfl
          case z49 =>
          simp only [Act.put, List.setIfInBounds_toArray, List.set_cons_succ, List.set_cons_zero, List.getElem_toArray, List.getElem_cons_zero, List.getElem_cons_succ]
          refine hl_done ?_
          exact CutQ.mk ⟨_, _, _, _, _, _, _, _, _, _, _, _, _, _, _, _, _, _, _, _, _, _, _, _, _, _, _, _, _, _, _, _, _, _, _, _, _, _, _, _, _, _, _, _, _, _, _, _, _, _, _, _, _, _, rfl, Lib.hid hS.out.tail.tail.tail⟩
      | true =>
        have UAC := Lib.hid (fun W => under_v a a' c c' true W (und_trans ab bc))
        refine hl_one rfl (by kernel_rfl) (fun K hK => ?_)
        go_simp
        refine (under_v _ _ _ _ true _ bc).mono ?_
        rintro e w2 ⟨rfl, b2⟩
        replace hS := Lib.hid (hS.out.below b2)
        clear b2
        refine hK.out _ _ hS.out ?_
        clear hK K
        try simp only [Act.put, List.setIfInBounds_toArray, List.set_cons_succ, List.set_cons_zero, List.getElem_toArray, List.getElem_cons_zero, List.getElem_cons_succ]
        refine hl_take ?v50 rfl (by kernel_rfl) ?y50 ?z50
        case y50 => intro W hW; skip; replace hW := Lib.hid hW; go_simp; try rfl
        case z50 =>
        simp only [Act.put, List.setIfInBounds_toArray, List.set_cons_succ, List.set_cons_zero, List.getElem_toArray, List.getElem_cons_zero, List.getElem_cons_succ]
        refine hl_take ?v51 rfl (by kernel_rfl) ?y51 ?z51
        case y51 => intro W hW; skip; replace hW := Lib.hid hW; go_simp; try rfl
        case z51 =>
        simp only [Act.put, List.setIfInBounds_toArray, List.set_cons_succ, List.set_cons_zero, List.getElem_toArray, List.getElem_cons_zero, List.getElem_cons_succ]
        refine hl_take ?v52 rfl (by kernel_rfl) ?y52 ?z52
        case y52 => intro W hW; change Sep W _ at hW; have d0 := hW.b2.2.1; have d1 := hW.b2.2.2.1; have c0 := hW.to1.b2.2.1; have c1 := hW.to1.b2.2.2.1; have f0 := hW.to2.b2.2.1; have f1 := hW.to2.b2.2.2.1; replace hW := Lib.hid hW; go_simp; try rfl
        case z52 =>
        simp only [Act.put, List.setIfInBounds_toArray, List.set_cons_succ, List.set_cons_zero, List.getElem_toArray, List.getElem_cons_zero, List.getElem_cons_succ]
        refine hl_take ?v53 rfl (by kernel_rfl) ?y53 ?z53
        case y53 => intro W hW; change Sep W _ at hW; have d0 := hW.b2.2.1; have d1 := hW.b2.2.2.1; have c0 := hW.to1.b2.2.1; have c1 := hW.to1.b2.2.2.1; have f0 := hW.to2.b2.2.1; have f1 := hW.to2.b2.2.2.1; replace hW := Lib.hid hW; go_simp; try rfl
        case z53 =>
        simp only [Act.put, List.setIfInBounds_toArray, List.set_cons_succ, List.set_cons_zero, List.getElem_toArray, List.getElem_cons_zero, List.getElem_cons_succ]
        refine hl_one rfl (by kernel_rfl) (fun K hK => ?_)
        go_simp
        refine (UAC.out _).mono ?_
        rintro e w2 ⟨rfl, b2⟩
        replace hS := Lib.hid (hS.out.below b2)
        clear b2
        refine hK.out _ _ hS.out ?_
        clear hK K
        try simp only [Act.put, List.setIfInBounds_toArray, List.set_cons_succ, List.set_cons_zero, List.getElem_toArray, List.getElem_cons_zero, List.getElem_cons_succ]
        refine hl_take ?v54 rfl (by kernel_rfl) ?y54 ?z54
        case y54 => intro W hW; skip; replace hW := Lib.hid hW; go_simp; try rfl
        case z54 =>
        simp only [Act.put, List.setIfInBounds_toArray, List.set_cons_succ, List.set_cons_zero, List.getElem_toArray, List.getElem_cons_zero, List.getElem_cons_succ]
        refine hl_take ?v55 rfl (by kernel_rfl) ?y55 ?z55
        case y55 => intro W hW; skip; replace hW := Lib.hid hW; go_simp; try rfl
        case z55 =>
        simp only [Act.put, List.setIfInBounds_toArray, List.set_cons_succ, List.set_cons_zero, List.getElem_toArray, List.getElem_cons_zero, List.getElem_cons_succ]
        refine hl_take ?v56 rfl (by kernel_rfl) ?y56 ?z56
        case y56 => intro W hW; skip; replace hW := Lib.hid hW; go_simp; try rfl
        case z56 =>
        simp only [Act.put, List.setIfInBounds_toArray, List.set_cons_succ, List.set_cons_zero, List.getElem_toArray, List.getElem_cons_zero, List.getElem_cons_succ]
        refine hl_take ?v57 rfl (by kernel_rfl) ?y57 ?z57
        case y57 => intro W hW; skip; replace hW := Lib.hid hW; go_simp; try rfl
        case z57 =>
        simp only [Act.put, List.setIfInBounds_toArray, List.set_cons_succ, List.set_cons_zero, List.getElem_toArray, List.getElem_cons_zero, List.getElem_cons_succ]
        refine hl_take ?v58 rfl (by kernel_rfl) ?y58 ?z58
        case y58 => intro W hW; change Sep W _ at hW; have d0 := hW.b2.2.1; have d1 := hW.b2.2.2.1; have c0 := hW.to1.b2.2.1; have c1 := hW.to1.b2.2.2.1; have f0 := hW.to2.b2.2.1; have f1 := hW.to2.b2.2.2.1; replace hW := Lib.hid hW; go_simp; try rfl
        case z58 =>
        simp only [Act.put, List.setIfInBounds_toArray, List.set_cons_succ, List.set_cons_zero, List.getElem_toArray, List.getElem_cons_zero, List.getElem_cons_succ]
        refine hl_take ?v59 rfl (by kernel_rfl) ?y59 ?z59
        case y59 => intro W hW; change Sep W _ at hW; have d0 := hW.b2.2.1; have d1 := hW.b2.2.2.1; have c0 := hW.to1.b2.2.1; have c1 := hW.to1.b2.2.2.1; have f0 := hW.to2.b2.2.1; have f1 := hW.to2.b2.2.2.1; replace hW := Lib.hid hW; go_simp; try rfl
        case z59 =>
        simp only [Act.put, List.setIfInBounds_toArray, List.set_cons_succ, List.set_cons_zero, List.getElem_toArray, List.getElem_cons_zero, List.getElem_cons_succ]
        refine hl_one rfl (by kernel_rfl) (fun K hK => ?_)
        go_simp
        refine (under_v _ _ _ _ true _ ab).mono ?_
        rintro e w2 ⟨rfl, b2⟩
        replace hS := Lib.hid (hS.out.below b2)
        clear b2
        refine hK.out _ _ hS.out ?_
        clear hK K
        try simp only [Act.put, List.setIfInBounds_toArray, List.set_cons_succ, List.set_cons_zero, List.getElem_toArray, List.getElem_cons_zero, List.getElem_cons_succ]
        refine hl_take ?v60 rfl (by kernel_rfl) ?y60 ?z60
        case y60 => intro W hW; skip; replace hW := Lib.hid hW; go_simp; try rfl
        case z60 =>
        simp only [Act.put, List.setIfInBounds_toArray, List.set_cons_succ, List.set_cons_zero, List.getElem_toArray, List.getElem_cons_zero, List.getElem_cons_succ]
        refine hl_take ?v61 rfl (by kernel_rfl) ?y61 ?z61
        case y61 => intro W hW; change Sep W _ at hW; have d0 := hW.b2.2.1; have d1 := hW.b2.2.2.1; have c0 := hW.to1.b2.2.1; have c1 := hW.to1.b2.2.2.1; have f0 := hW.to2.b2.2.1; have f1 := hW.to2.b2.2.2.1; replace hW := Lib.hid hW; go_simp; try rfl
        case z61 =>
        simp only [Act.put, List.setIfInBounds_toArray, List.set_cons_succ, List.set_cons_zero, List.getElem_toArray, List.getElem_cons_zero, List.getElem_cons_succ]
        refine hl_take ?v62 rfl (by kernel_rfl) ?y62 ?z62
        case y62 => intro W hW; change Sep W _ at hW; have d0 := hW.b2.2.1; have d1 := hW.b2.2.2.1; have c0 := hW.to1.b2.2.1; have c1 := hW.to1.b2.2.2.1; have f0 := hW.to2.b2.2.1; have f1 := hW.to2.b2.2.2.1; replace hW := Lib.hid hW; go_simp; try rfl
        case z62 =>
        simp only [Act.put, List.setIfInBounds_toArray, List.set_cons_succ, List.set_cons_zero, List.getElem_toArray, List.getElem_cons_zero, List.getElem_cons_succ]
        cases ba : undB b b' a a' with
        | false =>
          refine hl_one rfl (by kernel_rfl) (fun K hK => ?_)
          go_simp
          refine (under_v _ _ _ _ false _ ba).mono ?_
          rintro e w2 ⟨rfl, b2⟩
          replace hS := Lib.hid (hS.out.below b2)
          clear b2
          refine hK.out _ _ hS.out ?_
          clear hK K
          try simp only [Act.put, List.setIfInBounds_toArray, List.set_cons_succ, List.set_cons_zero, List.getElem_toArray, List.getElem_cons_zero, List.getElem_cons_succ]
          refine hl_take ?v63 rfl (by kernel_rfl) ?y63 ?z63
          case y63 => intro W hW; skip; replace hW := Lib.hid hW; go_simp; try rfl
          case z63 =>
          simp only [Act.put, List.setIfInBounds_toArray, List.set_cons_succ, List.set_cons_zero, List.getElem_toArray, List.getElem_cons_zero, List.getElem_cons_succ]
          refine hl_take ?v64 rfl (by kernel_rfl) ?y64 ?z64
          case y64 => intro W hW; skip; replace hW := Lib.hid hW; go_simp; try rfl
          case z64 =>
          simp only [Act.put, List.setIfInBounds_toArray, List.set_cons_succ, List.set_cons_zero, List.getElem_toArray, List.getElem_cons_zero, List.getElem_cons_succ]
          refine hl_skip rfl (by kernel_rfl) ?_
          simp only [Act.put, List.setIfInBounds_toArray, List.set_cons_succ, List.set_cons_zero, List.getElem_toArray, List.getElem_cons_zero, List.getElem_cons_succ]
          refine hl_skip rfl (by kernel_rfl) ?_
          simp only [Act.put, List.setIfInBounds_toArray, List.set_cons_succ, List.set_cons_zero, List.getElem_toArray, List.getElem_cons_zero, List.getElem_cons_succ]
          refine hl_skip rfl (by kernel_rfl) ?_
          simp only [Act.put, List.setIfInBounds_toArray, List.set_cons_succ, List.set_cons_zero, List.getElem_toArray, List.getElem_cons_zero, List.getElem_cons_succ]
          refine hl_take ?v65 rfl (by kernel_rfl) ?y65 ?z65
          case y65 => intro W hW; skip; replace hW := Lib.hid hW; go_simp; try rfl
          case z65 =>
          simp only [Act.put, List.setIfInBounds_toArray, List.set_cons_succ, List.set_cons_zero, List.getElem_toArray, List.getElem_cons_zero, List.getElem_cons_succ]
          refine hl_take ?v66 rfl (by kernel_rfl) ?y66 ?z66
          case y66 => intro W hW; skip; replace hW := Lib.hid hW; go_simp; try rfl
          case z66 =>
          simp only [Act.put, List.setIfInBounds_toArray, List.set_cons_succ, List.set_cons_zero, List.getElem_toArray, List.getElem_cons_zero, List.getElem_cons_succ]
          refine hl_done ?_
          exact CutQ.mk ⟨_, _, _, _, _, _, _, _, _, _, _, _, _, _, _, _, _, _, _, _, _, _, _, _, _, _, _, _, _, _, _, _, _, _, _, _, _, _, _, _, _, _, _, _, _, _, _, _, _, _, _, _, _, _, rfl, Lib.hid hS.out.tail.tail.tail⟩
        | true =>
          have en : nmB a a' b b' = true := nmB_true (und_anti ab ba)
          have hq := fun a b c d => run_neq_nm a b c d
          refine hl_one rfl (by kernel_rfl) (fun K hK => ?_)
          go_simp
          refine (under_v _ _ _ _ true _ ba).mono ?_
          rintro e w2 ⟨rfl, b2⟩
          replace hS := Lib.hid (hS.out.below b2)
          clear b2
          refine hK.out _ _ hS.out ?_
          clear hK K
          try simp only [Act.put, List.setIfInBounds_toArray, List.set_cons_succ, List.set_cons_zero, List.getElem_toArray, List.getElem_cons_zero, List.getElem_cons_succ]
          refine hl_take ?v67 rfl (by kernel_rfl) ?y67 ?z67
          case y67 => intro W hW; skip; replace hW := Lib.hid hW; go_simp; try rfl
          case z67 =>
          simp only [Act.put, List.setIfInBounds_toArray, List.set_cons_succ, List.set_cons_zero, List.getElem_toArray, List.getElem_cons_zero, List.getElem_cons_succ]
          refine hl_take ?v68 rfl (by kernel_rfl) ?y68 ?z68
          case y68 => intro W hW; skip; replace hW := Lib.hid hW; go_simp; try rfl
          case z68 =>
          simp only [Act.put, List.setIfInBounds_toArray, List.set_cons_succ, List.set_cons_zero, List.getElem_toArray, List.getElem_cons_zero, List.getElem_cons_succ]
          refine hl_take ?v69 rfl (by kernel_rfl) ?y69 ?z69
          case y69 => intro W hW; change Sep W _ at hW; have d0 := hW.b2.2.1; have d1 := hW.b2.2.2.1; have c0 := hW.to1.b2.2.1; have c1 := hW.to1.b2.2.2.1; have f0 := hW.to2.b2.2.1; have f1 := hW.to2.b2.2.2.1; replace hW := Lib.hid hW; go_simp; try rfl
          case z69 =>
          simp only [Act.put, List.setIfInBounds_toArray, List.set_cons_succ, List.set_cons_zero, List.getElem_toArray, List.getElem_cons_zero, List.getElem_cons_succ]
          refine hl_take ?v70 rfl (by kernel_rfl) ?y70 ?z70
          case y70 => intro W hW; change Sep W _ at hW; have d0 := hW.b2.2.1; have d1 := hW.b2.2.2.1; have c0 := hW.to1.b2.2.1; have c1 := hW.to1.b2.2.2.1; have f0 := hW.to2.b2.2.1; have f1 := hW.to2.b2.2.2.1; replace hW := Lib.hid hW; go_simp; try rfl
          case z70 =>
          simp only [Act.put, List.setIfInBounds_toArray, List.set_cons_succ, List.set_cons_zero, List.getElem_toArray, List.getElem_cons_zero, List.getElem_cons_succ]
          refine hl_take ?v71 rfl (by kernel_rfl) ?y71 ?z71
          case y71 => intro W hW; skip; replace hW := Lib.hid hW; go_simp; try rfl
          case z71 =>
          simp only [Act.put, List.setIfInBounds_toArray, List.set_cons_succ, List.set_cons_zero, List.getElem_toArray, List.getElem_cons_zero, List.getElem_cons_succ]
          refine hl_take ?v72 rfl (by kernel_rfl) ?y72 ?z72
          case y72 => intro W hW; skip; replace hW := Lib.hid hW; go_simp; try rfl
          case z72 =>
          simp only [Act.put, List.setIfInBounds_toArray, List.set_cons_succ, List.set_cons_zero, List.getElem_toArray, List.getElem_cons_zero, List.getElem_cons_succ]
          refine hl_take ?v73 rfl (by kernel_rfl) ?y73 ?z73
          case y73 => intro W hW; skip; replace hW := Lib.hid hW; go_simp; try rfl
          case z73 =>
          simp only [Act.put, List.setIfInBounds_toArray, List.set_cons_succ, List.set_cons_zero, List.getElem_toArray, List.getElem_cons_zero, List.getElem_cons_succ]
          refine hl_done ?_
          exact CutQ.mk ⟨_, _, _, _, _, _, _, _, _, _, _, _, _, _, _, _, _, _, _, _, _, _, _, _, _, _, _, _, _, _, _, _, _, _, _, _, _, _, _, _, _, _, _, _, _, _, _, _, _, _, _, _, _, _, rfl, Lib.hid hS.out.tail.tail.tail⟩
end Go.Proofs.YtiaibmabmholaaaDoor
