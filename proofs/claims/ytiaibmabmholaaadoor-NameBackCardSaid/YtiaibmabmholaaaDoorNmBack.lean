/-
  The walk of NameBack. Condition: RdW (the variables that Read's callees look at).
-/
import Derived.Test.YtiaibmabmholaaaDoorNmRd3
import Derived.Test.YtiaibmabmholaaaDoorHl
namespace Go.Proofs.YtiaibmabmholaaaDoor
open Go.RowKit
theorem check_b (t r n : Int) (w : World) (h : n = if lv t r = -1 then 2 else 0) : Calls Tryd.prog 10 #[(.agg #[.int .i64 t, .int .i64 r])] w fun e w' => e = .returned (.int .i64 n) ∧ Below w.heap.size w w' := by
  subst h
  exact check_any t r w
theorem text_b (t r : Int) (s : ByteArray) (w : World) (h : txt t r = s) : Calls Tryd.prog 21 #[(.agg #[.int .i64 t, .int .i64 r])] w fun e w' => e = .returned (.string s) ∧ Below w.heap.size w w' := by
  subst h
  exact text_any t r w
theorem read_good (t r : Int) (h : lv t r ≠ -1) (w : World) (hR : RdW w) (h9 : 9 < w.heap.size) : Calls Tryd.prog 20 #[.string (txt t r)] w fun e w' => e = .returned (.tuple #[(.agg #[.int .i64 t, .int .i64 r]), .int .i64 0]) ∧ Below w.heap.size w w' := by
  have hz : (txt t r).size ≤ 1000 := by
    unfold txt
    have h1 := dgB_size t.toNat
    have h2 := dgB_size r.toNat
    split
    · decide
    · split
      · have : (⟨#[116]⟩ : ByteArray).size = 1 := rfl
        simp only [ByteArray.size_append]
        omega
      · split
        · have e1 : (⟨#[116]⟩ : ByteArray).size = 1 := rfl
          have e2 : (⟨#[46, 114]⟩ : ByteArray).size = 2 := rfl
          simp only [ByteArray.size_append]
          omega
        · decide
  refine (read_any _ hz w hR h9).mono ?_
  rintro e w1 ⟨x, y, c, rfl, hv, b⟩
  rcases hv with ⟨_, _, rfl, rfl, rfl⟩ | ⟨hb, _⟩
  · rw [rdN_txt t r h]
    exact ⟨rfl, b⟩
  · rw [rdN_txt t r h] at hb
    exact absurd hb (by simp [h])
theorem read_bad (w : World) (hR : RdW w) (h9 : 9 < w.heap.size) : Calls Tryd.prog 20 #[.string ⟨#[63]⟩] w fun e w' => e = .returned (.tuple #[(.agg #[.int .i64 0, .int .i64 0]), .int .i64 3]) ∧ Below w.heap.size w w' := by
  refine (read_any _ (by decide) w hR h9).mono ?_
  rintro e w1 ⟨x, y, c, rfl, hv, b⟩
  rcases hv with ⟨_, ht, _⟩ | ⟨_, rfl, rfl, rfl⟩
  · rw [rdN_bad] at ht
    exact absurd ht (by decide +kernel)
  · exact ⟨rfl, b⟩
theorem txt_bad {t r : Int} (h : lv t r = -1) : txt t r = ⟨#[63]⟩ := by simp [txt, h]
set_option maxHeartbeats 4000000 in
set_option maxRecDepth 100000 in
theorem back_bad (a a' b b' : Int) (s : ByteArray) (w : World) (h60 : s.size ≤ 60) (hR : RdW w) (h9 : 9 < w.heap.size) (ha : lv a a' = -1) : Calls Tryd.prog 6 #[(.agg #[.int .i64 a, .int .i64 a']), (.agg #[.int .i64 b, .int .i64 b']), .string s] w fun e w' => e = .returned (.bool true) ∧ Below w.heap.size w w' := by
  replace hR := Lib.hid hR
  have hS := Lib.hid (box2 w a a' b b')
  have TA := Lib.hid (fun W => text_b a a' ⟨#[63]⟩ W (txt_bad ha))
  have RA := Lib.hid (fun W h1 h2 => read_bad W h1 h2)
  have CA := Lib.hid (fun W => check_b a a' 2 W (by rw [if_pos ha]))
  clear ha
  have h6 : (s.size : Int) ≤ 60 := by omega
  have hq := fun a b c d => run_eql_nm a b c d
  have hq2 := fun a b c d => run_neq_nm a b c d
  go_enter Tryd.func6, Tryd.ntmps6
  go_wp2_with fail
  refine (lives_any _).mono ?_
  rintro e w1 ⟨rfl, b1⟩
  replace hS := Lib.hid (hS.out.below b1)
  clear b1
  obtain ⟨_, n0, n1, _⟩ := hS.out.to1.b2
  go_wp2_with fail
  refine (TA.out _).mono ?_
  rintro e w2 ⟨rfl, b2⟩
  replace hS := Lib.hid (hS.out.below b2)
  clear b2 n0 n1
  go_wp2_with fail
  refine (RA.out _ (hR.out.later hS.out.tail.tail.gold h9) (Nat.lt_of_lt_of_le h9 hS.out.tail.tail.gold.size)).mono ?_
  rintro e w3 ⟨rfl, b3⟩
  replace hS := Lib.hid ((hS.out.below b3).alloc #[Value.int .i64 (0), Value.int .i64 (0)] 23)
  clear b3
  obtain ⟨V, hV⟩ : ∃ V, V = w3.heap.size := ⟨_, rfl⟩
  rw [← hV] at hS
  obtain ⟨_, n0, n1, _⟩ := hS.out.to2.b2
  obtain ⟨_, m0, m1, _⟩ := hS.out.b2
  go_wp2_with fail
  refine (CA.out _).mono ?_
  rintro e w4 ⟨rfl, b4⟩
  replace hS := Lib.hid (hS.out.below b4)
  clear b4 n0 n1 m0 m1
  obtain ⟨_, n0, n1, _⟩ := hS.out.to2.b2
  go_wp2_with fail
  refine (TA.out _).mono ?_
  rintro e w5 ⟨rfl, b5⟩
  replace hS := Lib.hid (hS.out.below b5)
  clear b5 n0 n1
  go_wp2_with fail
  have RS := Lib.hid (read_any s (by omega) _ (hR.out.later (hS.out.tail.tail.tail.gold) h9) (Nat.lt_of_lt_of_le h9 (hS.out.tail.tail.tail.gold).size))
  refine RS.out.mono ?_
  rintro e w8 ⟨t, r, c, rfl, hv, b8⟩
  clear RS
  replace hS := Lib.hid ((hS.out.below b8).alloc #[Value.int .i64 (t), Value.int .i64 (r)] 23)
  clear b8
  have hv' : (c = 0 ∧ lv t r ≠ -1 ∧ txt t r = s) ∨ (c = 3 ∧ t = 0 ∧ r = 0) := by
    rcases hv with ⟨a1, a2, rfl, rfl, rfl⟩ | ⟨_, rfl, rfl, rfl⟩
    · exact .inl ⟨rfl, a1, a2⟩
    · exact .inr ⟨rfl, rfl, rfl⟩
  clear hv
  rcases hv' with ⟨rfl, hl, ht⟩ | ⟨rfl, rfl, rfl⟩
  · have HC := Lib.hid (fun W => check_b t r 0 W (by rw [if_neg hl]))
    have HT := Lib.hid (fun W => text_b t r s W ht)
    clear hl ht
    obtain ⟨_, q0, q1, _⟩ := hS.out.b2
    go_wp2_with fail
    refine (HC.out _).mono ?_
    rintro e w2 ⟨rfl, b2⟩
    replace hS := Lib.hid (hS.out.below b2)
    clear b2
    clear q0 q1
    obtain ⟨_, q0, q1, _⟩ := hS.out.b2
    go_wp2_with fail
    refine (HT.out _).mono ?_
    rintro e w2 ⟨rfl, b2⟩
    replace hS := Lib.hid (hS.out.below b2)
    clear b2
    clear q0 q1
    go_wp2_with fail
    go_ret
    exact ⟨rfl, hS.out.tail.tail.tail.tail.gold⟩
  · have en : nmB 0 0 0 0 = true := rfl
    obtain ⟨_, q0, q1, _⟩ := hS.out.b2
    go_wp2_with fail
    go_ret
    exact ⟨rfl, hS.out.tail.tail.tail.tail.gold⟩
set_option maxHeartbeats 4000000 in
set_option maxRecDepth 100000 in
theorem back_inv (a a' b b' : Int) (s : ByteArray) (w : World) (h60 : s.size ≤ 60) (hR : RdW w) (h9 : 9 < w.heap.size) (ha : lv a a' ≠ -1) (hb : lv b b' = -1) : Calls Tryd.prog 6 #[(.agg #[.int .i64 a, .int .i64 a']), (.agg #[.int .i64 b, .int .i64 b']), .string s] w fun e w' => e = .returned (.bool true) ∧ Below w.heap.size w w' := by
  replace hR := Lib.hid hR
  have hS := Lib.hid (box2 w a a' b b')
  have TA := Lib.hid (fun W => text_b a a' (txt a a') W rfl)
  have RA := Lib.hid (fun W h1 h2 => read_good a a' ha W h1 h2)
  have CA := Lib.hid (fun W => check_b a a' 0 W (by rw [if_neg ha]))
  have es := nmB_self a a'
  have CB := Lib.hid (fun W => check_b b b' 2 W (by rw [if_pos hb]))
  clear ha hb
  have h6 : (s.size : Int) ≤ 60 := by omega
  have hq := fun a b c d => run_eql_nm a b c d
  have hq2 := fun a b c d => run_neq_nm a b c d
  go_enter Tryd.func6, Tryd.ntmps6
  go_wp2_with fail
  refine (lives_any _).mono ?_
  rintro e w1 ⟨rfl, b1⟩
  replace hS := Lib.hid (hS.out.below b1)
  clear b1
  obtain ⟨_, n0, n1, _⟩ := hS.out.to1.b2
  go_wp2_with fail
  refine (TA.out _).mono ?_
  rintro e w2 ⟨rfl, b2⟩
  replace hS := Lib.hid (hS.out.below b2)
  clear b2 n0 n1
  go_wp2_with fail
  refine (RA.out _ (hR.out.later hS.out.tail.tail.gold h9) (Nat.lt_of_lt_of_le h9 hS.out.tail.tail.gold.size)).mono ?_
  rintro e w3 ⟨rfl, b3⟩
  replace hS := Lib.hid ((hS.out.below b3).alloc #[Value.int .i64 (a), Value.int .i64 (a')] 23)
  clear b3
  obtain ⟨V, hV⟩ : ∃ V, V = w3.heap.size := ⟨_, rfl⟩
  rw [← hV] at hS
  obtain ⟨_, n0, n1, _⟩ := hS.out.to2.b2
  obtain ⟨_, m0, m1, _⟩ := hS.out.b2
  go_wp2_with fail
  refine (CA.out _).mono ?_
  rintro e w4 ⟨rfl, b4⟩
  replace hS := Lib.hid (hS.out.below b4)
  clear b4 n0 n1 m0 m1
  rw [← hV]
  replace hV := Lib.hid hV
  have hT := hS
  clear hS
  go_wp2_with fail
  have hS := Lib.hid (show (fun W : World => Sep W [blk V 23 #[Value.int .i64 (a), Value.int .i64 (a')], blk (w.heap.size + 1) 23 #[Value.int .i64 (b), Value.int .i64 (b')], blk w.heap.size 23 #[Value.int .i64 (a), Value.int .i64 (a')], old w]) _ from hT.out.drew)
  refine hl_begin (fun W : World => Sep W [blk V 23 #[Value.int .i64 (a), Value.int .i64 (a')], blk (w.heap.size + 1) 23 #[Value.int .i64 (b), Value.int .i64 (b')], blk w.heap.size 23 #[Value.int .i64 (a), Value.int .i64 (a')], old w]) [(0, true), (1, true), (2, true), (3, true), (4, true), (5, true), (6, true), (7, true), (8, true), (9, false), (10, true), (11, true), (12, true), (14, true), (17, true), (18, true), (19, true), (13, false), (15, false), (16, true), (20, true), (21, true), (22, true)] (by kernel_rfl) (by kernel_rfl) (by kernel_rfl) rfl (fun _ _ _ _ _ h => h) hS.out ?_
  change HL _ _ _ _ _ _ (World.drew _)
  generalize World.drew _ = wd at *
  refine hl_take ?v1 rfl (by kernel_rfl) ?y1 ?z1
  case y1 => intro W hW; skip; replace hW := Lib.hid hW; go_simp; try rfl
  case z1 =>
  simp only [Act.put, List.setIfInBounds_toArray, List.set_cons_succ, List.set_cons_zero, List.getElem_toArray, List.getElem_cons_zero, List.getElem_cons_succ]
  refine hl_take ?v2 rfl (by kernel_rfl) ?y2 ?z2
  case y2 => intro W hW; skip; replace hW := Lib.hid hW; go_simp; try rfl
  case z2 =>
  simp only [Act.put, List.setIfInBounds_toArray, List.set_cons_succ, List.set_cons_zero, List.getElem_toArray, List.getElem_cons_zero, List.getElem_cons_succ]
  refine hl_take ?v3 rfl (by kernel_rfl) ?y3 ?z3
  case y3 => intro W hW; skip; replace hW := Lib.hid hW; go_simp; try rfl
  case z3 =>
  simp only [Act.put, List.setIfInBounds_toArray, List.set_cons_succ, List.set_cons_zero, List.getElem_toArray, List.getElem_cons_zero, List.getElem_cons_succ]
  refine hl_take ?v4 rfl (by kernel_rfl) ?y4 ?z4
  case y4 => intro W hW; change Sep W _ at hW; have d0 := hW.b2.2.1; have d1 := hW.b2.2.2.1; have c0 := hW.to1.b2.2.1; have c1 := hW.to1.b2.2.2.1; have f0 := hW.to2.b2.2.1; have f1 := hW.to2.b2.2.2.1; replace hW := Lib.hid hW; go_simp; try rfl
  case z4 =>
  simp only [Act.put, List.setIfInBounds_toArray, List.set_cons_succ, List.set_cons_zero, List.getElem_toArray, List.getElem_cons_zero, List.getElem_cons_succ]
  refine hl_take ?v5 rfl (by kernel_rfl) ?y5 ?z5
  case y5 => intro W hW; change Sep W _ at hW; have d0 := hW.b2.2.1; have d1 := hW.b2.2.2.1; have c0 := hW.to1.b2.2.1; have c1 := hW.to1.b2.2.2.1; have f0 := hW.to2.b2.2.1; have f1 := hW.to2.b2.2.2.1; replace hW := Lib.hid hW; go_simp; try rfl
  case z5 =>
  simp only [Act.put, List.setIfInBounds_toArray, List.set_cons_succ, List.set_cons_zero, List.getElem_toArray, List.getElem_cons_zero, List.getElem_cons_succ]
  refine hl_take ?v6 rfl (by kernel_rfl) ?y6 ?z6
  case y6 => intro W hW; skip; replace hW := Lib.hid hW; go_simp; try rfl
  case z6 =>
  simp only [Act.put, List.setIfInBounds_toArray, List.set_cons_succ, List.set_cons_zero, List.getElem_toArray, List.getElem_cons_zero, List.getElem_cons_succ]
  refine hl_take ?v7 rfl (by kernel_rfl) ?y7 ?z7
  case y7 => intro W hW; skip; replace hW := Lib.hid hW; go_simp; try rfl
  case z7 =>
  simp only [Act.put, List.setIfInBounds_toArray, List.set_cons_succ, List.set_cons_zero, List.getElem_toArray, List.getElem_cons_zero, List.getElem_cons_succ]
  refine hl_take ?v8 rfl (by kernel_rfl) ?y8 ?z8
  case y8 => intro W hW; skip; replace hW := Lib.hid hW; go_simp; try rfl
  case z8 =>
  simp only [Act.put, List.setIfInBounds_toArray, List.set_cons_succ, List.set_cons_zero, List.getElem_toArray, List.getElem_cons_zero, List.getElem_cons_succ]
  refine hl_take ?v9 rfl (by kernel_rfl) ?y9 ?z9
  case y9 => intro W hW; change Sep W _ at hW; have d0 := hW.b2.2.1; have d1 := hW.b2.2.2.1; have c0 := hW.to1.b2.2.1; have c1 := hW.to1.b2.2.2.1; have f0 := hW.to2.b2.2.1; have f1 := hW.to2.b2.2.2.1; replace hW := Lib.hid hW; go_simp; try rfl
  case z9 =>
  simp only [Act.put, List.setIfInBounds_toArray, List.set_cons_succ, List.set_cons_zero, List.getElem_toArray, List.getElem_cons_zero, List.getElem_cons_succ]
  refine hl_one rfl (by kernel_rfl) (fun K hK => ?_)
  go_simp
  refine (CB.out _).mono ?_
  rintro e w5 ⟨rfl, b5⟩
  replace hS := Lib.hid (hS.out.below b5)
  clear b5
  refine hK.out _ _ hS.out ?_
  clear hK K
  try simp only [Act.put, List.setIfInBounds_toArray, List.set_cons_succ, List.set_cons_zero, List.getElem_toArray, List.getElem_cons_zero, List.getElem_cons_succ]
  refine hl_take ?v10 rfl (by kernel_rfl) ?y10 ?z10
  case y10 => intro W hW; skip; replace hW := Lib.hid hW; go_simp; try rfl
  case z10 =>
  simp only [Act.put, List.setIfInBounds_toArray, List.set_cons_succ, List.set_cons_zero, List.getElem_toArray, List.getElem_cons_zero, List.getElem_cons_succ]
  refine hl_take ?v11 rfl (by kernel_rfl) ?y11 ?z11
  case y11 => intro W hW; skip; replace hW := Lib.hid hW; go_simp; try rfl
  case z11 =>
  simp only [Act.put, List.setIfInBounds_toArray, List.set_cons_succ, List.set_cons_zero, List.getElem_toArray, List.getElem_cons_zero, List.getElem_cons_succ]
  refine hl_skip rfl (by kernel_rfl) ?_
  simp only [Act.put, List.setIfInBounds_toArray, List.set_cons_succ, List.set_cons_zero, List.getElem_toArray, List.getElem_cons_zero, List.getElem_cons_succ]
  refine hl_skip rfl (by kernel_rfl) ?_
  simp only [Act.put, List.setIfInBounds_toArray, List.set_cons_succ, List.set_cons_zero, List.getElem_toArray, List.getElem_cons_zero, List.getElem_cons_succ]
  refine hl_skip rfl (by kernel_rfl) ?_
  simp only [Act.put, List.setIfInBounds_toArray, List.set_cons_succ, List.set_cons_zero, List.getElem_toArray, List.getElem_cons_zero, List.getElem_cons_succ]
  refine hl_skip rfl (by kernel_rfl) ?_
  simp only [Act.put, List.setIfInBounds_toArray, List.set_cons_succ, List.set_cons_zero, List.getElem_toArray, List.getElem_cons_zero, List.getElem_cons_succ]
  refine hl_skip rfl (by kernel_rfl) ?_
  simp only [Act.put, List.setIfInBounds_toArray, List.set_cons_succ, List.set_cons_zero, List.getElem_toArray, List.getElem_cons_zero, List.getElem_cons_succ]
  refine hl_skip1 rfl (by kernel_rfl) ?_
  simp only [Act.put, List.setIfInBounds_toArray, List.set_cons_succ, List.set_cons_zero, List.getElem_toArray, List.getElem_cons_zero, List.getElem_cons_succ]
  refine hl_skip1 rfl (by kernel_rfl) ?_
  simp only [Act.put, List.setIfInBounds_toArray, List.set_cons_succ, List.set_cons_zero, List.getElem_toArray, List.getElem_cons_zero, List.getElem_cons_succ]
  refine hl_skip rfl (by kernel_rfl) ?_
  simp only [Act.put, List.setIfInBounds_toArray, List.set_cons_succ, List.set_cons_zero, List.getElem_toArray, List.getElem_cons_zero, List.getElem_cons_succ]
  refine hl_skip rfl (by kernel_rfl) ?_
  simp only [Act.put, List.setIfInBounds_toArray, List.set_cons_succ, List.set_cons_zero, List.getElem_toArray, List.getElem_cons_zero, List.getElem_cons_succ]
  refine hl_take ?v12 rfl (by kernel_rfl) ?y12 ?z12
  case y12 => intro W hW; skip; replace hW := Lib.hid hW; go_simp; try rfl
  case z12 =>
  simp only [Act.put, List.setIfInBounds_toArray, List.set_cons_succ, List.set_cons_zero, List.getElem_toArray, List.getElem_cons_zero, List.getElem_cons_succ]
  refine hl_take ?v13 rfl (by kernel_rfl) ?y13 ?z13
  case y13 => intro W hW; skip; replace hW := Lib.hid hW; go_simp; try rfl
  case z13 =>
  simp only [Act.put, List.setIfInBounds_toArray, List.set_cons_succ, List.set_cons_zero, List.getElem_toArray, List.getElem_cons_zero, List.getElem_cons_succ]
  refine hl_done ?_
  skip
  go_wp2_with fail
  have RS := Lib.hid (read_any s (by omega) _ (hR.out.later (hS.out.tail.tail.tail.gold) h9) (Nat.lt_of_lt_of_le h9 (hS.out.tail.tail.tail.gold).size))
  refine RS.out.mono ?_
  rintro e w8 ⟨t, r, c, rfl, hv, b8⟩
  clear RS
  replace hS := Lib.hid ((hS.out.below b8).alloc #[Value.int .i64 (t), Value.int .i64 (r)] 23)
  clear b8
  have hv' : (c = 0 ∧ lv t r ≠ -1 ∧ txt t r = s) ∨ (c = 3 ∧ t = 0 ∧ r = 0) := by
    rcases hv with ⟨a1, a2, rfl, rfl, rfl⟩ | ⟨_, rfl, rfl, rfl⟩
    · exact .inl ⟨rfl, a1, a2⟩
    · exact .inr ⟨rfl, rfl, rfl⟩
  clear hv
  rcases hv' with ⟨rfl, hl, ht⟩ | ⟨rfl, rfl, rfl⟩
  · have HC := Lib.hid (fun W => check_b t r 0 W (by rw [if_neg hl]))
    have HT := Lib.hid (fun W => text_b t r s W ht)
    clear hl ht
    obtain ⟨_, q0, q1, _⟩ := hS.out.b2
    go_wp2_with fail
    refine (HC.out _).mono ?_
    rintro e w2 ⟨rfl, b2⟩
    replace hS := Lib.hid (hS.out.below b2)
    clear b2
    clear q0 q1
    obtain ⟨_, q0, q1, _⟩ := hS.out.b2
    go_wp2_with fail
    refine (HT.out _).mono ?_
    rintro e w2 ⟨rfl, b2⟩
    replace hS := Lib.hid (hS.out.below b2)
    clear b2
    clear q0 q1
    go_wp2_with fail
    go_ret
    exact ⟨rfl, hS.out.tail.tail.tail.tail.gold⟩
  · have en : nmB 0 0 0 0 = true := rfl
    obtain ⟨_, q0, q1, _⟩ := hS.out.b2
    go_wp2_with fail
    go_ret
    exact ⟨rfl, hS.out.tail.tail.tail.tail.gold⟩
set_option maxHeartbeats 4000000 in
set_option maxRecDepth 100000 in
theorem back_same (a a' b b' : Int) (s : ByteArray) (w : World) (h60 : s.size ≤ 60) (hR : RdW w) (h9 : 9 < w.heap.size) (ha : lv a a' ≠ -1) (hb : lv b b' ≠ -1) (he : a = b ∧ a' = b') : Calls Tryd.prog 6 #[(.agg #[.int .i64 a, .int .i64 a']), (.agg #[.int .i64 b, .int .i64 b']), .string s] w fun e w' => e = .returned (.bool true) ∧ Below w.heap.size w w' := by
  replace hR := Lib.hid hR
  have hS := Lib.hid (box2 w a a' b b')
  have TA := Lib.hid (fun W => text_b a a' (txt a a') W rfl)
  have RA := Lib.hid (fun W h1 h2 => read_good a a' ha W h1 h2)
  have CA := Lib.hid (fun W => check_b a a' 0 W (by rw [if_neg ha]))
  have es := nmB_self a a'
  have CB := Lib.hid (fun W => check_b b b' 0 W (by rw [if_neg hb]))
  have TB := Lib.hid (fun W => text_b b b' (txt a a') W (by rw [he.1, he.2]))
  have en := nmB_true he
  generalize txt a a' = x at *
  clear ha hb he
  have h6 : (s.size : Int) ≤ 60 := by omega
  have hq := fun a b c d => run_eql_nm a b c d
  have hq2 := fun a b c d => run_neq_nm a b c d
  go_enter Tryd.func6, Tryd.ntmps6
  go_wp2_with fail
  refine (lives_any _).mono ?_
  rintro e w1 ⟨rfl, b1⟩
  replace hS := Lib.hid (hS.out.below b1)
  clear b1
  obtain ⟨_, n0, n1, _⟩ := hS.out.to1.b2
  go_wp2_with fail
  refine (TA.out _).mono ?_
  rintro e w2 ⟨rfl, b2⟩
  replace hS := Lib.hid (hS.out.below b2)
  clear b2 n0 n1
  go_wp2_with fail
  refine (RA.out _ (hR.out.later hS.out.tail.tail.gold h9) (Nat.lt_of_lt_of_le h9 hS.out.tail.tail.gold.size)).mono ?_
  rintro e w3 ⟨rfl, b3⟩
  replace hS := Lib.hid ((hS.out.below b3).alloc #[Value.int .i64 (a), Value.int .i64 (a')] 23)
  clear b3
  obtain ⟨V, hV⟩ : ∃ V, V = w3.heap.size := ⟨_, rfl⟩
  rw [← hV] at hS
  obtain ⟨_, n0, n1, _⟩ := hS.out.to2.b2
  obtain ⟨_, m0, m1, _⟩ := hS.out.b2
  go_wp2_with fail
  refine (CA.out _).mono ?_
  rintro e w4 ⟨rfl, b4⟩
  replace hS := Lib.hid (hS.out.below b4)
  clear b4 n0 n1 m0 m1
  rw [← hV]
  replace hV := Lib.hid hV
  have hT := hS
  clear hS
  go_wp2_with fail
  have hS := Lib.hid (show (fun W : World => Sep W [blk V 23 #[Value.int .i64 (a), Value.int .i64 (a')], blk (w.heap.size + 1) 23 #[Value.int .i64 (b), Value.int .i64 (b')], blk w.heap.size 23 #[Value.int .i64 (a), Value.int .i64 (a')], old w]) _ from hT.out.drew)
  refine hl_begin (fun W : World => Sep W [blk V 23 #[Value.int .i64 (a), Value.int .i64 (a')], blk (w.heap.size + 1) 23 #[Value.int .i64 (b), Value.int .i64 (b')], blk w.heap.size 23 #[Value.int .i64 (a), Value.int .i64 (a')], old w]) [(0, true), (1, true), (2, true), (3, true), (4, true), (5, true), (6, true), (7, true), (8, true), (9, false), (10, true), (11, true), (12, true), (14, true), (17, true), (18, true), (19, true), (13, false), (15, false), (16, true), (20, true), (21, true), (22, true)] (by kernel_rfl) (by kernel_rfl) (by kernel_rfl) rfl (fun _ _ _ _ _ h => h) hS.out ?_
  change HL _ _ _ _ _ _ (World.drew _)
  generalize World.drew _ = wd at *
  refine hl_take ?v14 rfl (by kernel_rfl) ?y14 ?z14
  case y14 => intro W hW; skip; replace hW := Lib.hid hW; go_simp; try rfl
  case z14 =>
  simp only [Act.put, List.setIfInBounds_toArray, List.set_cons_succ, List.set_cons_zero, List.getElem_toArray, List.getElem_cons_zero, List.getElem_cons_succ]
  refine hl_take ?v15 rfl (by kernel_rfl) ?y15 ?z15
  case y15 => intro W hW; skip; replace hW := Lib.hid hW; go_simp; try rfl
  case z15 =>
  simp only [Act.put, List.setIfInBounds_toArray, List.set_cons_succ, List.set_cons_zero, List.getElem_toArray, List.getElem_cons_zero, List.getElem_cons_succ]
  refine hl_take ?v16 rfl (by kernel_rfl) ?y16 ?z16
  case y16 => intro W hW; skip; replace hW := Lib.hid hW; go_simp; try rfl
  case z16 =>
  simp only [Act.put, List.setIfInBounds_toArray, List.set_cons_succ, List.set_cons_zero, List.getElem_toArray, List.getElem_cons_zero, List.getElem_cons_succ]
  refine hl_take ?v17 rfl (by kernel_rfl) ?y17 ?z17
  case y17 => intro W hW; change Sep W _ at hW; have d0 := hW.b2.2.1; have d1 := hW.b2.2.2.1; have c0 := hW.to1.b2.2.1; have c1 := hW.to1.b2.2.2.1; have f0 := hW.to2.b2.2.1; have f1 := hW.to2.b2.2.2.1; replace hW := Lib.hid hW; go_simp; try rfl
  case z17 =>
  simp only [Act.put, List.setIfInBounds_toArray, List.set_cons_succ, List.set_cons_zero, List.getElem_toArray, List.getElem_cons_zero, List.getElem_cons_succ]
  refine hl_take ?v18 rfl (by kernel_rfl) ?y18 ?z18
  case y18 => intro W hW; change Sep W _ at hW; have d0 := hW.b2.2.1; have d1 := hW.b2.2.2.1; have c0 := hW.to1.b2.2.1; have c1 := hW.to1.b2.2.2.1; have f0 := hW.to2.b2.2.1; have f1 := hW.to2.b2.2.2.1; replace hW := Lib.hid hW; go_simp; try rfl
  case z18 =>
  simp only [Act.put, List.setIfInBounds_toArray, List.set_cons_succ, List.set_cons_zero, List.getElem_toArray, List.getElem_cons_zero, List.getElem_cons_succ]
  refine hl_take ?v19 rfl (by kernel_rfl) ?y19 ?z19
  case y19 => intro W hW; skip; replace hW := Lib.hid hW; go_simp; try rfl
  case z19 =>
  simp only [Act.put, List.setIfInBounds_toArray, List.set_cons_succ, List.set_cons_zero, List.getElem_toArray, List.getElem_cons_zero, List.getElem_cons_succ]
  refine hl_take ?v20 rfl (by kernel_rfl) ?y20 ?z20
  case y20 => intro W hW; skip; replace hW := Lib.hid hW; go_simp; try rfl
  case z20 =>
  simp only [Act.put, List.setIfInBounds_toArray, List.set_cons_succ, List.set_cons_zero, List.getElem_toArray, List.getElem_cons_zero, List.getElem_cons_succ]
  refine hl_take ?v21 rfl (by kernel_rfl) ?y21 ?z21
  case y21 => intro W hW; skip; replace hW := Lib.hid hW; go_simp; try rfl
  case z21 =>
  simp only [Act.put, List.setIfInBounds_toArray, List.set_cons_succ, List.set_cons_zero, List.getElem_toArray, List.getElem_cons_zero, List.getElem_cons_succ]
  refine hl_take ?v22 rfl (by kernel_rfl) ?y22 ?z22
  case y22 => intro W hW; change Sep W _ at hW; have d0 := hW.b2.2.1; have d1 := hW.b2.2.2.1; have c0 := hW.to1.b2.2.1; have c1 := hW.to1.b2.2.2.1; have f0 := hW.to2.b2.2.1; have f1 := hW.to2.b2.2.2.1; replace hW := Lib.hid hW; go_simp; try rfl
  case z22 =>
  simp only [Act.put, List.setIfInBounds_toArray, List.set_cons_succ, List.set_cons_zero, List.getElem_toArray, List.getElem_cons_zero, List.getElem_cons_succ]
  refine hl_one rfl (by kernel_rfl) (fun K hK => ?_)
  go_simp
  refine (CB.out _).mono ?_
  rintro e w5 ⟨rfl, b5⟩
  replace hS := Lib.hid (hS.out.below b5)
  clear b5
  refine hK.out _ _ hS.out ?_
  clear hK K
  try simp only [Act.put, List.setIfInBounds_toArray, List.set_cons_succ, List.set_cons_zero, List.getElem_toArray, List.getElem_cons_zero, List.getElem_cons_succ]
  refine hl_take ?v23 rfl (by kernel_rfl) ?y23 ?z23
  case y23 => intro W hW; skip; replace hW := Lib.hid hW; go_simp; try rfl
  case z23 =>
  simp only [Act.put, List.setIfInBounds_toArray, List.set_cons_succ, List.set_cons_zero, List.getElem_toArray, List.getElem_cons_zero, List.getElem_cons_succ]
  refine hl_take ?v24 rfl (by kernel_rfl) ?y24 ?z24
  case y24 => intro W hW; skip; replace hW := Lib.hid hW; go_simp; try rfl
  case z24 =>
  simp only [Act.put, List.setIfInBounds_toArray, List.set_cons_succ, List.set_cons_zero, List.getElem_toArray, List.getElem_cons_zero, List.getElem_cons_succ]
  refine hl_take ?v25 rfl (by kernel_rfl) ?y25 ?z25
  case y25 => intro W hW; change Sep W _ at hW; have d0 := hW.b2.2.1; have d1 := hW.b2.2.2.1; have c0 := hW.to1.b2.2.1; have c1 := hW.to1.b2.2.2.1; have f0 := hW.to2.b2.2.1; have f1 := hW.to2.b2.2.2.1; replace hW := Lib.hid hW; go_simp; try rfl
  case z25 =>
  simp only [Act.put, List.setIfInBounds_toArray, List.set_cons_succ, List.set_cons_zero, List.getElem_toArray, List.getElem_cons_zero, List.getElem_cons_succ]
  refine hl_take ?v26 rfl (by kernel_rfl) ?y26 ?z26
  case y26 => intro W hW; change Sep W _ at hW; have d0 := hW.b2.2.1; have d1 := hW.b2.2.2.1; have c0 := hW.to1.b2.2.1; have c1 := hW.to1.b2.2.2.1; have f0 := hW.to2.b2.2.1; have f1 := hW.to2.b2.2.2.1; replace hW := Lib.hid hW; go_simp; try rfl
  case z26 =>
  simp only [Act.put, List.setIfInBounds_toArray, List.set_cons_succ, List.set_cons_zero, List.getElem_toArray, List.getElem_cons_zero, List.getElem_cons_succ]
  refine hl_take ?v27 rfl (by kernel_rfl) ?y27 ?z27
  case y27 => intro W hW; change Sep W _ at hW; have d0 := hW.b2.2.1; have d1 := hW.b2.2.2.1; have c0 := hW.to1.b2.2.1; have c1 := hW.to1.b2.2.2.1; have f0 := hW.to2.b2.2.1; have f1 := hW.to2.b2.2.2.1; replace hW := Lib.hid hW; go_simp; try rfl
  case z27 =>
  simp only [Act.put, List.setIfInBounds_toArray, List.set_cons_succ, List.set_cons_zero, List.getElem_toArray, List.getElem_cons_zero, List.getElem_cons_succ]
  refine hl_take ?v28 rfl (by kernel_rfl) ?y28 ?z28
  case y28 => intro W hW; change Sep W _ at hW; have d0 := hW.b2.2.1; have d1 := hW.b2.2.2.1; have c0 := hW.to1.b2.2.1; have c1 := hW.to1.b2.2.2.1; have f0 := hW.to2.b2.2.1; have f1 := hW.to2.b2.2.2.1; replace hW := Lib.hid hW; go_simp; try rfl
  case z28 =>
  simp only [Act.put, List.setIfInBounds_toArray, List.set_cons_succ, List.set_cons_zero, List.getElem_toArray, List.getElem_cons_zero, List.getElem_cons_succ]
  refine hl_take ?v29 rfl (by kernel_rfl) ?y29 ?z29
  case y29 => intro W hW; skip; replace hW := Lib.hid hW; go_simp; try rfl
  case z29 =>
  simp only [Act.put, List.setIfInBounds_toArray, List.set_cons_succ, List.set_cons_zero, List.getElem_toArray, List.getElem_cons_zero, List.getElem_cons_succ]
  refine hl_one rfl (by kernel_rfl) (fun K hK => ?_)
  go_simp
  refine (TA.out _).mono ?_
  rintro e w5 ⟨rfl, b5⟩
  replace hS := Lib.hid (hS.out.below b5)
  clear b5
  refine hK.out _ _ hS.out ?_
  clear hK K
  try simp only [Act.put, List.setIfInBounds_toArray, List.set_cons_succ, List.set_cons_zero, List.getElem_toArray, List.getElem_cons_zero, List.getElem_cons_succ]
  refine hl_one rfl (by kernel_rfl) (fun K hK => ?_)
  go_simp
  refine (TB.out _).mono ?_
  rintro e w5 ⟨rfl, b5⟩
  replace hS := Lib.hid (hS.out.below b5)
  clear b5
  refine hK.out _ _ hS.out ?_
  clear hK K
  try simp only [Act.put, List.setIfInBounds_toArray, List.set_cons_succ, List.set_cons_zero, List.getElem_toArray, List.getElem_cons_zero, List.getElem_cons_succ]
  refine hl_take ?v30 rfl (by kernel_rfl) ?y30 ?z30
  case y30 => intro W hW; skip; replace hW := Lib.hid hW; go_simp; try rfl
  case z30 =>
  simp only [Act.put, List.setIfInBounds_toArray, List.set_cons_succ, List.set_cons_zero, List.getElem_toArray, List.getElem_cons_zero, List.getElem_cons_succ]
  refine hl_take ?v31 rfl (by kernel_rfl) ?y31 ?z31
  case y31 => intro W hW; skip; replace hW := Lib.hid hW; go_simp; try rfl
  case z31 =>
  simp only [Act.put, List.setIfInBounds_toArray, List.set_cons_succ, List.set_cons_zero, List.getElem_toArray, List.getElem_cons_zero, List.getElem_cons_succ]
  refine hl_take ?v32 rfl (by kernel_rfl) ?y32 ?z32
  case y32 => intro W hW; skip; replace hW := Lib.hid hW; go_simp; try rfl
  case z32 =>
  simp only [Act.put, List.setIfInBounds_toArray, List.set_cons_succ, List.set_cons_zero, List.getElem_toArray, List.getElem_cons_zero, List.getElem_cons_succ]
  refine hl_take ?v33 rfl (by kernel_rfl) ?y33 ?z33
  case y33 => intro W hW; skip; replace hW := Lib.hid hW; go_simp; try rfl
  case z33 =>
  simp only [Act.put, List.setIfInBounds_toArray, List.set_cons_succ, List.set_cons_zero, List.getElem_toArray, List.getElem_cons_zero, List.getElem_cons_succ]
  refine hl_done ?_
  skip
  go_wp2_with fail
  have RS := Lib.hid (read_any s (by omega) _ (hR.out.later (hS.out.tail.tail.tail.gold) h9) (Nat.lt_of_lt_of_le h9 (hS.out.tail.tail.tail.gold).size))
  refine RS.out.mono ?_
  rintro e w8 ⟨t, r, c, rfl, hv, b8⟩
  clear RS
  replace hS := Lib.hid ((hS.out.below b8).alloc #[Value.int .i64 (t), Value.int .i64 (r)] 23)
  clear b8
  have hv' : (c = 0 ∧ lv t r ≠ -1 ∧ txt t r = s) ∨ (c = 3 ∧ t = 0 ∧ r = 0) := by
    rcases hv with ⟨a1, a2, rfl, rfl, rfl⟩ | ⟨_, rfl, rfl, rfl⟩
    · exact .inl ⟨rfl, a1, a2⟩
    · exact .inr ⟨rfl, rfl, rfl⟩
  clear hv
  rcases hv' with ⟨rfl, hl, ht⟩ | ⟨rfl, rfl, rfl⟩
  · have HC := Lib.hid (fun W => check_b t r 0 W (by rw [if_neg hl]))
    have HT := Lib.hid (fun W => text_b t r s W ht)
    clear hl ht
    obtain ⟨_, q0, q1, _⟩ := hS.out.b2
    go_wp2_with fail
    refine (HC.out _).mono ?_
    rintro e w2 ⟨rfl, b2⟩
    replace hS := Lib.hid (hS.out.below b2)
    clear b2
    clear q0 q1
    obtain ⟨_, q0, q1, _⟩ := hS.out.b2
    go_wp2_with fail
    refine (HT.out _).mono ?_
    rintro e w2 ⟨rfl, b2⟩
    replace hS := Lib.hid (hS.out.below b2)
    clear b2
    clear q0 q1
    go_wp2_with fail
    go_ret
    exact ⟨rfl, hS.out.tail.tail.tail.tail.gold⟩
  · have en : nmB 0 0 0 0 = true := rfl
    obtain ⟨_, q0, q1, _⟩ := hS.out.b2
    go_wp2_with fail
    go_ret
    exact ⟨rfl, hS.out.tail.tail.tail.tail.gold⟩
set_option maxHeartbeats 4000000 in
set_option maxRecDepth 100000 in
theorem back_diff (a a' b b' : Int) (s : ByteArray) (w : World) (h60 : s.size ≤ 60) (hR : RdW w) (h9 : 9 < w.heap.size) (ha : lv a a' ≠ -1) (hb : lv b b' ≠ -1) (he : ¬(a = b ∧ a' = b')) : Calls Tryd.prog 6 #[(.agg #[.int .i64 a, .int .i64 a']), (.agg #[.int .i64 b, .int .i64 b']), .string s] w fun e w' => e = .returned (.bool true) ∧ Below w.heap.size w w' := by
  replace hR := Lib.hid hR
  have hS := Lib.hid (box2 w a a' b b')
  have TA := Lib.hid (fun W => text_b a a' (txt a a') W rfl)
  have RA := Lib.hid (fun W h1 h2 => read_good a a' ha W h1 h2)
  have CA := Lib.hid (fun W => check_b a a' 0 W (by rw [if_neg ha]))
  have es := nmB_self a a'
  have CB := Lib.hid (fun W => check_b b b' 0 W (by rw [if_neg hb]))
  have hne : ¬ txt a a' = txt b b' := fun h => he (txt_inj ha hb h)
  have TB := Lib.hid (fun W => text_b b b' (txt b b') W rfl)
  have en := nmB_false he
  generalize txt a a' = x at *
  generalize txt b b' = y at *
  have ex := ne_lists hne
  clear ha hb he hne
  have h6 : (s.size : Int) ≤ 60 := by omega
  have hq := fun a b c d => run_eql_nm a b c d
  have hq2 := fun a b c d => run_neq_nm a b c d
  go_enter Tryd.func6, Tryd.ntmps6
  go_wp2_with fail
  refine (lives_any _).mono ?_
  rintro e w1 ⟨rfl, b1⟩
  replace hS := Lib.hid (hS.out.below b1)
  clear b1
  obtain ⟨_, n0, n1, _⟩ := hS.out.to1.b2
  go_wp2_with fail
  refine (TA.out _).mono ?_
  rintro e w2 ⟨rfl, b2⟩
  replace hS := Lib.hid (hS.out.below b2)
  clear b2 n0 n1
  go_wp2_with fail
  refine (RA.out _ (hR.out.later hS.out.tail.tail.gold h9) (Nat.lt_of_lt_of_le h9 hS.out.tail.tail.gold.size)).mono ?_
  rintro e w3 ⟨rfl, b3⟩
  replace hS := Lib.hid ((hS.out.below b3).alloc #[Value.int .i64 (a), Value.int .i64 (a')] 23)
  clear b3
  obtain ⟨V, hV⟩ : ∃ V, V = w3.heap.size := ⟨_, rfl⟩
  rw [← hV] at hS
  obtain ⟨_, n0, n1, _⟩ := hS.out.to2.b2
  obtain ⟨_, m0, m1, _⟩ := hS.out.b2
  go_wp2_with fail
  refine (CA.out _).mono ?_
  rintro e w4 ⟨rfl, b4⟩
  replace hS := Lib.hid (hS.out.below b4)
  clear b4 n0 n1 m0 m1
  rw [← hV]
  replace hV := Lib.hid hV
  have hT := hS
  clear hS
  go_wp2_with fail
  have hS := Lib.hid (show (fun W : World => Sep W [blk V 23 #[Value.int .i64 (a), Value.int .i64 (a')], blk (w.heap.size + 1) 23 #[Value.int .i64 (b), Value.int .i64 (b')], blk w.heap.size 23 #[Value.int .i64 (a), Value.int .i64 (a')], old w]) _ from hT.out.drew)
  refine hl_begin (fun W : World => Sep W [blk V 23 #[Value.int .i64 (a), Value.int .i64 (a')], blk (w.heap.size + 1) 23 #[Value.int .i64 (b), Value.int .i64 (b')], blk w.heap.size 23 #[Value.int .i64 (a), Value.int .i64 (a')], old w]) [(0, true), (1, true), (2, true), (3, true), (4, true), (5, true), (6, true), (7, true), (8, true), (9, false), (10, true), (11, true), (12, true), (14, true), (17, true), (18, true), (19, true), (13, false), (15, false), (16, true), (20, true), (21, true), (22, true)] (by kernel_rfl) (by kernel_rfl) (by kernel_rfl) rfl (fun _ _ _ _ _ h => h) hS.out ?_
  change HL _ _ _ _ _ _ (World.drew _)
  generalize World.drew _ = wd at *
  refine hl_take ?v34 rfl (by kernel_rfl) ?y34 ?z34
  case y34 => intro W hW; skip; replace hW := Lib.hid hW; go_simp; try rfl
  case z34 =>
  simp only [Act.put, List.setIfInBounds_toArray, List.set_cons_succ, List.set_cons_zero, List.getElem_toArray, List.getElem_cons_zero, List.getElem_cons_succ]
  refine hl_take ?v35 rfl (by kernel_rfl) ?y35 ?z35
  case y35 => intro W hW; skip; replace hW := Lib.hid hW; go_simp; try rfl
  case z35 =>
  simp only [Act.put, List.setIfInBounds_toArray, List.set_cons_succ, List.set_cons_zero, List.getElem_toArray, List.getElem_cons_zero, List.getElem_cons_succ]
  refine hl_take ?v36 rfl (by kernel_rfl) ?y36 ?z36
  case y36 => intro W hW; skip; replace hW := Lib.hid hW; go_simp; try rfl
  case z36 =>
  simp only [Act.put, List.setIfInBounds_toArray, List.set_cons_succ, List.set_cons_zero, List.getElem_toArray, List.getElem_cons_zero, List.getElem_cons_succ]
  refine hl_take ?v37 rfl (by kernel_rfl) ?y37 ?z37
  case y37 => intro W hW; change Sep W _ at hW; have d0 := hW.b2.2.1; have d1 := hW.b2.2.2.1; have c0 := hW.to1.b2.2.1; have c1 := hW.to1.b2.2.2.1; have f0 := hW.to2.b2.2.1; have f1 := hW.to2.b2.2.2.1; replace hW := Lib.hid hW; go_simp; try rfl
  case z37 =>
  simp only [Act.put, List.setIfInBounds_toArray, List.set_cons_succ, List.set_cons_zero, List.getElem_toArray, List.getElem_cons_zero, List.getElem_cons_succ]
  refine hl_take ?v38 rfl (by kernel_rfl) ?y38 ?z38
  case y38 => intro W hW; change Sep W _ at hW; have d0 := hW.b2.2.1; have d1 := hW.b2.2.2.1; have c0 := hW.to1.b2.2.1; have c1 := hW.to1.b2.2.2.1; have f0 := hW.to2.b2.2.1; have f1 := hW.to2.b2.2.2.1; replace hW := Lib.hid hW; go_simp; try rfl
  case z38 =>
  simp only [Act.put, List.setIfInBounds_toArray, List.set_cons_succ, List.set_cons_zero, List.getElem_toArray, List.getElem_cons_zero, List.getElem_cons_succ]
  refine hl_take ?v39 rfl (by kernel_rfl) ?y39 ?z39
  case y39 => intro W hW; skip; replace hW := Lib.hid hW; go_simp; try rfl
  case z39 =>
  simp only [Act.put, List.setIfInBounds_toArray, List.set_cons_succ, List.set_cons_zero, List.getElem_toArray, List.getElem_cons_zero, List.getElem_cons_succ]
  refine hl_take ?v40 rfl (by kernel_rfl) ?y40 ?z40
  case y40 => intro W hW; skip; replace hW := Lib.hid hW; go_simp; try rfl
  case z40 =>
  simp only [Act.put, List.setIfInBounds_toArray, List.set_cons_succ, List.set_cons_zero, List.getElem_toArray, List.getElem_cons_zero, List.getElem_cons_succ]
  refine hl_take ?v41 rfl (by kernel_rfl) ?y41 ?z41
  case y41 => intro W hW; skip; replace hW := Lib.hid hW; go_simp; try rfl
  case z41 =>
  simp only [Act.put, List.setIfInBounds_toArray, List.set_cons_succ, List.set_cons_zero, List.getElem_toArray, List.getElem_cons_zero, List.getElem_cons_succ]
  refine hl_take ?v42 rfl (by kernel_rfl) ?y42 ?z42
  case y42 => intro W hW; change Sep W _ at hW; have d0 := hW.b2.2.1; have d1 := hW.b2.2.2.1; have c0 := hW.to1.b2.2.1; have c1 := hW.to1.b2.2.2.1; have f0 := hW.to2.b2.2.1; have f1 := hW.to2.b2.2.2.1; replace hW := Lib.hid hW; go_simp; try rfl
  case z42 =>
  simp only [Act.put, List.setIfInBounds_toArray, List.set_cons_succ, List.set_cons_zero, List.getElem_toArray, List.getElem_cons_zero, List.getElem_cons_succ]
  refine hl_one rfl (by kernel_rfl) (fun K hK => ?_)
  go_simp
  refine (CB.out _).mono ?_
  rintro e w5 ⟨rfl, b5⟩
  replace hS := Lib.hid (hS.out.below b5)
  clear b5
  refine hK.out _ _ hS.out ?_
  clear hK K
  try simp only [Act.put, List.setIfInBounds_toArray, List.set_cons_succ, List.set_cons_zero, List.getElem_toArray, List.getElem_cons_zero, List.getElem_cons_succ]
  refine hl_take ?v43 rfl (by kernel_rfl) ?y43 ?z43
  case y43 => intro W hW; skip; replace hW := Lib.hid hW; go_simp; try rfl
  case z43 =>
  simp only [Act.put, List.setIfInBounds_toArray, List.set_cons_succ, List.set_cons_zero, List.getElem_toArray, List.getElem_cons_zero, List.getElem_cons_succ]
  refine hl_take ?v44 rfl (by kernel_rfl) ?y44 ?z44
  case y44 => intro W hW; skip; replace hW := Lib.hid hW; go_simp; try rfl
  case z44 =>
  simp only [Act.put, List.setIfInBounds_toArray, List.set_cons_succ, List.set_cons_zero, List.getElem_toArray, List.getElem_cons_zero, List.getElem_cons_succ]
  refine hl_take ?v45 rfl (by kernel_rfl) ?y45 ?z45
  case y45 => intro W hW; change Sep W _ at hW; have d0 := hW.b2.2.1; have d1 := hW.b2.2.2.1; have c0 := hW.to1.b2.2.1; have c1 := hW.to1.b2.2.2.1; have f0 := hW.to2.b2.2.1; have f1 := hW.to2.b2.2.2.1; replace hW := Lib.hid hW; go_simp; try rfl
  case z45 =>
  simp only [Act.put, List.setIfInBounds_toArray, List.set_cons_succ, List.set_cons_zero, List.getElem_toArray, List.getElem_cons_zero, List.getElem_cons_succ]
  refine hl_take ?v46 rfl (by kernel_rfl) ?y46 ?z46
  case y46 => intro W hW; change Sep W _ at hW; have d0 := hW.b2.2.1; have d1 := hW.b2.2.2.1; have c0 := hW.to1.b2.2.1; have c1 := hW.to1.b2.2.2.1; have f0 := hW.to2.b2.2.1; have f1 := hW.to2.b2.2.2.1; replace hW := Lib.hid hW; go_simp; try rfl
  case z46 =>
  simp only [Act.put, List.setIfInBounds_toArray, List.set_cons_succ, List.set_cons_zero, List.getElem_toArray, List.getElem_cons_zero, List.getElem_cons_succ]
  refine hl_take ?v47 rfl (by kernel_rfl) ?y47 ?z47
  case y47 => intro W hW; change Sep W _ at hW; have d0 := hW.b2.2.1; have d1 := hW.b2.2.2.1; have c0 := hW.to1.b2.2.1; have c1 := hW.to1.b2.2.2.1; have f0 := hW.to2.b2.2.1; have f1 := hW.to2.b2.2.2.1; replace hW := Lib.hid hW; go_simp; try rfl
  case z47 =>
  simp only [Act.put, List.setIfInBounds_toArray, List.set_cons_succ, List.set_cons_zero, List.getElem_toArray, List.getElem_cons_zero, List.getElem_cons_succ]
  refine hl_take ?v48 rfl (by kernel_rfl) ?y48 ?z48
  case y48 => intro W hW; change Sep W _ at hW; have d0 := hW.b2.2.1; have d1 := hW.b2.2.2.1; have c0 := hW.to1.b2.2.1; have c1 := hW.to1.b2.2.2.1; have f0 := hW.to2.b2.2.1; have f1 := hW.to2.b2.2.2.1; replace hW := Lib.hid hW; go_simp; try rfl
  case z48 =>
  simp only [Act.put, List.setIfInBounds_toArray, List.set_cons_succ, List.set_cons_zero, List.getElem_toArray, List.getElem_cons_zero, List.getElem_cons_succ]
  refine hl_take ?v49 rfl (by kernel_rfl) ?y49 ?z49
  case y49 => intro W hW; skip; replace hW := Lib.hid hW; go_simp; try rfl
  case z49 =>
  simp only [Act.put, List.setIfInBounds_toArray, List.set_cons_succ, List.set_cons_zero, List.getElem_toArray, List.getElem_cons_zero, List.getElem_cons_succ]
  refine hl_one rfl (by kernel_rfl) (fun K hK => ?_)
  go_simp
  refine (TA.out _).mono ?_
  rintro e w5 ⟨rfl, b5⟩
  replace hS := Lib.hid (hS.out.below b5)
  clear b5
  refine hK.out _ _ hS.out ?_
  clear hK K
  try simp only [Act.put, List.setIfInBounds_toArray, List.set_cons_succ, List.set_cons_zero, List.getElem_toArray, List.getElem_cons_zero, List.getElem_cons_succ]
  refine hl_one rfl (by kernel_rfl) (fun K hK => ?_)
  go_simp
  refine (TB.out _).mono ?_
  rintro e w5 ⟨rfl, b5⟩
  replace hS := Lib.hid (hS.out.below b5)
  clear b5
  refine hK.out _ _ hS.out ?_
  clear hK K
  try simp only [Act.put, List.setIfInBounds_toArray, List.set_cons_succ, List.set_cons_zero, List.getElem_toArray, List.getElem_cons_zero, List.getElem_cons_succ]
  refine hl_take ?v50 rfl (by kernel_rfl) ?y50 ?z50
  case y50 => intro W hW; skip; replace hW := Lib.hid hW; go_simp; try rfl
  case z50 =>
  simp only [Act.put, List.setIfInBounds_toArray, List.set_cons_succ, List.set_cons_zero, List.getElem_toArray, List.getElem_cons_zero, List.getElem_cons_succ]
  refine hl_take ?v51 rfl (by kernel_rfl) ?y51 ?z51
  case y51 => intro W hW; skip; replace hW := Lib.hid hW; go_simp; try rfl
  case z51 =>
  simp only [Act.put, List.setIfInBounds_toArray, List.set_cons_succ, List.set_cons_zero, List.getElem_toArray, List.getElem_cons_zero, List.getElem_cons_succ]
  refine hl_take ?v52 rfl (by kernel_rfl) ?y52 ?z52
  case y52 => intro W hW; skip; replace hW := Lib.hid hW; go_simp; try rfl
  case z52 =>
  simp only [Act.put, List.setIfInBounds_toArray, List.set_cons_succ, List.set_cons_zero, List.getElem_toArray, List.getElem_cons_zero, List.getElem_cons_succ]
  refine hl_take ?v53 rfl (by kernel_rfl) ?y53 ?z53
  case y53 => intro W hW; skip; replace hW := Lib.hid hW; go_simp; try rfl
  case z53 =>
  simp only [Act.put, List.setIfInBounds_toArray, List.set_cons_succ, List.set_cons_zero, List.getElem_toArray, List.getElem_cons_zero, List.getElem_cons_succ]
  refine hl_done ?_
  skip
  go_wp2_with fail
  have RS := Lib.hid (read_any s (by omega) _ (hR.out.later (hS.out.tail.tail.tail.gold) h9) (Nat.lt_of_lt_of_le h9 (hS.out.tail.tail.tail.gold).size))
  refine RS.out.mono ?_
  rintro e w8 ⟨t, r, c, rfl, hv, b8⟩
  clear RS
  replace hS := Lib.hid ((hS.out.below b8).alloc #[Value.int .i64 (t), Value.int .i64 (r)] 23)
  clear b8
  have hv' : (c = 0 ∧ lv t r ≠ -1 ∧ txt t r = s) ∨ (c = 3 ∧ t = 0 ∧ r = 0) := by
    rcases hv with ⟨a1, a2, rfl, rfl, rfl⟩ | ⟨_, rfl, rfl, rfl⟩
    · exact .inl ⟨rfl, a1, a2⟩
    · exact .inr ⟨rfl, rfl, rfl⟩
  clear hv
  rcases hv' with ⟨rfl, hl, ht⟩ | ⟨rfl, rfl, rfl⟩
  · have HC := Lib.hid (fun W => check_b t r 0 W (by rw [if_neg hl]))
    have HT := Lib.hid (fun W => text_b t r s W ht)
    clear hl ht
    obtain ⟨_, q0, q1, _⟩ := hS.out.b2
    go_wp2_with fail
    refine (HC.out _).mono ?_
    rintro e w2 ⟨rfl, b2⟩
    replace hS := Lib.hid (hS.out.below b2)
    clear b2
    clear q0 q1
    obtain ⟨_, q0, q1, _⟩ := hS.out.b2
    go_wp2_with fail
    refine (HT.out _).mono ?_
    rintro e w2 ⟨rfl, b2⟩
    replace hS := Lib.hid (hS.out.below b2)
    clear b2
    clear q0 q1
    go_wp2_with fail
    go_ret
    exact ⟨rfl, hS.out.tail.tail.tail.tail.gold⟩
  · have en : nmB 0 0 0 0 = true := rfl
    obtain ⟨_, q0, q1, _⟩ := hS.out.b2
    go_wp2_with fail
    go_ret
    exact ⟨rfl, hS.out.tail.tail.tail.tail.gold⟩
theorem back_walk (a a' b b' : Int) (s : ByteArray) (w : World) (hR : RdW w) (h9 : 9 < w.heap.size) : Calls Tryd.prog 6 #[(.agg #[.int .i64 a, .int .i64 a']), (.agg #[.int .i64 b, .int .i64 b']), .string s] w fun e w' => e = .returned (.bool true) ∧ Below w.heap.size w w' := by
  by_cases h60 : s.size ≤ 60
  · by_cases ha : lv a a' = -1
    · exact back_bad a a' b b' s w h60 hR h9 ha
    · by_cases hb : lv b b' = -1
      · exact back_inv a a' b b' s w h60 hR h9 ha hb
      · by_cases he : a = b ∧ a' = b'
        · exact back_same a a' b b' s w h60 hR h9 ha hb he
        · exact back_diff a a' b b' s w h60 hR h9 ha hb he
  · have hS := Lib.hid (box2 w a a' b b')
    have h6 : ¬ ((s.size : Int) ≤ 60) := by omega
    go_enter Tryd.func6, Tryd.ntmps6
    go_wp2_with fail
    refine (lives_any _).mono ?_
    rintro e w1 ⟨rfl, b1⟩
    replace hS := Lib.hid (hS.out.below b1)
    clear b1
    go_wp2_with fail
    go_ret
    exact ⟨rfl, hS.out.tail.tail.gold⟩
end Go.Proofs.YtiaibmabmholaaaDoor
