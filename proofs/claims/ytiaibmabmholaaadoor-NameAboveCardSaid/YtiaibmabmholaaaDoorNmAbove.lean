/-
  The walk of NameAbove. No condition beside arguments that can be read.
-/
import Derived.Test.YtiaibmabmholaaaDoorNmV
import Derived.Test.YtiaibmabmholaaaDoorHl
namespace Go.Proofs.YtiaibmabmholaaaDoor
open Go.RowKit
theorem compare_a (t r t' r' x : Int) (w : World) (h : cmpN t r t' r' = x) : Calls Tryd.prog 16 #[(.agg #[.int .i64 t, .int .i64 r]), (.agg #[.int .i64 t', .int .i64 r'])] w fun e w' => e = .returned (.int .i64 x) ∧ Below w.heap.size w w' := by
  subst h
  exact compare_any t r t' r' w
theorem level_a (t r n : Int) (w : World) (h : lv t r = n) : Calls Tryd.prog 15 #[(.agg #[.int .i64 t, .int .i64 r])] w fun e w' => e = .returned (.int .i64 n) ∧ Below w.heap.size w w' := by
  subst h
  exact level_any t r w
theorem under_a (t r t' r' : Int) (x : Bool) (w : World) (h : undB t r t' r' = x) : Calls Tryd.prog 11 #[(.agg #[.int .i64 t, .int .i64 r]), (.agg #[.int .i64 t', .int .i64 r'])] w fun e w' => e = .returned (.bool x) ∧ Below w.heap.size w w' := by
  subst h
  exact under_any t r t' r' w
theorem anc_a (t r : Int) (k : Nat) (w : World) (h : AncK t r k) : Calls Tryd.prog 18 #[(.agg #[.int .i64 t, .int .i64 r])] w fun e w' => ∃ g, e = .returned (.slice (some ⟨g, 0, none⟩) k 2) ∧ Sep w' [blk g 23 #[.int .i64 (-1), .int .i64 (-1), .int .i64 t, .int .i64 (-1)], old w] := by
  refine (ancestors_any t r w).mono ?_
  rintro e w1 ⟨g, k', rfl, hk, hA⟩
  obtain rfl : k' = k := by unfold AncK at hk h; omega
  exact ⟨g, rfl, hA⟩
theorem parent_a (t r a b : Int) (c : Bool) (w : World) (h : ParV t r a b c) : Calls Tryd.prog 17 #[(.agg #[.int .i64 t, .int .i64 r])] w fun e w' => e = .returned (.tuple #[(.agg #[.int .i64 a, .int .i64 b]), .bool c]) ∧ Below w.heap.size w w' := by
  refine (parent_any t r w).mono ?_
  rintro e w1 ⟨x, y, d, rfl, hv, b1⟩
  obtain ⟨rfl, rfl, rfl⟩ : x = a ∧ y = b ∧ d = c := by
    rcases hv with ⟨h1, rfl, rfl, rfl⟩ | ⟨h1, rfl, rfl, rfl⟩ | ⟨h1, rfl, rfl, rfl⟩ <;> rcases h with ⟨h2, rfl, rfl, rfl⟩ | ⟨h2, rfl, rfl, rfl⟩ | ⟨h2, rfl, rfl, rfl⟩ <;> first | exact ⟨rfl, rfl, rfl⟩ | (exfalso; omega)
  exact ⟨rfl, b1⟩
/-- Is m among n and the first j names above it? -/
def inA (m m' t r : Int) : Nat → Bool
  | 0 => nmB m m' t r
  | 1 => nmB m m' t r || nmB (-1) (-1) m m'
  | _ => nmB m m' t r || nmB (-1) (-1) m m' || nmB t (-1) m m'
theorem und_in1 (m m' t r : Int) (h : lv t r = 1) : undB t r m m' = inA m m' t r 1 := by
  rw [Bool.eq_iff_iff]
  simp [undB, inA, nmB, h]
  omega
theorem und_in2 (m m' t r : Int) (h : lv t r = 2) : undB t r m m' = inA m m' t r 2 := by
  rw [Bool.eq_iff_iff]
  simp [undB, inA, nmB, h]
  omega
theorem rn_nil (w : World) (a : Option Addr) (c : Nat) : RN w (.slice a 0 c) [] := ⟨a, c, rfl, fun h => absurd h (by simp)⟩
theorem box2a (w : World) (t r t' r' : Int) : Sep ((w.alloc (.cells #[Value.int .i64 (t), Value.int .i64 (r)] 23)).alloc (.cells #[Value.int .i64 (t'), Value.int .i64 (r')] 23)) [blk (w.heap.size + 1) 23 #[Value.int .i64 (t'), Value.int .i64 (r')], blk w.heap.size 23 #[Value.int .i64 (t), Value.int .i64 (r)], old w] := box2 w t r t' r'
set_option maxHeartbeats 1000000 in
set_option maxRecDepth 100000 in
theorem above_low (t r m m' : Int) (w : World) (hl : lv t r < 1) : Calls Tryd.prog 5 #[(.agg #[.int .i64 t, .int .i64 r]), (.agg #[.int .i64 m, .int .i64 m'])] w fun e w' => e = .returned (.bool true) ∧ Below w.heap.size w w' := by
  have hS := Lib.hid (box2a w t r m m')
  have hk : AncK t r 0 := by have := lv_spec t r; unfold AncK; split <;> omega
  have AN := Lib.hid (fun W => anc_a t r 0 W hk)
  have PA := Lib.hid (fun W => parent_a t r 0 0 false W (.inl ⟨hl, rfl, rfl, rfl⟩))
  obtain ⟨x, hx⟩ : ∃ x, Hid (lv t r = x) := ⟨_, rfl⟩
  have LV := Lib.hid (fun W => level_a t r x W hx.out)
  have hx1 : x < 1 := by rw [← hx.out]; exact hl
  have en : nmB 0 0 0 0 = true := rfl
  have hq := fun a b c d => run_eql_nm a b c d
  clear hl hk hx
  go_enter Tryd.func5, Tryd.ntmps5
  go_wp2_with fail
  refine (lives_any _).mono ?_
  rintro e w1 ⟨rfl, b1⟩
  replace hS := Lib.hid (hS.out.below b1)
  clear b1
  obtain ⟨_, f0, f1, _⟩ := hS.out.to1.b2
  go_wp2_with fail
  refine (AN.out _).mono ?_
  rintro e w2 ⟨g, rfl, hA⟩
  replace hS := Lib.hid (hA.graft hS.out)
  clear hA f0 f1
  obtain ⟨_, f0, f1, _⟩ := hS.out.to2.b2
  go_wp2_with fail
  refine (PA.out _).mono ?_
  rintro e w3 ⟨rfl, b3⟩
  replace hS := Lib.hid ((hS.out.below b3).alloc #[Value.int .i64 (0), Value.int .i64 (0)] 23)
  clear b3 f0 f1
  obtain ⟨_, f0, f1, _⟩ := hS.out.to3.b2
  obtain ⟨_, g0, g1, _⟩ := hS.out.b2
  go_wp2_with fail
  refine (LV.out _).mono ?_
  rintro e w4 ⟨rfl, b4⟩
  replace hS := Lib.hid (hS.out.below b4)
  clear b4 f0 f1 g0 g1
  obtain ⟨_, g0, g1, _⟩ := hS.out.b2
  go_wp2_with fail
  go_ret
  exact ⟨rfl, hS.out.tail.tail.tail.tail.gold⟩
set_option maxHeartbeats 4000000 in
set_option maxRecDepth 100000 in
theorem above_1 (t r m m' : Int) (w : World) (hl : lv t r = 1) : Calls Tryd.prog 5 #[(.agg #[.int .i64 t, .int .i64 r]), (.agg #[.int .i64 m, .int .i64 m'])] w fun e w' => e = .returned (.bool true) ∧ Below w.heap.size w w' := by
  obtain ⟨ht1, ht2, rfl⟩ : 0 ≤ t ∧ t < 100 ∧ r = -1 := by have := lv_spec t r; omega
  have hS := Lib.hid (box2a w t (-1) m m')
  have AN := Lib.hid (fun W => anc_a t (-1) 1 W (by unfold AncK; rw [hl]; rfl))
  have PA := Lib.hid (fun W => parent_a t (-1) (-1) (-1) true W (.inr (.inl ⟨hl, rfl, rfl, rfl⟩)))
  have LV := Lib.hid (fun W => level_a t (-1) 1 W hl)
  have AP := Lib.hid (fun W => anc_a (-1) (-1) 0 W (by have := lv_spec (-1) (-1); unfold AncK; split <;> omega))
  have hk1 := Lib.hid (show AncK t (-1) 1 by have := lv_spec t (-1); unfold AncK; split <;> omega)
  have UN := Lib.hid (fun W => under_a t (-1) m m' (inA m m' t (-1) 1) W (und_in1 m m' t (-1) hl))
  have L0 := Lib.hid (fun W => level_a (-1) (-1) 0 W (by decide))
  have L1 := Lib.hid (fun W => level_a t (-1) 1 W (by have := lv_spec t (-1); omega))
  have C0 := Lib.hid (fun W => compare_a (-1) (-1) t (-1) (-1) W (by have := cmpN_spec (-1) (-1) t (-1); omega))
  have en := nmB_self (-1) (-1)
  have hq := fun a b c d => run_eql_nm a b c d
  have hq2 := fun a b c d => run_neq_nm a b c d
  have eI0 := Lib.hid (show inA m m' t (-1) 0 = nmB m m' t (-1) from rfl)
  clear hl
  go_enter Tryd.func5, Tryd.ntmps5
  go_wp2_with fail
  refine (lives_any _).mono ?_
  rintro e w1 ⟨rfl, b1⟩
  replace hS := Lib.hid (hS.out.below b1)
  clear b1
  obtain ⟨_, f0, f1, _⟩ := hS.out.to1.b2
  go_wp2_with fail
  refine (AN.out _).mono ?_
  rintro e w2 ⟨g, rfl, hA⟩
  replace hS := Lib.hid (hA.graft hS.out)
  clear hA f0 f1
  obtain ⟨_, f0, f1, _⟩ := hS.out.to2.b2
  go_wp2_with fail
  refine (PA.out _).mono ?_
  rintro e w3 ⟨rfl, b3⟩
  replace hS := Lib.hid ((hS.out.below b3).alloc #[Value.int .i64 ((-1)), Value.int .i64 ((-1))] 23)
  clear b3 f0 f1
  obtain ⟨V, hV⟩ : ∃ V, V = w3.heap.size := ⟨_, rfl⟩
  rw [← hV] at hS
  replace hV := Lib.hid hV.symm
  have hT := hS
  clear hS
  go_wp2_with fail
  rw [hV.out]
  generalize World.alloc w3 _ = wa at *
  have hS := Lib.hid (show (fun W : World => Sep W [blk V 23 #[Value.int .i64 ((-1)), Value.int .i64 ((-1))], blk g 23 #[.int .i64 (-1), .int .i64 (-1), .int .i64 t, .int .i64 (-1)], blk (w.heap.size + 1) 23 #[Value.int .i64 (m), Value.int .i64 (m')], blk w.heap.size 23 #[Value.int .i64 (t), Value.int .i64 ((-1))], old w]) _ from hT.out.drew)
  refine hl_begin (fun W : World => Sep W [blk V 23 #[Value.int .i64 ((-1)), Value.int .i64 ((-1))], blk g 23 #[.int .i64 (-1), .int .i64 (-1), .int .i64 t, .int .i64 (-1)], blk (w.heap.size + 1) 23 #[Value.int .i64 (m), Value.int .i64 (m')], blk w.heap.size 23 #[Value.int .i64 (t), Value.int .i64 ((-1))], old w]) [(0, true), (1, true), (2, true), (3, false), (4, true), (5, true), (6, true), (7, true), (8, true), (9, true), (10, true), (11, true), (12, true), (13, true), (14, true), (15, true), (16, true), (17, true), (18, true), (19, true), (20, true), (21, true), (22, false), (23, false), (24, true), (25, true)] (by kernel_rfl) (by kernel_rfl) (by kernel_rfl) rfl (fun _ _ _ _ _ h => h) hS.out ?_
  change HL _ _ _ _ _ _ (World.drew _)
  generalize World.drew _ = wd at *
  refine hl_take ?v1 rfl (by kernel_rfl) ?y1 ?z1
  case y1 => intro W hW; have z0 : IntKind.i64.wrap 0 = 0 := rfl; have z1 : IntKind.i64.wrap 1 = 1 := rfl; replace hW := Lib.hid hW; go_simp; try rfl
  case z1 =>
  simp only [Act.put, List.setIfInBounds_toArray, List.set_cons_succ, List.set_cons_zero, List.getElem_toArray, List.getElem_cons_zero, List.getElem_cons_succ]
  refine hl_take ?v2 rfl (by kernel_rfl) ?y2 ?z2
  case y2 => intro W hW; have z0 : IntKind.i64.wrap 0 = 0 := rfl; have z1 : IntKind.i64.wrap 1 = 1 := rfl; replace hW := Lib.hid hW; go_simp; try rfl
  case z2 =>
  simp only [Act.put, List.setIfInBounds_toArray, List.set_cons_succ, List.set_cons_zero, List.getElem_toArray, List.getElem_cons_zero, List.getElem_cons_succ]
  refine hl_take ?v3 rfl (by kernel_rfl) ?y3 ?z3
  case y3 => intro W hW; change Sep W _ at hW; have p0 := hW.b2.2.1; have p1 := hW.b2.2.2.1; have a0 := hW.to1.b4.2.1; have a1 := hW.to1.b4.2.2.1; have a2 := hW.to1.b4.2.2.2.1; have a3 := hW.to1.b4.2.2.2.2.1; have m0 := hW.to2.b2.2.1; have m1 := hW.to2.b2.2.2.1; have n0 := hW.to3.b2.2.1; have n1 := hW.to3.b2.2.2.1; replace hW := Lib.hid hW; go_simp; try rfl
  case z3 =>
  simp only [Act.put, List.setIfInBounds_toArray, List.set_cons_succ, List.set_cons_zero, List.getElem_toArray, List.getElem_cons_zero, List.getElem_cons_succ]
  refine hl_one rfl (by kernel_rfl) (fun K hK => ?_)
  go_simp
  refine (LV.out _).mono ?_
  rintro e w2 ⟨rfl, b2⟩
  replace hS := Lib.hid (hS.out.below b2)
  clear b2
  refine hK.out _ _ hS.out ?_
  clear hK K
  try simp only [Act.put, List.setIfInBounds_toArray, List.set_cons_succ, List.set_cons_zero, List.getElem_toArray, List.getElem_cons_zero, List.getElem_cons_succ]
  refine hl_take ?v4 rfl (by kernel_rfl) ?y4 ?z4
  case y4 => intro W hW; have z0 : IntKind.i64.wrap 0 = 0 := rfl; have z1 : IntKind.i64.wrap 1 = 1 := rfl; replace hW := Lib.hid hW; go_simp; try rfl
  case z4 =>
  simp only [Act.put, List.setIfInBounds_toArray, List.set_cons_succ, List.set_cons_zero, List.getElem_toArray, List.getElem_cons_zero, List.getElem_cons_succ]
  refine hl_take ?v5 rfl (by kernel_rfl) ?y5 ?z5
  case y5 => intro W hW; have z0 : IntKind.i64.wrap 0 = 0 := rfl; have z1 : IntKind.i64.wrap 1 = 1 := rfl; replace hW := Lib.hid hW; go_simp; try rfl
  case z5 =>
  simp only [Act.put, List.setIfInBounds_toArray, List.set_cons_succ, List.set_cons_zero, List.getElem_toArray, List.getElem_cons_zero, List.getElem_cons_succ]
  refine hl_take ?v6 rfl (by kernel_rfl) ?y6 ?z6
  case y6 => intro W hW; have z0 : IntKind.i64.wrap 0 = 0 := rfl; have z1 : IntKind.i64.wrap 1 = 1 := rfl; replace hW := Lib.hid hW; go_simp; try rfl
  case z6 =>
  simp only [Act.put, List.setIfInBounds_toArray, List.set_cons_succ, List.set_cons_zero, List.getElem_toArray, List.getElem_cons_zero, List.getElem_cons_succ]
  refine hl_take ?v7 rfl (by kernel_rfl) ?y7 ?z7
  case y7 => intro W hW; have z0 : IntKind.i64.wrap 0 = 0 := rfl; have z1 : IntKind.i64.wrap 1 = 1 := rfl; replace hW := Lib.hid hW; go_simp; try rfl
  case z7 =>
  simp only [Act.put, List.setIfInBounds_toArray, List.set_cons_succ, List.set_cons_zero, List.getElem_toArray, List.getElem_cons_zero, List.getElem_cons_succ]
  refine hl_take ?v8 rfl (by kernel_rfl) ?y8 ?z8
  case y8 => intro W hW; have z0 : IntKind.i64.wrap 0 = 0 := rfl; have z1 : IntKind.i64.wrap 1 = 1 := rfl; replace hW := Lib.hid hW; go_simp; try rfl
  case z8 =>
  simp only [Act.put, List.setIfInBounds_toArray, List.set_cons_succ, List.set_cons_zero, List.getElem_toArray, List.getElem_cons_zero, List.getElem_cons_succ]
  refine hl_take ?v9 rfl (by kernel_rfl) ?y9 ?z9
  case y9 => intro W hW; have z0 : IntKind.i64.wrap 0 = 0 := rfl; have z1 : IntKind.i64.wrap 1 = 1 := rfl; replace hW := Lib.hid hW; go_simp; try rfl
  case z9 =>
  simp only [Act.put, List.setIfInBounds_toArray, List.set_cons_succ, List.set_cons_zero, List.getElem_toArray, List.getElem_cons_zero, List.getElem_cons_succ]
  refine hl_take ?v10 rfl (by kernel_rfl) ?y10 ?z10
  case y10 => intro W hW; have z0 : IntKind.i64.wrap 0 = 0 := rfl; have z1 : IntKind.i64.wrap 1 = 1 := rfl; replace hW := Lib.hid hW; go_simp; try rfl
  case z10 =>
  simp only [Act.put, List.setIfInBounds_toArray, List.set_cons_succ, List.set_cons_zero, List.getElem_toArray, List.getElem_cons_zero, List.getElem_cons_succ]
  refine hl_take ?v11 rfl (by kernel_rfl) ?y11 ?z11
  case y11 => intro W hW; change Sep W _ at hW; have p0 := hW.b2.2.1; have p1 := hW.b2.2.2.1; have a0 := hW.to1.b4.2.1; have a1 := hW.to1.b4.2.2.1; have a2 := hW.to1.b4.2.2.2.1; have a3 := hW.to1.b4.2.2.2.2.1; have m0 := hW.to2.b2.2.1; have m1 := hW.to2.b2.2.2.1; have n0 := hW.to3.b2.2.1; have n1 := hW.to3.b2.2.2.1; replace hW := Lib.hid hW; go_simp; try rfl
  case z11 =>
  simp only [Act.put, List.setIfInBounds_toArray, List.set_cons_succ, List.set_cons_zero, List.getElem_toArray, List.getElem_cons_zero, List.getElem_cons_succ]
  refine hl_take ?v12 rfl (by kernel_rfl) ?y12 ?z12
  case y12 => intro W hW; change Sep W _ at hW; have p0 := hW.b2.2.1; have p1 := hW.b2.2.2.1; have a0 := hW.to1.b4.2.1; have a1 := hW.to1.b4.2.2.1; have a2 := hW.to1.b4.2.2.2.1; have a3 := hW.to1.b4.2.2.2.2.1; have m0 := hW.to2.b2.2.1; have m1 := hW.to2.b2.2.2.1; have n0 := hW.to3.b2.2.1; have n1 := hW.to3.b2.2.2.1; replace hW := Lib.hid hW; go_simp; try rfl
  case z12 =>
  simp only [Act.put, List.setIfInBounds_toArray, List.set_cons_succ, List.set_cons_zero, List.getElem_toArray, List.getElem_cons_zero, List.getElem_cons_succ]
  refine hl_take ?v13 rfl (by kernel_rfl) ?y13 ?z13
  case y13 => intro W hW; have z0 : IntKind.i64.wrap 0 = 0 := rfl; have z1 : IntKind.i64.wrap 1 = 1 := rfl; replace hW := Lib.hid hW; go_simp; try rfl
  case z13 =>
  simp only [Act.put, List.setIfInBounds_toArray, List.set_cons_succ, List.set_cons_zero, List.getElem_toArray, List.getElem_cons_zero, List.getElem_cons_succ]
  refine hl_take ?v14 rfl (by kernel_rfl) ?y14 ?z14
  case y14 => intro W hW; have z0 : IntKind.i64.wrap 0 = 0 := rfl; have z1 : IntKind.i64.wrap 1 = 1 := rfl; replace hW := Lib.hid hW; go_simp; try rfl
  case z14 =>
  simp only [Act.put, List.setIfInBounds_toArray, List.set_cons_succ, List.set_cons_zero, List.getElem_toArray, List.getElem_cons_zero, List.getElem_cons_succ]
  refine hl_take ?v15 rfl (by kernel_rfl) ?y15 ?z15
  case y15 => intro W hW; have z0 : IntKind.i64.wrap 0 = 0 := rfl; have z1 : IntKind.i64.wrap 1 = 1 := rfl; replace hW := Lib.hid hW; go_simp; try rfl
  case z15 =>
  simp only [Act.put, List.setIfInBounds_toArray, List.set_cons_succ, List.set_cons_zero, List.getElem_toArray, List.getElem_cons_zero, List.getElem_cons_succ]
  refine hl_take ?v16 rfl (by kernel_rfl) ?y16 ?z16
  case y16 => intro W hW; have z0 : IntKind.i64.wrap 0 = 0 := rfl; have z1 : IntKind.i64.wrap 1 = 1 := rfl; replace hW := Lib.hid hW; go_simp; try rfl
  case z16 =>
  simp only [Act.put, List.setIfInBounds_toArray, List.set_cons_succ, List.set_cons_zero, List.getElem_toArray, List.getElem_cons_zero, List.getElem_cons_succ]
  refine hl_take ?v17 rfl (by kernel_rfl) ?y17 ?z17
  case y17 => intro W hW; have z0 : IntKind.i64.wrap 0 = 0 := rfl; have z1 : IntKind.i64.wrap 1 = 1 := rfl; replace hW := Lib.hid hW; go_simp; try rfl
  case z17 =>
  simp only [Act.put, List.setIfInBounds_toArray, List.set_cons_succ, List.set_cons_zero, List.getElem_toArray, List.getElem_cons_zero, List.getElem_cons_succ]
  refine hl_take ?v18 rfl (by kernel_rfl) ?y18 ?z18
  case y18 => intro W hW; have z0 : IntKind.i64.wrap 0 = 0 := rfl; have z1 : IntKind.i64.wrap 1 = 1 := rfl; replace hW := Lib.hid hW; go_simp; try rfl
  case z18 =>
  simp only [Act.put, List.setIfInBounds_toArray, List.set_cons_succ, List.set_cons_zero, List.getElem_toArray, List.getElem_cons_zero, List.getElem_cons_succ]
  refine hl_take ?v19 rfl (by kernel_rfl) ?y19 ?z19
  case y19 => intro W hW; have z0 : IntKind.i64.wrap 0 = 0 := rfl; have z1 : IntKind.i64.wrap 1 = 1 := rfl; replace hW := Lib.hid hW; go_simp; try rfl
  case z19 =>
  simp only [Act.put, List.setIfInBounds_toArray, List.set_cons_succ, List.set_cons_zero, List.getElem_toArray, List.getElem_cons_zero, List.getElem_cons_succ]
  refine hl_take ?v20 rfl (by kernel_rfl) ?y20 ?z20
  case y20 => intro W hW; have z0 : IntKind.i64.wrap 0 = 0 := rfl; have z1 : IntKind.i64.wrap 1 = 1 := rfl; replace hW := Lib.hid hW; go_simp; try rfl
  case z20 =>
  simp only [Act.put, List.setIfInBounds_toArray, List.set_cons_succ, List.set_cons_zero, List.getElem_toArray, List.getElem_cons_zero, List.getElem_cons_succ]
  refine hl_take ?v21 rfl (by kernel_rfl) ?y21 ?z21
  case y21 => intro W hW; change Sep W _ at hW; have p0 := hW.b2.2.1; have p1 := hW.b2.2.2.1; have a0 := hW.to1.b4.2.1; have a1 := hW.to1.b4.2.2.1; have a2 := hW.to1.b4.2.2.2.1; have a3 := hW.to1.b4.2.2.2.2.1; have m0 := hW.to2.b2.2.1; have m1 := hW.to2.b2.2.2.1; have n0 := hW.to3.b2.2.1; have n1 := hW.to3.b2.2.2.1; replace hW := Lib.hid hW; go_simp; try rfl
  case z21 =>
  simp only [Act.put, List.setIfInBounds_toArray, List.set_cons_succ, List.set_cons_zero, List.getElem_toArray, List.getElem_cons_zero, List.getElem_cons_succ]
  refine hl_one rfl (by kernel_rfl) (fun K hK => ?_)
  go_simp
  refine (AP.out _).mono ?_
  rintro e w2 ⟨g', rfl, hA⟩
  have hRN := Lib.hid (rn_nil w2 (some ⟨g', 0, none⟩) 2)
  replace hS := Lib.hid ((hA.graft hS.out).tail)
  clear hA
  refine hK.out _ _ hS.out ?_
  clear hK K
  try simp only [Act.put, List.setIfInBounds_toArray, List.set_cons_succ, List.set_cons_zero, List.getElem_toArray, List.getElem_cons_zero, List.getElem_cons_succ]
  refine hl_one rfl (by kernel_rfl) (fun K hK => ?_)
  go_simp
  refine (sameN_true _ _ [] _ (by simp [ancL]) (rn_nil _ _ _) hRN.out).mono ?_
  rintro e w2 ⟨rfl, q, rfl⟩
  replace hS := Lib.hid (hS.out.drewN q)
  refine hK.out _ _ hS.out ?_
  clear hK K
  try simp only [Act.put, List.setIfInBounds_toArray, List.set_cons_succ, List.set_cons_zero, List.getElem_toArray, List.getElem_cons_zero, List.getElem_cons_succ]
  refine hl_take ?v22 rfl (by kernel_rfl) ?y22 ?z22
  case y22 => intro W hW; have z0 : IntKind.i64.wrap 0 = 0 := rfl; have z1 : IntKind.i64.wrap 1 = 1 := rfl; replace hW := Lib.hid hW; go_simp; try rfl
  case z22 =>
  simp only [Act.put, List.setIfInBounds_toArray, List.set_cons_succ, List.set_cons_zero, List.getElem_toArray, List.getElem_cons_zero, List.getElem_cons_succ]
  refine hl_take ?v23 rfl (by kernel_rfl) ?y23 ?z23
  case y23 => intro W hW; have z0 : IntKind.i64.wrap 0 = 0 := rfl; have z1 : IntKind.i64.wrap 1 = 1 := rfl; replace hW := Lib.hid hW; go_simp; try rfl
  case z23 =>
  simp only [Act.put, List.setIfInBounds_toArray, List.set_cons_succ, List.set_cons_zero, List.getElem_toArray, List.getElem_cons_zero, List.getElem_cons_succ]
  refine hl_done ?_
  skip
  clear hT
  obtain ⟨_, m0, m1, _⟩ := hS.out.to2.b2
  obtain ⟨_, n0, n1, _⟩ := hS.out.to3.b2
  go_wp2_with fail
  rw [← eI0.out]
  go_loopw [8, 9] (fun s8 i wr => ∃ j : Nat, j ≤ 1 ∧ i = .int .i64 j ∧ s8 = .bool (inA m m' t (-1) j) ∧ Hid ((fun W : World => Sep W [blk V 23 #[Value.int .i64 ((-1)), Value.int .i64 ((-1))], blk g 23 #[.int .i64 (-1), .int .i64 (-1), .int .i64 t, .int .i64 (-1)], blk (w.heap.size + 1) 23 #[Value.int .i64 (m), Value.int .i64 (m')], blk w.heap.size 23 #[Value.int .i64 (t), Value.int .i64 ((-1))], old w]) wr)) (fun _ i _ => 1 - (intOf i).toNat)
  case atStart => exact ⟨0, by omega, rfl, rfl, hS⟩
  case round =>
    clear hS m0 m1 n0 n1
    obtain ⟨j, hj, rfl, rfl, hT⟩ := hrel
    have hT : Hid (Sep wr _) := hT
    have h3 : j = 0 ∨ j = 1 := by omega
    rcases h3 with rfl | rfl
    · cases hin : inA m m' t (-1) 0 with
      | false =>
        have eN := Lib.hid (show inA m m' t (-1) 1 = nmB (-1) (-1) m m' by simp only [inA] at hin ⊢; rw [hin]; rfl)
        clear hin
        go_wp2_with fail
        have hS := Lib.hid (show (fun W : World => Sep W [blk V 23 #[Value.int .i64 ((-1)), Value.int .i64 ((-1))], blk g 23 #[.int .i64 (-1), .int .i64 (-1), .int .i64 t, .int .i64 (-1)], blk (w.heap.size + 1) 23 #[Value.int .i64 (m), Value.int .i64 (m')], blk w.heap.size 23 #[Value.int .i64 (t), Value.int .i64 ((-1))], old w]) _ from hT.out.drew)
        refine hl_begin (fun W : World => Sep W [blk V 23 #[Value.int .i64 ((-1)), Value.int .i64 ((-1))], blk g 23 #[.int .i64 (-1), .int .i64 (-1), .int .i64 t, .int .i64 (-1)], blk (w.heap.size + 1) 23 #[Value.int .i64 (m), Value.int .i64 (m')], blk w.heap.size 23 #[Value.int .i64 (t), Value.int .i64 ((-1))], old w]) [(0, true), (1, true), (2, true), (3, true), (5, true), (4, false), (6, true), (7, true), (8, true), (9, true), (10, true), (11, true), (12, true), (13, false), (14, true), (15, true)] (by kernel_rfl) (by kernel_rfl) (by kernel_rfl) rfl (fun _ _ _ _ _ h => h) hS.out ?_
        change HL _ _ _ _ _ _ (World.drew _)
        generalize World.drew _ = wd at *
        refine hl_take ?v24 rfl (by kernel_rfl) ?y24 ?z24
        case y24 => intro W hW; have z0 : IntKind.i64.wrap 0 = 0 := rfl; have z1 : IntKind.i64.wrap 1 = 1 := rfl; replace hW := Lib.hid hW; go_simp; try rfl
        case z24 =>
        simp only [Act.put, List.setIfInBounds_toArray, List.set_cons_succ, List.set_cons_zero, List.getElem_toArray, List.getElem_cons_zero, List.getElem_cons_succ]
        refine hl_take ?v25 rfl (by kernel_rfl) ?y25 ?z25
        case y25 => intro W hW; have z0 : IntKind.i64.wrap 0 = 0 := rfl; have z1 : IntKind.i64.wrap 1 = 1 := rfl; replace hW := Lib.hid hW; go_simp; try rfl
        case z25 =>
        simp only [Act.put, List.setIfInBounds_toArray, List.set_cons_succ, List.set_cons_zero, List.getElem_toArray, List.getElem_cons_zero, List.getElem_cons_succ]
        refine hl_take ?v26 rfl (by kernel_rfl) ?y26 ?z26
        case y26 => intro W hW; have z0 : IntKind.i64.wrap 0 = 0 := rfl; have z1 : IntKind.i64.wrap 1 = 1 := rfl; replace hW := Lib.hid hW; go_simp; try rfl
        case z26 =>
        simp only [Act.put, List.setIfInBounds_toArray, List.set_cons_succ, List.set_cons_zero, List.getElem_toArray, List.getElem_cons_zero, List.getElem_cons_succ]
        refine hl_take ?v27 rfl (by kernel_rfl) ?y27 ?z27
        case y27 => intro W hW; change Sep W _ at hW; have p0 := hW.b2.2.1; have p1 := hW.b2.2.2.1; have a0 := hW.to1.b4.2.1; have a1 := hW.to1.b4.2.2.1; have a2 := hW.to1.b4.2.2.2.1; have a3 := hW.to1.b4.2.2.2.2.1; have m0 := hW.to2.b2.2.1; have m1 := hW.to2.b2.2.2.1; have n0 := hW.to3.b2.2.1; have n1 := hW.to3.b2.2.2.1; replace hW := Lib.hid hW; go_simp; try rfl
        case z27 =>
        simp only [Act.put, List.setIfInBounds_toArray, List.set_cons_succ, List.set_cons_zero, List.getElem_toArray, List.getElem_cons_zero, List.getElem_cons_succ]
        refine hl_take ?v28 rfl (by kernel_rfl) ?y28 ?z28
        case y28 => intro W hW; have z0 : IntKind.i64.wrap 0 = 0 := rfl; have z1 : IntKind.i64.wrap 1 = 1 := rfl; replace hW := Lib.hid hW; go_simp; try rfl
        case z28 =>
        simp only [Act.put, List.setIfInBounds_toArray, List.set_cons_succ, List.set_cons_zero, List.getElem_toArray, List.getElem_cons_zero, List.getElem_cons_succ]
        refine hl_one rfl (by kernel_rfl) (fun K hK => ?_)
        go_simp
        refine (L0.out _).mono ?_
        rintro e w2 ⟨rfl, b2⟩
        replace hS := Lib.hid (hS.out.below b2)
        clear b2
        refine hK.out _ _ hS.out ?_
        clear hK K
        try simp only [Act.put, List.setIfInBounds_toArray, List.set_cons_succ, List.set_cons_zero, List.getElem_toArray, List.getElem_cons_zero, List.getElem_cons_succ]
        refine hl_take ?v29 rfl (by kernel_rfl) ?y29 ?z29
        case y29 => intro W hW; have z0 : IntKind.i64.wrap 0 = 0 := rfl; have z1 : IntKind.i64.wrap 1 = 1 := rfl; replace hW := Lib.hid hW; go_simp; try rfl
        case z29 =>
        simp only [Act.put, List.setIfInBounds_toArray, List.set_cons_succ, List.set_cons_zero, List.getElem_toArray, List.getElem_cons_zero, List.getElem_cons_succ]
        refine hl_take ?v30 rfl (by kernel_rfl) ?y30 ?z30
        case y30 => intro W hW; have z0 : IntKind.i64.wrap 0 = 0 := rfl; have z1 : IntKind.i64.wrap 1 = 1 := rfl; replace hW := Lib.hid hW; go_simp; try rfl
        case z30 =>
        simp only [Act.put, List.setIfInBounds_toArray, List.set_cons_succ, List.set_cons_zero, List.getElem_toArray, List.getElem_cons_zero, List.getElem_cons_succ]
        refine hl_take ?v31 rfl (by kernel_rfl) ?y31 ?z31
        case y31 => intro W hW; have z0 : IntKind.i64.wrap 0 = 0 := rfl; have z1 : IntKind.i64.wrap 1 = 1 := rfl; replace hW := Lib.hid hW; go_simp; try rfl
        case z31 =>
        simp only [Act.put, List.setIfInBounds_toArray, List.set_cons_succ, List.set_cons_zero, List.getElem_toArray, List.getElem_cons_zero, List.getElem_cons_succ]
        refine hl_take ?v32 rfl (by kernel_rfl) ?y32 ?z32
        case y32 => intro W hW; have z0 : IntKind.i64.wrap 0 = 0 := rfl; have z1 : IntKind.i64.wrap 1 = 1 := rfl; replace hW := Lib.hid hW; go_simp; try rfl
        case z32 =>
        simp only [Act.put, List.setIfInBounds_toArray, List.set_cons_succ, List.set_cons_zero, List.getElem_toArray, List.getElem_cons_zero, List.getElem_cons_succ]
        refine hl_take ?v33 rfl (by kernel_rfl) ?y33 ?z33
        case y33 => intro W hW; have z0 : IntKind.i64.wrap 0 = 0 := rfl; have z1 : IntKind.i64.wrap 1 = 1 := rfl; replace hW := Lib.hid hW; go_simp; try rfl
        case z33 =>
        simp only [Act.put, List.setIfInBounds_toArray, List.set_cons_succ, List.set_cons_zero, List.getElem_toArray, List.getElem_cons_zero, List.getElem_cons_succ]
        refine hl_take ?v34 rfl (by kernel_rfl) ?y34 ?z34
        case y34 => intro W hW; change Sep W _ at hW; have p0 := hW.b2.2.1; have p1 := hW.b2.2.2.1; have a0 := hW.to1.b4.2.1; have a1 := hW.to1.b4.2.2.1; have a2 := hW.to1.b4.2.2.2.1; have a3 := hW.to1.b4.2.2.2.2.1; have m0 := hW.to2.b2.2.1; have m1 := hW.to2.b2.2.2.1; have n0 := hW.to3.b2.2.1; have n1 := hW.to3.b2.2.2.1; replace hW := Lib.hid hW; go_simp; try rfl
        case z34 =>
        simp only [Act.put, List.setIfInBounds_toArray, List.set_cons_succ, List.set_cons_zero, List.getElem_toArray, List.getElem_cons_zero, List.getElem_cons_succ]
        refine hl_take ?v35 rfl (by kernel_rfl) ?y35 ?z35
        case y35 => intro W hW; change Sep W _ at hW; have p0 := hW.b2.2.1; have p1 := hW.b2.2.2.1; have a0 := hW.to1.b4.2.1; have a1 := hW.to1.b4.2.2.1; have a2 := hW.to1.b4.2.2.2.1; have a3 := hW.to1.b4.2.2.2.2.1; have m0 := hW.to2.b2.2.1; have m1 := hW.to2.b2.2.2.1; have n0 := hW.to3.b2.2.1; have n1 := hW.to3.b2.2.2.1; replace hW := Lib.hid hW; go_simp; try rfl
        case z35 =>
        simp only [Act.put, List.setIfInBounds_toArray, List.set_cons_succ, List.set_cons_zero, List.getElem_toArray, List.getElem_cons_zero, List.getElem_cons_succ]
        refine hl_one rfl (by kernel_rfl) (fun K hK => ?_)
        go_simp
        refine (C0.out _).mono ?_
        rintro e w2 ⟨rfl, b2⟩
        replace hS := Lib.hid (hS.out.below b2)
        clear b2
        refine hK.out _ _ hS.out ?_
        clear hK K
        try simp only [Act.put, List.setIfInBounds_toArray, List.set_cons_succ, List.set_cons_zero, List.getElem_toArray, List.getElem_cons_zero, List.getElem_cons_succ]
        refine hl_take ?v36 rfl (by kernel_rfl) ?y36 ?z36
        case y36 => intro W hW; have z0 : IntKind.i64.wrap 0 = 0 := rfl; have z1 : IntKind.i64.wrap 1 = 1 := rfl; replace hW := Lib.hid hW; go_simp; try rfl
        case z36 =>
        simp only [Act.put, List.setIfInBounds_toArray, List.set_cons_succ, List.set_cons_zero, List.getElem_toArray, List.getElem_cons_zero, List.getElem_cons_succ]
        refine hl_take ?v37 rfl (by kernel_rfl) ?y37 ?z37
        case y37 => intro W hW; have z0 : IntKind.i64.wrap 0 = 0 := rfl; have z1 : IntKind.i64.wrap 1 = 1 := rfl; replace hW := Lib.hid hW; go_simp; try rfl
        case z37 =>
        simp only [Act.put, List.setIfInBounds_toArray, List.set_cons_succ, List.set_cons_zero, List.getElem_toArray, List.getElem_cons_zero, List.getElem_cons_succ]
        refine hl_done ?_
        skip
        go_wp2_with fail
        have hU := Lib.hid (show (fun W : World => Sep W [blk V 23 #[Value.int .i64 ((-1)), Value.int .i64 ((-1))], blk g 23 #[.int .i64 (-1), .int .i64 (-1), .int .i64 t, .int .i64 (-1)], blk (w.heap.size + 1) 23 #[Value.int .i64 (m), Value.int .i64 (m')], blk w.heap.size 23 #[Value.int .i64 (t), Value.int .i64 ((-1))], old w]) _ from hS.out.drew)
        refine hl_begin (fun W : World => Sep W [blk V 23 #[Value.int .i64 ((-1)), Value.int .i64 ((-1))], blk g 23 #[.int .i64 (-1), .int .i64 (-1), .int .i64 t, .int .i64 (-1)], blk (w.heap.size + 1) 23 #[Value.int .i64 (m), Value.int .i64 (m')], blk w.heap.size 23 #[Value.int .i64 (t), Value.int .i64 ((-1))], old w]) [(0, true), (1, true), (2, true), (3, true), (4, true), (5, true), (6, true), (7, true), (8, true), (9, true)] (by kernel_rfl) (by kernel_rfl) (by kernel_rfl) rfl (fun _ _ _ _ _ h => h) hU.out ?_
        change HL _ _ _ _ _ _ (World.drew _)
        generalize World.drew _ = wd at *
        refine hl_take ?v38 rfl (by kernel_rfl) ?y38 ?z38
        case y38 => intro W hW; have z0 : IntKind.i64.wrap 0 = 0 := rfl; have z1 : IntKind.i64.wrap 1 = 1 := rfl; replace hW := Lib.hid hW; go_simp; try rfl
        case z38 =>
        simp only [Act.put, List.setIfInBounds_toArray, List.set_cons_succ, List.set_cons_zero, List.getElem_toArray, List.getElem_cons_zero, List.getElem_cons_succ]
        refine hl_take ?v39 rfl (by kernel_rfl) ?y39 ?z39
        case y39 => intro W hW; have z0 : IntKind.i64.wrap 0 = 0 := rfl; have z1 : IntKind.i64.wrap 1 = 1 := rfl; replace hW := Lib.hid hW; go_simp; try rfl
        case z39 =>
        simp only [Act.put, List.setIfInBounds_toArray, List.set_cons_succ, List.set_cons_zero, List.getElem_toArray, List.getElem_cons_zero, List.getElem_cons_succ]
        refine hl_take ?v40 rfl (by kernel_rfl) ?y40 ?z40
        case y40 => intro W hW; have z0 : IntKind.i64.wrap 0 = 0 := rfl; have z1 : IntKind.i64.wrap 1 = 1 := rfl; replace hW := Lib.hid hW; go_simp; try rfl
        case z40 =>
        simp only [Act.put, List.setIfInBounds_toArray, List.set_cons_succ, List.set_cons_zero, List.getElem_toArray, List.getElem_cons_zero, List.getElem_cons_succ]
        refine hl_take ?v41 rfl (by kernel_rfl) ?y41 ?z41
        case y41 => intro W hW; have z0 : IntKind.i64.wrap 0 = 0 := rfl; have z1 : IntKind.i64.wrap 1 = 1 := rfl; replace hW := Lib.hid hW; go_simp; try rfl
        case z41 =>
        simp only [Act.put, List.setIfInBounds_toArray, List.set_cons_succ, List.set_cons_zero, List.getElem_toArray, List.getElem_cons_zero, List.getElem_cons_succ]
        refine hl_take ?v42 rfl (by kernel_rfl) ?y42 ?z42
        case y42 => intro W hW; have z0 : IntKind.i64.wrap 0 = 0 := rfl; have z1 : IntKind.i64.wrap 1 = 1 := rfl; replace hW := Lib.hid hW; go_simp; try rfl
        case z42 =>
        simp only [Act.put, List.setIfInBounds_toArray, List.set_cons_succ, List.set_cons_zero, List.getElem_toArray, List.getElem_cons_zero, List.getElem_cons_succ]
        refine hl_take ?v43 rfl (by kernel_rfl) ?y43 ?z43
        case y43 => intro W hW; change Sep W _ at hW; have p0 := hW.b2.2.1; have p1 := hW.b2.2.2.1; have a0 := hW.to1.b4.2.1; have a1 := hW.to1.b4.2.2.1; have a2 := hW.to1.b4.2.2.2.1; have a3 := hW.to1.b4.2.2.2.2.1; have m0 := hW.to2.b2.2.1; have m1 := hW.to2.b2.2.2.1; have n0 := hW.to3.b2.2.1; have n1 := hW.to3.b2.2.2.1; replace hW := Lib.hid hW; go_simp; try rfl
        case z43 =>
        simp only [Act.put, List.setIfInBounds_toArray, List.set_cons_succ, List.set_cons_zero, List.getElem_toArray, List.getElem_cons_zero, List.getElem_cons_succ]
        refine hl_take ?v44 rfl (by kernel_rfl) ?y44 ?z44
        case y44 => intro W hW; change Sep W _ at hW; have p0 := hW.b2.2.1; have p1 := hW.b2.2.2.1; have a0 := hW.to1.b4.2.1; have a1 := hW.to1.b4.2.2.1; have a2 := hW.to1.b4.2.2.2.1; have a3 := hW.to1.b4.2.2.2.2.1; have m0 := hW.to2.b2.2.1; have m1 := hW.to2.b2.2.2.1; have n0 := hW.to3.b2.2.1; have n1 := hW.to3.b2.2.2.1; replace hW := Lib.hid hW; go_simp; try rfl
        case z44 =>
        simp only [Act.put, List.setIfInBounds_toArray, List.set_cons_succ, List.set_cons_zero, List.getElem_toArray, List.getElem_cons_zero, List.getElem_cons_succ]
        refine hl_take ?v45 rfl (by kernel_rfl) ?y45 ?z45
        case y45 => intro W hW; have z0 : IntKind.i64.wrap 0 = 0 := rfl; have z1 : IntKind.i64.wrap 1 = 1 := rfl; replace hW := Lib.hid hW; go_simp; try rfl
        case z45 =>
        simp only [Act.put, List.setIfInBounds_toArray, List.set_cons_succ, List.set_cons_zero, List.getElem_toArray, List.getElem_cons_zero, List.getElem_cons_succ]
        refine hl_take ?v46 rfl (by kernel_rfl) ?y46 ?z46
        case y46 => intro W hW; have z0 : IntKind.i64.wrap 0 = 0 := rfl; have z1 : IntKind.i64.wrap 1 = 1 := rfl; replace hW := Lib.hid hW; go_simp; try rfl
        case z46 =>
        simp only [Act.put, List.setIfInBounds_toArray, List.set_cons_succ, List.set_cons_zero, List.getElem_toArray, List.getElem_cons_zero, List.getElem_cons_succ]
        refine hl_take ?v47 rfl (by kernel_rfl) ?y47 ?z47
        case y47 => intro W hW; have z0 : IntKind.i64.wrap 0 = 0 := rfl; have z1 : IntKind.i64.wrap 1 = 1 := rfl; replace hW := Lib.hid hW; go_simp; try rfl
        case z47 =>
        simp only [Act.put, List.setIfInBounds_toArray, List.set_cons_succ, List.set_cons_zero, List.getElem_toArray, List.getElem_cons_zero, List.getElem_cons_succ]
        refine hl_done ?_
        skip
        go_wp2_with fail
        go_roundw
        case rel => exact ⟨1, by omega, by go_num, by rw [eN.out], hU⟩
        case measure => simp [intOf]
      | true =>
        have eN := Lib.hid (show inA m m' t (-1) 1 = true by simp only [inA] at hin ⊢; rw [hin]; rfl)
        clear hin
        go_wp2_with fail
        have hS := Lib.hid (show (fun W : World => Sep W [blk V 23 #[Value.int .i64 ((-1)), Value.int .i64 ((-1))], blk g 23 #[.int .i64 (-1), .int .i64 (-1), .int .i64 t, .int .i64 (-1)], blk (w.heap.size + 1) 23 #[Value.int .i64 (m), Value.int .i64 (m')], blk w.heap.size 23 #[Value.int .i64 (t), Value.int .i64 ((-1))], old w]) _ from hT.out.drew)
        refine hl_begin (fun W : World => Sep W [blk V 23 #[Value.int .i64 ((-1)), Value.int .i64 ((-1))], blk g 23 #[.int .i64 (-1), .int .i64 (-1), .int .i64 t, .int .i64 (-1)], blk (w.heap.size + 1) 23 #[Value.int .i64 (m), Value.int .i64 (m')], blk w.heap.size 23 #[Value.int .i64 (t), Value.int .i64 ((-1))], old w]) [(0, true), (1, true), (2, true), (3, true), (5, true), (4, false), (6, true), (7, true), (8, true), (9, true), (10, true), (11, true), (12, true), (13, false), (14, true), (15, true)] (by kernel_rfl) (by kernel_rfl) (by kernel_rfl) rfl (fun _ _ _ _ _ h => h) hS.out ?_
        change HL _ _ _ _ _ _ (World.drew _)
        generalize World.drew _ = wd at *
        refine hl_take ?v48 rfl (by kernel_rfl) ?y48 ?z48
        case y48 => intro W hW; have z0 : IntKind.i64.wrap 0 = 0 := rfl; have z1 : IntKind.i64.wrap 1 = 1 := rfl; replace hW := Lib.hid hW; go_simp; try rfl
        case z48 =>
        simp only [Act.put, List.setIfInBounds_toArray, List.set_cons_succ, List.set_cons_zero, List.getElem_toArray, List.getElem_cons_zero, List.getElem_cons_succ]
        refine hl_take ?v49 rfl (by kernel_rfl) ?y49 ?z49
        case y49 => intro W hW; have z0 : IntKind.i64.wrap 0 = 0 := rfl; have z1 : IntKind.i64.wrap 1 = 1 := rfl; replace hW := Lib.hid hW; go_simp; try rfl
        case z49 =>
        simp only [Act.put, List.setIfInBounds_toArray, List.set_cons_succ, List.set_cons_zero, List.getElem_toArray, List.getElem_cons_zero, List.getElem_cons_succ]
        refine hl_take ?v50 rfl (by kernel_rfl) ?y50 ?z50
        case y50 => intro W hW; have z0 : IntKind.i64.wrap 0 = 0 := rfl; have z1 : IntKind.i64.wrap 1 = 1 := rfl; replace hW := Lib.hid hW; go_simp; try rfl
        case z50 =>
        simp only [Act.put, List.setIfInBounds_toArray, List.set_cons_succ, List.set_cons_zero, List.getElem_toArray, List.getElem_cons_zero, List.getElem_cons_succ]
        refine hl_take ?v51 rfl (by kernel_rfl) ?y51 ?z51
        case y51 => intro W hW; change Sep W _ at hW; have p0 := hW.b2.2.1; have p1 := hW.b2.2.2.1; have a0 := hW.to1.b4.2.1; have a1 := hW.to1.b4.2.2.1; have a2 := hW.to1.b4.2.2.2.1; have a3 := hW.to1.b4.2.2.2.2.1; have m0 := hW.to2.b2.2.1; have m1 := hW.to2.b2.2.2.1; have n0 := hW.to3.b2.2.1; have n1 := hW.to3.b2.2.2.1; replace hW := Lib.hid hW; go_simp; try rfl
        case z51 =>
        simp only [Act.put, List.setIfInBounds_toArray, List.set_cons_succ, List.set_cons_zero, List.getElem_toArray, List.getElem_cons_zero, List.getElem_cons_succ]
        refine hl_take ?v52 rfl (by kernel_rfl) ?y52 ?z52
        case y52 => intro W hW; have z0 : IntKind.i64.wrap 0 = 0 := rfl; have z1 : IntKind.i64.wrap 1 = 1 := rfl; replace hW := Lib.hid hW; go_simp; try rfl
        case z52 =>
        simp only [Act.put, List.setIfInBounds_toArray, List.set_cons_succ, List.set_cons_zero, List.getElem_toArray, List.getElem_cons_zero, List.getElem_cons_succ]
        refine hl_one rfl (by kernel_rfl) (fun K hK => ?_)
        go_simp
        refine (L0.out _).mono ?_
        rintro e w2 ⟨rfl, b2⟩
        replace hS := Lib.hid (hS.out.below b2)
        clear b2
        refine hK.out _ _ hS.out ?_
        clear hK K
        try simp only [Act.put, List.setIfInBounds_toArray, List.set_cons_succ, List.set_cons_zero, List.getElem_toArray, List.getElem_cons_zero, List.getElem_cons_succ]
        refine hl_take ?v53 rfl (by kernel_rfl) ?y53 ?z53
        case y53 => intro W hW; have z0 : IntKind.i64.wrap 0 = 0 := rfl; have z1 : IntKind.i64.wrap 1 = 1 := rfl; replace hW := Lib.hid hW; go_simp; try rfl
        case z53 =>
        simp only [Act.put, List.setIfInBounds_toArray, List.set_cons_succ, List.set_cons_zero, List.getElem_toArray, List.getElem_cons_zero, List.getElem_cons_succ]
        refine hl_take ?v54 rfl (by kernel_rfl) ?y54 ?z54
        case y54 => intro W hW; have z0 : IntKind.i64.wrap 0 = 0 := rfl; have z1 : IntKind.i64.wrap 1 = 1 := rfl; replace hW := Lib.hid hW; go_simp; try rfl
        case z54 =>
        simp only [Act.put, List.setIfInBounds_toArray, List.set_cons_succ, List.set_cons_zero, List.getElem_toArray, List.getElem_cons_zero, List.getElem_cons_succ]
        refine hl_take ?v55 rfl (by kernel_rfl) ?y55 ?z55
        case y55 => intro W hW; have z0 : IntKind.i64.wrap 0 = 0 := rfl; have z1 : IntKind.i64.wrap 1 = 1 := rfl; replace hW := Lib.hid hW; go_simp; try rfl
        case z55 =>
        simp only [Act.put, List.setIfInBounds_toArray, List.set_cons_succ, List.set_cons_zero, List.getElem_toArray, List.getElem_cons_zero, List.getElem_cons_succ]
        refine hl_take ?v56 rfl (by kernel_rfl) ?y56 ?z56
        case y56 => intro W hW; have z0 : IntKind.i64.wrap 0 = 0 := rfl; have z1 : IntKind.i64.wrap 1 = 1 := rfl; replace hW := Lib.hid hW; go_simp; try rfl
        case z56 =>
        simp only [Act.put, List.setIfInBounds_toArray, List.set_cons_succ, List.set_cons_zero, List.getElem_toArray, List.getElem_cons_zero, List.getElem_cons_succ]
        refine hl_take ?v57 rfl (by kernel_rfl) ?y57 ?z57
        case y57 => intro W hW; have z0 : IntKind.i64.wrap 0 = 0 := rfl; have z1 : IntKind.i64.wrap 1 = 1 := rfl; replace hW := Lib.hid hW; go_simp; try rfl
        case z57 =>
        simp only [Act.put, List.setIfInBounds_toArray, List.set_cons_succ, List.set_cons_zero, List.getElem_toArray, List.getElem_cons_zero, List.getElem_cons_succ]
        refine hl_take ?v58 rfl (by kernel_rfl) ?y58 ?z58
        case y58 => intro W hW; change Sep W _ at hW; have p0 := hW.b2.2.1; have p1 := hW.b2.2.2.1; have a0 := hW.to1.b4.2.1; have a1 := hW.to1.b4.2.2.1; have a2 := hW.to1.b4.2.2.2.1; have a3 := hW.to1.b4.2.2.2.2.1; have m0 := hW.to2.b2.2.1; have m1 := hW.to2.b2.2.2.1; have n0 := hW.to3.b2.2.1; have n1 := hW.to3.b2.2.2.1; replace hW := Lib.hid hW; go_simp; try rfl
        case z58 =>
        simp only [Act.put, List.setIfInBounds_toArray, List.set_cons_succ, List.set_cons_zero, List.getElem_toArray, List.getElem_cons_zero, List.getElem_cons_succ]
        refine hl_take ?v59 rfl (by kernel_rfl) ?y59 ?z59
        case y59 => intro W hW; change Sep W _ at hW; have p0 := hW.b2.2.1; have p1 := hW.b2.2.2.1; have a0 := hW.to1.b4.2.1; have a1 := hW.to1.b4.2.2.1; have a2 := hW.to1.b4.2.2.2.1; have a3 := hW.to1.b4.2.2.2.2.1; have m0 := hW.to2.b2.2.1; have m1 := hW.to2.b2.2.2.1; have n0 := hW.to3.b2.2.1; have n1 := hW.to3.b2.2.2.1; replace hW := Lib.hid hW; go_simp; try rfl
        case z59 =>
        simp only [Act.put, List.setIfInBounds_toArray, List.set_cons_succ, List.set_cons_zero, List.getElem_toArray, List.getElem_cons_zero, List.getElem_cons_succ]
        refine hl_one rfl (by kernel_rfl) (fun K hK => ?_)
        go_simp
        refine (C0.out _).mono ?_
        rintro e w2 ⟨rfl, b2⟩
        replace hS := Lib.hid (hS.out.below b2)
        clear b2
        refine hK.out _ _ hS.out ?_
        clear hK K
        try simp only [Act.put, List.setIfInBounds_toArray, List.set_cons_succ, List.set_cons_zero, List.getElem_toArray, List.getElem_cons_zero, List.getElem_cons_succ]
        refine hl_take ?v60 rfl (by kernel_rfl) ?y60 ?z60
        case y60 => intro W hW; have z0 : IntKind.i64.wrap 0 = 0 := rfl; have z1 : IntKind.i64.wrap 1 = 1 := rfl; replace hW := Lib.hid hW; go_simp; try rfl
        case z60 =>
        simp only [Act.put, List.setIfInBounds_toArray, List.set_cons_succ, List.set_cons_zero, List.getElem_toArray, List.getElem_cons_zero, List.getElem_cons_succ]
        refine hl_take ?v61 rfl (by kernel_rfl) ?y61 ?z61
        case y61 => intro W hW; have z0 : IntKind.i64.wrap 0 = 0 := rfl; have z1 : IntKind.i64.wrap 1 = 1 := rfl; replace hW := Lib.hid hW; go_simp; try rfl
        case z61 =>
        simp only [Act.put, List.setIfInBounds_toArray, List.set_cons_succ, List.set_cons_zero, List.getElem_toArray, List.getElem_cons_zero, List.getElem_cons_succ]
        refine hl_done ?_
        skip
        go_wp2_with fail
        have hU := Lib.hid (show (fun W : World => Sep W [blk V 23 #[Value.int .i64 ((-1)), Value.int .i64 ((-1))], blk g 23 #[.int .i64 (-1), .int .i64 (-1), .int .i64 t, .int .i64 (-1)], blk (w.heap.size + 1) 23 #[Value.int .i64 (m), Value.int .i64 (m')], blk w.heap.size 23 #[Value.int .i64 (t), Value.int .i64 ((-1))], old w]) _ from hS.out.drew)
        refine hl_begin (fun W : World => Sep W [blk V 23 #[Value.int .i64 ((-1)), Value.int .i64 ((-1))], blk g 23 #[.int .i64 (-1), .int .i64 (-1), .int .i64 t, .int .i64 (-1)], blk (w.heap.size + 1) 23 #[Value.int .i64 (m), Value.int .i64 (m')], blk w.heap.size 23 #[Value.int .i64 (t), Value.int .i64 ((-1))], old w]) [(0, true), (1, true), (2, true), (3, true), (4, true), (5, true), (6, true), (7, true), (8, true), (9, true)] (by kernel_rfl) (by kernel_rfl) (by kernel_rfl) rfl (fun _ _ _ _ _ h => h) hU.out ?_
        change HL _ _ _ _ _ _ (World.drew _)
        generalize World.drew _ = wd at *
        refine hl_take ?v62 rfl (by kernel_rfl) ?y62 ?z62
        case y62 => intro W hW; have z0 : IntKind.i64.wrap 0 = 0 := rfl; have z1 : IntKind.i64.wrap 1 = 1 := rfl; replace hW := Lib.hid hW; go_simp; try rfl
        case z62 =>
        simp only [Act.put, List.setIfInBounds_toArray, List.set_cons_succ, List.set_cons_zero, List.getElem_toArray, List.getElem_cons_zero, List.getElem_cons_succ]
        refine hl_take ?v63 rfl (by kernel_rfl) ?y63 ?z63
        case y63 => intro W hW; have z0 : IntKind.i64.wrap 0 = 0 := rfl; have z1 : IntKind.i64.wrap 1 = 1 := rfl; replace hW := Lib.hid hW; go_simp; try rfl
        case z63 =>
        simp only [Act.put, List.setIfInBounds_toArray, List.set_cons_succ, List.set_cons_zero, List.getElem_toArray, List.getElem_cons_zero, List.getElem_cons_succ]
        refine hl_skip rfl (by kernel_rfl) ?_
        simp only [Act.put, List.setIfInBounds_toArray, List.set_cons_succ, List.set_cons_zero, List.getElem_toArray, List.getElem_cons_zero, List.getElem_cons_succ]
        refine hl_skip rfl (by kernel_rfl) ?_
        simp only [Act.put, List.setIfInBounds_toArray, List.set_cons_succ, List.set_cons_zero, List.getElem_toArray, List.getElem_cons_zero, List.getElem_cons_succ]
        refine hl_skip rfl (by kernel_rfl) ?_
        simp only [Act.put, List.setIfInBounds_toArray, List.set_cons_succ, List.set_cons_zero, List.getElem_toArray, List.getElem_cons_zero, List.getElem_cons_succ]
        refine hl_skip rfl (by kernel_rfl) ?_
        simp only [Act.put, List.setIfInBounds_toArray, List.set_cons_succ, List.set_cons_zero, List.getElem_toArray, List.getElem_cons_zero, List.getElem_cons_succ]
        refine hl_skip rfl (by kernel_rfl) ?_
        simp only [Act.put, List.setIfInBounds_toArray, List.set_cons_succ, List.set_cons_zero, List.getElem_toArray, List.getElem_cons_zero, List.getElem_cons_succ]
        refine hl_skip rfl (by kernel_rfl) ?_
        simp only [Act.put, List.setIfInBounds_toArray, List.set_cons_succ, List.set_cons_zero, List.getElem_toArray, List.getElem_cons_zero, List.getElem_cons_succ]
        refine hl_take ?v64 rfl (by kernel_rfl) ?y64 ?z64
        case y64 => intro W hW; have z0 : IntKind.i64.wrap 0 = 0 := rfl; have z1 : IntKind.i64.wrap 1 = 1 := rfl; replace hW := Lib.hid hW; go_simp; try rfl
        case z64 =>
        simp only [Act.put, List.setIfInBounds_toArray, List.set_cons_succ, List.set_cons_zero, List.getElem_toArray, List.getElem_cons_zero, List.getElem_cons_succ]
        refine hl_take ?v65 rfl (by kernel_rfl) ?y65 ?z65
        case y65 => intro W hW; have z0 : IntKind.i64.wrap 0 = 0 := rfl; have z1 : IntKind.i64.wrap 1 = 1 := rfl; replace hW := Lib.hid hW; go_simp; try rfl
        case z65 =>
        simp only [Act.put, List.setIfInBounds_toArray, List.set_cons_succ, List.set_cons_zero, List.getElem_toArray, List.getElem_cons_zero, List.getElem_cons_succ]
        refine hl_done ?_
        skip
        go_wp2_with fail
        go_roundw
        case rel => exact ⟨1, by omega, by go_num, by rw [eN.out], hU⟩
        case measure => simp [intOf]
    · obtain ⟨_, m0, m1, _⟩ := hT.out.to2.b2
      obtain ⟨_, n0, n1, _⟩ := hT.out.to3.b2
      generalize inA m m' t (-1) 1 = fin at *
      go_wp2_with fail
      refine (UN.out _).mono ?_
      rintro e w5 ⟨rfl, b5⟩
      replace hT := Lib.hid (hT.out.below b5)
      clear b5
      have ef : (fin == fin) = true := beq_self_eq_true fin
      go_wp2_with fail
      go_ret
      exact ⟨by simp, hT.out.tail.tail.tail.tail.gold⟩
set_option maxHeartbeats 4000000 in
set_option maxRecDepth 100000 in
theorem above_2 (t r m m' : Int) (w : World) (hl : lv t r = 2) : Calls Tryd.prog 5 #[(.agg #[.int .i64 t, .int .i64 r]), (.agg #[.int .i64 m, .int .i64 m'])] w fun e w' => e = .returned (.bool true) ∧ Below w.heap.size w w' := by
  obtain ⟨ht1, ht2, hr1, hr2⟩ : 0 ≤ t ∧ t < 100 ∧ 0 ≤ r ∧ r < 100 := by have := lv_spec t r; omega
  have hS := Lib.hid (box2a w t r m m')
  have AN := Lib.hid (fun W => anc_a t r 2 W (by unfold AncK; rw [hl]; rfl))
  have PA := Lib.hid (fun W => parent_a t r t (-1) true W (.inr (.inr ⟨hl, rfl, rfl, rfl⟩)))
  have LV := Lib.hid (fun W => level_a t r 2 W hl)
  have AP := Lib.hid (fun W => anc_a t (-1) 1 W (by have := lv_spec t (-1); unfold AncK; split <;> omega))
  have hk1 := Lib.hid (show AncK t (-1) 1 by have := lv_spec t (-1); unfold AncK; split <;> omega)
  have UN := Lib.hid (fun W => under_a t r m m' (inA m m' t r 2) W (und_in2 m m' t r hl))
  have L0 := Lib.hid (fun W => level_a (-1) (-1) 0 W (by decide))
  have L1 := Lib.hid (fun W => level_a t (-1) 1 W (by have := lv_spec t (-1); omega))
  have C0 := Lib.hid (fun W => compare_a (-1) (-1) t r (-1) W (by have := cmpN_spec (-1) (-1) t r; omega))
  have C1 := Lib.hid (fun W => compare_a t (-1) t r (-1) W (by have := cmpN_spec t (-1) t r; omega))
  have en := nmB_self t (-1)
  have hq := fun a b c d => run_eql_nm a b c d
  have hq2 := fun a b c d => run_neq_nm a b c d
  have eI0 := Lib.hid (show inA m m' t r 0 = nmB m m' t r from rfl)
  clear hl
  go_enter Tryd.func5, Tryd.ntmps5
  go_wp2_with fail
  refine (lives_any _).mono ?_
  rintro e w1 ⟨rfl, b1⟩
  replace hS := Lib.hid (hS.out.below b1)
  clear b1
  obtain ⟨_, f0, f1, _⟩ := hS.out.to1.b2
  go_wp2_with fail
  refine (AN.out _).mono ?_
  rintro e w2 ⟨g, rfl, hA⟩
  replace hS := Lib.hid (hA.graft hS.out)
  clear hA f0 f1
  obtain ⟨_, f0, f1, _⟩ := hS.out.to2.b2
  go_wp2_with fail
  refine (PA.out _).mono ?_
  rintro e w3 ⟨rfl, b3⟩
  replace hS := Lib.hid ((hS.out.below b3).alloc #[Value.int .i64 (t), Value.int .i64 ((-1))] 23)
  clear b3 f0 f1
  obtain ⟨V, hV⟩ : ∃ V, V = w3.heap.size := ⟨_, rfl⟩
  rw [← hV] at hS
  replace hV := Lib.hid hV.symm
  have hT := hS
  clear hS
  go_wp2_with fail
  rw [hV.out]
  generalize World.alloc w3 _ = wa at *
  have hS := Lib.hid (show (fun W : World => Sep W [blk V 23 #[Value.int .i64 (t), Value.int .i64 ((-1))], blk g 23 #[.int .i64 (-1), .int .i64 (-1), .int .i64 t, .int .i64 (-1)], blk (w.heap.size + 1) 23 #[Value.int .i64 (m), Value.int .i64 (m')], blk w.heap.size 23 #[Value.int .i64 (t), Value.int .i64 (r)], old w]) _ from hT.out.drew)
  refine hl_begin (fun W : World => Sep W [blk V 23 #[Value.int .i64 (t), Value.int .i64 ((-1))], blk g 23 #[.int .i64 (-1), .int .i64 (-1), .int .i64 t, .int .i64 (-1)], blk (w.heap.size + 1) 23 #[Value.int .i64 (m), Value.int .i64 (m')], blk w.heap.size 23 #[Value.int .i64 (t), Value.int .i64 (r)], old w]) [(0, true), (1, true), (2, true), (3, false), (4, true), (5, true), (6, true), (7, true), (8, true), (9, true), (10, true), (11, true), (12, true), (13, true), (14, true), (15, true), (16, true), (17, true), (18, true), (19, true), (20, true), (21, true), (22, false), (23, false), (24, true), (25, true)] (by kernel_rfl) (by kernel_rfl) (by kernel_rfl) rfl (fun _ _ _ _ _ h => h) hS.out ?_
  change HL _ _ _ _ _ _ (World.drew _)
  generalize World.drew _ = wd at *
  refine hl_take ?v66 rfl (by kernel_rfl) ?y66 ?z66
  case y66 => intro W hW; have z0 : IntKind.i64.wrap 0 = 0 := rfl; have z1 : IntKind.i64.wrap 1 = 1 := rfl; replace hW := Lib.hid hW; go_simp; try rfl
  case z66 =>
  simp only [Act.put, List.setIfInBounds_toArray, List.set_cons_succ, List.set_cons_zero, List.getElem_toArray, List.getElem_cons_zero, List.getElem_cons_succ]
  refine hl_take ?v67 rfl (by kernel_rfl) ?y67 ?z67
  case y67 => intro W hW; have z0 : IntKind.i64.wrap 0 = 0 := rfl; have z1 : IntKind.i64.wrap 1 = 1 := rfl; replace hW := Lib.hid hW; go_simp; try rfl
  case z67 =>
  simp only [Act.put, List.setIfInBounds_toArray, List.set_cons_succ, List.set_cons_zero, List.getElem_toArray, List.getElem_cons_zero, List.getElem_cons_succ]
  refine hl_take ?v68 rfl (by kernel_rfl) ?y68 ?z68
  case y68 => intro W hW; change Sep W _ at hW; have p0 := hW.b2.2.1; have p1 := hW.b2.2.2.1; have a0 := hW.to1.b4.2.1; have a1 := hW.to1.b4.2.2.1; have a2 := hW.to1.b4.2.2.2.1; have a3 := hW.to1.b4.2.2.2.2.1; have m0 := hW.to2.b2.2.1; have m1 := hW.to2.b2.2.2.1; have n0 := hW.to3.b2.2.1; have n1 := hW.to3.b2.2.2.1; replace hW := Lib.hid hW; go_simp; try rfl
  case z68 =>
  simp only [Act.put, List.setIfInBounds_toArray, List.set_cons_succ, List.set_cons_zero, List.getElem_toArray, List.getElem_cons_zero, List.getElem_cons_succ]
  refine hl_one rfl (by kernel_rfl) (fun K hK => ?_)
  go_simp
  refine (LV.out _).mono ?_
  rintro e w2 ⟨rfl, b2⟩
  replace hS := Lib.hid (hS.out.below b2)
  clear b2
  refine hK.out _ _ hS.out ?_
  clear hK K
  try simp only [Act.put, List.setIfInBounds_toArray, List.set_cons_succ, List.set_cons_zero, List.getElem_toArray, List.getElem_cons_zero, List.getElem_cons_succ]
  refine hl_take ?v69 rfl (by kernel_rfl) ?y69 ?z69
  case y69 => intro W hW; have z0 : IntKind.i64.wrap 0 = 0 := rfl; have z1 : IntKind.i64.wrap 1 = 1 := rfl; replace hW := Lib.hid hW; go_simp; try rfl
  case z69 =>
  simp only [Act.put, List.setIfInBounds_toArray, List.set_cons_succ, List.set_cons_zero, List.getElem_toArray, List.getElem_cons_zero, List.getElem_cons_succ]
  refine hl_take ?v70 rfl (by kernel_rfl) ?y70 ?z70
  case y70 => intro W hW; have z0 : IntKind.i64.wrap 0 = 0 := rfl; have z1 : IntKind.i64.wrap 1 = 1 := rfl; replace hW := Lib.hid hW; go_simp; try rfl
  case z70 =>
  simp only [Act.put, List.setIfInBounds_toArray, List.set_cons_succ, List.set_cons_zero, List.getElem_toArray, List.getElem_cons_zero, List.getElem_cons_succ]
  refine hl_take ?v71 rfl (by kernel_rfl) ?y71 ?z71
  case y71 => intro W hW; have z0 : IntKind.i64.wrap 0 = 0 := rfl; have z1 : IntKind.i64.wrap 1 = 1 := rfl; replace hW := Lib.hid hW; go_simp; try rfl
  case z71 =>
  simp only [Act.put, List.setIfInBounds_toArray, List.set_cons_succ, List.set_cons_zero, List.getElem_toArray, List.getElem_cons_zero, List.getElem_cons_succ]
  refine hl_take ?v72 rfl (by kernel_rfl) ?y72 ?z72
  case y72 => intro W hW; have z0 : IntKind.i64.wrap 0 = 0 := rfl; have z1 : IntKind.i64.wrap 1 = 1 := rfl; replace hW := Lib.hid hW; go_simp; try rfl
  case z72 =>
  simp only [Act.put, List.setIfInBounds_toArray, List.set_cons_succ, List.set_cons_zero, List.getElem_toArray, List.getElem_cons_zero, List.getElem_cons_succ]
  refine hl_take ?v73 rfl (by kernel_rfl) ?y73 ?z73
  case y73 => intro W hW; have z0 : IntKind.i64.wrap 0 = 0 := rfl; have z1 : IntKind.i64.wrap 1 = 1 := rfl; replace hW := Lib.hid hW; go_simp; try rfl
  case z73 =>
  simp only [Act.put, List.setIfInBounds_toArray, List.set_cons_succ, List.set_cons_zero, List.getElem_toArray, List.getElem_cons_zero, List.getElem_cons_succ]
  refine hl_take ?v74 rfl (by kernel_rfl) ?y74 ?z74
  case y74 => intro W hW; have z0 : IntKind.i64.wrap 0 = 0 := rfl; have z1 : IntKind.i64.wrap 1 = 1 := rfl; replace hW := Lib.hid hW; go_simp; try rfl
  case z74 =>
  simp only [Act.put, List.setIfInBounds_toArray, List.set_cons_succ, List.set_cons_zero, List.getElem_toArray, List.getElem_cons_zero, List.getElem_cons_succ]
  refine hl_take ?v75 rfl (by kernel_rfl) ?y75 ?z75
  case y75 => intro W hW; have z0 : IntKind.i64.wrap 0 = 0 := rfl; have z1 : IntKind.i64.wrap 1 = 1 := rfl; replace hW := Lib.hid hW; go_simp; try rfl
  case z75 =>
  simp only [Act.put, List.setIfInBounds_toArray, List.set_cons_succ, List.set_cons_zero, List.getElem_toArray, List.getElem_cons_zero, List.getElem_cons_succ]
  refine hl_take ?v76 rfl (by kernel_rfl) ?y76 ?z76
  case y76 => intro W hW; change Sep W _ at hW; have p0 := hW.b2.2.1; have p1 := hW.b2.2.2.1; have a0 := hW.to1.b4.2.1; have a1 := hW.to1.b4.2.2.1; have a2 := hW.to1.b4.2.2.2.1; have a3 := hW.to1.b4.2.2.2.2.1; have m0 := hW.to2.b2.2.1; have m1 := hW.to2.b2.2.2.1; have n0 := hW.to3.b2.2.1; have n1 := hW.to3.b2.2.2.1; replace hW := Lib.hid hW; go_simp; try rfl
  case z76 =>
  simp only [Act.put, List.setIfInBounds_toArray, List.set_cons_succ, List.set_cons_zero, List.getElem_toArray, List.getElem_cons_zero, List.getElem_cons_succ]
  refine hl_take ?v77 rfl (by kernel_rfl) ?y77 ?z77
  case y77 => intro W hW; change Sep W _ at hW; have p0 := hW.b2.2.1; have p1 := hW.b2.2.2.1; have a0 := hW.to1.b4.2.1; have a1 := hW.to1.b4.2.2.1; have a2 := hW.to1.b4.2.2.2.1; have a3 := hW.to1.b4.2.2.2.2.1; have m0 := hW.to2.b2.2.1; have m1 := hW.to2.b2.2.2.1; have n0 := hW.to3.b2.2.1; have n1 := hW.to3.b2.2.2.1; replace hW := Lib.hid hW; go_simp; try rfl
  case z77 =>
  simp only [Act.put, List.setIfInBounds_toArray, List.set_cons_succ, List.set_cons_zero, List.getElem_toArray, List.getElem_cons_zero, List.getElem_cons_succ]
  refine hl_take ?v78 rfl (by kernel_rfl) ?y78 ?z78
  case y78 => intro W hW; have z0 : IntKind.i64.wrap 0 = 0 := rfl; have z1 : IntKind.i64.wrap 1 = 1 := rfl; replace hW := Lib.hid hW; go_simp; try rfl
  case z78 =>
  simp only [Act.put, List.setIfInBounds_toArray, List.set_cons_succ, List.set_cons_zero, List.getElem_toArray, List.getElem_cons_zero, List.getElem_cons_succ]
  refine hl_take ?v79 rfl (by kernel_rfl) ?y79 ?z79
  case y79 => intro W hW; have z0 : IntKind.i64.wrap 0 = 0 := rfl; have z1 : IntKind.i64.wrap 1 = 1 := rfl; replace hW := Lib.hid hW; go_simp; try rfl
  case z79 =>
  simp only [Act.put, List.setIfInBounds_toArray, List.set_cons_succ, List.set_cons_zero, List.getElem_toArray, List.getElem_cons_zero, List.getElem_cons_succ]
  refine hl_take ?v80 rfl (by kernel_rfl) ?y80 ?z80
  case y80 => intro W hW; have z0 : IntKind.i64.wrap 0 = 0 := rfl; have z1 : IntKind.i64.wrap 1 = 1 := rfl; replace hW := Lib.hid hW; go_simp; try rfl
  case z80 =>
  simp only [Act.put, List.setIfInBounds_toArray, List.set_cons_succ, List.set_cons_zero, List.getElem_toArray, List.getElem_cons_zero, List.getElem_cons_succ]
  refine hl_take ?v81 rfl (by kernel_rfl) ?y81 ?z81
  case y81 => intro W hW; have z0 : IntKind.i64.wrap 0 = 0 := rfl; have z1 : IntKind.i64.wrap 1 = 1 := rfl; replace hW := Lib.hid hW; go_simp; try rfl
  case z81 =>
  simp only [Act.put, List.setIfInBounds_toArray, List.set_cons_succ, List.set_cons_zero, List.getElem_toArray, List.getElem_cons_zero, List.getElem_cons_succ]
  refine hl_take ?v82 rfl (by kernel_rfl) ?y82 ?z82
  case y82 => intro W hW; have z0 : IntKind.i64.wrap 0 = 0 := rfl; have z1 : IntKind.i64.wrap 1 = 1 := rfl; replace hW := Lib.hid hW; go_simp; try rfl
  case z82 =>
  simp only [Act.put, List.setIfInBounds_toArray, List.set_cons_succ, List.set_cons_zero, List.getElem_toArray, List.getElem_cons_zero, List.getElem_cons_succ]
  refine hl_take ?v83 rfl (by kernel_rfl) ?y83 ?z83
  case y83 => intro W hW; have z0 : IntKind.i64.wrap 0 = 0 := rfl; have z1 : IntKind.i64.wrap 1 = 1 := rfl; replace hW := Lib.hid hW; go_simp; try rfl
  case z83 =>
  simp only [Act.put, List.setIfInBounds_toArray, List.set_cons_succ, List.set_cons_zero, List.getElem_toArray, List.getElem_cons_zero, List.getElem_cons_succ]
  refine hl_take ?v84 rfl (by kernel_rfl) ?y84 ?z84
  case y84 => intro W hW; have z0 : IntKind.i64.wrap 0 = 0 := rfl; have z1 : IntKind.i64.wrap 1 = 1 := rfl; replace hW := Lib.hid hW; go_simp; try rfl
  case z84 =>
  simp only [Act.put, List.setIfInBounds_toArray, List.set_cons_succ, List.set_cons_zero, List.getElem_toArray, List.getElem_cons_zero, List.getElem_cons_succ]
  refine hl_take ?v85 rfl (by kernel_rfl) ?y85 ?z85
  case y85 => intro W hW; have z0 : IntKind.i64.wrap 0 = 0 := rfl; have z1 : IntKind.i64.wrap 1 = 1 := rfl; replace hW := Lib.hid hW; go_simp; try rfl
  case z85 =>
  simp only [Act.put, List.setIfInBounds_toArray, List.set_cons_succ, List.set_cons_zero, List.getElem_toArray, List.getElem_cons_zero, List.getElem_cons_succ]
  refine hl_take ?v86 rfl (by kernel_rfl) ?y86 ?z86
  case y86 => intro W hW; change Sep W _ at hW; have p0 := hW.b2.2.1; have p1 := hW.b2.2.2.1; have a0 := hW.to1.b4.2.1; have a1 := hW.to1.b4.2.2.1; have a2 := hW.to1.b4.2.2.2.1; have a3 := hW.to1.b4.2.2.2.2.1; have m0 := hW.to2.b2.2.1; have m1 := hW.to2.b2.2.2.1; have n0 := hW.to3.b2.2.1; have n1 := hW.to3.b2.2.2.1; replace hW := Lib.hid hW; go_simp; try rfl
  case z86 =>
  simp only [Act.put, List.setIfInBounds_toArray, List.set_cons_succ, List.set_cons_zero, List.getElem_toArray, List.getElem_cons_zero, List.getElem_cons_succ]
  refine hl_one rfl (by kernel_rfl) (fun K hK => ?_)
  go_simp
  refine (AP.out _).mono ?_
  rintro e w2 ⟨g', rfl, hA⟩
  have hRN := Lib.hid (anc_RN (t := t) (r := -1) (k := 1) hk1.out hA)
  replace hS := Lib.hid ((hA.graft hS.out).tail)
  clear hA
  refine hK.out _ _ hS.out ?_
  clear hK K
  try simp only [Act.put, List.setIfInBounds_toArray, List.set_cons_succ, List.set_cons_zero, List.getElem_toArray, List.getElem_cons_zero, List.getElem_cons_succ]
  refine hl_one rfl (by kernel_rfl) (fun K hK => ?_)
  go_simp
  refine (sameN_true _ _ (ancL t (-1) 1) _ (by simp [ancL]) (anc_RN (t := t) (r := -1) (k := 1) hk1.out (w0 := w) (hS.out.to1.drop1.drop1.drop1)) hRN.out).mono ?_
  rintro e w2 ⟨rfl, q, rfl⟩
  replace hS := Lib.hid (hS.out.drewN q)
  refine hK.out _ _ hS.out ?_
  clear hK K
  try simp only [Act.put, List.setIfInBounds_toArray, List.set_cons_succ, List.set_cons_zero, List.getElem_toArray, List.getElem_cons_zero, List.getElem_cons_succ]
  refine hl_take ?v87 rfl (by kernel_rfl) ?y87 ?z87
  case y87 => intro W hW; have z0 : IntKind.i64.wrap 0 = 0 := rfl; have z1 : IntKind.i64.wrap 1 = 1 := rfl; replace hW := Lib.hid hW; go_simp; try rfl
  case z87 =>
  simp only [Act.put, List.setIfInBounds_toArray, List.set_cons_succ, List.set_cons_zero, List.getElem_toArray, List.getElem_cons_zero, List.getElem_cons_succ]
  refine hl_take ?v88 rfl (by kernel_rfl) ?y88 ?z88
  case y88 => intro W hW; have z0 : IntKind.i64.wrap 0 = 0 := rfl; have z1 : IntKind.i64.wrap 1 = 1 := rfl; replace hW := Lib.hid hW; go_simp; try rfl
  case z88 =>
  simp only [Act.put, List.setIfInBounds_toArray, List.set_cons_succ, List.set_cons_zero, List.getElem_toArray, List.getElem_cons_zero, List.getElem_cons_succ]
  refine hl_done ?_
  skip
  clear hT
  obtain ⟨_, m0, m1, _⟩ := hS.out.to2.b2
  obtain ⟨_, n0, n1, _⟩ := hS.out.to3.b2
  go_wp2_with fail
  rw [← eI0.out]
  go_loopw [8, 9] (fun s8 i wr => ∃ j : Nat, j ≤ 2 ∧ i = .int .i64 j ∧ s8 = .bool (inA m m' t r j) ∧ Hid ((fun W : World => Sep W [blk V 23 #[Value.int .i64 (t), Value.int .i64 ((-1))], blk g 23 #[.int .i64 (-1), .int .i64 (-1), .int .i64 t, .int .i64 (-1)], blk (w.heap.size + 1) 23 #[Value.int .i64 (m), Value.int .i64 (m')], blk w.heap.size 23 #[Value.int .i64 (t), Value.int .i64 (r)], old w]) wr)) (fun _ i _ => 2 - (intOf i).toNat)
  case atStart => exact ⟨0, by omega, rfl, rfl, hS⟩
  case round =>
    clear hS m0 m1 n0 n1
    obtain ⟨j, hj, rfl, rfl, hT⟩ := hrel
    have hT : Hid (Sep wr _) := hT
    have h3 : j = 0 ∨ j = 1 ∨ j = 2 := by omega
    rcases h3 with rfl | rfl | rfl
    · cases hin : inA m m' t r 0 with
      | false =>
        have eN := Lib.hid (show inA m m' t r 1 = nmB (-1) (-1) m m' by simp only [inA] at hin ⊢; rw [hin]; rfl)
        clear hin
        go_wp2_with fail
        have hS := Lib.hid (show (fun W : World => Sep W [blk V 23 #[Value.int .i64 (t), Value.int .i64 ((-1))], blk g 23 #[.int .i64 (-1), .int .i64 (-1), .int .i64 t, .int .i64 (-1)], blk (w.heap.size + 1) 23 #[Value.int .i64 (m), Value.int .i64 (m')], blk w.heap.size 23 #[Value.int .i64 (t), Value.int .i64 (r)], old w]) _ from hT.out.drew)
        refine hl_begin (fun W : World => Sep W [blk V 23 #[Value.int .i64 (t), Value.int .i64 ((-1))], blk g 23 #[.int .i64 (-1), .int .i64 (-1), .int .i64 t, .int .i64 (-1)], blk (w.heap.size + 1) 23 #[Value.int .i64 (m), Value.int .i64 (m')], blk w.heap.size 23 #[Value.int .i64 (t), Value.int .i64 (r)], old w]) [(0, true), (1, true), (2, true), (3, true), (5, true), (4, false), (6, true), (7, true), (8, true), (9, true), (10, true), (11, true), (12, true), (13, false), (14, true), (15, true)] (by kernel_rfl) (by kernel_rfl) (by kernel_rfl) rfl (fun _ _ _ _ _ h => h) hS.out ?_
        change HL _ _ _ _ _ _ (World.drew _)
        generalize World.drew _ = wd at *
        refine hl_take ?v89 rfl (by kernel_rfl) ?y89 ?z89
        case y89 => intro W hW; have z0 : IntKind.i64.wrap 0 = 0 := rfl; have z1 : IntKind.i64.wrap 1 = 1 := rfl; replace hW := Lib.hid hW; go_simp; try rfl
        case z89 =>
        simp only [Act.put, List.setIfInBounds_toArray, List.set_cons_succ, List.set_cons_zero, List.getElem_toArray, List.getElem_cons_zero, List.getElem_cons_succ]
        refine hl_take ?v90 rfl (by kernel_rfl) ?y90 ?z90
        case y90 => intro W hW; have z0 : IntKind.i64.wrap 0 = 0 := rfl; have z1 : IntKind.i64.wrap 1 = 1 := rfl; replace hW := Lib.hid hW; go_simp; try rfl
        case z90 =>
        simp only [Act.put, List.setIfInBounds_toArray, List.set_cons_succ, List.set_cons_zero, List.getElem_toArray, List.getElem_cons_zero, List.getElem_cons_succ]
        refine hl_take ?v91 rfl (by kernel_rfl) ?y91 ?z91
        case y91 => intro W hW; have z0 : IntKind.i64.wrap 0 = 0 := rfl; have z1 : IntKind.i64.wrap 1 = 1 := rfl; replace hW := Lib.hid hW; go_simp; try rfl
        case z91 =>
        simp only [Act.put, List.setIfInBounds_toArray, List.set_cons_succ, List.set_cons_zero, List.getElem_toArray, List.getElem_cons_zero, List.getElem_cons_succ]
        refine hl_take ?v92 rfl (by kernel_rfl) ?y92 ?z92
        case y92 => intro W hW; change Sep W _ at hW; have p0 := hW.b2.2.1; have p1 := hW.b2.2.2.1; have a0 := hW.to1.b4.2.1; have a1 := hW.to1.b4.2.2.1; have a2 := hW.to1.b4.2.2.2.1; have a3 := hW.to1.b4.2.2.2.2.1; have m0 := hW.to2.b2.2.1; have m1 := hW.to2.b2.2.2.1; have n0 := hW.to3.b2.2.1; have n1 := hW.to3.b2.2.2.1; replace hW := Lib.hid hW; go_simp; try rfl
        case z92 =>
        simp only [Act.put, List.setIfInBounds_toArray, List.set_cons_succ, List.set_cons_zero, List.getElem_toArray, List.getElem_cons_zero, List.getElem_cons_succ]
        refine hl_take ?v93 rfl (by kernel_rfl) ?y93 ?z93
        case y93 => intro W hW; have z0 : IntKind.i64.wrap 0 = 0 := rfl; have z1 : IntKind.i64.wrap 1 = 1 := rfl; replace hW := Lib.hid hW; go_simp; try rfl
        case z93 =>
        simp only [Act.put, List.setIfInBounds_toArray, List.set_cons_succ, List.set_cons_zero, List.getElem_toArray, List.getElem_cons_zero, List.getElem_cons_succ]
        refine hl_one rfl (by kernel_rfl) (fun K hK => ?_)
        go_simp
        refine (L0.out _).mono ?_
        rintro e w2 ⟨rfl, b2⟩
        replace hS := Lib.hid (hS.out.below b2)
        clear b2
        refine hK.out _ _ hS.out ?_
        clear hK K
        try simp only [Act.put, List.setIfInBounds_toArray, List.set_cons_succ, List.set_cons_zero, List.getElem_toArray, List.getElem_cons_zero, List.getElem_cons_succ]
        refine hl_take ?v94 rfl (by kernel_rfl) ?y94 ?z94
        case y94 => intro W hW; have z0 : IntKind.i64.wrap 0 = 0 := rfl; have z1 : IntKind.i64.wrap 1 = 1 := rfl; replace hW := Lib.hid hW; go_simp; try rfl
        case z94 =>
        simp only [Act.put, List.setIfInBounds_toArray, List.set_cons_succ, List.set_cons_zero, List.getElem_toArray, List.getElem_cons_zero, List.getElem_cons_succ]
        refine hl_take ?v95 rfl (by kernel_rfl) ?y95 ?z95
        case y95 => intro W hW; have z0 : IntKind.i64.wrap 0 = 0 := rfl; have z1 : IntKind.i64.wrap 1 = 1 := rfl; replace hW := Lib.hid hW; go_simp; try rfl
        case z95 =>
        simp only [Act.put, List.setIfInBounds_toArray, List.set_cons_succ, List.set_cons_zero, List.getElem_toArray, List.getElem_cons_zero, List.getElem_cons_succ]
        refine hl_take ?v96 rfl (by kernel_rfl) ?y96 ?z96
        case y96 => intro W hW; have z0 : IntKind.i64.wrap 0 = 0 := rfl; have z1 : IntKind.i64.wrap 1 = 1 := rfl; replace hW := Lib.hid hW; go_simp; try rfl
        case z96 =>
        simp only [Act.put, List.setIfInBounds_toArray, List.set_cons_succ, List.set_cons_zero, List.getElem_toArray, List.getElem_cons_zero, List.getElem_cons_succ]
        refine hl_take ?v97 rfl (by kernel_rfl) ?y97 ?z97
        case y97 => intro W hW; have z0 : IntKind.i64.wrap 0 = 0 := rfl; have z1 : IntKind.i64.wrap 1 = 1 := rfl; replace hW := Lib.hid hW; go_simp; try rfl
        case z97 =>
        simp only [Act.put, List.setIfInBounds_toArray, List.set_cons_succ, List.set_cons_zero, List.getElem_toArray, List.getElem_cons_zero, List.getElem_cons_succ]
        refine hl_take ?v98 rfl (by kernel_rfl) ?y98 ?z98
        case y98 => intro W hW; have z0 : IntKind.i64.wrap 0 = 0 := rfl; have z1 : IntKind.i64.wrap 1 = 1 := rfl; replace hW := Lib.hid hW; go_simp; try rfl
        case z98 =>
        simp only [Act.put, List.setIfInBounds_toArray, List.set_cons_succ, List.set_cons_zero, List.getElem_toArray, List.getElem_cons_zero, List.getElem_cons_succ]
        refine hl_take ?v99 rfl (by kernel_rfl) ?y99 ?z99
        case y99 => intro W hW; change Sep W _ at hW; have p0 := hW.b2.2.1; have p1 := hW.b2.2.2.1; have a0 := hW.to1.b4.2.1; have a1 := hW.to1.b4.2.2.1; have a2 := hW.to1.b4.2.2.2.1; have a3 := hW.to1.b4.2.2.2.2.1; have m0 := hW.to2.b2.2.1; have m1 := hW.to2.b2.2.2.1; have n0 := hW.to3.b2.2.1; have n1 := hW.to3.b2.2.2.1; replace hW := Lib.hid hW; go_simp; try rfl
        case z99 =>
        simp only [Act.put, List.setIfInBounds_toArray, List.set_cons_succ, List.set_cons_zero, List.getElem_toArray, List.getElem_cons_zero, List.getElem_cons_succ]
        refine hl_take ?v100 rfl (by kernel_rfl) ?y100 ?z100
        case y100 => intro W hW; change Sep W _ at hW; have p0 := hW.b2.2.1; have p1 := hW.b2.2.2.1; have a0 := hW.to1.b4.2.1; have a1 := hW.to1.b4.2.2.1; have a2 := hW.to1.b4.2.2.2.1; have a3 := hW.to1.b4.2.2.2.2.1; have m0 := hW.to2.b2.2.1; have m1 := hW.to2.b2.2.2.1; have n0 := hW.to3.b2.2.1; have n1 := hW.to3.b2.2.2.1; replace hW := Lib.hid hW; go_simp; try rfl
        case z100 =>
        simp only [Act.put, List.setIfInBounds_toArray, List.set_cons_succ, List.set_cons_zero, List.getElem_toArray, List.getElem_cons_zero, List.getElem_cons_succ]
        refine hl_one rfl (by kernel_rfl) (fun K hK => ?_)
        go_simp
        refine (C0.out _).mono ?_
        rintro e w2 ⟨rfl, b2⟩
        replace hS := Lib.hid (hS.out.below b2)
        clear b2
        refine hK.out _ _ hS.out ?_
        clear hK K
        try simp only [Act.put, List.setIfInBounds_toArray, List.set_cons_succ, List.set_cons_zero, List.getElem_toArray, List.getElem_cons_zero, List.getElem_cons_succ]
        refine hl_take ?v101 rfl (by kernel_rfl) ?y101 ?z101
        case y101 => intro W hW; have z0 : IntKind.i64.wrap 0 = 0 := rfl; have z1 : IntKind.i64.wrap 1 = 1 := rfl; replace hW := Lib.hid hW; go_simp; try rfl
        case z101 =>
        simp only [Act.put, List.setIfInBounds_toArray, List.set_cons_succ, List.set_cons_zero, List.getElem_toArray, List.getElem_cons_zero, List.getElem_cons_succ]
        refine hl_take ?v102 rfl (by kernel_rfl) ?y102 ?z102
        case y102 => intro W hW; have z0 : IntKind.i64.wrap 0 = 0 := rfl; have z1 : IntKind.i64.wrap 1 = 1 := rfl; replace hW := Lib.hid hW; go_simp; try rfl
        case z102 =>
        simp only [Act.put, List.setIfInBounds_toArray, List.set_cons_succ, List.set_cons_zero, List.getElem_toArray, List.getElem_cons_zero, List.getElem_cons_succ]
        refine hl_done ?_
        skip
        go_wp2_with fail
        have hU := Lib.hid (show (fun W : World => Sep W [blk V 23 #[Value.int .i64 (t), Value.int .i64 ((-1))], blk g 23 #[.int .i64 (-1), .int .i64 (-1), .int .i64 t, .int .i64 (-1)], blk (w.heap.size + 1) 23 #[Value.int .i64 (m), Value.int .i64 (m')], blk w.heap.size 23 #[Value.int .i64 (t), Value.int .i64 (r)], old w]) _ from hS.out.drew)
        refine hl_begin (fun W : World => Sep W [blk V 23 #[Value.int .i64 (t), Value.int .i64 ((-1))], blk g 23 #[.int .i64 (-1), .int .i64 (-1), .int .i64 t, .int .i64 (-1)], blk (w.heap.size + 1) 23 #[Value.int .i64 (m), Value.int .i64 (m')], blk w.heap.size 23 #[Value.int .i64 (t), Value.int .i64 (r)], old w]) [(0, true), (1, true), (2, true), (3, true), (4, true), (5, true), (6, true), (7, true), (8, true), (9, true)] (by kernel_rfl) (by kernel_rfl) (by kernel_rfl) rfl (fun _ _ _ _ _ h => h) hU.out ?_
        change HL _ _ _ _ _ _ (World.drew _)
        generalize World.drew _ = wd at *
        refine hl_take ?v103 rfl (by kernel_rfl) ?y103 ?z103
        case y103 => intro W hW; have z0 : IntKind.i64.wrap 0 = 0 := rfl; have z1 : IntKind.i64.wrap 1 = 1 := rfl; replace hW := Lib.hid hW; go_simp; try rfl
        case z103 =>
        simp only [Act.put, List.setIfInBounds_toArray, List.set_cons_succ, List.set_cons_zero, List.getElem_toArray, List.getElem_cons_zero, List.getElem_cons_succ]
        refine hl_take ?v104 rfl (by kernel_rfl) ?y104 ?z104
        case y104 => intro W hW; have z0 : IntKind.i64.wrap 0 = 0 := rfl; have z1 : IntKind.i64.wrap 1 = 1 := rfl; replace hW := Lib.hid hW; go_simp; try rfl
        case z104 =>
        simp only [Act.put, List.setIfInBounds_toArray, List.set_cons_succ, List.set_cons_zero, List.getElem_toArray, List.getElem_cons_zero, List.getElem_cons_succ]
        refine hl_take ?v105 rfl (by kernel_rfl) ?y105 ?z105
        case y105 => intro W hW; have z0 : IntKind.i64.wrap 0 = 0 := rfl; have z1 : IntKind.i64.wrap 1 = 1 := rfl; replace hW := Lib.hid hW; go_simp; try rfl
        case z105 =>
        simp only [Act.put, List.setIfInBounds_toArray, List.set_cons_succ, List.set_cons_zero, List.getElem_toArray, List.getElem_cons_zero, List.getElem_cons_succ]
        refine hl_take ?v106 rfl (by kernel_rfl) ?y106 ?z106
        case y106 => intro W hW; have z0 : IntKind.i64.wrap 0 = 0 := rfl; have z1 : IntKind.i64.wrap 1 = 1 := rfl; replace hW := Lib.hid hW; go_simp; try rfl
        case z106 =>
        simp only [Act.put, List.setIfInBounds_toArray, List.set_cons_succ, List.set_cons_zero, List.getElem_toArray, List.getElem_cons_zero, List.getElem_cons_succ]
        refine hl_take ?v107 rfl (by kernel_rfl) ?y107 ?z107
        case y107 => intro W hW; have z0 : IntKind.i64.wrap 0 = 0 := rfl; have z1 : IntKind.i64.wrap 1 = 1 := rfl; replace hW := Lib.hid hW; go_simp; try rfl
        case z107 =>
        simp only [Act.put, List.setIfInBounds_toArray, List.set_cons_succ, List.set_cons_zero, List.getElem_toArray, List.getElem_cons_zero, List.getElem_cons_succ]
        refine hl_take ?v108 rfl (by kernel_rfl) ?y108 ?z108
        case y108 => intro W hW; change Sep W _ at hW; have p0 := hW.b2.2.1; have p1 := hW.b2.2.2.1; have a0 := hW.to1.b4.2.1; have a1 := hW.to1.b4.2.2.1; have a2 := hW.to1.b4.2.2.2.1; have a3 := hW.to1.b4.2.2.2.2.1; have m0 := hW.to2.b2.2.1; have m1 := hW.to2.b2.2.2.1; have n0 := hW.to3.b2.2.1; have n1 := hW.to3.b2.2.2.1; replace hW := Lib.hid hW; go_simp; try rfl
        case z108 =>
        simp only [Act.put, List.setIfInBounds_toArray, List.set_cons_succ, List.set_cons_zero, List.getElem_toArray, List.getElem_cons_zero, List.getElem_cons_succ]
        refine hl_take ?v109 rfl (by kernel_rfl) ?y109 ?z109
        case y109 => intro W hW; change Sep W _ at hW; have p0 := hW.b2.2.1; have p1 := hW.b2.2.2.1; have a0 := hW.to1.b4.2.1; have a1 := hW.to1.b4.2.2.1; have a2 := hW.to1.b4.2.2.2.1; have a3 := hW.to1.b4.2.2.2.2.1; have m0 := hW.to2.b2.2.1; have m1 := hW.to2.b2.2.2.1; have n0 := hW.to3.b2.2.1; have n1 := hW.to3.b2.2.2.1; replace hW := Lib.hid hW; go_simp; try rfl
        case z109 =>
        simp only [Act.put, List.setIfInBounds_toArray, List.set_cons_succ, List.set_cons_zero, List.getElem_toArray, List.getElem_cons_zero, List.getElem_cons_succ]
        refine hl_take ?v110 rfl (by kernel_rfl) ?y110 ?z110
        case y110 => intro W hW; have z0 : IntKind.i64.wrap 0 = 0 := rfl; have z1 : IntKind.i64.wrap 1 = 1 := rfl; replace hW := Lib.hid hW; go_simp; try rfl
        case z110 =>
        simp only [Act.put, List.setIfInBounds_toArray, List.set_cons_succ, List.set_cons_zero, List.getElem_toArray, List.getElem_cons_zero, List.getElem_cons_succ]
        refine hl_take ?v111 rfl (by kernel_rfl) ?y111 ?z111
        case y111 => intro W hW; have z0 : IntKind.i64.wrap 0 = 0 := rfl; have z1 : IntKind.i64.wrap 1 = 1 := rfl; replace hW := Lib.hid hW; go_simp; try rfl
        case z111 =>
        simp only [Act.put, List.setIfInBounds_toArray, List.set_cons_succ, List.set_cons_zero, List.getElem_toArray, List.getElem_cons_zero, List.getElem_cons_succ]
        refine hl_take ?v112 rfl (by kernel_rfl) ?y112 ?z112
        case y112 => intro W hW; have z0 : IntKind.i64.wrap 0 = 0 := rfl; have z1 : IntKind.i64.wrap 1 = 1 := rfl; replace hW := Lib.hid hW; go_simp; try rfl
        case z112 =>
        simp only [Act.put, List.setIfInBounds_toArray, List.set_cons_succ, List.set_cons_zero, List.getElem_toArray, List.getElem_cons_zero, List.getElem_cons_succ]
        refine hl_done ?_
        skip
        go_wp2_with fail
        go_roundw
        case rel => exact ⟨1, by omega, by go_num, by rw [eN.out], hU⟩
        case measure => simp [intOf]
      | true =>
        have eN := Lib.hid (show inA m m' t r 1 = true by simp only [inA] at hin ⊢; rw [hin]; rfl)
        clear hin
        go_wp2_with fail
        have hS := Lib.hid (show (fun W : World => Sep W [blk V 23 #[Value.int .i64 (t), Value.int .i64 ((-1))], blk g 23 #[.int .i64 (-1), .int .i64 (-1), .int .i64 t, .int .i64 (-1)], blk (w.heap.size + 1) 23 #[Value.int .i64 (m), Value.int .i64 (m')], blk w.heap.size 23 #[Value.int .i64 (t), Value.int .i64 (r)], old w]) _ from hT.out.drew)
        refine hl_begin (fun W : World => Sep W [blk V 23 #[Value.int .i64 (t), Value.int .i64 ((-1))], blk g 23 #[.int .i64 (-1), .int .i64 (-1), .int .i64 t, .int .i64 (-1)], blk (w.heap.size + 1) 23 #[Value.int .i64 (m), Value.int .i64 (m')], blk w.heap.size 23 #[Value.int .i64 (t), Value.int .i64 (r)], old w]) [(0, true), (1, true), (2, true), (3, true), (5, true), (4, false), (6, true), (7, true), (8, true), (9, true), (10, true), (11, true), (12, true), (13, false), (14, true), (15, true)] (by kernel_rfl) (by kernel_rfl) (by kernel_rfl) rfl (fun _ _ _ _ _ h => h) hS.out ?_
        change HL _ _ _ _ _ _ (World.drew _)
        generalize World.drew _ = wd at *
        refine hl_take ?v113 rfl (by kernel_rfl) ?y113 ?z113
        case y113 => intro W hW; have z0 : IntKind.i64.wrap 0 = 0 := rfl; have z1 : IntKind.i64.wrap 1 = 1 := rfl; replace hW := Lib.hid hW; go_simp; try rfl
        case z113 =>
        simp only [Act.put, List.setIfInBounds_toArray, List.set_cons_succ, List.set_cons_zero, List.getElem_toArray, List.getElem_cons_zero, List.getElem_cons_succ]
        refine hl_take ?v114 rfl (by kernel_rfl) ?y114 ?z114
        case y114 => intro W hW; have z0 : IntKind.i64.wrap 0 = 0 := rfl; have z1 : IntKind.i64.wrap 1 = 1 := rfl; replace hW := Lib.hid hW; go_simp; try rfl
        case z114 =>
        simp only [Act.put, List.setIfInBounds_toArray, List.set_cons_succ, List.set_cons_zero, List.getElem_toArray, List.getElem_cons_zero, List.getElem_cons_succ]
        refine hl_take ?v115 rfl (by kernel_rfl) ?y115 ?z115
        case y115 => intro W hW; have z0 : IntKind.i64.wrap 0 = 0 := rfl; have z1 : IntKind.i64.wrap 1 = 1 := rfl; replace hW := Lib.hid hW; go_simp; try rfl
        case z115 =>
        simp only [Act.put, List.setIfInBounds_toArray, List.set_cons_succ, List.set_cons_zero, List.getElem_toArray, List.getElem_cons_zero, List.getElem_cons_succ]
        refine hl_take ?v116 rfl (by kernel_rfl) ?y116 ?z116
        case y116 => intro W hW; change Sep W _ at hW; have p0 := hW.b2.2.1; have p1 := hW.b2.2.2.1; have a0 := hW.to1.b4.2.1; have a1 := hW.to1.b4.2.2.1; have a2 := hW.to1.b4.2.2.2.1; have a3 := hW.to1.b4.2.2.2.2.1; have m0 := hW.to2.b2.2.1; have m1 := hW.to2.b2.2.2.1; have n0 := hW.to3.b2.2.1; have n1 := hW.to3.b2.2.2.1; replace hW := Lib.hid hW; go_simp; try rfl
        case z116 =>
        simp only [Act.put, List.setIfInBounds_toArray, List.set_cons_succ, List.set_cons_zero, List.getElem_toArray, List.getElem_cons_zero, List.getElem_cons_succ]
        refine hl_take ?v117 rfl (by kernel_rfl) ?y117 ?z117
        case y117 => intro W hW; have z0 : IntKind.i64.wrap 0 = 0 := rfl; have z1 : IntKind.i64.wrap 1 = 1 := rfl; replace hW := Lib.hid hW; go_simp; try rfl
        case z117 =>
        simp only [Act.put, List.setIfInBounds_toArray, List.set_cons_succ, List.set_cons_zero, List.getElem_toArray, List.getElem_cons_zero, List.getElem_cons_succ]
        refine hl_one rfl (by kernel_rfl) (fun K hK => ?_)
        go_simp
        refine (L0.out _).mono ?_
        rintro e w2 ⟨rfl, b2⟩
        replace hS := Lib.hid (hS.out.below b2)
        clear b2
        refine hK.out _ _ hS.out ?_
        clear hK K
        try simp only [Act.put, List.setIfInBounds_toArray, List.set_cons_succ, List.set_cons_zero, List.getElem_toArray, List.getElem_cons_zero, List.getElem_cons_succ]
        refine hl_take ?v118 rfl (by kernel_rfl) ?y118 ?z118
        case y118 => intro W hW; have z0 : IntKind.i64.wrap 0 = 0 := rfl; have z1 : IntKind.i64.wrap 1 = 1 := rfl; replace hW := Lib.hid hW; go_simp; try rfl
        case z118 =>
        simp only [Act.put, List.setIfInBounds_toArray, List.set_cons_succ, List.set_cons_zero, List.getElem_toArray, List.getElem_cons_zero, List.getElem_cons_succ]
        refine hl_take ?v119 rfl (by kernel_rfl) ?y119 ?z119
        case y119 => intro W hW; have z0 : IntKind.i64.wrap 0 = 0 := rfl; have z1 : IntKind.i64.wrap 1 = 1 := rfl; replace hW := Lib.hid hW; go_simp; try rfl
        case z119 =>
        simp only [Act.put, List.setIfInBounds_toArray, List.set_cons_succ, List.set_cons_zero, List.getElem_toArray, List.getElem_cons_zero, List.getElem_cons_succ]
        refine hl_take ?v120 rfl (by kernel_rfl) ?y120 ?z120
        case y120 => intro W hW; have z0 : IntKind.i64.wrap 0 = 0 := rfl; have z1 : IntKind.i64.wrap 1 = 1 := rfl; replace hW := Lib.hid hW; go_simp; try rfl
        case z120 =>
        simp only [Act.put, List.setIfInBounds_toArray, List.set_cons_succ, List.set_cons_zero, List.getElem_toArray, List.getElem_cons_zero, List.getElem_cons_succ]
        refine hl_take ?v121 rfl (by kernel_rfl) ?y121 ?z121
        case y121 => intro W hW; have z0 : IntKind.i64.wrap 0 = 0 := rfl; have z1 : IntKind.i64.wrap 1 = 1 := rfl; replace hW := Lib.hid hW; go_simp; try rfl
        case z121 =>
        simp only [Act.put, List.setIfInBounds_toArray, List.set_cons_succ, List.set_cons_zero, List.getElem_toArray, List.getElem_cons_zero, List.getElem_cons_succ]
        refine hl_take ?v122 rfl (by kernel_rfl) ?y122 ?z122
        case y122 => intro W hW; have z0 : IntKind.i64.wrap 0 = 0 := rfl; have z1 : IntKind.i64.wrap 1 = 1 := rfl; replace hW := Lib.hid hW; go_simp; try rfl
        case z122 =>
        simp only [Act.put, List.setIfInBounds_toArray, List.set_cons_succ, List.set_cons_zero, List.getElem_toArray, List.getElem_cons_zero, List.getElem_cons_succ]
        refine hl_take ?v123 rfl (by kernel_rfl) ?y123 ?z123
        case y123 => intro W hW; change Sep W _ at hW; have p0 := hW.b2.2.1; have p1 := hW.b2.2.2.1; have a0 := hW.to1.b4.2.1; have a1 := hW.to1.b4.2.2.1; have a2 := hW.to1.b4.2.2.2.1; have a3 := hW.to1.b4.2.2.2.2.1; have m0 := hW.to2.b2.2.1; have m1 := hW.to2.b2.2.2.1; have n0 := hW.to3.b2.2.1; have n1 := hW.to3.b2.2.2.1; replace hW := Lib.hid hW; go_simp; try rfl
        case z123 =>
        simp only [Act.put, List.setIfInBounds_toArray, List.set_cons_succ, List.set_cons_zero, List.getElem_toArray, List.getElem_cons_zero, List.getElem_cons_succ]
        refine hl_take ?v124 rfl (by kernel_rfl) ?y124 ?z124
        case y124 => intro W hW; change Sep W _ at hW; have p0 := hW.b2.2.1; have p1 := hW.b2.2.2.1; have a0 := hW.to1.b4.2.1; have a1 := hW.to1.b4.2.2.1; have a2 := hW.to1.b4.2.2.2.1; have a3 := hW.to1.b4.2.2.2.2.1; have m0 := hW.to2.b2.2.1; have m1 := hW.to2.b2.2.2.1; have n0 := hW.to3.b2.2.1; have n1 := hW.to3.b2.2.2.1; replace hW := Lib.hid hW; go_simp; try rfl
        case z124 =>
        simp only [Act.put, List.setIfInBounds_toArray, List.set_cons_succ, List.set_cons_zero, List.getElem_toArray, List.getElem_cons_zero, List.getElem_cons_succ]
        refine hl_one rfl (by kernel_rfl) (fun K hK => ?_)
        go_simp
        refine (C0.out _).mono ?_
        rintro e w2 ⟨rfl, b2⟩
        replace hS := Lib.hid (hS.out.below b2)
        clear b2
        refine hK.out _ _ hS.out ?_
        clear hK K
        try simp only [Act.put, List.setIfInBounds_toArray, List.set_cons_succ, List.set_cons_zero, List.getElem_toArray, List.getElem_cons_zero, List.getElem_cons_succ]
        refine hl_take ?v125 rfl (by kernel_rfl) ?y125 ?z125
        case y125 => intro W hW; have z0 : IntKind.i64.wrap 0 = 0 := rfl; have z1 : IntKind.i64.wrap 1 = 1 := rfl; replace hW := Lib.hid hW; go_simp; try rfl
        case z125 =>
        simp only [Act.put, List.setIfInBounds_toArray, List.set_cons_succ, List.set_cons_zero, List.getElem_toArray, List.getElem_cons_zero, List.getElem_cons_succ]
        refine hl_take ?v126 rfl (by kernel_rfl) ?y126 ?z126
        case y126 => intro W hW; have z0 : IntKind.i64.wrap 0 = 0 := rfl; have z1 : IntKind.i64.wrap 1 = 1 := rfl; replace hW := Lib.hid hW; go_simp; try rfl
        case z126 =>
        simp only [Act.put, List.setIfInBounds_toArray, List.set_cons_succ, List.set_cons_zero, List.getElem_toArray, List.getElem_cons_zero, List.getElem_cons_succ]
        refine hl_done ?_
        skip
        go_wp2_with fail
        have hU := Lib.hid (show (fun W : World => Sep W [blk V 23 #[Value.int .i64 (t), Value.int .i64 ((-1))], blk g 23 #[.int .i64 (-1), .int .i64 (-1), .int .i64 t, .int .i64 (-1)], blk (w.heap.size + 1) 23 #[Value.int .i64 (m), Value.int .i64 (m')], blk w.heap.size 23 #[Value.int .i64 (t), Value.int .i64 (r)], old w]) _ from hS.out.drew)
        refine hl_begin (fun W : World => Sep W [blk V 23 #[Value.int .i64 (t), Value.int .i64 ((-1))], blk g 23 #[.int .i64 (-1), .int .i64 (-1), .int .i64 t, .int .i64 (-1)], blk (w.heap.size + 1) 23 #[Value.int .i64 (m), Value.int .i64 (m')], blk w.heap.size 23 #[Value.int .i64 (t), Value.int .i64 (r)], old w]) [(0, true), (1, true), (2, true), (3, true), (4, true), (5, true), (6, true), (7, true), (8, true), (9, true)] (by kernel_rfl) (by kernel_rfl) (by kernel_rfl) rfl (fun _ _ _ _ _ h => h) hU.out ?_
        change HL _ _ _ _ _ _ (World.drew _)
        generalize World.drew _ = wd at *
        refine hl_take ?v127 rfl (by kernel_rfl) ?y127 ?z127
        case y127 => intro W hW; have z0 : IntKind.i64.wrap 0 = 0 := rfl; have z1 : IntKind.i64.wrap 1 = 1 := rfl; replace hW := Lib.hid hW; go_simp; try rfl
        case z127 =>
        simp only [Act.put, List.setIfInBounds_toArray, List.set_cons_succ, List.set_cons_zero, List.getElem_toArray, List.getElem_cons_zero, List.getElem_cons_succ]
        refine hl_take ?v128 rfl (by kernel_rfl) ?y128 ?z128
        case y128 => intro W hW; have z0 : IntKind.i64.wrap 0 = 0 := rfl; have z1 : IntKind.i64.wrap 1 = 1 := rfl; replace hW := Lib.hid hW; go_simp; try rfl
        case z128 =>
        simp only [Act.put, List.setIfInBounds_toArray, List.set_cons_succ, List.set_cons_zero, List.getElem_toArray, List.getElem_cons_zero, List.getElem_cons_succ]
        refine hl_skip rfl (by kernel_rfl) ?_
        simp only [Act.put, List.setIfInBounds_toArray, List.set_cons_succ, List.set_cons_zero, List.getElem_toArray, List.getElem_cons_zero, List.getElem_cons_succ]
        refine hl_skip rfl (by kernel_rfl) ?_
        simp only [Act.put, List.setIfInBounds_toArray, List.set_cons_succ, List.set_cons_zero, List.getElem_toArray, List.getElem_cons_zero, List.getElem_cons_succ]
        refine hl_skip rfl (by kernel_rfl) ?_
        simp only [Act.put, List.setIfInBounds_toArray, List.set_cons_succ, List.set_cons_zero, List.getElem_toArray, List.getElem_cons_zero, List.getElem_cons_succ]
        refine hl_skip rfl (by kernel_rfl) ?_
        simp only [Act.put, List.setIfInBounds_toArray, List.set_cons_succ, List.set_cons_zero, List.getElem_toArray, List.getElem_cons_zero, List.getElem_cons_succ]
        refine hl_skip rfl (by kernel_rfl) ?_
        simp only [Act.put, List.setIfInBounds_toArray, List.set_cons_succ, List.set_cons_zero, List.getElem_toArray, List.getElem_cons_zero, List.getElem_cons_succ]
        refine hl_skip rfl (by kernel_rfl) ?_
        simp only [Act.put, List.setIfInBounds_toArray, List.set_cons_succ, List.set_cons_zero, List.getElem_toArray, List.getElem_cons_zero, List.getElem_cons_succ]
        refine hl_take ?v129 rfl (by kernel_rfl) ?y129 ?z129
        case y129 => intro W hW; have z0 : IntKind.i64.wrap 0 = 0 := rfl; have z1 : IntKind.i64.wrap 1 = 1 := rfl; replace hW := Lib.hid hW; go_simp; try rfl
        case z129 =>
        simp only [Act.put, List.setIfInBounds_toArray, List.set_cons_succ, List.set_cons_zero, List.getElem_toArray, List.getElem_cons_zero, List.getElem_cons_succ]
        refine hl_take ?v130 rfl (by kernel_rfl) ?y130 ?z130
        case y130 => intro W hW; have z0 : IntKind.i64.wrap 0 = 0 := rfl; have z1 : IntKind.i64.wrap 1 = 1 := rfl; replace hW := Lib.hid hW; go_simp; try rfl
        case z130 =>
        simp only [Act.put, List.setIfInBounds_toArray, List.set_cons_succ, List.set_cons_zero, List.getElem_toArray, List.getElem_cons_zero, List.getElem_cons_succ]
        refine hl_done ?_
        skip
        go_wp2_with fail
        go_roundw
        case rel => exact ⟨1, by omega, by go_num, by rw [eN.out], hU⟩
        case measure => simp [intOf]
    · cases hin : inA m m' t r 1 with
      | false =>
        have eN := Lib.hid (show inA m m' t r 2 = nmB t (-1) m m' by simp only [inA] at hin ⊢; rw [hin]; rfl)
        clear hin
        go_wp2_with fail
        have hS := Lib.hid (show (fun W : World => Sep W [blk V 23 #[Value.int .i64 (t), Value.int .i64 ((-1))], blk g 23 #[.int .i64 (-1), .int .i64 (-1), .int .i64 t, .int .i64 (-1)], blk (w.heap.size + 1) 23 #[Value.int .i64 (m), Value.int .i64 (m')], blk w.heap.size 23 #[Value.int .i64 (t), Value.int .i64 (r)], old w]) _ from hT.out.drew)
        refine hl_begin (fun W : World => Sep W [blk V 23 #[Value.int .i64 (t), Value.int .i64 ((-1))], blk g 23 #[.int .i64 (-1), .int .i64 (-1), .int .i64 t, .int .i64 (-1)], blk (w.heap.size + 1) 23 #[Value.int .i64 (m), Value.int .i64 (m')], blk w.heap.size 23 #[Value.int .i64 (t), Value.int .i64 (r)], old w]) [(0, true), (1, true), (2, true), (3, true), (5, true), (4, false), (6, true), (7, true), (8, true), (9, true), (10, true), (11, true), (12, true), (13, false), (14, true), (15, true)] (by kernel_rfl) (by kernel_rfl) (by kernel_rfl) rfl (fun _ _ _ _ _ h => h) hS.out ?_
        change HL _ _ _ _ _ _ (World.drew _)
        generalize World.drew _ = wd at *
        refine hl_take ?v131 rfl (by kernel_rfl) ?y131 ?z131
        case y131 => intro W hW; have z0 : IntKind.i64.wrap 0 = 0 := rfl; have z1 : IntKind.i64.wrap 1 = 1 := rfl; replace hW := Lib.hid hW; go_simp; try rfl
        case z131 =>
        simp only [Act.put, List.setIfInBounds_toArray, List.set_cons_succ, List.set_cons_zero, List.getElem_toArray, List.getElem_cons_zero, List.getElem_cons_succ]
        refine hl_take ?v132 rfl (by kernel_rfl) ?y132 ?z132
        case y132 => intro W hW; have z0 : IntKind.i64.wrap 0 = 0 := rfl; have z1 : IntKind.i64.wrap 1 = 1 := rfl; replace hW := Lib.hid hW; go_simp; try rfl
        case z132 =>
        simp only [Act.put, List.setIfInBounds_toArray, List.set_cons_succ, List.set_cons_zero, List.getElem_toArray, List.getElem_cons_zero, List.getElem_cons_succ]
        refine hl_take ?v133 rfl (by kernel_rfl) ?y133 ?z133
        case y133 => intro W hW; have z0 : IntKind.i64.wrap 0 = 0 := rfl; have z1 : IntKind.i64.wrap 1 = 1 := rfl; replace hW := Lib.hid hW; go_simp; try rfl
        case z133 =>
        simp only [Act.put, List.setIfInBounds_toArray, List.set_cons_succ, List.set_cons_zero, List.getElem_toArray, List.getElem_cons_zero, List.getElem_cons_succ]
        refine hl_take ?v134 rfl (by kernel_rfl) ?y134 ?z134
        case y134 => intro W hW; change Sep W _ at hW; have p0 := hW.b2.2.1; have p1 := hW.b2.2.2.1; have a0 := hW.to1.b4.2.1; have a1 := hW.to1.b4.2.2.1; have a2 := hW.to1.b4.2.2.2.1; have a3 := hW.to1.b4.2.2.2.2.1; have m0 := hW.to2.b2.2.1; have m1 := hW.to2.b2.2.2.1; have n0 := hW.to3.b2.2.1; have n1 := hW.to3.b2.2.2.1; replace hW := Lib.hid hW; go_simp; try rfl
        case z134 =>
        simp only [Act.put, List.setIfInBounds_toArray, List.set_cons_succ, List.set_cons_zero, List.getElem_toArray, List.getElem_cons_zero, List.getElem_cons_succ]
        refine hl_take ?v135 rfl (by kernel_rfl) ?y135 ?z135
        case y135 => intro W hW; have z0 : IntKind.i64.wrap 0 = 0 := rfl; have z1 : IntKind.i64.wrap 1 = 1 := rfl; replace hW := Lib.hid hW; go_simp; try rfl
        case z135 =>
        simp only [Act.put, List.setIfInBounds_toArray, List.set_cons_succ, List.set_cons_zero, List.getElem_toArray, List.getElem_cons_zero, List.getElem_cons_succ]
        refine hl_one rfl (by kernel_rfl) (fun K hK => ?_)
        go_simp
        refine (L1.out _).mono ?_
        rintro e w2 ⟨rfl, b2⟩
        replace hS := Lib.hid (hS.out.below b2)
        clear b2
        refine hK.out _ _ hS.out ?_
        clear hK K
        try simp only [Act.put, List.setIfInBounds_toArray, List.set_cons_succ, List.set_cons_zero, List.getElem_toArray, List.getElem_cons_zero, List.getElem_cons_succ]
        refine hl_take ?v136 rfl (by kernel_rfl) ?y136 ?z136
        case y136 => intro W hW; have z0 : IntKind.i64.wrap 0 = 0 := rfl; have z1 : IntKind.i64.wrap 1 = 1 := rfl; replace hW := Lib.hid hW; go_simp; try rfl
        case z136 =>
        simp only [Act.put, List.setIfInBounds_toArray, List.set_cons_succ, List.set_cons_zero, List.getElem_toArray, List.getElem_cons_zero, List.getElem_cons_succ]
        refine hl_take ?v137 rfl (by kernel_rfl) ?y137 ?z137
        case y137 => intro W hW; have z0 : IntKind.i64.wrap 0 = 0 := rfl; have z1 : IntKind.i64.wrap 1 = 1 := rfl; replace hW := Lib.hid hW; go_simp; try rfl
        case z137 =>
        simp only [Act.put, List.setIfInBounds_toArray, List.set_cons_succ, List.set_cons_zero, List.getElem_toArray, List.getElem_cons_zero, List.getElem_cons_succ]
        refine hl_take ?v138 rfl (by kernel_rfl) ?y138 ?z138
        case y138 => intro W hW; have z0 : IntKind.i64.wrap 0 = 0 := rfl; have z1 : IntKind.i64.wrap 1 = 1 := rfl; replace hW := Lib.hid hW; go_simp; try rfl
        case z138 =>
        simp only [Act.put, List.setIfInBounds_toArray, List.set_cons_succ, List.set_cons_zero, List.getElem_toArray, List.getElem_cons_zero, List.getElem_cons_succ]
        refine hl_take ?v139 rfl (by kernel_rfl) ?y139 ?z139
        case y139 => intro W hW; have z0 : IntKind.i64.wrap 0 = 0 := rfl; have z1 : IntKind.i64.wrap 1 = 1 := rfl; replace hW := Lib.hid hW; go_simp; try rfl
        case z139 =>
        simp only [Act.put, List.setIfInBounds_toArray, List.set_cons_succ, List.set_cons_zero, List.getElem_toArray, List.getElem_cons_zero, List.getElem_cons_succ]
        refine hl_take ?v140 rfl (by kernel_rfl) ?y140 ?z140
        case y140 => intro W hW; have z0 : IntKind.i64.wrap 0 = 0 := rfl; have z1 : IntKind.i64.wrap 1 = 1 := rfl; replace hW := Lib.hid hW; go_simp; try rfl
        case z140 =>
        simp only [Act.put, List.setIfInBounds_toArray, List.set_cons_succ, List.set_cons_zero, List.getElem_toArray, List.getElem_cons_zero, List.getElem_cons_succ]
        refine hl_take ?v141 rfl (by kernel_rfl) ?y141 ?z141
        case y141 => intro W hW; change Sep W _ at hW; have p0 := hW.b2.2.1; have p1 := hW.b2.2.2.1; have a0 := hW.to1.b4.2.1; have a1 := hW.to1.b4.2.2.1; have a2 := hW.to1.b4.2.2.2.1; have a3 := hW.to1.b4.2.2.2.2.1; have m0 := hW.to2.b2.2.1; have m1 := hW.to2.b2.2.2.1; have n0 := hW.to3.b2.2.1; have n1 := hW.to3.b2.2.2.1; replace hW := Lib.hid hW; go_simp; try rfl
        case z141 =>
        simp only [Act.put, List.setIfInBounds_toArray, List.set_cons_succ, List.set_cons_zero, List.getElem_toArray, List.getElem_cons_zero, List.getElem_cons_succ]
        refine hl_take ?v142 rfl (by kernel_rfl) ?y142 ?z142
        case y142 => intro W hW; change Sep W _ at hW; have p0 := hW.b2.2.1; have p1 := hW.b2.2.2.1; have a0 := hW.to1.b4.2.1; have a1 := hW.to1.b4.2.2.1; have a2 := hW.to1.b4.2.2.2.1; have a3 := hW.to1.b4.2.2.2.2.1; have m0 := hW.to2.b2.2.1; have m1 := hW.to2.b2.2.2.1; have n0 := hW.to3.b2.2.1; have n1 := hW.to3.b2.2.2.1; replace hW := Lib.hid hW; go_simp; try rfl
        case z142 =>
        simp only [Act.put, List.setIfInBounds_toArray, List.set_cons_succ, List.set_cons_zero, List.getElem_toArray, List.getElem_cons_zero, List.getElem_cons_succ]
        refine hl_one rfl (by kernel_rfl) (fun K hK => ?_)
        go_simp
        refine (C1.out _).mono ?_
        rintro e w2 ⟨rfl, b2⟩
        replace hS := Lib.hid (hS.out.below b2)
        clear b2
        refine hK.out _ _ hS.out ?_
        clear hK K
        try simp only [Act.put, List.setIfInBounds_toArray, List.set_cons_succ, List.set_cons_zero, List.getElem_toArray, List.getElem_cons_zero, List.getElem_cons_succ]
        refine hl_take ?v143 rfl (by kernel_rfl) ?y143 ?z143
        case y143 => intro W hW; have z0 : IntKind.i64.wrap 0 = 0 := rfl; have z1 : IntKind.i64.wrap 1 = 1 := rfl; replace hW := Lib.hid hW; go_simp; try rfl
        case z143 =>
        simp only [Act.put, List.setIfInBounds_toArray, List.set_cons_succ, List.set_cons_zero, List.getElem_toArray, List.getElem_cons_zero, List.getElem_cons_succ]
        refine hl_take ?v144 rfl (by kernel_rfl) ?y144 ?z144
        case y144 => intro W hW; have z0 : IntKind.i64.wrap 0 = 0 := rfl; have z1 : IntKind.i64.wrap 1 = 1 := rfl; replace hW := Lib.hid hW; go_simp; try rfl
        case z144 =>
        simp only [Act.put, List.setIfInBounds_toArray, List.set_cons_succ, List.set_cons_zero, List.getElem_toArray, List.getElem_cons_zero, List.getElem_cons_succ]
        refine hl_done ?_
        skip
        go_wp2_with fail
        have hU := Lib.hid (show (fun W : World => Sep W [blk V 23 #[Value.int .i64 (t), Value.int .i64 ((-1))], blk g 23 #[.int .i64 (-1), .int .i64 (-1), .int .i64 t, .int .i64 (-1)], blk (w.heap.size + 1) 23 #[Value.int .i64 (m), Value.int .i64 (m')], blk w.heap.size 23 #[Value.int .i64 (t), Value.int .i64 (r)], old w]) _ from hS.out.drew)
        refine hl_begin (fun W : World => Sep W [blk V 23 #[Value.int .i64 (t), Value.int .i64 ((-1))], blk g 23 #[.int .i64 (-1), .int .i64 (-1), .int .i64 t, .int .i64 (-1)], blk (w.heap.size + 1) 23 #[Value.int .i64 (m), Value.int .i64 (m')], blk w.heap.size 23 #[Value.int .i64 (t), Value.int .i64 (r)], old w]) [(0, true), (1, true), (2, true), (3, true), (4, true), (5, true), (6, true), (7, true), (8, true), (9, true)] (by kernel_rfl) (by kernel_rfl) (by kernel_rfl) rfl (fun _ _ _ _ _ h => h) hU.out ?_
        change HL _ _ _ _ _ _ (World.drew _)
        generalize World.drew _ = wd at *
        refine hl_take ?v145 rfl (by kernel_rfl) ?y145 ?z145
        case y145 => intro W hW; have z0 : IntKind.i64.wrap 0 = 0 := rfl; have z1 : IntKind.i64.wrap 1 = 1 := rfl; replace hW := Lib.hid hW; go_simp; try rfl
        case z145 =>
        simp only [Act.put, List.setIfInBounds_toArray, List.set_cons_succ, List.set_cons_zero, List.getElem_toArray, List.getElem_cons_zero, List.getElem_cons_succ]
        refine hl_take ?v146 rfl (by kernel_rfl) ?y146 ?z146
        case y146 => intro W hW; have z0 : IntKind.i64.wrap 0 = 0 := rfl; have z1 : IntKind.i64.wrap 1 = 1 := rfl; replace hW := Lib.hid hW; go_simp; try rfl
        case z146 =>
        simp only [Act.put, List.setIfInBounds_toArray, List.set_cons_succ, List.set_cons_zero, List.getElem_toArray, List.getElem_cons_zero, List.getElem_cons_succ]
        refine hl_take ?v147 rfl (by kernel_rfl) ?y147 ?z147
        case y147 => intro W hW; have z0 : IntKind.i64.wrap 0 = 0 := rfl; have z1 : IntKind.i64.wrap 1 = 1 := rfl; replace hW := Lib.hid hW; go_simp; try rfl
        case z147 =>
        simp only [Act.put, List.setIfInBounds_toArray, List.set_cons_succ, List.set_cons_zero, List.getElem_toArray, List.getElem_cons_zero, List.getElem_cons_succ]
        refine hl_take ?v148 rfl (by kernel_rfl) ?y148 ?z148
        case y148 => intro W hW; have z0 : IntKind.i64.wrap 0 = 0 := rfl; have z1 : IntKind.i64.wrap 1 = 1 := rfl; replace hW := Lib.hid hW; go_simp; try rfl
        case z148 =>
        simp only [Act.put, List.setIfInBounds_toArray, List.set_cons_succ, List.set_cons_zero, List.getElem_toArray, List.getElem_cons_zero, List.getElem_cons_succ]
        refine hl_take ?v149 rfl (by kernel_rfl) ?y149 ?z149
        case y149 => intro W hW; have z0 : IntKind.i64.wrap 0 = 0 := rfl; have z1 : IntKind.i64.wrap 1 = 1 := rfl; replace hW := Lib.hid hW; go_simp; try rfl
        case z149 =>
        simp only [Act.put, List.setIfInBounds_toArray, List.set_cons_succ, List.set_cons_zero, List.getElem_toArray, List.getElem_cons_zero, List.getElem_cons_succ]
        refine hl_take ?v150 rfl (by kernel_rfl) ?y150 ?z150
        case y150 => intro W hW; change Sep W _ at hW; have p0 := hW.b2.2.1; have p1 := hW.b2.2.2.1; have a0 := hW.to1.b4.2.1; have a1 := hW.to1.b4.2.2.1; have a2 := hW.to1.b4.2.2.2.1; have a3 := hW.to1.b4.2.2.2.2.1; have m0 := hW.to2.b2.2.1; have m1 := hW.to2.b2.2.2.1; have n0 := hW.to3.b2.2.1; have n1 := hW.to3.b2.2.2.1; replace hW := Lib.hid hW; go_simp; try rfl
        case z150 =>
        simp only [Act.put, List.setIfInBounds_toArray, List.set_cons_succ, List.set_cons_zero, List.getElem_toArray, List.getElem_cons_zero, List.getElem_cons_succ]
        refine hl_take ?v151 rfl (by kernel_rfl) ?y151 ?z151
        case y151 => intro W hW; change Sep W _ at hW; have p0 := hW.b2.2.1; have p1 := hW.b2.2.2.1; have a0 := hW.to1.b4.2.1; have a1 := hW.to1.b4.2.2.1; have a2 := hW.to1.b4.2.2.2.1; have a3 := hW.to1.b4.2.2.2.2.1; have m0 := hW.to2.b2.2.1; have m1 := hW.to2.b2.2.2.1; have n0 := hW.to3.b2.2.1; have n1 := hW.to3.b2.2.2.1; replace hW := Lib.hid hW; go_simp; try rfl
        case z151 =>
        simp only [Act.put, List.setIfInBounds_toArray, List.set_cons_succ, List.set_cons_zero, List.getElem_toArray, List.getElem_cons_zero, List.getElem_cons_succ]
        refine hl_take ?v152 rfl (by kernel_rfl) ?y152 ?z152
        case y152 => intro W hW; have z0 : IntKind.i64.wrap 0 = 0 := rfl; have z1 : IntKind.i64.wrap 1 = 1 := rfl; replace hW := Lib.hid hW; go_simp; try rfl
        case z152 =>
        simp only [Act.put, List.setIfInBounds_toArray, List.set_cons_succ, List.set_cons_zero, List.getElem_toArray, List.getElem_cons_zero, List.getElem_cons_succ]
        refine hl_take ?v153 rfl (by kernel_rfl) ?y153 ?z153
        case y153 => intro W hW; have z0 : IntKind.i64.wrap 0 = 0 := rfl; have z1 : IntKind.i64.wrap 1 = 1 := rfl; replace hW := Lib.hid hW; go_simp; try rfl
        case z153 =>
        simp only [Act.put, List.setIfInBounds_toArray, List.set_cons_succ, List.set_cons_zero, List.getElem_toArray, List.getElem_cons_zero, List.getElem_cons_succ]
        refine hl_take ?v154 rfl (by kernel_rfl) ?y154 ?z154
        case y154 => intro W hW; have z0 : IntKind.i64.wrap 0 = 0 := rfl; have z1 : IntKind.i64.wrap 1 = 1 := rfl; replace hW := Lib.hid hW; go_simp; try rfl
        case z154 =>
        simp only [Act.put, List.setIfInBounds_toArray, List.set_cons_succ, List.set_cons_zero, List.getElem_toArray, List.getElem_cons_zero, List.getElem_cons_succ]
        refine hl_done ?_
        skip
        go_wp2_with fail
        go_roundw
        case rel => exact ⟨2, by omega, by go_num, by rw [eN.out], hU⟩
        case measure => simp [intOf]
      | true =>
        have eN := Lib.hid (show inA m m' t r 2 = true by simp only [inA] at hin ⊢; rw [hin]; rfl)
        clear hin
        go_wp2_with fail
        have hS := Lib.hid (show (fun W : World => Sep W [blk V 23 #[Value.int .i64 (t), Value.int .i64 ((-1))], blk g 23 #[.int .i64 (-1), .int .i64 (-1), .int .i64 t, .int .i64 (-1)], blk (w.heap.size + 1) 23 #[Value.int .i64 (m), Value.int .i64 (m')], blk w.heap.size 23 #[Value.int .i64 (t), Value.int .i64 (r)], old w]) _ from hT.out.drew)
        refine hl_begin (fun W : World => Sep W [blk V 23 #[Value.int .i64 (t), Value.int .i64 ((-1))], blk g 23 #[.int .i64 (-1), .int .i64 (-1), .int .i64 t, .int .i64 (-1)], blk (w.heap.size + 1) 23 #[Value.int .i64 (m), Value.int .i64 (m')], blk w.heap.size 23 #[Value.int .i64 (t), Value.int .i64 (r)], old w]) [(0, true), (1, true), (2, true), (3, true), (5, true), (4, false), (6, true), (7, true), (8, true), (9, true), (10, true), (11, true), (12, true), (13, false), (14, true), (15, true)] (by kernel_rfl) (by kernel_rfl) (by kernel_rfl) rfl (fun _ _ _ _ _ h => h) hS.out ?_
        change HL _ _ _ _ _ _ (World.drew _)
        generalize World.drew _ = wd at *
        refine hl_take ?v155 rfl (by kernel_rfl) ?y155 ?z155
        case y155 => intro W hW; have z0 : IntKind.i64.wrap 0 = 0 := rfl; have z1 : IntKind.i64.wrap 1 = 1 := rfl; replace hW := Lib.hid hW; go_simp; try rfl
        case z155 =>
        simp only [Act.put, List.setIfInBounds_toArray, List.set_cons_succ, List.set_cons_zero, List.getElem_toArray, List.getElem_cons_zero, List.getElem_cons_succ]
        refine hl_take ?v156 rfl (by kernel_rfl) ?y156 ?z156
        case y156 => intro W hW; have z0 : IntKind.i64.wrap 0 = 0 := rfl; have z1 : IntKind.i64.wrap 1 = 1 := rfl; replace hW := Lib.hid hW; go_simp; try rfl
        case z156 =>
        simp only [Act.put, List.setIfInBounds_toArray, List.set_cons_succ, List.set_cons_zero, List.getElem_toArray, List.getElem_cons_zero, List.getElem_cons_succ]
        refine hl_take ?v157 rfl (by kernel_rfl) ?y157 ?z157
        case y157 => intro W hW; have z0 : IntKind.i64.wrap 0 = 0 := rfl; have z1 : IntKind.i64.wrap 1 = 1 := rfl; replace hW := Lib.hid hW; go_simp; try rfl
        case z157 =>
        simp only [Act.put, List.setIfInBounds_toArray, List.set_cons_succ, List.set_cons_zero, List.getElem_toArray, List.getElem_cons_zero, List.getElem_cons_succ]
        refine hl_take ?v158 rfl (by kernel_rfl) ?y158 ?z158
        case y158 => intro W hW; change Sep W _ at hW; have p0 := hW.b2.2.1; have p1 := hW.b2.2.2.1; have a0 := hW.to1.b4.2.1; have a1 := hW.to1.b4.2.2.1; have a2 := hW.to1.b4.2.2.2.1; have a3 := hW.to1.b4.2.2.2.2.1; have m0 := hW.to2.b2.2.1; have m1 := hW.to2.b2.2.2.1; have n0 := hW.to3.b2.2.1; have n1 := hW.to3.b2.2.2.1; replace hW := Lib.hid hW; go_simp; try rfl
        case z158 =>
        simp only [Act.put, List.setIfInBounds_toArray, List.set_cons_succ, List.set_cons_zero, List.getElem_toArray, List.getElem_cons_zero, List.getElem_cons_succ]
        refine hl_take ?v159 rfl (by kernel_rfl) ?y159 ?z159
        case y159 => intro W hW; have z0 : IntKind.i64.wrap 0 = 0 := rfl; have z1 : IntKind.i64.wrap 1 = 1 := rfl; replace hW := Lib.hid hW; go_simp; try rfl
        case z159 =>
        simp only [Act.put, List.setIfInBounds_toArray, List.set_cons_succ, List.set_cons_zero, List.getElem_toArray, List.getElem_cons_zero, List.getElem_cons_succ]
        refine hl_one rfl (by kernel_rfl) (fun K hK => ?_)
        go_simp
        refine (L1.out _).mono ?_
        rintro e w2 ⟨rfl, b2⟩
        replace hS := Lib.hid (hS.out.below b2)
        clear b2
        refine hK.out _ _ hS.out ?_
        clear hK K
        try simp only [Act.put, List.setIfInBounds_toArray, List.set_cons_succ, List.set_cons_zero, List.getElem_toArray, List.getElem_cons_zero, List.getElem_cons_succ]
        refine hl_take ?v160 rfl (by kernel_rfl) ?y160 ?z160
        case y160 => intro W hW; have z0 : IntKind.i64.wrap 0 = 0 := rfl; have z1 : IntKind.i64.wrap 1 = 1 := rfl; replace hW := Lib.hid hW; go_simp; try rfl
        case z160 =>
        simp only [Act.put, List.setIfInBounds_toArray, List.set_cons_succ, List.set_cons_zero, List.getElem_toArray, List.getElem_cons_zero, List.getElem_cons_succ]
        refine hl_take ?v161 rfl (by kernel_rfl) ?y161 ?z161
        case y161 => intro W hW; have z0 : IntKind.i64.wrap 0 = 0 := rfl; have z1 : IntKind.i64.wrap 1 = 1 := rfl; replace hW := Lib.hid hW; go_simp; try rfl
        case z161 =>
        simp only [Act.put, List.setIfInBounds_toArray, List.set_cons_succ, List.set_cons_zero, List.getElem_toArray, List.getElem_cons_zero, List.getElem_cons_succ]
        refine hl_take ?v162 rfl (by kernel_rfl) ?y162 ?z162
        case y162 => intro W hW; have z0 : IntKind.i64.wrap 0 = 0 := rfl; have z1 : IntKind.i64.wrap 1 = 1 := rfl; replace hW := Lib.hid hW; go_simp; try rfl
        case z162 =>
        simp only [Act.put, List.setIfInBounds_toArray, List.set_cons_succ, List.set_cons_zero, List.getElem_toArray, List.getElem_cons_zero, List.getElem_cons_succ]
        refine hl_take ?v163 rfl (by kernel_rfl) ?y163 ?z163
        case y163 => intro W hW; have z0 : IntKind.i64.wrap 0 = 0 := rfl; have z1 : IntKind.i64.wrap 1 = 1 := rfl; replace hW := Lib.hid hW; go_simp; try rfl
        case z163 =>
        simp only [Act.put, List.setIfInBounds_toArray, List.set_cons_succ, List.set_cons_zero, List.getElem_toArray, List.getElem_cons_zero, List.getElem_cons_succ]
        refine hl_take ?v164 rfl (by kernel_rfl) ?y164 ?z164
        case y164 => intro W hW; have z0 : IntKind.i64.wrap 0 = 0 := rfl; have z1 : IntKind.i64.wrap 1 = 1 := rfl; replace hW := Lib.hid hW; go_simp; try rfl
        case z164 =>
        simp only [Act.put, List.setIfInBounds_toArray, List.set_cons_succ, List.set_cons_zero, List.getElem_toArray, List.getElem_cons_zero, List.getElem_cons_succ]
        refine hl_take ?v165 rfl (by kernel_rfl) ?y165 ?z165
        case y165 => intro W hW; change Sep W _ at hW; have p0 := hW.b2.2.1; have p1 := hW.b2.2.2.1; have a0 := hW.to1.b4.2.1; have a1 := hW.to1.b4.2.2.1; have a2 := hW.to1.b4.2.2.2.1; have a3 := hW.to1.b4.2.2.2.2.1; have m0 := hW.to2.b2.2.1; have m1 := hW.to2.b2.2.2.1; have n0 := hW.to3.b2.2.1; have n1 := hW.to3.b2.2.2.1; replace hW := Lib.hid hW; go_simp; try rfl
        case z165 =>
        simp only [Act.put, List.setIfInBounds_toArray, List.set_cons_succ, List.set_cons_zero, List.getElem_toArray, List.getElem_cons_zero, List.getElem_cons_succ]
        refine hl_take ?v166 rfl (by kernel_rfl) ?y166 ?z166
        case y166 => intro W hW; change Sep W _ at hW; have p0 := hW.b2.2.1; have p1 := hW.b2.2.2.1; have a0 := hW.to1.b4.2.1; have a1 := hW.to1.b4.2.2.1; have a2 := hW.to1.b4.2.2.2.1; have a3 := hW.to1.b4.2.2.2.2.1; have m0 := hW.to2.b2.2.1; have m1 := hW.to2.b2.2.2.1; have n0 := hW.to3.b2.2.1; have n1 := hW.to3.b2.2.2.1; replace hW := Lib.hid hW; go_simp; try rfl
        case z166 =>
        simp only [Act.put, List.setIfInBounds_toArray, List.set_cons_succ, List.set_cons_zero, List.getElem_toArray, List.getElem_cons_zero, List.getElem_cons_succ]
        refine hl_one rfl (by kernel_rfl) (fun K hK => ?_)
        go_simp
        refine (C1.out _).mono ?_
        rintro e w2 ⟨rfl, b2⟩
        replace hS := Lib.hid (hS.out.below b2)
        clear b2
        refine hK.out _ _ hS.out ?_
        clear hK K
        try simp only [Act.put, List.setIfInBounds_toArray, List.set_cons_succ, List.set_cons_zero, List.getElem_toArray, List.getElem_cons_zero, List.getElem_cons_succ]
        refine hl_take ?v167 rfl (by kernel_rfl) ?y167 ?z167
        case y167 => intro W hW; have z0 : IntKind.i64.wrap 0 = 0 := rfl; have z1 : IntKind.i64.wrap 1 = 1 := rfl; replace hW := Lib.hid hW; go_simp; try rfl
        case z167 =>
        simp only [Act.put, List.setIfInBounds_toArray, List.set_cons_succ, List.set_cons_zero, List.getElem_toArray, List.getElem_cons_zero, List.getElem_cons_succ]
        refine hl_take ?v168 rfl (by kernel_rfl) ?y168 ?z168
        case y168 => intro W hW; have z0 : IntKind.i64.wrap 0 = 0 := rfl; have z1 : IntKind.i64.wrap 1 = 1 := rfl; replace hW := Lib.hid hW; go_simp; try rfl
        case z168 =>
        simp only [Act.put, List.setIfInBounds_toArray, List.set_cons_succ, List.set_cons_zero, List.getElem_toArray, List.getElem_cons_zero, List.getElem_cons_succ]
        refine hl_done ?_
        skip
        go_wp2_with fail
        have hU := Lib.hid (show (fun W : World => Sep W [blk V 23 #[Value.int .i64 (t), Value.int .i64 ((-1))], blk g 23 #[.int .i64 (-1), .int .i64 (-1), .int .i64 t, .int .i64 (-1)], blk (w.heap.size + 1) 23 #[Value.int .i64 (m), Value.int .i64 (m')], blk w.heap.size 23 #[Value.int .i64 (t), Value.int .i64 (r)], old w]) _ from hS.out.drew)
        refine hl_begin (fun W : World => Sep W [blk V 23 #[Value.int .i64 (t), Value.int .i64 ((-1))], blk g 23 #[.int .i64 (-1), .int .i64 (-1), .int .i64 t, .int .i64 (-1)], blk (w.heap.size + 1) 23 #[Value.int .i64 (m), Value.int .i64 (m')], blk w.heap.size 23 #[Value.int .i64 (t), Value.int .i64 (r)], old w]) [(0, true), (1, true), (2, true), (3, true), (4, true), (5, true), (6, true), (7, true), (8, true), (9, true)] (by kernel_rfl) (by kernel_rfl) (by kernel_rfl) rfl (fun _ _ _ _ _ h => h) hU.out ?_
        change HL _ _ _ _ _ _ (World.drew _)
        generalize World.drew _ = wd at *
        refine hl_take ?v169 rfl (by kernel_rfl) ?y169 ?z169
        case y169 => intro W hW; have z0 : IntKind.i64.wrap 0 = 0 := rfl; have z1 : IntKind.i64.wrap 1 = 1 := rfl; replace hW := Lib.hid hW; go_simp; try rfl
        case z169 =>
        simp only [Act.put, List.setIfInBounds_toArray, List.set_cons_succ, List.set_cons_zero, List.getElem_toArray, List.getElem_cons_zero, List.getElem_cons_succ]
        refine hl_take ?v170 rfl (by kernel_rfl) ?y170 ?z170
        case y170 => intro W hW; have z0 : IntKind.i64.wrap 0 = 0 := rfl; have z1 : IntKind.i64.wrap 1 = 1 := rfl; replace hW := Lib.hid hW; go_simp; try rfl
        case z170 =>
        simp only [Act.put, List.setIfInBounds_toArray, List.set_cons_succ, List.set_cons_zero, List.getElem_toArray, List.getElem_cons_zero, List.getElem_cons_succ]
        refine hl_skip rfl (by kernel_rfl) ?_
        simp only [Act.put, List.setIfInBounds_toArray, List.set_cons_succ, List.set_cons_zero, List.getElem_toArray, List.getElem_cons_zero, List.getElem_cons_succ]
        refine hl_skip rfl (by kernel_rfl) ?_
        simp only [Act.put, List.setIfInBounds_toArray, List.set_cons_succ, List.set_cons_zero, List.getElem_toArray, List.getElem_cons_zero, List.getElem_cons_succ]
        refine hl_skip rfl (by kernel_rfl) ?_
        simp only [Act.put, List.setIfInBounds_toArray, List.set_cons_succ, List.set_cons_zero, List.getElem_toArray, List.getElem_cons_zero, List.getElem_cons_succ]
        refine hl_skip rfl (by kernel_rfl) ?_
        simp only [Act.put, List.setIfInBounds_toArray, List.set_cons_succ, List.set_cons_zero, List.getElem_toArray, List.getElem_cons_zero, List.getElem_cons_succ]
        refine hl_skip rfl (by kernel_rfl) ?_
        simp only [Act.put, List.setIfInBounds_toArray, List.set_cons_succ, List.set_cons_zero, List.getElem_toArray, List.getElem_cons_zero, List.getElem_cons_succ]
        refine hl_skip rfl (by kernel_rfl) ?_
        simp only [Act.put, List.setIfInBounds_toArray, List.set_cons_succ, List.set_cons_zero, List.getElem_toArray, List.getElem_cons_zero, List.getElem_cons_succ]
        refine hl_take ?v171 rfl (by kernel_rfl) ?y171 ?z171
        case y171 => intro W hW; have z0 : IntKind.i64.wrap 0 = 0 := rfl; have z1 : IntKind.i64.wrap 1 = 1 := rfl; replace hW := Lib.hid hW; go_simp; try rfl
        case z171 =>
        simp only [Act.put, List.setIfInBounds_toArray, List.set_cons_succ, List.set_cons_zero, List.getElem_toArray, List.getElem_cons_zero, List.getElem_cons_succ]
        refine hl_take ?v172 rfl (by kernel_rfl) ?y172 ?z172
        case y172 => intro W hW; have z0 : IntKind.i64.wrap 0 = 0 := rfl; have z1 : IntKind.i64.wrap 1 = 1 := rfl; replace hW := Lib.hid hW; go_simp; try rfl
        case z172 =>
        simp only [Act.put, List.setIfInBounds_toArray, List.set_cons_succ, List.set_cons_zero, List.getElem_toArray, List.getElem_cons_zero, List.getElem_cons_succ]
        refine hl_done ?_
        skip
        go_wp2_with fail
        go_roundw
        case rel => exact ⟨2, by omega, by go_num, by rw [eN.out], hU⟩
        case measure => simp [intOf]
    · obtain ⟨_, m0, m1, _⟩ := hT.out.to2.b2
      obtain ⟨_, n0, n1, _⟩ := hT.out.to3.b2
      generalize inA m m' t r 2 = fin at *
      go_wp2_with fail
      refine (UN.out _).mono ?_
      rintro e w5 ⟨rfl, b5⟩
      replace hT := Lib.hid (hT.out.below b5)
      clear b5
      have ef : (fin == fin) = true := beq_self_eq_true fin
      go_wp2_with fail
      go_ret
      exact ⟨by simp, hT.out.tail.tail.tail.tail.gold⟩
theorem above_walk (t r m m' : Int) (w : World) : Calls Tryd.prog 5 #[(.agg #[.int .i64 t, .int .i64 r]), (.agg #[.int .i64 m, .int .i64 m'])] w fun e w' => e = .returned (.bool true) ∧ Below w.heap.size w w' := by
  have hs := lv_spec t r
  by_cases h1 : lv t r = 1
  · exact above_1 t r m m' w h1
  · by_cases h2 : lv t r = 2
    · exact above_2 t r m m' w h2
    · exact above_low t r m m' w (by omega)
end Go.Proofs.YtiaibmabmholaaaDoor
