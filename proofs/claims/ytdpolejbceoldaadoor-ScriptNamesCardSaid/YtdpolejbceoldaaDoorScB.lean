/-
  Contracts of package script: caps, pick, Caps, Entry; the reference's Level and Check of a name. No condition beside an entry of eight bytes.
-/
import Derived.Test.YtdpolejbceoldaaDoorScA
namespace Go.Proofs.YtdpolejbceoldaaDoor
set_option linter.unusedSimpArgs false
set_option linter.unusedVariables false
set_option linter.unnecessarySimpa false
open Go.RowKit
theorem boxC (w : World) (cs : Array Value) : Sep (w.alloc (.cells cs 28)) [blk w.heap.size 28 cs, old w] := (Sep.start w).alloc _ _
set_option maxHeartbeats 2000000 in
theorem caps_any (a b c d : Int) (w : World) : Calls Tryd.prog 40 #[.agg #[.int .i64 a, .int .i64 b, .int .i64 c, .int .i64 d]] w fun e w' => e = .returned (.bool (capB a b c d)) ∧ Below w.heap.size w w' := by
  have E := Lib.hid (show capB a b c d = (fitB a 1 16 true && fitB b 1 64 true && fitB c 1 128 true && fitB d 0 8 true) from rfl)
  have hS := Lib.hid (boxC w #[.int .i64 a, .int .i64 b, .int .i64 c, .int .i64 d])
  obtain ⟨_, c0, c1, c2, c3, _⟩ := hS.out.b4
  cases h0 : fitB a 1 16 true with
  | false =>
    go_enter Tryd.func40, Tryd.ntmps40
    go_wp2_with (go_at_call 34; refine (fits_any _ _ _ _ _).mono ?_; rintro e w2 ⟨rfl, rfl⟩)
    go_ret
    exact ⟨by rw [E.out, h0]; rfl, hS.out.tail.gold⟩
  | true =>
    cases h1 : fitB b 1 64 true with
    | false =>
      go_enter Tryd.func40, Tryd.ntmps40
      go_wp2_with (go_at_call 34; refine (fits_any _ _ _ _ _).mono ?_; rintro e w2 ⟨rfl, rfl⟩)
      go_ret
      exact ⟨by rw [E.out, h0, h1]; rfl, hS.out.tail.gold⟩
    | true =>
      cases h2 : fitB c 1 128 true with
      | false =>
        go_enter Tryd.func40, Tryd.ntmps40
        go_wp2_with (go_at_call 34; refine (fits_any _ _ _ _ _).mono ?_; rintro e w2 ⟨rfl, rfl⟩)
        go_ret
        exact ⟨by rw [E.out, h0, h1, h2]; rfl, hS.out.tail.gold⟩
      | true =>
        cases h3 : fitB d 0 8 true with
        | false =>
          go_enter Tryd.func40, Tryd.ntmps40
          go_wp2_with (go_at_call 34; refine (fits_any _ _ _ _ _).mono ?_; rintro e w2 ⟨rfl, rfl⟩)
          go_ret
          exact ⟨by rw [E.out, h0, h1, h2, h3]; rfl, hS.out.tail.gold⟩
        | true =>
          go_enter Tryd.func40, Tryd.ntmps40
          go_wp2_with (go_at_call 34; refine (fits_any _ _ _ _ _).mono ?_; rintro e w2 ⟨rfl, rfl⟩)
          go_ret
          exact ⟨by rw [E.out, h0, h1, h2, h3]; rfl, hS.out.tail.gold⟩
theorem boxP (w : World) (cs : Array Value) : Sep (w.alloc (.cells cs 47)) [blk w.heap.size 47 cs, old w] := (Sep.start w).alloc _ _
theorem pk_any (a b : Int) (w : World) : Calls Tryd.prog 44 #[.agg #[.int .i64 a, .int .i64 b]] w fun e w' => e = .returned (.bool (pkB (a, b))) ∧ Below w.heap.size w w' := by
  have E := Lib.hid (show pkB (a, b) = (decide (1 ≤ a ∧ a ≤ 4) && fitB b 0 255 true) from rfl)
  have hS := Lib.hid (boxP w #[.int .i64 a, .int .i64 b])
  obtain ⟨_, c0, c1, _⟩ := hS.out.b2
  by_cases h1 : 1 ≤ a
  · by_cases h4 : a ≤ 4
    · rw [decide_eq_true (⟨h1, h4⟩ : 1 ≤ a ∧ a ≤ 4)] at E
      cases hf : fitB b 0 255 true
      all_goals go_enter Tryd.func44, Tryd.ntmps44
      all_goals go_wp2_with (go_at_call 34; refine (fits_any _ _ _ _ _).mono ?_; rintro e w2 ⟨rfl, rfl⟩)
      all_goals go_ret
      all_goals exact ⟨by rw [E.out, hf]; rfl, hS.out.tail.gold⟩
    · rw [decide_eq_false (show ¬(1 ≤ a ∧ a ≤ 4) by omega)] at E
      go_enter Tryd.func44, Tryd.ntmps44
      go_wp2
      go_ret
      exact ⟨by rw [E.out]; rfl, hS.out.tail.gold⟩
  · rw [decide_eq_false (show ¬(1 ≤ a ∧ a ≤ 4) by omega)] at E
    go_enter Tryd.func44, Tryd.ntmps44
    go_wp2
    go_ret
    exact ⟨by rw [E.out]; rfl, hS.out.tail.gold⟩
theorem capsV_any (w : World) : Calls Tryd.prog 25 #[] w fun e w' => e = .returned (.agg #[.int .i64 4, .int .i64 32, .int .i64 64, .int .i64 2]) ∧ Below w.heap.size w w' := by
  go_enter Tryd.func25, Tryd.ntmps25
  go_wp2
  refine bodyPost_ret (v := .agg #[.int .i64 4, .int .i64 32, .int .i64 64, .int .i64 2]) (by simp [results, Tryd.results25, go_sem, *]) rfl ⟨rfl, ?_⟩
  exact (Below.refl _ _).alloc (Nat.le_refl _) _
theorem i64_small (z : Int) (h1 : -1 ≤ z) (h2 : z ≤ 255) : IntKind.i64.wrap z = z := by apply IntWalk.i64_in; omega
theorem bt_get (x : ByteArray) (i : Nat) (h : i < x.size) : ((x[i]'h).toNat : Int) = bt x i := by
  unfold bt
  rw [ByteArray.getElem_eq_getElem_data, Array.getElem?_eq_getElem]
  rfl
set_option maxHeartbeats 4000000 in
set_option maxRecDepth 100000 in
theorem entry_no (x : ByteArray) (hx : x.size = 8) (h : bt x 0 ≠ 2 ∨ 8 ≤ bt x 1) (w : World) : Calls Tryd.prog 12 #[.string x] w fun e w' => e = .returned (.tuple #[.int .i64 0, .agg #[.int .i64 0, .int .i64 0, .int .i64 0, .int .i64 0, .int .i64 0, .int .i64 0], .bool false]) ∧ Below w.heap.size w w' := by
  have hg := bt_get x
  have hS := Lib.hid (boxO w #[.int .i64 0, .int .i64 0, .int .i64 0, .int .i64 0, .int .i64 0, .int .i64 0])
  by_cases h0 : bt x 0 = 2
  · have e0 : (bt x 0 != 2) = false := by rw [h0]; rfl
    have e1 : (8 : Int) ≤ bt x 1 := by omega
    clear h h0
    go_enter Tryd.func12, Tryd.ntmps12
    go_wp2
    obtain ⟨_, c0, c1, c2, c3, c4, c5, _⟩ := hS.out.b6
    refine bodyPost_ret (v := .tuple #[.int .i64 0, .agg #[.int .i64 0, .int .i64 0, .int .i64 0, .int .i64 0, .int .i64 0, .int .i64 0], .bool false]) (by simp [results, Tryd.results12, go_sem, *]) rfl ⟨rfl, hS.out.tail.gold⟩
  · have e0 : (bt x 0 != 2) = true := bne_iff_ne.2 h0
    clear h h0
    go_enter Tryd.func12, Tryd.ntmps12
    go_wp2
    obtain ⟨_, c0, c1, c2, c3, c4, c5, _⟩ := hS.out.b6
    refine bodyPost_ret (v := .tuple #[.int .i64 0, .agg #[.int .i64 0, .int .i64 0, .int .i64 0, .int .i64 0, .int .i64 0, .int .i64 0], .bool false]) (by simp [results, Tryd.results12, go_sem, *]) rfl ⟨rfl, hS.out.tail.gold⟩
set_option maxHeartbeats 4000000 in
set_option maxRecDepth 100000 in
theorem entry_yes (x : ByteArray) (hx : x.size = 8) (h0 : bt x 0 = 2) (h1 : bt x 1 < 8) (hB : opB (opOf (bt x)) = true) (w : World) : Calls Tryd.prog 12 #[.string x] w fun e w' => e = .returned (.tuple #[.int .i64 (bt x 1), .agg #[.int .i64 (bt x 2), .int .i64 (bt x 3 - 1), .int .i64 (bt x 4 - 1), .int .i64 (bt x 5), .int .i64 (bt x 6), .int .i64 (bt x 7)], .bool true]) ∧ Below w.heap.size w w' := by
  have hg := bt_get x
  have e0 : (bt x 0 != 2) = false := by rw [h0]; rfl
  have e1 : ¬ (8 : Int) ≤ bt x 1 := by omega
  have hS := Lib.hid (boxO w #[.int .i64 0, .int .i64 0, .int .i64 0, .int .i64 0, .int .i64 0, .int .i64 0])
  have hw : ∀ i, IntKind.i64.wrap (bt x i) = bt x i := fun i => by have := bt_bd x i; exact i64_small _ (by omega) (by omega)
  have hw1 : ∀ i, IntKind.i64.wrap (bt x i - 1) = bt x i - 1 := fun i => by have := bt_bd x i; exact i64_small _ (by omega) (by omega)
  have HO := fun W => op_any (opOf (bt x)) W
  rw [show opErr (opOf (bt x)) = 0 by unfold opErr; rw [hB]; rfl] at HO
  simp only [oC, opOf] at HO
  replace HO := Lib.hid HO
  have HN := (opB_bd hB).2.2.2.1
  simp only [opOf] at HN
  clear h0 h1 hB
  go_enter Tryd.func12, Tryd.ntmps12
  go_wp2
  have hS := Lib.hid (show (fun W : World => Sep W [blk w.heap.size 36 #[.int .i64 0, .int .i64 0, .int .i64 0, .int .i64 0, .int .i64 0, .int .i64 0], old w]) _ from hS.out.drew)
  refine hx_begin (fun W : World => Sep W [blk w.heap.size 36 #[.int .i64 0, .int .i64 0, .int .i64 0, .int .i64 0, .int .i64 0, .int .i64 0], old w]) 22 [(0, true), (1, true), (2, true), (3, true), (4, true), (5, true), (6, true), (7, true), (8, true), (9, true), (10, true), (11, true), (12, true), (13, true), (14, true), (15, true), (16, true), (17, true), (18, true), (19, true), (20, true), (21, true), (22, false)] [(21, 22), (0, 22), (1, 22), (2, 22), (3, 22), (4, 22), (5, 22), (6, 22), (7, 22), (8, 22), (9, 22), (10, 22), (11, 22), (12, 22), (13, 22), (14, 22), (15, 22), (16, 22), (17, 22), (18, 22), (19, 22), (20, 22)] (by kernel_rfl) (by kernel_rfl) (by kernel_rfl) (by kernel_rfl) rfl (by kernel_rfl) (by kernel_rfl) (fun _ _ _ _ _ h => h) hS.out ?_
  change HX _ _ _ _ _ _ _ (World.drew _)
  generalize World.drew _ = wd at *
  refine hx_take ?v7 rfl (by kernel_rfl) ?y7 ?z7
  case y7 => intro W hW; skip; replace hW := Lib.hid hW; go_simp; try rfl
  case z7 =>
  simp only [Act.put, List.setIfInBounds_toArray, List.set_cons_succ, List.set_cons_zero, List.getElem_toArray, List.getElem_cons_zero, List.getElem_cons_succ]
  refine hx_take ?v8 rfl (by kernel_rfl) ?y8 ?z8
  case y8 => intro W hW; skip; replace hW := Lib.hid hW; go_simp; try rfl
  case z8 =>
  simp only [Act.put, List.setIfInBounds_toArray, List.set_cons_succ, List.set_cons_zero, List.getElem_toArray, List.getElem_cons_zero, List.getElem_cons_succ]
  refine hx_take ?v9 rfl (by kernel_rfl) ?y9 ?z9
  case y9 => intro W hW; skip; replace hW := Lib.hid hW; go_simp; try rfl
  case z9 =>
  simp only [Act.put, List.setIfInBounds_toArray, List.set_cons_succ, List.set_cons_zero, List.getElem_toArray, List.getElem_cons_zero, List.getElem_cons_succ]
  refine hx_take ?v10 rfl (by kernel_rfl) ?y10 ?z10
  case y10 => intro W hW; skip; replace hW := Lib.hid hW; go_simp; try rfl
  case z10 =>
  simp only [Act.put, List.setIfInBounds_toArray, List.set_cons_succ, List.set_cons_zero, List.getElem_toArray, List.getElem_cons_zero, List.getElem_cons_succ]
  refine hx_take ?v11 rfl (by kernel_rfl) ?y11 ?z11
  case y11 => intro W hW; skip; replace hW := Lib.hid hW; go_simp; try rfl
  case z11 =>
  simp only [Act.put, List.setIfInBounds_toArray, List.set_cons_succ, List.set_cons_zero, List.getElem_toArray, List.getElem_cons_zero, List.getElem_cons_succ]
  refine hx_take ?v12 rfl (by kernel_rfl) ?y12 ?z12
  case y12 => intro W hW; skip; replace hW := Lib.hid hW; go_simp; try rfl
  case z12 =>
  simp only [Act.put, List.setIfInBounds_toArray, List.set_cons_succ, List.set_cons_zero, List.getElem_toArray, List.getElem_cons_zero, List.getElem_cons_succ]
  refine hx_take ?v13 rfl (by kernel_rfl) ?y13 ?z13
  case y13 => intro W hW; skip; replace hW := Lib.hid hW; go_simp; try rfl
  case z13 =>
  simp only [Act.put, List.setIfInBounds_toArray, List.set_cons_succ, List.set_cons_zero, List.getElem_toArray, List.getElem_cons_zero, List.getElem_cons_succ]
  refine hx_take ?v14 rfl (by kernel_rfl) ?y14 ?z14
  case y14 => intro W hW; skip; replace hW := Lib.hid hW; go_simp; try rfl
  case z14 =>
  simp only [Act.put, List.setIfInBounds_toArray, List.set_cons_succ, List.set_cons_zero, List.getElem_toArray, List.getElem_cons_zero, List.getElem_cons_succ]
  refine hx_take ?v15 rfl (by kernel_rfl) ?y15 ?z15
  case y15 => intro W hW; skip; replace hW := Lib.hid hW; go_simp; try rfl
  case z15 =>
  simp only [Act.put, List.setIfInBounds_toArray, List.set_cons_succ, List.set_cons_zero, List.getElem_toArray, List.getElem_cons_zero, List.getElem_cons_succ]
  refine hx_take ?v16 rfl (by kernel_rfl) ?y16 ?z16
  case y16 => intro W hW; skip; replace hW := Lib.hid hW; go_simp; try rfl
  case z16 =>
  simp only [Act.put, List.setIfInBounds_toArray, List.set_cons_succ, List.set_cons_zero, List.getElem_toArray, List.getElem_cons_zero, List.getElem_cons_succ]
  refine hx_take ?v17 rfl (by kernel_rfl) ?y17 ?z17
  case y17 => intro W hW; skip; replace hW := Lib.hid hW; go_simp; try rfl
  case z17 =>
  simp only [Act.put, List.setIfInBounds_toArray, List.set_cons_succ, List.set_cons_zero, List.getElem_toArray, List.getElem_cons_zero, List.getElem_cons_succ]
  refine hx_take ?v18 rfl (by kernel_rfl) ?y18 ?z18
  case y18 => intro W hW; skip; replace hW := Lib.hid hW; go_simp; try rfl
  case z18 =>
  simp only [Act.put, List.setIfInBounds_toArray, List.set_cons_succ, List.set_cons_zero, List.getElem_toArray, List.getElem_cons_zero, List.getElem_cons_succ]
  refine hx_take ?v19 rfl (by kernel_rfl) ?y19 ?z19
  case y19 => intro W hW; skip; replace hW := Lib.hid hW; go_simp; try rfl
  case z19 =>
  simp only [Act.put, List.setIfInBounds_toArray, List.set_cons_succ, List.set_cons_zero, List.getElem_toArray, List.getElem_cons_zero, List.getElem_cons_succ]
  refine hx_take ?v20 rfl (by kernel_rfl) ?y20 ?z20
  case y20 => intro W hW; skip; replace hW := Lib.hid hW; go_simp; try rfl
  case z20 =>
  simp only [Act.put, List.setIfInBounds_toArray, List.set_cons_succ, List.set_cons_zero, List.getElem_toArray, List.getElem_cons_zero, List.getElem_cons_succ]
  refine hx_take ?v21 rfl (by kernel_rfl) ?y21 ?z21
  case y21 => intro W hW; skip; replace hW := Lib.hid hW; go_simp; try rfl
  case z21 =>
  simp only [Act.put, List.setIfInBounds_toArray, List.set_cons_succ, List.set_cons_zero, List.getElem_toArray, List.getElem_cons_zero, List.getElem_cons_succ]
  refine hx_take ?v22 rfl (by kernel_rfl) ?y22 ?z22
  case y22 => intro W hW; skip; replace hW := Lib.hid hW; go_simp; try rfl
  case z22 =>
  simp only [Act.put, List.setIfInBounds_toArray, List.set_cons_succ, List.set_cons_zero, List.getElem_toArray, List.getElem_cons_zero, List.getElem_cons_succ]
  refine hx_take ?v23 rfl (by kernel_rfl) ?y23 ?z23
  case y23 => intro W hW; skip; replace hW := Lib.hid hW; go_simp; try rfl
  case z23 =>
  simp only [Act.put, List.setIfInBounds_toArray, List.set_cons_succ, List.set_cons_zero, List.getElem_toArray, List.getElem_cons_zero, List.getElem_cons_succ]
  refine hx_take ?v24 rfl (by kernel_rfl) ?y24 ?z24
  case y24 => intro W hW; skip; replace hW := Lib.hid hW; go_simp; try rfl
  case z24 =>
  simp only [Act.put, List.setIfInBounds_toArray, List.set_cons_succ, List.set_cons_zero, List.getElem_toArray, List.getElem_cons_zero, List.getElem_cons_succ]
  refine hx_take ?v25 rfl (by kernel_rfl) ?y25 ?z25
  case y25 => intro W hW; skip; replace hW := Lib.hid hW; go_simp; try rfl
  case z25 =>
  simp only [Act.put, List.setIfInBounds_toArray, List.set_cons_succ, List.set_cons_zero, List.getElem_toArray, List.getElem_cons_zero, List.getElem_cons_succ]
  refine hx_take ?v26 rfl (by kernel_rfl) ?y26 ?z26
  case y26 => intro W hW; skip; replace hW := Lib.hid hW; go_simp; try rfl
  case z26 =>
  simp only [Act.put, List.setIfInBounds_toArray, List.set_cons_succ, List.set_cons_zero, List.getElem_toArray, List.getElem_cons_zero, List.getElem_cons_succ]
  refine hx_take ?v27 rfl (by kernel_rfl) ?y27 ?z27
  case y27 => intro W hW; skip; replace hW := Lib.hid hW; go_simp; try rfl
  case z27 =>
  simp only [Act.put, List.setIfInBounds_toArray, List.set_cons_succ, List.set_cons_zero, List.getElem_toArray, List.getElem_cons_zero, List.getElem_cons_succ]
  refine hx_take ?v28 rfl (by kernel_rfl) ?y28 ?z28
  case y28 => intro W hW; skip; replace hW := Lib.hid hW; go_simp; try rfl
  case z28 =>
  simp only [Act.put, List.setIfInBounds_toArray, List.set_cons_succ, List.set_cons_zero, List.getElem_toArray, List.getElem_cons_zero, List.getElem_cons_succ]
  refine hx_last rfl (by kernel_rfl) (fun K hK => ?_)
  obtain ⟨_, c0, c1, c2, c3, c4, c5, f0, f1, f2, f3, f4, f5⟩ := hS.out.b6
  go_simp
  refine hK.out _ _ ?_
  clear hK K
  try simp only [Act.put, List.setIfInBounds_toArray, List.set_cons_succ, List.set_cons_zero, List.getElem_toArray, List.getElem_cons_zero, List.getElem_cons_succ]
  refine hx_done ?_
  have hS2 := Sep.set (Sep.set (Sep.set (Sep.set (Sep.set (Sep.set (hS.out) 0 (.int .i64 (bt x 2))) 1 (.int .i64 (bt x 3 - 1))) 2 (.int .i64 (bt x 4 - 1))) 3 (.int .i64 (bt x 5))) 4 (.int .i64 (bt x 6))) 5 (.int .i64 (bt x 7))
  replace hS := Lib.hid (show ((fun W : World => Sep W [blk w.heap.size 36 #[.int .i64 (bt x 2), .int .i64 (bt x 3 - 1), .int .i64 (bt x 4 - 1), .int .i64 (bt x 5), .int .i64 (bt x 6), .int .i64 (bt x 7)], old w])) _ from hS2)
  clear hS2
  generalize World.setCell _ _ _ = w1 at *
  clear hw hw1
  obtain ⟨_, c0, c1, c2, c3, c4, c5, f0, f1, f2, f3, f4, f5⟩ := hS.out.b6
  go_wp2_with (first | (go_at_call 13; refine (HO.out _).mono ?_; rintro e w2 ⟨rfl, b2⟩; replace hS := Lib.hid (hS.out.below b2); clear b2 c0 c1 c2 c3 c4 c5 f0 f1 f2 f3 f4 f5; obtain ⟨_, c0, c1, c2, c3, c4, c5, f0, f1, f2, f3, f4, f5⟩ := hS.out.b6) | (go_at_call 31; refine (known_any _ HN _).mono ?_; rintro e w3 ⟨rfl, rfl⟩))
  have hw := Lib.hid (i64_small (bt x 1) (by have := bt_bd x 1; omega) (by have := bt_bd x 1; omega))
  have hS := Lib.hid (show (fun W : World => Sep W [blk w.heap.size 36 #[.int .i64 (bt x 2), .int .i64 (bt x 3 - 1), .int .i64 (bt x 4 - 1), .int .i64 (bt x 5), .int .i64 (bt x 6), .int .i64 (bt x 7)], old w]) _ from hS.out.drew)
  refine hl_begin (fun W : World => Sep W [blk w.heap.size 36 #[.int .i64 (bt x 2), .int .i64 (bt x 3 - 1), .int .i64 (bt x 4 - 1), .int .i64 (bt x 5), .int .i64 (bt x 6), .int .i64 (bt x 7)], old w]) [(0, true), (1, true), (2, true), (3, true), (4, true), (5, false), (6, true)] (by kernel_rfl) (by kernel_rfl) (by kernel_rfl) rfl (fun _ _ _ _ _ h => h) hS.out ?_
  change HL _ _ _ _ _ _ (World.drew _)
  generalize World.drew _ = wd at *
  refine hl_take ?v1 rfl (by kernel_rfl) ?y1 ?z1
  case y1 => intro W hW; have hw := hw.out; replace hW := Lib.hid hW; go_simp; try rfl
  case z1 =>
  simp only [Act.put, List.setIfInBounds_toArray, List.set_cons_succ, List.set_cons_zero, List.getElem_toArray, List.getElem_cons_zero, List.getElem_cons_succ]
  refine hl_take ?v2 rfl (by kernel_rfl) ?y2 ?z2
  case y2 => intro W hW; have hw := hw.out; replace hW := Lib.hid hW; go_simp; try rfl
  case z2 =>
  simp only [Act.put, List.setIfInBounds_toArray, List.set_cons_succ, List.set_cons_zero, List.getElem_toArray, List.getElem_cons_zero, List.getElem_cons_succ]
  refine hl_take ?v3 rfl (by kernel_rfl) ?y3 ?z3
  case y3 => intro W hW; have hw := hw.out; replace hW := Lib.hid hW; go_simp; try rfl
  case z3 =>
  simp only [Act.put, List.setIfInBounds_toArray, List.set_cons_succ, List.set_cons_zero, List.getElem_toArray, List.getElem_cons_zero, List.getElem_cons_succ]
  refine hl_take ?v4 rfl (by kernel_rfl) ?y4 ?z4
  case y4 => intro W hW; obtain ⟨_, c0, c1, c2, c3, c4, c5, _⟩ := (show Sep _ _ from hW).b6; replace hW := Lib.hid hW; go_simp; try rfl
  case z4 =>
  simp only [Act.put, List.setIfInBounds_toArray, List.set_cons_succ, List.set_cons_zero, List.getElem_toArray, List.getElem_cons_zero, List.getElem_cons_succ]
  refine hl_take ?v5 rfl (by kernel_rfl) ?y5 ?z5
  case y5 => intro W hW; have hw := hw.out; replace hW := Lib.hid hW; go_simp; try rfl
  case z5 =>
  simp only [Act.put, List.setIfInBounds_toArray, List.set_cons_succ, List.set_cons_zero, List.getElem_toArray, List.getElem_cons_zero, List.getElem_cons_succ]
  refine hl_one rfl (by kernel_rfl) (fun K hK => ?_)
  obtain ⟨_, c0, c1, c2, c3, c4, c5, f0, f1, f2, f3, f4, f5⟩ := hS.out.b6
  go_simp
  have hS2 := Sep.set (Sep.set (Sep.set (Sep.set (Sep.set (Sep.set (hS.out) 0 (.int .i64 (bt x 2))) 1 (.int .i64 (bt x 3 - 1))) 2 (.int .i64 (bt x 4 - 1))) 3 (.int .i64 (bt x 5))) 4 (.int .i64 (bt x 6))) 5 (.int .i64 (bt x 7))
  replace hS := Lib.hid (show ((fun W : World => Sep W [blk w.heap.size 36 #[.int .i64 (bt x 2), .int .i64 (bt x 3 - 1), .int .i64 (bt x 4 - 1), .int .i64 (bt x 5), .int .i64 (bt x 6), .int .i64 (bt x 7)], old w])) _ from hS2)
  clear hS2 c0 c1 c2 c3 c4 c5 f0 f1 f2 f3 f4 f5
  refine hK.out _ _ hS.out ?_
  clear hK K
  try simp only [Act.put, List.setIfInBounds_toArray, List.set_cons_succ, List.set_cons_zero, List.getElem_toArray, List.getElem_cons_zero, List.getElem_cons_succ]
  refine hl_take ?v6 rfl (by kernel_rfl) ?y6 ?z6
  case y6 => intro W hW; have hw := hw.out; replace hW := Lib.hid hW; go_simp; try rfl
  case z6 =>
  simp only [Act.put, List.setIfInBounds_toArray, List.set_cons_succ, List.set_cons_zero, List.getElem_toArray, List.getElem_cons_zero, List.getElem_cons_succ]
  refine hl_done ?_
  clear hw
  obtain ⟨_, c0, c1, c2, c3, c4, c5, _⟩ := hS.out.b6
  go_wp2
  refine bodyPost_ret (v := .tuple #[.int .i64 (bt x 1), .agg #[.int .i64 (bt x 2), .int .i64 (bt x 3 - 1), .int .i64 (bt x 4 - 1), .int .i64 (bt x 5), .int .i64 (bt x 6), .int .i64 (bt x 7)], .bool true]) (by simp [results, Tryd.results12, go_sem, *]) rfl ⟨rfl, hS.out.tail.gold⟩
set_option maxHeartbeats 4000000 in
set_option maxRecDepth 100000 in
theorem entry_bad (x : ByteArray) (hx : x.size = 8) (h0 : bt x 0 = 2) (h1 : bt x 1 < 8) (hB : opB (opOf (bt x)) = false) (w : World) : Calls Tryd.prog 12 #[.string x] w fun e w' => e = .returned (.tuple #[.int .i64 0, .agg #[.int .i64 0, .int .i64 0, .int .i64 0, .int .i64 0, .int .i64 0, .int .i64 0], .bool false]) ∧ Below w.heap.size w w' := by
  have hg := bt_get x
  have e0 : (bt x 0 != 2) = false := by rw [h0]; rfl
  have e1 : ¬ (8 : Int) ≤ bt x 1 := by omega
  have hS := Lib.hid (boxO w #[.int .i64 0, .int .i64 0, .int .i64 0, .int .i64 0, .int .i64 0, .int .i64 0])
  have hw : ∀ i, IntKind.i64.wrap (bt x i) = bt x i := fun i => by have := bt_bd x i; exact i64_small _ (by omega) (by omega)
  have hw1 : ∀ i, IntKind.i64.wrap (bt x i - 1) = bt x i - 1 := fun i => by have := bt_bd x i; exact i64_small _ (by omega) (by omega)
  have HO := fun W => op_any (opOf (bt x)) W
  rw [show opErr (opOf (bt x)) = 2 by unfold opErr; rw [hB]; rfl] at HO
  simp only [oC, opOf] at HO
  replace HO := Lib.hid HO
  clear h0 h1 hB
  go_enter Tryd.func12, Tryd.ntmps12
  go_wp2
  have hS := Lib.hid (show (fun W : World => Sep W [blk w.heap.size 36 #[.int .i64 0, .int .i64 0, .int .i64 0, .int .i64 0, .int .i64 0, .int .i64 0], old w]) _ from hS.out.drew)
  refine hx_begin (fun W : World => Sep W [blk w.heap.size 36 #[.int .i64 0, .int .i64 0, .int .i64 0, .int .i64 0, .int .i64 0, .int .i64 0], old w]) 22 [(0, true), (1, true), (2, true), (3, true), (4, true), (5, true), (6, true), (7, true), (8, true), (9, true), (10, true), (11, true), (12, true), (13, true), (14, true), (15, true), (16, true), (17, true), (18, true), (19, true), (20, true), (21, true), (22, false)] [(21, 22), (0, 22), (1, 22), (2, 22), (3, 22), (4, 22), (5, 22), (6, 22), (7, 22), (8, 22), (9, 22), (10, 22), (11, 22), (12, 22), (13, 22), (14, 22), (15, 22), (16, 22), (17, 22), (18, 22), (19, 22), (20, 22)] (by kernel_rfl) (by kernel_rfl) (by kernel_rfl) (by kernel_rfl) rfl (by kernel_rfl) (by kernel_rfl) (fun _ _ _ _ _ h => h) hS.out ?_
  change HX _ _ _ _ _ _ _ (World.drew _)
  generalize World.drew _ = wd at *
  refine hx_take ?v29 rfl (by kernel_rfl) ?y29 ?z29
  case y29 => intro W hW; skip; replace hW := Lib.hid hW; go_simp; try rfl
  case z29 =>
  simp only [Act.put, List.setIfInBounds_toArray, List.set_cons_succ, List.set_cons_zero, List.getElem_toArray, List.getElem_cons_zero, List.getElem_cons_succ]
  refine hx_take ?v30 rfl (by kernel_rfl) ?y30 ?z30
  case y30 => intro W hW; skip; replace hW := Lib.hid hW; go_simp; try rfl
  case z30 =>
  simp only [Act.put, List.setIfInBounds_toArray, List.set_cons_succ, List.set_cons_zero, List.getElem_toArray, List.getElem_cons_zero, List.getElem_cons_succ]
  refine hx_take ?v31 rfl (by kernel_rfl) ?y31 ?z31
  case y31 => intro W hW; skip; replace hW := Lib.hid hW; go_simp; try rfl
  case z31 =>
  simp only [Act.put, List.setIfInBounds_toArray, List.set_cons_succ, List.set_cons_zero, List.getElem_toArray, List.getElem_cons_zero, List.getElem_cons_succ]
  refine hx_take ?v32 rfl (by kernel_rfl) ?y32 ?z32
  case y32 => intro W hW; skip; replace hW := Lib.hid hW; go_simp; try rfl
  case z32 =>
  simp only [Act.put, List.setIfInBounds_toArray, List.set_cons_succ, List.set_cons_zero, List.getElem_toArray, List.getElem_cons_zero, List.getElem_cons_succ]
  refine hx_take ?v33 rfl (by kernel_rfl) ?y33 ?z33
  case y33 => intro W hW; skip; replace hW := Lib.hid hW; go_simp; try rfl
  case z33 =>
  simp only [Act.put, List.setIfInBounds_toArray, List.set_cons_succ, List.set_cons_zero, List.getElem_toArray, List.getElem_cons_zero, List.getElem_cons_succ]
  refine hx_take ?v34 rfl (by kernel_rfl) ?y34 ?z34
  case y34 => intro W hW; skip; replace hW := Lib.hid hW; go_simp; try rfl
  case z34 =>
  simp only [Act.put, List.setIfInBounds_toArray, List.set_cons_succ, List.set_cons_zero, List.getElem_toArray, List.getElem_cons_zero, List.getElem_cons_succ]
  refine hx_take ?v35 rfl (by kernel_rfl) ?y35 ?z35
  case y35 => intro W hW; skip; replace hW := Lib.hid hW; go_simp; try rfl
  case z35 =>
  simp only [Act.put, List.setIfInBounds_toArray, List.set_cons_succ, List.set_cons_zero, List.getElem_toArray, List.getElem_cons_zero, List.getElem_cons_succ]
  refine hx_take ?v36 rfl (by kernel_rfl) ?y36 ?z36
  case y36 => intro W hW; skip; replace hW := Lib.hid hW; go_simp; try rfl
  case z36 =>
  simp only [Act.put, List.setIfInBounds_toArray, List.set_cons_succ, List.set_cons_zero, List.getElem_toArray, List.getElem_cons_zero, List.getElem_cons_succ]
  refine hx_take ?v37 rfl (by kernel_rfl) ?y37 ?z37
  case y37 => intro W hW; skip; replace hW := Lib.hid hW; go_simp; try rfl
  case z37 =>
  simp only [Act.put, List.setIfInBounds_toArray, List.set_cons_succ, List.set_cons_zero, List.getElem_toArray, List.getElem_cons_zero, List.getElem_cons_succ]
  refine hx_take ?v38 rfl (by kernel_rfl) ?y38 ?z38
  case y38 => intro W hW; skip; replace hW := Lib.hid hW; go_simp; try rfl
  case z38 =>
  simp only [Act.put, List.setIfInBounds_toArray, List.set_cons_succ, List.set_cons_zero, List.getElem_toArray, List.getElem_cons_zero, List.getElem_cons_succ]
  refine hx_take ?v39 rfl (by kernel_rfl) ?y39 ?z39
  case y39 => intro W hW; skip; replace hW := Lib.hid hW; go_simp; try rfl
  case z39 =>
  simp only [Act.put, List.setIfInBounds_toArray, List.set_cons_succ, List.set_cons_zero, List.getElem_toArray, List.getElem_cons_zero, List.getElem_cons_succ]
  refine hx_take ?v40 rfl (by kernel_rfl) ?y40 ?z40
  case y40 => intro W hW; skip; replace hW := Lib.hid hW; go_simp; try rfl
  case z40 =>
  simp only [Act.put, List.setIfInBounds_toArray, List.set_cons_succ, List.set_cons_zero, List.getElem_toArray, List.getElem_cons_zero, List.getElem_cons_succ]
  refine hx_take ?v41 rfl (by kernel_rfl) ?y41 ?z41
  case y41 => intro W hW; skip; replace hW := Lib.hid hW; go_simp; try rfl
  case z41 =>
  simp only [Act.put, List.setIfInBounds_toArray, List.set_cons_succ, List.set_cons_zero, List.getElem_toArray, List.getElem_cons_zero, List.getElem_cons_succ]
  refine hx_take ?v42 rfl (by kernel_rfl) ?y42 ?z42
  case y42 => intro W hW; skip; replace hW := Lib.hid hW; go_simp; try rfl
  case z42 =>
  simp only [Act.put, List.setIfInBounds_toArray, List.set_cons_succ, List.set_cons_zero, List.getElem_toArray, List.getElem_cons_zero, List.getElem_cons_succ]
  refine hx_take ?v43 rfl (by kernel_rfl) ?y43 ?z43
  case y43 => intro W hW; skip; replace hW := Lib.hid hW; go_simp; try rfl
  case z43 =>
  simp only [Act.put, List.setIfInBounds_toArray, List.set_cons_succ, List.set_cons_zero, List.getElem_toArray, List.getElem_cons_zero, List.getElem_cons_succ]
  refine hx_take ?v44 rfl (by kernel_rfl) ?y44 ?z44
  case y44 => intro W hW; skip; replace hW := Lib.hid hW; go_simp; try rfl
  case z44 =>
  simp only [Act.put, List.setIfInBounds_toArray, List.set_cons_succ, List.set_cons_zero, List.getElem_toArray, List.getElem_cons_zero, List.getElem_cons_succ]
  refine hx_take ?v45 rfl (by kernel_rfl) ?y45 ?z45
  case y45 => intro W hW; skip; replace hW := Lib.hid hW; go_simp; try rfl
  case z45 =>
  simp only [Act.put, List.setIfInBounds_toArray, List.set_cons_succ, List.set_cons_zero, List.getElem_toArray, List.getElem_cons_zero, List.getElem_cons_succ]
  refine hx_take ?v46 rfl (by kernel_rfl) ?y46 ?z46
  case y46 => intro W hW; skip; replace hW := Lib.hid hW; go_simp; try rfl
  case z46 =>
  simp only [Act.put, List.setIfInBounds_toArray, List.set_cons_succ, List.set_cons_zero, List.getElem_toArray, List.getElem_cons_zero, List.getElem_cons_succ]
  refine hx_take ?v47 rfl (by kernel_rfl) ?y47 ?z47
  case y47 => intro W hW; skip; replace hW := Lib.hid hW; go_simp; try rfl
  case z47 =>
  simp only [Act.put, List.setIfInBounds_toArray, List.set_cons_succ, List.set_cons_zero, List.getElem_toArray, List.getElem_cons_zero, List.getElem_cons_succ]
  refine hx_take ?v48 rfl (by kernel_rfl) ?y48 ?z48
  case y48 => intro W hW; skip; replace hW := Lib.hid hW; go_simp; try rfl
  case z48 =>
  simp only [Act.put, List.setIfInBounds_toArray, List.set_cons_succ, List.set_cons_zero, List.getElem_toArray, List.getElem_cons_zero, List.getElem_cons_succ]
  refine hx_take ?v49 rfl (by kernel_rfl) ?y49 ?z49
  case y49 => intro W hW; skip; replace hW := Lib.hid hW; go_simp; try rfl
  case z49 =>
  simp only [Act.put, List.setIfInBounds_toArray, List.set_cons_succ, List.set_cons_zero, List.getElem_toArray, List.getElem_cons_zero, List.getElem_cons_succ]
  refine hx_take ?v50 rfl (by kernel_rfl) ?y50 ?z50
  case y50 => intro W hW; skip; replace hW := Lib.hid hW; go_simp; try rfl
  case z50 =>
  simp only [Act.put, List.setIfInBounds_toArray, List.set_cons_succ, List.set_cons_zero, List.getElem_toArray, List.getElem_cons_zero, List.getElem_cons_succ]
  refine hx_last rfl (by kernel_rfl) (fun K hK => ?_)
  obtain ⟨_, c0, c1, c2, c3, c4, c5, f0, f1, f2, f3, f4, f5⟩ := hS.out.b6
  go_simp
  refine hK.out _ _ ?_
  clear hK K
  try simp only [Act.put, List.setIfInBounds_toArray, List.set_cons_succ, List.set_cons_zero, List.getElem_toArray, List.getElem_cons_zero, List.getElem_cons_succ]
  refine hx_done ?_
  have hS2 := Sep.set (Sep.set (Sep.set (Sep.set (Sep.set (Sep.set (hS.out) 0 (.int .i64 (bt x 2))) 1 (.int .i64 (bt x 3 - 1))) 2 (.int .i64 (bt x 4 - 1))) 3 (.int .i64 (bt x 5))) 4 (.int .i64 (bt x 6))) 5 (.int .i64 (bt x 7))
  replace hS := Lib.hid (show ((fun W : World => Sep W [blk w.heap.size 36 #[.int .i64 (bt x 2), .int .i64 (bt x 3 - 1), .int .i64 (bt x 4 - 1), .int .i64 (bt x 5), .int .i64 (bt x 6), .int .i64 (bt x 7)], old w])) _ from hS2)
  clear hS2
  generalize World.setCell _ _ _ = w1 at *
  clear hw hw1
  obtain ⟨_, c0, c1, c2, c3, c4, c5, f0, f1, f2, f3, f4, f5⟩ := hS.out.b6
  go_wp2_with (first | (go_at_call 13; refine (HO.out _).mono ?_; rintro e w2 ⟨rfl, b2⟩; replace hS := Lib.hid (hS.out.below b2); clear b2 c0 c1 c2 c3 c4 c5 f0 f1 f2 f3 f4 f5; obtain ⟨_, c0, c1, c2, c3, c4, c5, f0, f1, f2, f3, f4, f5⟩ := hS.out.b6) | (go_at_call 31; refine (known_any _ HN _).mono ?_; rintro e w3 ⟨rfl, rfl⟩))
  have hS2 := Sep.set (Sep.set (Sep.set (Sep.set (Sep.set (Sep.set (hS.out) 0 (.int .i64 0)) 1 (.int .i64 0)) 2 (.int .i64 0)) 3 (.int .i64 0)) 4 (.int .i64 0)) 5 (.int .i64 0)
  replace hS := Lib.hid (show ((fun W : World => Sep W [blk w.heap.size 36 #[.int .i64 0, .int .i64 0, .int .i64 0, .int .i64 0, .int .i64 0, .int .i64 0], old w])) _ from hS2)
  clear hS2 c0 c1 c2 c3 c4 c5 f0 f1 f2 f3 f4 f5
  generalize World.setCell _ _ _ = w7 at *
  obtain ⟨_, c0, c1, c2, c3, c4, c5, f0, f1, f2, f3, f4, f5⟩ := hS.out.b6
  refine bodyPost_ret (v := .tuple #[.int .i64 0, .agg #[.int .i64 0, .int .i64 0, .int .i64 0, .int .i64 0, .int .i64 0, .int .i64 0], .bool false]) (by simp [results, Tryd.results12, go_sem, *]) rfl ⟨rfl, hS.out.tail.gold⟩
/-- What Entry answers. -/
def entV (f : Nat → Int) : Value := .tuple #[.int .i64 (if isOp f then f 1 else 0), .agg (oC (if isOp f then opOf f else ⟨0, 0, 0, 0, 0, 0⟩)).toArray, .bool (isOp f)]
theorem entry_any (x : ByteArray) (hx : x.size = 8) (w : World) : Calls Tryd.prog 12 #[.string x] w fun e w' => e = .returned (entV (bt x)) ∧ Below w.heap.size w w' := by
  unfold entV
  by_cases h : bt x 0 = 2 ∧ bt x 1 < 8
  · have e : isOp (bt x) = opB (opOf (bt x)) := by
      unfold isOp
      rw [h.1, decide_eq_true h.2]
      rfl
    rw [e]
    cases hB : opB (opOf (bt x)) with
    | true => exact entry_yes x hx h.1 h.2 hB w
    | false => exact entry_bad x hx h.1 h.2 hB w
  · have e : isOp (bt x) = false := by
      unfold isOp
      by_cases h0 : bt x 0 = 2
      · rw [decide_eq_false (by omega : ¬bt x 1 < 8), Bool.and_false, Bool.false_and]
      · rw [beq_eq_false_iff_ne.2 h0]; rfl
    rw [e]
    exact entry_no x hx (by omega) w
end Go.Proofs.YtdpolejbceoldaaDoor
