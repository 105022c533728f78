/-
  Contracts of the small functions of package script: fits, level, Op, caps, pick, Caps; mode.Known; the reference's Check of a name. No condition.
-/
import Derived.Test.YtdpolejbceoldaaDoorScP
import Derived.Test.YtdpolejbceoldaaDoorNmLv
import Derived.Test.YtdpolejbceoldaaDoorHx
namespace Go.Proofs.YtdpolejbceoldaaDoor
set_option linter.unusedSimpArgs false
set_option linter.unusedVariables false
set_option linter.unnecessarySimpa false
open Go.RowKit
/-- An op as a value, as cells. -/
def oC (o : Oq) : List Value := [.int .i64 o.kind, .int .i64 o.tab, .int .i64 o.row, .int .i64 o.mode, .int .i64 o.value, .int .i64 o.wait]
theorem known_any (m : Int) (hm : 0 ≤ m ∧ m ≤ 6) (w : World) : Calls Tryd.prog 31 #[.int .i64 m] w fun e w' => e = .returned (.bool true) ∧ w = w' := by
  obtain ⟨h1, h2⟩ := hm
  go_enter Tryd.func31, Tryd.ntmps31
  go_wp2
  go_ret
  exact ⟨rfl, rfl⟩
theorem fits_any (n lo hi : Int) (b : Bool) (w : World) : Calls Tryd.prog 34 #[.int .i64 n, .int .i64 lo, .int .i64 hi, .bool b] w fun e w' => e = .returned (.bool (fitB n lo hi b)) ∧ w = w' := by
  cases b with
  | false =>
    have E := Lib.hid (show fitB n lo hi false = (n == 0) by unfold fitB; simp; rfl)
    go_enter Tryd.func34, Tryd.ntmps34
    go_wp2
    go_ret
    exact ⟨by rw [E.out]; rfl, rfl⟩
  | true =>
    have E := Lib.hid (show fitB n lo hi true = (decide (lo ≤ n) && decide (n ≤ hi)) from rfl)
    by_cases h1 : lo ≤ n
    · by_cases h2 : n ≤ hi
      · go_enter Tryd.func34, Tryd.ntmps34
        go_wp2
        go_ret
        exact ⟨by rw [E.out, decide_eq_true h1, decide_eq_true h2]; rfl, rfl⟩
      · go_enter Tryd.func34, Tryd.ntmps34
        go_wp2
        go_ret
        exact ⟨by rw [E.out, decide_eq_true h1, decide_eq_false (by omega)]; rfl, rfl⟩
    · go_enter Tryd.func34, Tryd.ntmps34
      go_wp2
      go_ret
      exact ⟨by rw [E.out, decide_eq_false (by omega)]; rfl, rfl⟩
theorem levelK_any (k : Int) (w : World) : Calls Tryd.prog 32 #[.int .i64 k] w fun e w' => e = .returned (.int .i64 (lvK k)) ∧ w = w' := by
  by_cases h2 : k = 2
  · subst h2
    go_enter Tryd.func32, Tryd.ntmps32
    go_wp2
    go_ret
    exact ⟨rfl, rfl⟩
  by_cases h3 : k = 3
  · subst h3
    go_enter Tryd.func32, Tryd.ntmps32
    go_wp2
    go_ret
    exact ⟨rfl, rfl⟩
  by_cases h4 : k = 4
  · subst h4
    go_enter Tryd.func32, Tryd.ntmps32
    go_wp2
    go_ret
    exact ⟨rfl, rfl⟩
  by_cases h5 : k = 5
  · subst h5
    go_enter Tryd.func32, Tryd.ntmps32
    go_wp2
    go_ret
    exact ⟨rfl, rfl⟩
  by_cases h6 : k = 6
  · subst h6
    go_enter Tryd.func32, Tryd.ntmps32
    go_wp2
    go_ret
    exact ⟨rfl, rfl⟩
  by_cases h9 : k = 9
  · subst h9
    go_enter Tryd.func32, Tryd.ntmps32
    go_wp2
    go_ret
    exact ⟨rfl, rfl⟩
  by_cases h10 : k = 10
  · subst h10
    go_enter Tryd.func32, Tryd.ntmps32
    go_wp2
    go_ret
    exact ⟨rfl, rfl⟩
  have E := Lib.hid (show lvK k = 0 by unfold lvK; rw [if_neg (by omega), if_neg (by omega), if_neg (by omega)])
  go_enter Tryd.func32, Tryd.ntmps32
  go_wp2
  go_ret
  exact ⟨by rw [E.out]; rfl, rfl⟩
theorem lvK_0 {k : Int} (h : k < 1 ∨ 11 < k) : lvK k = 0 := by unfold lvK; rw [if_neg (by omega), if_neg (by omega), if_neg (by omega)]
theorem boxO (w : World) (cs : Array Value) : Sep (w.alloc (.cells cs 36)) [blk w.heap.size 36 cs, old w] := (Sep.start w).alloc _ _
theorem Sep.b6 {w : World} {g : Nat} {t : TypeId} {rs : List Res} {x0 x1 x2 x3 x4 x5 : Value} (h : Sep w (blk g t #[x0, x1, x2, x3, x4, x5] :: rs)) : g < w.heap.size ∧ w.cell? ⟨g, 0, none⟩ = some x0 ∧ w.cell? ⟨g, 1, none⟩ = some x1 ∧ w.cell? ⟨g, 2, none⟩ = some x2 ∧ w.cell? ⟨g, 3, none⟩ = some x3 ∧ w.cell? ⟨g, 4, none⟩ = some x4 ∧ w.cell? ⟨g, 5, none⟩ = some x5 ∧ w.frozen? ⟨g, 0, none⟩ = false ∧ w.frozen? ⟨g, 1, none⟩ = false ∧ w.frozen? ⟨g, 2, none⟩ = false ∧ w.frozen? ⟨g, 3, none⟩ = false ∧ w.frozen? ⟨g, 4, none⟩ = false ∧ w.frozen? ⟨g, 5, none⟩ = false := ⟨h.gblk.lt, h.gblk.cell 0, h.gblk.cell 1, h.gblk.cell 2, h.gblk.cell 3, h.gblk.cell 4, h.gblk.cell 5, h.gblk.frozen 0, h.gblk.frozen 1, h.gblk.frozen 2, h.gblk.frozen 3, h.gblk.frozen 4, h.gblk.frozen 5⟩
def opErr (o : Oq) : Int := if opB o then 0 else 2
set_option maxHeartbeats 4000000 in
set_option maxRecDepth 100000 in
theorem op_1 (t r m v x : Int) (w : World) : Calls Tryd.prog 13 #[.agg #[.int .i64 1, .int .i64 t, .int .i64 r, .int .i64 m, .int .i64 v, .int .i64 x]] w fun e w' => e = .returned (.int .i64 (opErr ⟨1, t, r, m, v, x⟩)) ∧ Below w.heap.size w w' := by
  obtain ⟨l, hl⟩ : ∃ l, lv t r = l := ⟨_, rfl⟩
  have HV := Lib.hid (fun W => level_any t r W)
  rw [hl] at HV
  have HK := Lib.hid (fun W => levelK_any 1 W)
  rw [show lvK 1 = 0 from rfl] at HK
  have E := Lib.hid (show opErr ⟨1, t, r, m, v, x⟩ = if (decide (0 ≤ l) && (decide ((0 : Int) = 3) || decide (0 = l))) && fitB m 1 6 false && fitB v 0 255 false && fitB x 0 255 false then 0 else 2 by subst hl; rfl)
  clear hl
  have hS := Lib.hid (boxO w #[.int .i64 1, .int .i64 t, .int .i64 r, .int .i64 m, .int .i64 v, .int .i64 x])
  obtain ⟨_, c0, c1, c2, c3, c4, c5, _⟩ := hS.out.b6
  go_enter Tryd.func13, Tryd.ntmps13
  go_wp2_with fail
  have hS := Lib.hid (show (fun W : World => Sep W [blk w.heap.size 36 #[.int .i64 1, .int .i64 t, .int .i64 r, .int .i64 m, .int .i64 v, .int .i64 x], old w]) _ from hS.out.drew)
  refine hl_begin (fun W : World => Sep W [blk w.heap.size 36 #[.int .i64 1, .int .i64 t, .int .i64 r, .int .i64 m, .int .i64 v, .int .i64 x], old w]) [(0, true), (1, true), (3, true), (4, true), (2, false), (5, false), (6, true), (7, true)] (by kernel_rfl) (by kernel_rfl) (by kernel_rfl) rfl (fun _ _ _ _ _ h => h) hS.out ?_
  change HL _ _ _ _ _ _ (World.drew _)
  generalize World.drew _ = wd at *
  refine hl_take ?v1 rfl (by kernel_rfl) ?y1 ?z1
  case y1 => intro W hW; skip; replace hW := Lib.hid hW; go_simp; try rfl
  case z1 =>
  simp only [Act.put, List.setIfInBounds_toArray, List.set_cons_succ, List.set_cons_zero, List.getElem_toArray, List.getElem_cons_zero, List.getElem_cons_succ]
  refine hl_take ?v2 rfl (by kernel_rfl) ?y2 ?z2
  case y2 => intro W hW; obtain ⟨_, c0, c1, c2, c3, c4, c5, _⟩ := (show Sep _ _ from hW).b6; replace hW := Lib.hid hW; go_simp; try rfl
  case z2 =>
  simp only [Act.put, List.setIfInBounds_toArray, List.set_cons_succ, List.set_cons_zero, List.getElem_toArray, List.getElem_cons_zero, List.getElem_cons_succ]
  refine hl_take ?v3 rfl (by kernel_rfl) ?y3 ?z3
  case y3 => intro W hW; skip; replace hW := Lib.hid hW; go_simp; try rfl
  case z3 =>
  simp only [Act.put, List.setIfInBounds_toArray, List.set_cons_succ, List.set_cons_zero, List.getElem_toArray, List.getElem_cons_zero, List.getElem_cons_succ]
  refine hl_take ?v4 rfl (by kernel_rfl) ?y4 ?z4
  case y4 => intro W hW; obtain ⟨_, c0, c1, c2, c3, c4, c5, _⟩ := (show Sep _ _ from hW).b6; replace hW := Lib.hid hW; go_simp; try rfl
  case z4 =>
  simp only [Act.put, List.setIfInBounds_toArray, List.set_cons_succ, List.set_cons_zero, List.getElem_toArray, List.getElem_cons_zero, List.getElem_cons_succ]
  refine hl_one rfl (by kernel_rfl) (fun K hK => ?_)
  go_simp
  go_at_call 32
  refine (HK.out _).mono ?_
  rintro e w1 ⟨rfl, rfl⟩
  refine hK.out _ _ hS.out ?_
  clear hK K
  try simp only [Act.put, List.setIfInBounds_toArray, List.set_cons_succ, List.set_cons_zero, List.getElem_toArray, List.getElem_cons_zero, List.getElem_cons_succ]
  refine hl_one rfl (by kernel_rfl) (fun K hK => ?_)
  go_simp
  go_at_call 33
  refine (HV.out _).mono ?_
  rintro e w1 ⟨rfl, b1⟩
  replace hS := Lib.hid (hS.out.below b1)
  clear b1
  refine hK.out _ _ hS.out ?_
  clear hK K
  try simp only [Act.put, List.setIfInBounds_toArray, List.set_cons_succ, List.set_cons_zero, List.getElem_toArray, List.getElem_cons_zero, List.getElem_cons_succ]
  refine hl_take ?v5 rfl (by kernel_rfl) ?y5 ?z5
  case y5 => intro W hW; skip; replace hW := Lib.hid hW; go_simp; try rfl
  case z5 =>
  simp only [Act.put, List.setIfInBounds_toArray, List.set_cons_succ, List.set_cons_zero, List.getElem_toArray, List.getElem_cons_zero, List.getElem_cons_succ]
  refine hl_take ?v6 rfl (by kernel_rfl) ?y6 ?z6
  case y6 => intro W hW; skip; replace hW := Lib.hid hW; go_simp; try rfl
  case z6 =>
  simp only [Act.put, List.setIfInBounds_toArray, List.set_cons_succ, List.set_cons_zero, List.getElem_toArray, List.getElem_cons_zero, List.getElem_cons_succ]
  refine hl_done ?_
  obtain ⟨_, c0, c1, c2, c3, c4, c5, _⟩ := hS.out.b6
  have hg := Lib.hid hS.out.tail.gold
  go_wp2_with (go_at_call 34; refine (fits_any _ _ _ _ _).mono ?_; rintro e w2 ⟨rfl, rfl⟩)
  all_goals clear c0 c1 c2 c3 c4 c5 hS HV HK
  all_goals go_ret
  all_goals refine ⟨?_, hg.out⟩
  all_goals clear hg
  all_goals refine congrArg (fun z => Ending.returned (.int .i64 z)) ?_
  all_goals rw [E.out]
  all_goals clear E
  all_goals (try subst_vars)
  all_goals first | (simp_all; done) | omega | (rw [show decide ((0 : Int) ≤ l) = false from decide_eq_false (by omega)]; simp)
set_option maxHeartbeats 4000000 in
set_option maxRecDepth 100000 in
theorem op_2 (t r m v x : Int) (w : World) : Calls Tryd.prog 13 #[.agg #[.int .i64 2, .int .i64 t, .int .i64 r, .int .i64 m, .int .i64 v, .int .i64 x]] w fun e w' => e = .returned (.int .i64 (opErr ⟨2, t, r, m, v, x⟩)) ∧ Below w.heap.size w w' := by
  obtain ⟨l, hl⟩ : ∃ l, lv t r = l := ⟨_, rfl⟩
  have HV := Lib.hid (fun W => level_any t r W)
  rw [hl] at HV
  have HK := Lib.hid (fun W => levelK_any 2 W)
  rw [show lvK 2 = 2 from rfl] at HK
  have E := Lib.hid (show opErr ⟨2, t, r, m, v, x⟩ = if (decide (0 ≤ l) && (decide ((2 : Int) = 3) || decide (2 = l))) && fitB m 1 6 false && fitB v 0 255 false && fitB x 0 255 true then 0 else 2 by subst hl; rfl)
  clear hl
  have hS := Lib.hid (boxO w #[.int .i64 2, .int .i64 t, .int .i64 r, .int .i64 m, .int .i64 v, .int .i64 x])
  obtain ⟨_, c0, c1, c2, c3, c4, c5, _⟩ := hS.out.b6
  go_enter Tryd.func13, Tryd.ntmps13
  go_wp2_with fail
  have hS := Lib.hid (show (fun W : World => Sep W [blk w.heap.size 36 #[.int .i64 2, .int .i64 t, .int .i64 r, .int .i64 m, .int .i64 v, .int .i64 x], old w]) _ from hS.out.drew)
  refine hl_begin (fun W : World => Sep W [blk w.heap.size 36 #[.int .i64 2, .int .i64 t, .int .i64 r, .int .i64 m, .int .i64 v, .int .i64 x], old w]) [(0, true), (1, true), (3, true), (4, true), (2, false), (5, false), (6, true), (7, true)] (by kernel_rfl) (by kernel_rfl) (by kernel_rfl) rfl (fun _ _ _ _ _ h => h) hS.out ?_
  change HL _ _ _ _ _ _ (World.drew _)
  generalize World.drew _ = wd at *
  refine hl_take ?v1 rfl (by kernel_rfl) ?y1 ?z1
  case y1 => intro W hW; skip; replace hW := Lib.hid hW; go_simp; try rfl
  case z1 =>
  simp only [Act.put, List.setIfInBounds_toArray, List.set_cons_succ, List.set_cons_zero, List.getElem_toArray, List.getElem_cons_zero, List.getElem_cons_succ]
  refine hl_take ?v2 rfl (by kernel_rfl) ?y2 ?z2
  case y2 => intro W hW; obtain ⟨_, c0, c1, c2, c3, c4, c5, _⟩ := (show Sep _ _ from hW).b6; replace hW := Lib.hid hW; go_simp; try rfl
  case z2 =>
  simp only [Act.put, List.setIfInBounds_toArray, List.set_cons_succ, List.set_cons_zero, List.getElem_toArray, List.getElem_cons_zero, List.getElem_cons_succ]
  refine hl_take ?v3 rfl (by kernel_rfl) ?y3 ?z3
  case y3 => intro W hW; skip; replace hW := Lib.hid hW; go_simp; try rfl
  case z3 =>
  simp only [Act.put, List.setIfInBounds_toArray, List.set_cons_succ, List.set_cons_zero, List.getElem_toArray, List.getElem_cons_zero, List.getElem_cons_succ]
  refine hl_take ?v4 rfl (by kernel_rfl) ?y4 ?z4
  case y4 => intro W hW; obtain ⟨_, c0, c1, c2, c3, c4, c5, _⟩ := (show Sep _ _ from hW).b6; replace hW := Lib.hid hW; go_simp; try rfl
  case z4 =>
  simp only [Act.put, List.setIfInBounds_toArray, List.set_cons_succ, List.set_cons_zero, List.getElem_toArray, List.getElem_cons_zero, List.getElem_cons_succ]
  refine hl_one rfl (by kernel_rfl) (fun K hK => ?_)
  go_simp
  go_at_call 32
  refine (HK.out _).mono ?_
  rintro e w1 ⟨rfl, rfl⟩
  refine hK.out _ _ hS.out ?_
  clear hK K
  try simp only [Act.put, List.setIfInBounds_toArray, List.set_cons_succ, List.set_cons_zero, List.getElem_toArray, List.getElem_cons_zero, List.getElem_cons_succ]
  refine hl_one rfl (by kernel_rfl) (fun K hK => ?_)
  go_simp
  go_at_call 33
  refine (HV.out _).mono ?_
  rintro e w1 ⟨rfl, b1⟩
  replace hS := Lib.hid (hS.out.below b1)
  clear b1
  refine hK.out _ _ hS.out ?_
  clear hK K
  try simp only [Act.put, List.setIfInBounds_toArray, List.set_cons_succ, List.set_cons_zero, List.getElem_toArray, List.getElem_cons_zero, List.getElem_cons_succ]
  refine hl_take ?v5 rfl (by kernel_rfl) ?y5 ?z5
  case y5 => intro W hW; skip; replace hW := Lib.hid hW; go_simp; try rfl
  case z5 =>
  simp only [Act.put, List.setIfInBounds_toArray, List.set_cons_succ, List.set_cons_zero, List.getElem_toArray, List.getElem_cons_zero, List.getElem_cons_succ]
  refine hl_take ?v6 rfl (by kernel_rfl) ?y6 ?z6
  case y6 => intro W hW; skip; replace hW := Lib.hid hW; go_simp; try rfl
  case z6 =>
  simp only [Act.put, List.setIfInBounds_toArray, List.set_cons_succ, List.set_cons_zero, List.getElem_toArray, List.getElem_cons_zero, List.getElem_cons_succ]
  refine hl_done ?_
  obtain ⟨_, c0, c1, c2, c3, c4, c5, _⟩ := hS.out.b6
  have hg := Lib.hid hS.out.tail.gold
  go_wp2_with (go_at_call 34; refine (fits_any _ _ _ _ _).mono ?_; rintro e w2 ⟨rfl, rfl⟩)
  all_goals clear c0 c1 c2 c3 c4 c5 hS HV HK
  all_goals go_ret
  all_goals refine ⟨?_, hg.out⟩
  all_goals clear hg
  all_goals refine congrArg (fun z => Ending.returned (.int .i64 z)) ?_
  all_goals rw [E.out]
  all_goals clear E
  all_goals (try subst_vars)
  all_goals first | (simp_all; done) | omega | (rw [show decide ((0 : Int) ≤ l) = false from decide_eq_false (by omega)]; simp)
set_option maxHeartbeats 4000000 in
set_option maxRecDepth 100000 in
theorem op_3 (t r m v x : Int) (w : World) : Calls Tryd.prog 13 #[.agg #[.int .i64 3, .int .i64 t, .int .i64 r, .int .i64 m, .int .i64 v, .int .i64 x]] w fun e w' => e = .returned (.int .i64 (opErr ⟨3, t, r, m, v, x⟩)) ∧ Below w.heap.size w w' := by
  obtain ⟨l, hl⟩ : ∃ l, lv t r = l := ⟨_, rfl⟩
  have HV := Lib.hid (fun W => level_any t r W)
  rw [hl] at HV
  have HK := Lib.hid (fun W => levelK_any 3 W)
  rw [show lvK 3 = 2 from rfl] at HK
  have E := Lib.hid (show opErr ⟨3, t, r, m, v, x⟩ = if (decide (0 ≤ l) && (decide ((2 : Int) = 3) || decide (2 = l))) && fitB m 1 6 false && fitB v 0 255 true && fitB x 0 255 true then 0 else 2 by subst hl; rfl)
  clear hl
  have hS := Lib.hid (boxO w #[.int .i64 3, .int .i64 t, .int .i64 r, .int .i64 m, .int .i64 v, .int .i64 x])
  obtain ⟨_, c0, c1, c2, c3, c4, c5, _⟩ := hS.out.b6
  go_enter Tryd.func13, Tryd.ntmps13
  go_wp2_with fail
  have hS := Lib.hid (show (fun W : World => Sep W [blk w.heap.size 36 #[.int .i64 3, .int .i64 t, .int .i64 r, .int .i64 m, .int .i64 v, .int .i64 x], old w]) _ from hS.out.drew)
  refine hl_begin (fun W : World => Sep W [blk w.heap.size 36 #[.int .i64 3, .int .i64 t, .int .i64 r, .int .i64 m, .int .i64 v, .int .i64 x], old w]) [(0, true), (1, true), (3, true), (4, true), (2, false), (5, false), (6, true), (7, true)] (by kernel_rfl) (by kernel_rfl) (by kernel_rfl) rfl (fun _ _ _ _ _ h => h) hS.out ?_
  change HL _ _ _ _ _ _ (World.drew _)
  generalize World.drew _ = wd at *
  refine hl_take ?v1 rfl (by kernel_rfl) ?y1 ?z1
  case y1 => intro W hW; skip; replace hW := Lib.hid hW; go_simp; try rfl
  case z1 =>
  simp only [Act.put, List.setIfInBounds_toArray, List.set_cons_succ, List.set_cons_zero, List.getElem_toArray, List.getElem_cons_zero, List.getElem_cons_succ]
  refine hl_take ?v2 rfl (by kernel_rfl) ?y2 ?z2
  case y2 => intro W hW; obtain ⟨_, c0, c1, c2, c3, c4, c5, _⟩ := (show Sep _ _ from hW).b6; replace hW := Lib.hid hW; go_simp; try rfl
  case z2 =>
  simp only [Act.put, List.setIfInBounds_toArray, List.set_cons_succ, List.set_cons_zero, List.getElem_toArray, List.getElem_cons_zero, List.getElem_cons_succ]
  refine hl_take ?v3 rfl (by kernel_rfl) ?y3 ?z3
  case y3 => intro W hW; skip; replace hW := Lib.hid hW; go_simp; try rfl
  case z3 =>
  simp only [Act.put, List.setIfInBounds_toArray, List.set_cons_succ, List.set_cons_zero, List.getElem_toArray, List.getElem_cons_zero, List.getElem_cons_succ]
  refine hl_take ?v4 rfl (by kernel_rfl) ?y4 ?z4
  case y4 => intro W hW; obtain ⟨_, c0, c1, c2, c3, c4, c5, _⟩ := (show Sep _ _ from hW).b6; replace hW := Lib.hid hW; go_simp; try rfl
  case z4 =>
  simp only [Act.put, List.setIfInBounds_toArray, List.set_cons_succ, List.set_cons_zero, List.getElem_toArray, List.getElem_cons_zero, List.getElem_cons_succ]
  refine hl_one rfl (by kernel_rfl) (fun K hK => ?_)
  go_simp
  go_at_call 32
  refine (HK.out _).mono ?_
  rintro e w1 ⟨rfl, rfl⟩
  refine hK.out _ _ hS.out ?_
  clear hK K
  try simp only [Act.put, List.setIfInBounds_toArray, List.set_cons_succ, List.set_cons_zero, List.getElem_toArray, List.getElem_cons_zero, List.getElem_cons_succ]
  refine hl_one rfl (by kernel_rfl) (fun K hK => ?_)
  go_simp
  go_at_call 33
  refine (HV.out _).mono ?_
  rintro e w1 ⟨rfl, b1⟩
  replace hS := Lib.hid (hS.out.below b1)
  clear b1
  refine hK.out _ _ hS.out ?_
  clear hK K
  try simp only [Act.put, List.setIfInBounds_toArray, List.set_cons_succ, List.set_cons_zero, List.getElem_toArray, List.getElem_cons_zero, List.getElem_cons_succ]
  refine hl_take ?v5 rfl (by kernel_rfl) ?y5 ?z5
  case y5 => intro W hW; skip; replace hW := Lib.hid hW; go_simp; try rfl
  case z5 =>
  simp only [Act.put, List.setIfInBounds_toArray, List.set_cons_succ, List.set_cons_zero, List.getElem_toArray, List.getElem_cons_zero, List.getElem_cons_succ]
  refine hl_take ?v6 rfl (by kernel_rfl) ?y6 ?z6
  case y6 => intro W hW; skip; replace hW := Lib.hid hW; go_simp; try rfl
  case z6 =>
  simp only [Act.put, List.setIfInBounds_toArray, List.set_cons_succ, List.set_cons_zero, List.getElem_toArray, List.getElem_cons_zero, List.getElem_cons_succ]
  refine hl_done ?_
  obtain ⟨_, c0, c1, c2, c3, c4, c5, _⟩ := hS.out.b6
  have hg := Lib.hid hS.out.tail.gold
  go_wp2_with (go_at_call 34; refine (fits_any _ _ _ _ _).mono ?_; rintro e w2 ⟨rfl, rfl⟩)
  all_goals clear c0 c1 c2 c3 c4 c5 hS HV HK
  all_goals go_ret
  all_goals refine ⟨?_, hg.out⟩
  all_goals clear hg
  all_goals refine congrArg (fun z => Ending.returned (.int .i64 z)) ?_
  all_goals rw [E.out]
  all_goals clear E
  all_goals (try subst_vars)
  all_goals first | (simp_all; done) | omega | (rw [show decide ((0 : Int) ≤ l) = false from decide_eq_false (by omega)]; simp)
set_option maxHeartbeats 4000000 in
set_option maxRecDepth 100000 in
theorem op_4 (t r m v x : Int) (w : World) : Calls Tryd.prog 13 #[.agg #[.int .i64 4, .int .i64 t, .int .i64 r, .int .i64 m, .int .i64 v, .int .i64 x]] w fun e w' => e = .returned (.int .i64 (opErr ⟨4, t, r, m, v, x⟩)) ∧ Below w.heap.size w w' := by
  obtain ⟨l, hl⟩ : ∃ l, lv t r = l := ⟨_, rfl⟩
  have HV := Lib.hid (fun W => level_any t r W)
  rw [hl] at HV
  have HK := Lib.hid (fun W => levelK_any 4 W)
  rw [show lvK 4 = 2 from rfl] at HK
  have E := Lib.hid (show opErr ⟨4, t, r, m, v, x⟩ = if (decide (0 ≤ l) && (decide ((2 : Int) = 3) || decide (2 = l))) && fitB m 1 6 false && fitB v 0 255 true && fitB x 0 255 true then 0 else 2 by subst hl; rfl)
  clear hl
  have hS := Lib.hid (boxO w #[.int .i64 4, .int .i64 t, .int .i64 r, .int .i64 m, .int .i64 v, .int .i64 x])
  obtain ⟨_, c0, c1, c2, c3, c4, c5, _⟩ := hS.out.b6
  go_enter Tryd.func13, Tryd.ntmps13
  go_wp2_with fail
  have hS := Lib.hid (show (fun W : World => Sep W [blk w.heap.size 36 #[.int .i64 4, .int .i64 t, .int .i64 r, .int .i64 m, .int .i64 v, .int .i64 x], old w]) _ from hS.out.drew)
  refine hl_begin (fun W : World => Sep W [blk w.heap.size 36 #[.int .i64 4, .int .i64 t, .int .i64 r, .int .i64 m, .int .i64 v, .int .i64 x], old w]) [(0, true), (1, true), (3, true), (4, true), (2, false), (5, false), (6, true), (7, true)] (by kernel_rfl) (by kernel_rfl) (by kernel_rfl) rfl (fun _ _ _ _ _ h => h) hS.out ?_
  change HL _ _ _ _ _ _ (World.drew _)
  generalize World.drew _ = wd at *
  refine hl_take ?v1 rfl (by kernel_rfl) ?y1 ?z1
  case y1 => intro W hW; skip; replace hW := Lib.hid hW; go_simp; try rfl
  case z1 =>
  simp only [Act.put, List.setIfInBounds_toArray, List.set_cons_succ, List.set_cons_zero, List.getElem_toArray, List.getElem_cons_zero, List.getElem_cons_succ]
  refine hl_take ?v2 rfl (by kernel_rfl) ?y2 ?z2
  case y2 => intro W hW; obtain ⟨_, c0, c1, c2, c3, c4, c5, _⟩ := (show Sep _ _ from hW).b6; replace hW := Lib.hid hW; go_simp; try rfl
  case z2 =>
  simp only [Act.put, List.setIfInBounds_toArray, List.set_cons_succ, List.set_cons_zero, List.getElem_toArray, List.getElem_cons_zero, List.getElem_cons_succ]
  refine hl_take ?v3 rfl (by kernel_rfl) ?y3 ?z3
  case y3 => intro W hW; skip; replace hW := Lib.hid hW; go_simp; try rfl
  case z3 =>
  simp only [Act.put, List.setIfInBounds_toArray, List.set_cons_succ, List.set_cons_zero, List.getElem_toArray, List.getElem_cons_zero, List.getElem_cons_succ]
  refine hl_take ?v4 rfl (by kernel_rfl) ?y4 ?z4
  case y4 => intro W hW; obtain ⟨_, c0, c1, c2, c3, c4, c5, _⟩ := (show Sep _ _ from hW).b6; replace hW := Lib.hid hW; go_simp; try rfl
  case z4 =>
  simp only [Act.put, List.setIfInBounds_toArray, List.set_cons_succ, List.set_cons_zero, List.getElem_toArray, List.getElem_cons_zero, List.getElem_cons_succ]
  refine hl_one rfl (by kernel_rfl) (fun K hK => ?_)
  go_simp
  go_at_call 32
  refine (HK.out _).mono ?_
  rintro e w1 ⟨rfl, rfl⟩
  refine hK.out _ _ hS.out ?_
  clear hK K
  try simp only [Act.put, List.setIfInBounds_toArray, List.set_cons_succ, List.set_cons_zero, List.getElem_toArray, List.getElem_cons_zero, List.getElem_cons_succ]
  refine hl_one rfl (by kernel_rfl) (fun K hK => ?_)
  go_simp
  go_at_call 33
  refine (HV.out _).mono ?_
  rintro e w1 ⟨rfl, b1⟩
  replace hS := Lib.hid (hS.out.below b1)
  clear b1
  refine hK.out _ _ hS.out ?_
  clear hK K
  try simp only [Act.put, List.setIfInBounds_toArray, List.set_cons_succ, List.set_cons_zero, List.getElem_toArray, List.getElem_cons_zero, List.getElem_cons_succ]
  refine hl_take ?v5 rfl (by kernel_rfl) ?y5 ?z5
  case y5 => intro W hW; skip; replace hW := Lib.hid hW; go_simp; try rfl
  case z5 =>
  simp only [Act.put, List.setIfInBounds_toArray, List.set_cons_succ, List.set_cons_zero, List.getElem_toArray, List.getElem_cons_zero, List.getElem_cons_succ]
  refine hl_take ?v6 rfl (by kernel_rfl) ?y6 ?z6
  case y6 => intro W hW; skip; replace hW := Lib.hid hW; go_simp; try rfl
  case z6 =>
  simp only [Act.put, List.setIfInBounds_toArray, List.set_cons_succ, List.set_cons_zero, List.getElem_toArray, List.getElem_cons_zero, List.getElem_cons_succ]
  refine hl_done ?_
  obtain ⟨_, c0, c1, c2, c3, c4, c5, _⟩ := hS.out.b6
  have hg := Lib.hid hS.out.tail.gold
  go_wp2_with (go_at_call 34; refine (fits_any _ _ _ _ _).mono ?_; rintro e w2 ⟨rfl, rfl⟩)
  all_goals clear c0 c1 c2 c3 c4 c5 hS HV HK
  all_goals go_ret
  all_goals refine ⟨?_, hg.out⟩
  all_goals clear hg
  all_goals refine congrArg (fun z => Ending.returned (.int .i64 z)) ?_
  all_goals rw [E.out]
  all_goals clear E
  all_goals (try subst_vars)
  all_goals first | (simp_all; done) | omega | (rw [show decide ((0 : Int) ≤ l) = false from decide_eq_false (by omega)]; simp)
set_option maxHeartbeats 4000000 in
set_option maxRecDepth 100000 in
theorem op_5 (t r m v x : Int) (w : World) : Calls Tryd.prog 13 #[.agg #[.int .i64 5, .int .i64 t, .int .i64 r, .int .i64 m, .int .i64 v, .int .i64 x]] w fun e w' => e = .returned (.int .i64 (opErr ⟨5, t, r, m, v, x⟩)) ∧ Below w.heap.size w w' := by
  obtain ⟨l, hl⟩ : ∃ l, lv t r = l := ⟨_, rfl⟩
  have HV := Lib.hid (fun W => level_any t r W)
  rw [hl] at HV
  have HK := Lib.hid (fun W => levelK_any 5 W)
  rw [show lvK 5 = 2 from rfl] at HK
  have E := Lib.hid (show opErr ⟨5, t, r, m, v, x⟩ = if (decide (0 ≤ l) && (decide ((2 : Int) = 3) || decide (2 = l))) && fitB m 1 6 false && fitB v 0 255 false && fitB x 0 255 true then 0 else 2 by subst hl; rfl)
  clear hl
  have hS := Lib.hid (boxO w #[.int .i64 5, .int .i64 t, .int .i64 r, .int .i64 m, .int .i64 v, .int .i64 x])
  obtain ⟨_, c0, c1, c2, c3, c4, c5, _⟩ := hS.out.b6
  go_enter Tryd.func13, Tryd.ntmps13
  go_wp2_with fail
  have hS := Lib.hid (show (fun W : World => Sep W [blk w.heap.size 36 #[.int .i64 5, .int .i64 t, .int .i64 r, .int .i64 m, .int .i64 v, .int .i64 x], old w]) _ from hS.out.drew)
  refine hl_begin (fun W : World => Sep W [blk w.heap.size 36 #[.int .i64 5, .int .i64 t, .int .i64 r, .int .i64 m, .int .i64 v, .int .i64 x], old w]) [(0, true), (1, true), (3, true), (4, true), (2, false), (5, false), (6, true), (7, true)] (by kernel_rfl) (by kernel_rfl) (by kernel_rfl) rfl (fun _ _ _ _ _ h => h) hS.out ?_
  change HL _ _ _ _ _ _ (World.drew _)
  generalize World.drew _ = wd at *
  refine hl_take ?v1 rfl (by kernel_rfl) ?y1 ?z1
  case y1 => intro W hW; skip; replace hW := Lib.hid hW; go_simp; try rfl
  case z1 =>
  simp only [Act.put, List.setIfInBounds_toArray, List.set_cons_succ, List.set_cons_zero, List.getElem_toArray, List.getElem_cons_zero, List.getElem_cons_succ]
  refine hl_take ?v2 rfl (by kernel_rfl) ?y2 ?z2
  case y2 => intro W hW; obtain ⟨_, c0, c1, c2, c3, c4, c5, _⟩ := (show Sep _ _ from hW).b6; replace hW := Lib.hid hW; go_simp; try rfl
  case z2 =>
  simp only [Act.put, List.setIfInBounds_toArray, List.set_cons_succ, List.set_cons_zero, List.getElem_toArray, List.getElem_cons_zero, List.getElem_cons_succ]
  refine hl_take ?v3 rfl (by kernel_rfl) ?y3 ?z3
  case y3 => intro W hW; skip; replace hW := Lib.hid hW; go_simp; try rfl
  case z3 =>
  simp only [Act.put, List.setIfInBounds_toArray, List.set_cons_succ, List.set_cons_zero, List.getElem_toArray, List.getElem_cons_zero, List.getElem_cons_succ]
  refine hl_take ?v4 rfl (by kernel_rfl) ?y4 ?z4
  case y4 => intro W hW; obtain ⟨_, c0, c1, c2, c3, c4, c5, _⟩ := (show Sep _ _ from hW).b6; replace hW := Lib.hid hW; go_simp; try rfl
  case z4 =>
  simp only [Act.put, List.setIfInBounds_toArray, List.set_cons_succ, List.set_cons_zero, List.getElem_toArray, List.getElem_cons_zero, List.getElem_cons_succ]
  refine hl_one rfl (by kernel_rfl) (fun K hK => ?_)
  go_simp
  go_at_call 32
  refine (HK.out _).mono ?_
  rintro e w1 ⟨rfl, rfl⟩
  refine hK.out _ _ hS.out ?_
  clear hK K
  try simp only [Act.put, List.setIfInBounds_toArray, List.set_cons_succ, List.set_cons_zero, List.getElem_toArray, List.getElem_cons_zero, List.getElem_cons_succ]
  refine hl_one rfl (by kernel_rfl) (fun K hK => ?_)
  go_simp
  go_at_call 33
  refine (HV.out _).mono ?_
  rintro e w1 ⟨rfl, b1⟩
  replace hS := Lib.hid (hS.out.below b1)
  clear b1
  refine hK.out _ _ hS.out ?_
  clear hK K
  try simp only [Act.put, List.setIfInBounds_toArray, List.set_cons_succ, List.set_cons_zero, List.getElem_toArray, List.getElem_cons_zero, List.getElem_cons_succ]
  refine hl_take ?v5 rfl (by kernel_rfl) ?y5 ?z5
  case y5 => intro W hW; skip; replace hW := Lib.hid hW; go_simp; try rfl
  case z5 =>
  simp only [Act.put, List.setIfInBounds_toArray, List.set_cons_succ, List.set_cons_zero, List.getElem_toArray, List.getElem_cons_zero, List.getElem_cons_succ]
  refine hl_take ?v6 rfl (by kernel_rfl) ?y6 ?z6
  case y6 => intro W hW; skip; replace hW := Lib.hid hW; go_simp; try rfl
  case z6 =>
  simp only [Act.put, List.setIfInBounds_toArray, List.set_cons_succ, List.set_cons_zero, List.getElem_toArray, List.getElem_cons_zero, List.getElem_cons_succ]
  refine hl_done ?_
  obtain ⟨_, c0, c1, c2, c3, c4, c5, _⟩ := hS.out.b6
  have hg := Lib.hid hS.out.tail.gold
  go_wp2_with (go_at_call 34; refine (fits_any _ _ _ _ _).mono ?_; rintro e w2 ⟨rfl, rfl⟩)
  all_goals clear c0 c1 c2 c3 c4 c5 hS HV HK
  all_goals go_ret
  all_goals refine ⟨?_, hg.out⟩
  all_goals clear hg
  all_goals refine congrArg (fun z => Ending.returned (.int .i64 z)) ?_
  all_goals rw [E.out]
  all_goals clear E
  all_goals (try subst_vars)
  all_goals first | (simp_all; done) | omega | (rw [show decide ((0 : Int) ≤ l) = false from decide_eq_false (by omega)]; simp)
set_option maxHeartbeats 4000000 in
set_option maxRecDepth 100000 in
theorem op_6 (t r m v x : Int) (w : World) : Calls Tryd.prog 13 #[.agg #[.int .i64 6, .int .i64 t, .int .i64 r, .int .i64 m, .int .i64 v, .int .i64 x]] w fun e w' => e = .returned (.int .i64 (opErr ⟨6, t, r, m, v, x⟩)) ∧ Below w.heap.size w w' := by
  obtain ⟨l, hl⟩ : ∃ l, lv t r = l := ⟨_, rfl⟩
  have HV := Lib.hid (fun W => level_any t r W)
  rw [hl] at HV
  have HK := Lib.hid (fun W => levelK_any 6 W)
  rw [show lvK 6 = 1 from rfl] at HK
  have E := Lib.hid (show opErr ⟨6, t, r, m, v, x⟩ = if (decide (0 ≤ l) && (decide ((1 : Int) = 3) || decide (1 = l))) && fitB m 1 6 false && fitB v 0 255 false && fitB x 0 255 true then 0 else 2 by subst hl; rfl)
  clear hl
  have hS := Lib.hid (boxO w #[.int .i64 6, .int .i64 t, .int .i64 r, .int .i64 m, .int .i64 v, .int .i64 x])
  obtain ⟨_, c0, c1, c2, c3, c4, c5, _⟩ := hS.out.b6
  go_enter Tryd.func13, Tryd.ntmps13
  go_wp2_with fail
  have hS := Lib.hid (show (fun W : World => Sep W [blk w.heap.size 36 #[.int .i64 6, .int .i64 t, .int .i64 r, .int .i64 m, .int .i64 v, .int .i64 x], old w]) _ from hS.out.drew)
  refine hl_begin (fun W : World => Sep W [blk w.heap.size 36 #[.int .i64 6, .int .i64 t, .int .i64 r, .int .i64 m, .int .i64 v, .int .i64 x], old w]) [(0, true), (1, true), (3, true), (4, true), (2, false), (5, false), (6, true), (7, true)] (by kernel_rfl) (by kernel_rfl) (by kernel_rfl) rfl (fun _ _ _ _ _ h => h) hS.out ?_
  change HL _ _ _ _ _ _ (World.drew _)
  generalize World.drew _ = wd at *
  refine hl_take ?v1 rfl (by kernel_rfl) ?y1 ?z1
  case y1 => intro W hW; skip; replace hW := Lib.hid hW; go_simp; try rfl
  case z1 =>
  simp only [Act.put, List.setIfInBounds_toArray, List.set_cons_succ, List.set_cons_zero, List.getElem_toArray, List.getElem_cons_zero, List.getElem_cons_succ]
  refine hl_take ?v2 rfl (by kernel_rfl) ?y2 ?z2
  case y2 => intro W hW; obtain ⟨_, c0, c1, c2, c3, c4, c5, _⟩ := (show Sep _ _ from hW).b6; replace hW := Lib.hid hW; go_simp; try rfl
  case z2 =>
  simp only [Act.put, List.setIfInBounds_toArray, List.set_cons_succ, List.set_cons_zero, List.getElem_toArray, List.getElem_cons_zero, List.getElem_cons_succ]
  refine hl_take ?v3 rfl (by kernel_rfl) ?y3 ?z3
  case y3 => intro W hW; skip; replace hW := Lib.hid hW; go_simp; try rfl
  case z3 =>
  simp only [Act.put, List.setIfInBounds_toArray, List.set_cons_succ, List.set_cons_zero, List.getElem_toArray, List.getElem_cons_zero, List.getElem_cons_succ]
  refine hl_take ?v4 rfl (by kernel_rfl) ?y4 ?z4
  case y4 => intro W hW; obtain ⟨_, c0, c1, c2, c3, c4, c5, _⟩ := (show Sep _ _ from hW).b6; replace hW := Lib.hid hW; go_simp; try rfl
  case z4 =>
  simp only [Act.put, List.setIfInBounds_toArray, List.set_cons_succ, List.set_cons_zero, List.getElem_toArray, List.getElem_cons_zero, List.getElem_cons_succ]
  refine hl_one rfl (by kernel_rfl) (fun K hK => ?_)
  go_simp
  go_at_call 32
  refine (HK.out _).mono ?_
  rintro e w1 ⟨rfl, rfl⟩
  refine hK.out _ _ hS.out ?_
  clear hK K
  try simp only [Act.put, List.setIfInBounds_toArray, List.set_cons_succ, List.set_cons_zero, List.getElem_toArray, List.getElem_cons_zero, List.getElem_cons_succ]
  refine hl_one rfl (by kernel_rfl) (fun K hK => ?_)
  go_simp
  go_at_call 33
  refine (HV.out _).mono ?_
  rintro e w1 ⟨rfl, b1⟩
  replace hS := Lib.hid (hS.out.below b1)
  clear b1
  refine hK.out _ _ hS.out ?_
  clear hK K
  try simp only [Act.put, List.setIfInBounds_toArray, List.set_cons_succ, List.set_cons_zero, List.getElem_toArray, List.getElem_cons_zero, List.getElem_cons_succ]
  refine hl_take ?v5 rfl (by kernel_rfl) ?y5 ?z5
  case y5 => intro W hW; skip; replace hW := Lib.hid hW; go_simp; try rfl
  case z5 =>
  simp only [Act.put, List.setIfInBounds_toArray, List.set_cons_succ, List.set_cons_zero, List.getElem_toArray, List.getElem_cons_zero, List.getElem_cons_succ]
  refine hl_take ?v6 rfl (by kernel_rfl) ?y6 ?z6
  case y6 => intro W hW; skip; replace hW := Lib.hid hW; go_simp; try rfl
  case z6 =>
  simp only [Act.put, List.setIfInBounds_toArray, List.set_cons_succ, List.set_cons_zero, List.getElem_toArray, List.getElem_cons_zero, List.getElem_cons_succ]
  refine hl_done ?_
  obtain ⟨_, c0, c1, c2, c3, c4, c5, _⟩ := hS.out.b6
  have hg := Lib.hid hS.out.tail.gold
  go_wp2_with (go_at_call 34; refine (fits_any _ _ _ _ _).mono ?_; rintro e w2 ⟨rfl, rfl⟩)
  all_goals clear c0 c1 c2 c3 c4 c5 hS HV HK
  all_goals go_ret
  all_goals refine ⟨?_, hg.out⟩
  all_goals clear hg
  all_goals refine congrArg (fun z => Ending.returned (.int .i64 z)) ?_
  all_goals rw [E.out]
  all_goals clear E
  all_goals (try subst_vars)
  all_goals first | (simp_all; done) | omega | (rw [show decide ((0 : Int) ≤ l) = false from decide_eq_false (by omega)]; simp)
set_option maxHeartbeats 4000000 in
set_option maxRecDepth 100000 in
theorem op_7 (t r m v x : Int) (w : World) : Calls Tryd.prog 13 #[.agg #[.int .i64 7, .int .i64 t, .int .i64 r, .int .i64 m, .int .i64 v, .int .i64 x]] w fun e w' => e = .returned (.int .i64 (opErr ⟨7, t, r, m, v, x⟩)) ∧ Below w.heap.size w w' := by
  obtain ⟨l, hl⟩ : ∃ l, lv t r = l := ⟨_, rfl⟩
  have HV := Lib.hid (fun W => level_any t r W)
  rw [hl] at HV
  have HK := Lib.hid (fun W => levelK_any 7 W)
  rw [show lvK 7 = 0 from rfl] at HK
  have E := Lib.hid (show opErr ⟨7, t, r, m, v, x⟩ = if (decide (0 ≤ l) && (decide ((0 : Int) = 3) || decide (0 = l))) && fitB m 1 6 false && fitB v 0 255 false && fitB x 0 255 false then 0 else 2 by subst hl; rfl)
  clear hl
  have hS := Lib.hid (boxO w #[.int .i64 7, .int .i64 t, .int .i64 r, .int .i64 m, .int .i64 v, .int .i64 x])
  obtain ⟨_, c0, c1, c2, c3, c4, c5, _⟩ := hS.out.b6
  go_enter Tryd.func13, Tryd.ntmps13
  go_wp2_with fail
  have hS := Lib.hid (show (fun W : World => Sep W [blk w.heap.size 36 #[.int .i64 7, .int .i64 t, .int .i64 r, .int .i64 m, .int .i64 v, .int .i64 x], old w]) _ from hS.out.drew)
  refine hl_begin (fun W : World => Sep W [blk w.heap.size 36 #[.int .i64 7, .int .i64 t, .int .i64 r, .int .i64 m, .int .i64 v, .int .i64 x], old w]) [(0, true), (1, true), (3, true), (4, true), (2, false), (5, false), (6, true), (7, true)] (by kernel_rfl) (by kernel_rfl) (by kernel_rfl) rfl (fun _ _ _ _ _ h => h) hS.out ?_
  change HL _ _ _ _ _ _ (World.drew _)
  generalize World.drew _ = wd at *
  refine hl_take ?v1 rfl (by kernel_rfl) ?y1 ?z1
  case y1 => intro W hW; skip; replace hW := Lib.hid hW; go_simp; try rfl
  case z1 =>
  simp only [Act.put, List.setIfInBounds_toArray, List.set_cons_succ, List.set_cons_zero, List.getElem_toArray, List.getElem_cons_zero, List.getElem_cons_succ]
  refine hl_take ?v2 rfl (by kernel_rfl) ?y2 ?z2
  case y2 => intro W hW; obtain ⟨_, c0, c1, c2, c3, c4, c5, _⟩ := (show Sep _ _ from hW).b6; replace hW := Lib.hid hW; go_simp; try rfl
  case z2 =>
  simp only [Act.put, List.setIfInBounds_toArray, List.set_cons_succ, List.set_cons_zero, List.getElem_toArray, List.getElem_cons_zero, List.getElem_cons_succ]
  refine hl_take ?v3 rfl (by kernel_rfl) ?y3 ?z3
  case y3 => intro W hW; skip; replace hW := Lib.hid hW; go_simp; try rfl
  case z3 =>
  simp only [Act.put, List.setIfInBounds_toArray, List.set_cons_succ, List.set_cons_zero, List.getElem_toArray, List.getElem_cons_zero, List.getElem_cons_succ]
  refine hl_take ?v4 rfl (by kernel_rfl) ?y4 ?z4
  case y4 => intro W hW; obtain ⟨_, c0, c1, c2, c3, c4, c5, _⟩ := (show Sep _ _ from hW).b6; replace hW := Lib.hid hW; go_simp; try rfl
  case z4 =>
  simp only [Act.put, List.setIfInBounds_toArray, List.set_cons_succ, List.set_cons_zero, List.getElem_toArray, List.getElem_cons_zero, List.getElem_cons_succ]
  refine hl_one rfl (by kernel_rfl) (fun K hK => ?_)
  go_simp
  go_at_call 32
  refine (HK.out _).mono ?_
  rintro e w1 ⟨rfl, rfl⟩
  refine hK.out _ _ hS.out ?_
  clear hK K
  try simp only [Act.put, List.setIfInBounds_toArray, List.set_cons_succ, List.set_cons_zero, List.getElem_toArray, List.getElem_cons_zero, List.getElem_cons_succ]
  refine hl_one rfl (by kernel_rfl) (fun K hK => ?_)
  go_simp
  go_at_call 33
  refine (HV.out _).mono ?_
  rintro e w1 ⟨rfl, b1⟩
  replace hS := Lib.hid (hS.out.below b1)
  clear b1
  refine hK.out _ _ hS.out ?_
  clear hK K
  try simp only [Act.put, List.setIfInBounds_toArray, List.set_cons_succ, List.set_cons_zero, List.getElem_toArray, List.getElem_cons_zero, List.getElem_cons_succ]
  refine hl_take ?v5 rfl (by kernel_rfl) ?y5 ?z5
  case y5 => intro W hW; skip; replace hW := Lib.hid hW; go_simp; try rfl
  case z5 =>
  simp only [Act.put, List.setIfInBounds_toArray, List.set_cons_succ, List.set_cons_zero, List.getElem_toArray, List.getElem_cons_zero, List.getElem_cons_succ]
  refine hl_take ?v6 rfl (by kernel_rfl) ?y6 ?z6
  case y6 => intro W hW; skip; replace hW := Lib.hid hW; go_simp; try rfl
  case z6 =>
  simp only [Act.put, List.setIfInBounds_toArray, List.set_cons_succ, List.set_cons_zero, List.getElem_toArray, List.getElem_cons_zero, List.getElem_cons_succ]
  refine hl_done ?_
  obtain ⟨_, c0, c1, c2, c3, c4, c5, _⟩ := hS.out.b6
  have hg := Lib.hid hS.out.tail.gold
  go_wp2_with (go_at_call 34; refine (fits_any _ _ _ _ _).mono ?_; rintro e w2 ⟨rfl, rfl⟩)
  all_goals clear c0 c1 c2 c3 c4 c5 hS HV HK
  all_goals go_ret
  all_goals refine ⟨?_, hg.out⟩
  all_goals clear hg
  all_goals refine congrArg (fun z => Ending.returned (.int .i64 z)) ?_
  all_goals rw [E.out]
  all_goals clear E
  all_goals (try subst_vars)
  all_goals first | (simp_all; done) | omega | (rw [show decide ((0 : Int) ≤ l) = false from decide_eq_false (by omega)]; simp)
set_option maxHeartbeats 4000000 in
set_option maxRecDepth 100000 in
theorem op_8 (t r m v x : Int) (w : World) : Calls Tryd.prog 13 #[.agg #[.int .i64 8, .int .i64 t, .int .i64 r, .int .i64 m, .int .i64 v, .int .i64 x]] w fun e w' => e = .returned (.int .i64 (opErr ⟨8, t, r, m, v, x⟩)) ∧ Below w.heap.size w w' := by
  obtain ⟨l, hl⟩ : ∃ l, lv t r = l := ⟨_, rfl⟩
  have HV := Lib.hid (fun W => level_any t r W)
  rw [hl] at HV
  have HK := Lib.hid (fun W => levelK_any 8 W)
  rw [show lvK 8 = 0 from rfl] at HK
  have E := Lib.hid (show opErr ⟨8, t, r, m, v, x⟩ = if (decide (0 ≤ l) && (decide ((0 : Int) = 3) || decide (0 = l))) && fitB m 1 6 false && fitB v 0 255 false && fitB x 0 255 false then 0 else 2 by subst hl; rfl)
  clear hl
  have hS := Lib.hid (boxO w #[.int .i64 8, .int .i64 t, .int .i64 r, .int .i64 m, .int .i64 v, .int .i64 x])
  obtain ⟨_, c0, c1, c2, c3, c4, c5, _⟩ := hS.out.b6
  go_enter Tryd.func13, Tryd.ntmps13
  go_wp2_with fail
  have hS := Lib.hid (show (fun W : World => Sep W [blk w.heap.size 36 #[.int .i64 8, .int .i64 t, .int .i64 r, .int .i64 m, .int .i64 v, .int .i64 x], old w]) _ from hS.out.drew)
  refine hl_begin (fun W : World => Sep W [blk w.heap.size 36 #[.int .i64 8, .int .i64 t, .int .i64 r, .int .i64 m, .int .i64 v, .int .i64 x], old w]) [(0, true), (1, true), (3, true), (4, true), (2, false), (5, false), (6, true), (7, true)] (by kernel_rfl) (by kernel_rfl) (by kernel_rfl) rfl (fun _ _ _ _ _ h => h) hS.out ?_
  change HL _ _ _ _ _ _ (World.drew _)
  generalize World.drew _ = wd at *
  refine hl_take ?v1 rfl (by kernel_rfl) ?y1 ?z1
  case y1 => intro W hW; skip; replace hW := Lib.hid hW; go_simp; try rfl
  case z1 =>
  simp only [Act.put, List.setIfInBounds_toArray, List.set_cons_succ, List.set_cons_zero, List.getElem_toArray, List.getElem_cons_zero, List.getElem_cons_succ]
  refine hl_take ?v2 rfl (by kernel_rfl) ?y2 ?z2
  case y2 => intro W hW; obtain ⟨_, c0, c1, c2, c3, c4, c5, _⟩ := (show Sep _ _ from hW).b6; replace hW := Lib.hid hW; go_simp; try rfl
  case z2 =>
  simp only [Act.put, List.setIfInBounds_toArray, List.set_cons_succ, List.set_cons_zero, List.getElem_toArray, List.getElem_cons_zero, List.getElem_cons_succ]
  refine hl_take ?v3 rfl (by kernel_rfl) ?y3 ?z3
  case y3 => intro W hW; skip; replace hW := Lib.hid hW; go_simp; try rfl
  case z3 =>
  simp only [Act.put, List.setIfInBounds_toArray, List.set_cons_succ, List.set_cons_zero, List.getElem_toArray, List.getElem_cons_zero, List.getElem_cons_succ]
  refine hl_take ?v4 rfl (by kernel_rfl) ?y4 ?z4
  case y4 => intro W hW; obtain ⟨_, c0, c1, c2, c3, c4, c5, _⟩ := (show Sep _ _ from hW).b6; replace hW := Lib.hid hW; go_simp; try rfl
  case z4 =>
  simp only [Act.put, List.setIfInBounds_toArray, List.set_cons_succ, List.set_cons_zero, List.getElem_toArray, List.getElem_cons_zero, List.getElem_cons_succ]
  refine hl_one rfl (by kernel_rfl) (fun K hK => ?_)
  go_simp
  go_at_call 32
  refine (HK.out _).mono ?_
  rintro e w1 ⟨rfl, rfl⟩
  refine hK.out _ _ hS.out ?_
  clear hK K
  try simp only [Act.put, List.setIfInBounds_toArray, List.set_cons_succ, List.set_cons_zero, List.getElem_toArray, List.getElem_cons_zero, List.getElem_cons_succ]
  refine hl_one rfl (by kernel_rfl) (fun K hK => ?_)
  go_simp
  go_at_call 33
  refine (HV.out _).mono ?_
  rintro e w1 ⟨rfl, b1⟩
  replace hS := Lib.hid (hS.out.below b1)
  clear b1
  refine hK.out _ _ hS.out ?_
  clear hK K
  try simp only [Act.put, List.setIfInBounds_toArray, List.set_cons_succ, List.set_cons_zero, List.getElem_toArray, List.getElem_cons_zero, List.getElem_cons_succ]
  refine hl_take ?v5 rfl (by kernel_rfl) ?y5 ?z5
  case y5 => intro W hW; skip; replace hW := Lib.hid hW; go_simp; try rfl
  case z5 =>
  simp only [Act.put, List.setIfInBounds_toArray, List.set_cons_succ, List.set_cons_zero, List.getElem_toArray, List.getElem_cons_zero, List.getElem_cons_succ]
  refine hl_take ?v6 rfl (by kernel_rfl) ?y6 ?z6
  case y6 => intro W hW; skip; replace hW := Lib.hid hW; go_simp; try rfl
  case z6 =>
  simp only [Act.put, List.setIfInBounds_toArray, List.set_cons_succ, List.set_cons_zero, List.getElem_toArray, List.getElem_cons_zero, List.getElem_cons_succ]
  refine hl_done ?_
  obtain ⟨_, c0, c1, c2, c3, c4, c5, _⟩ := hS.out.b6
  have hg := Lib.hid hS.out.tail.gold
  go_wp2_with (go_at_call 34; refine (fits_any _ _ _ _ _).mono ?_; rintro e w2 ⟨rfl, rfl⟩)
  all_goals clear c0 c1 c2 c3 c4 c5 hS HV HK
  all_goals go_ret
  all_goals refine ⟨?_, hg.out⟩
  all_goals clear hg
  all_goals refine congrArg (fun z => Ending.returned (.int .i64 z)) ?_
  all_goals rw [E.out]
  all_goals clear E
  all_goals (try subst_vars)
  all_goals first | (simp_all; done) | omega | (rw [show decide ((0 : Int) ≤ l) = false from decide_eq_false (by omega)]; simp)
set_option maxHeartbeats 4000000 in
set_option maxRecDepth 100000 in
theorem op_9 (t r m v x : Int) (w : World) : Calls Tryd.prog 13 #[.agg #[.int .i64 9, .int .i64 t, .int .i64 r, .int .i64 m, .int .i64 v, .int .i64 x]] w fun e w' => e = .returned (.int .i64 (opErr ⟨9, t, r, m, v, x⟩)) ∧ Below w.heap.size w w' := by
  obtain ⟨l, hl⟩ : ∃ l, lv t r = l := ⟨_, rfl⟩
  have HV := Lib.hid (fun W => level_any t r W)
  rw [hl] at HV
  have HK := Lib.hid (fun W => levelK_any 9 W)
  rw [show lvK 9 = 3 from rfl] at HK
  have E := Lib.hid (show opErr ⟨9, t, r, m, v, x⟩ = if (decide (0 ≤ l) && (decide ((3 : Int) = 3) || decide (3 = l))) && fitB m 1 6 true && fitB v 0 255 false && fitB x 0 255 true then 0 else 2 by subst hl; rfl)
  clear hl
  have hS := Lib.hid (boxO w #[.int .i64 9, .int .i64 t, .int .i64 r, .int .i64 m, .int .i64 v, .int .i64 x])
  obtain ⟨_, c0, c1, c2, c3, c4, c5, _⟩ := hS.out.b6
  go_enter Tryd.func13, Tryd.ntmps13
  go_wp2_with fail
  have hS := Lib.hid (show (fun W : World => Sep W [blk w.heap.size 36 #[.int .i64 9, .int .i64 t, .int .i64 r, .int .i64 m, .int .i64 v, .int .i64 x], old w]) _ from hS.out.drew)
  refine hl_begin (fun W : World => Sep W [blk w.heap.size 36 #[.int .i64 9, .int .i64 t, .int .i64 r, .int .i64 m, .int .i64 v, .int .i64 x], old w]) [(0, true), (1, true), (3, true), (4, true), (2, false), (5, false), (6, true), (7, true)] (by kernel_rfl) (by kernel_rfl) (by kernel_rfl) rfl (fun _ _ _ _ _ h => h) hS.out ?_
  change HL _ _ _ _ _ _ (World.drew _)
  generalize World.drew _ = wd at *
  refine hl_take ?v1 rfl (by kernel_rfl) ?y1 ?z1
  case y1 => intro W hW; skip; replace hW := Lib.hid hW; go_simp; try rfl
  case z1 =>
  simp only [Act.put, List.setIfInBounds_toArray, List.set_cons_succ, List.set_cons_zero, List.getElem_toArray, List.getElem_cons_zero, List.getElem_cons_succ]
  refine hl_take ?v2 rfl (by kernel_rfl) ?y2 ?z2
  case y2 => intro W hW; obtain ⟨_, c0, c1, c2, c3, c4, c5, _⟩ := (show Sep _ _ from hW).b6; replace hW := Lib.hid hW; go_simp; try rfl
  case z2 =>
  simp only [Act.put, List.setIfInBounds_toArray, List.set_cons_succ, List.set_cons_zero, List.getElem_toArray, List.getElem_cons_zero, List.getElem_cons_succ]
  refine hl_take ?v3 rfl (by kernel_rfl) ?y3 ?z3
  case y3 => intro W hW; skip; replace hW := Lib.hid hW; go_simp; try rfl
  case z3 =>
  simp only [Act.put, List.setIfInBounds_toArray, List.set_cons_succ, List.set_cons_zero, List.getElem_toArray, List.getElem_cons_zero, List.getElem_cons_succ]
  refine hl_take ?v4 rfl (by kernel_rfl) ?y4 ?z4
  case y4 => intro W hW; obtain ⟨_, c0, c1, c2, c3, c4, c5, _⟩ := (show Sep _ _ from hW).b6; replace hW := Lib.hid hW; go_simp; try rfl
  case z4 =>
  simp only [Act.put, List.setIfInBounds_toArray, List.set_cons_succ, List.set_cons_zero, List.getElem_toArray, List.getElem_cons_zero, List.getElem_cons_succ]
  refine hl_one rfl (by kernel_rfl) (fun K hK => ?_)
  go_simp
  go_at_call 32
  refine (HK.out _).mono ?_
  rintro e w1 ⟨rfl, rfl⟩
  refine hK.out _ _ hS.out ?_
  clear hK K
  try simp only [Act.put, List.setIfInBounds_toArray, List.set_cons_succ, List.set_cons_zero, List.getElem_toArray, List.getElem_cons_zero, List.getElem_cons_succ]
  refine hl_one rfl (by kernel_rfl) (fun K hK => ?_)
  go_simp
  go_at_call 33
  refine (HV.out _).mono ?_
  rintro e w1 ⟨rfl, b1⟩
  replace hS := Lib.hid (hS.out.below b1)
  clear b1
  refine hK.out _ _ hS.out ?_
  clear hK K
  try simp only [Act.put, List.setIfInBounds_toArray, List.set_cons_succ, List.set_cons_zero, List.getElem_toArray, List.getElem_cons_zero, List.getElem_cons_succ]
  refine hl_take ?v5 rfl (by kernel_rfl) ?y5 ?z5
  case y5 => intro W hW; skip; replace hW := Lib.hid hW; go_simp; try rfl
  case z5 =>
  simp only [Act.put, List.setIfInBounds_toArray, List.set_cons_succ, List.set_cons_zero, List.getElem_toArray, List.getElem_cons_zero, List.getElem_cons_succ]
  refine hl_take ?v6 rfl (by kernel_rfl) ?y6 ?z6
  case y6 => intro W hW; skip; replace hW := Lib.hid hW; go_simp; try rfl
  case z6 =>
  simp only [Act.put, List.setIfInBounds_toArray, List.set_cons_succ, List.set_cons_zero, List.getElem_toArray, List.getElem_cons_zero, List.getElem_cons_succ]
  refine hl_done ?_
  obtain ⟨_, c0, c1, c2, c3, c4, c5, _⟩ := hS.out.b6
  have hg := Lib.hid hS.out.tail.gold
  go_wp2_with (go_at_call 34; refine (fits_any _ _ _ _ _).mono ?_; rintro e w2 ⟨rfl, rfl⟩)
  all_goals clear c0 c1 c2 c3 c4 c5 hS HV HK
  all_goals go_ret
  all_goals refine ⟨?_, hg.out⟩
  all_goals clear hg
  all_goals refine congrArg (fun z => Ending.returned (.int .i64 z)) ?_
  all_goals rw [E.out]
  all_goals clear E
  all_goals (try subst_vars)
  all_goals first | (simp_all; done) | omega | (rw [show decide ((0 : Int) ≤ l) = false from decide_eq_false (by omega)]; simp)
set_option maxHeartbeats 4000000 in
set_option maxRecDepth 100000 in
theorem op_10 (t r m v x : Int) (w : World) : Calls Tryd.prog 13 #[.agg #[.int .i64 10, .int .i64 t, .int .i64 r, .int .i64 m, .int .i64 v, .int .i64 x]] w fun e w' => e = .returned (.int .i64 (opErr ⟨10, t, r, m, v, x⟩)) ∧ Below w.heap.size w w' := by
  obtain ⟨l, hl⟩ : ∃ l, lv t r = l := ⟨_, rfl⟩
  have HV := Lib.hid (fun W => level_any t r W)
  rw [hl] at HV
  have HK := Lib.hid (fun W => levelK_any 10 W)
  rw [show lvK 10 = 3 from rfl] at HK
  have E := Lib.hid (show opErr ⟨10, t, r, m, v, x⟩ = if (decide (0 ≤ l) && (decide ((3 : Int) = 3) || decide (3 = l))) && fitB m 1 6 false && fitB v 0 255 false && fitB x 0 255 false then 0 else 2 by subst hl; rfl)
  clear hl
  have hS := Lib.hid (boxO w #[.int .i64 10, .int .i64 t, .int .i64 r, .int .i64 m, .int .i64 v, .int .i64 x])
  obtain ⟨_, c0, c1, c2, c3, c4, c5, _⟩ := hS.out.b6
  go_enter Tryd.func13, Tryd.ntmps13
  go_wp2_with fail
  have hS := Lib.hid (show (fun W : World => Sep W [blk w.heap.size 36 #[.int .i64 10, .int .i64 t, .int .i64 r, .int .i64 m, .int .i64 v, .int .i64 x], old w]) _ from hS.out.drew)
  refine hl_begin (fun W : World => Sep W [blk w.heap.size 36 #[.int .i64 10, .int .i64 t, .int .i64 r, .int .i64 m, .int .i64 v, .int .i64 x], old w]) [(0, true), (1, true), (3, true), (4, true), (2, false), (5, false), (6, true), (7, true)] (by kernel_rfl) (by kernel_rfl) (by kernel_rfl) rfl (fun _ _ _ _ _ h => h) hS.out ?_
  change HL _ _ _ _ _ _ (World.drew _)
  generalize World.drew _ = wd at *
  refine hl_take ?v1 rfl (by kernel_rfl) ?y1 ?z1
  case y1 => intro W hW; skip; replace hW := Lib.hid hW; go_simp; try rfl
  case z1 =>
  simp only [Act.put, List.setIfInBounds_toArray, List.set_cons_succ, List.set_cons_zero, List.getElem_toArray, List.getElem_cons_zero, List.getElem_cons_succ]
  refine hl_take ?v2 rfl (by kernel_rfl) ?y2 ?z2
  case y2 => intro W hW; obtain ⟨_, c0, c1, c2, c3, c4, c5, _⟩ := (show Sep _ _ from hW).b6; replace hW := Lib.hid hW; go_simp; try rfl
  case z2 =>
  simp only [Act.put, List.setIfInBounds_toArray, List.set_cons_succ, List.set_cons_zero, List.getElem_toArray, List.getElem_cons_zero, List.getElem_cons_succ]
  refine hl_take ?v3 rfl (by kernel_rfl) ?y3 ?z3
  case y3 => intro W hW; skip; replace hW := Lib.hid hW; go_simp; try rfl
  case z3 =>
  simp only [Act.put, List.setIfInBounds_toArray, List.set_cons_succ, List.set_cons_zero, List.getElem_toArray, List.getElem_cons_zero, List.getElem_cons_succ]
  refine hl_take ?v4 rfl (by kernel_rfl) ?y4 ?z4
  case y4 => intro W hW; obtain ⟨_, c0, c1, c2, c3, c4, c5, _⟩ := (show Sep _ _ from hW).b6; replace hW := Lib.hid hW; go_simp; try rfl
  case z4 =>
  simp only [Act.put, List.setIfInBounds_toArray, List.set_cons_succ, List.set_cons_zero, List.getElem_toArray, List.getElem_cons_zero, List.getElem_cons_succ]
  refine hl_one rfl (by kernel_rfl) (fun K hK => ?_)
  go_simp
  go_at_call 32
  refine (HK.out _).mono ?_
  rintro e w1 ⟨rfl, rfl⟩
  refine hK.out _ _ hS.out ?_
  clear hK K
  try simp only [Act.put, List.setIfInBounds_toArray, List.set_cons_succ, List.set_cons_zero, List.getElem_toArray, List.getElem_cons_zero, List.getElem_cons_succ]
  refine hl_one rfl (by kernel_rfl) (fun K hK => ?_)
  go_simp
  go_at_call 33
  refine (HV.out _).mono ?_
  rintro e w1 ⟨rfl, b1⟩
  replace hS := Lib.hid (hS.out.below b1)
  clear b1
  refine hK.out _ _ hS.out ?_
  clear hK K
  try simp only [Act.put, List.setIfInBounds_toArray, List.set_cons_succ, List.set_cons_zero, List.getElem_toArray, List.getElem_cons_zero, List.getElem_cons_succ]
  refine hl_take ?v5 rfl (by kernel_rfl) ?y5 ?z5
  case y5 => intro W hW; skip; replace hW := Lib.hid hW; go_simp; try rfl
  case z5 =>
  simp only [Act.put, List.setIfInBounds_toArray, List.set_cons_succ, List.set_cons_zero, List.getElem_toArray, List.getElem_cons_zero, List.getElem_cons_succ]
  refine hl_take ?v6 rfl (by kernel_rfl) ?y6 ?z6
  case y6 => intro W hW; skip; replace hW := Lib.hid hW; go_simp; try rfl
  case z6 =>
  simp only [Act.put, List.setIfInBounds_toArray, List.set_cons_succ, List.set_cons_zero, List.getElem_toArray, List.getElem_cons_zero, List.getElem_cons_succ]
  refine hl_done ?_
  obtain ⟨_, c0, c1, c2, c3, c4, c5, _⟩ := hS.out.b6
  have hg := Lib.hid hS.out.tail.gold
  go_wp2_with (go_at_call 34; refine (fits_any _ _ _ _ _).mono ?_; rintro e w2 ⟨rfl, rfl⟩)
  all_goals clear c0 c1 c2 c3 c4 c5 hS HV HK
  all_goals go_ret
  all_goals refine ⟨?_, hg.out⟩
  all_goals clear hg
  all_goals refine congrArg (fun z => Ending.returned (.int .i64 z)) ?_
  all_goals rw [E.out]
  all_goals clear E
  all_goals (try subst_vars)
  all_goals first | (simp_all; done) | omega | (rw [show decide ((0 : Int) ≤ l) = false from decide_eq_false (by omega)]; simp)
set_option maxHeartbeats 4000000 in
set_option maxRecDepth 100000 in
theorem op_11 (t r m v x : Int) (w : World) : Calls Tryd.prog 13 #[.agg #[.int .i64 11, .int .i64 t, .int .i64 r, .int .i64 m, .int .i64 v, .int .i64 x]] w fun e w' => e = .returned (.int .i64 (opErr ⟨11, t, r, m, v, x⟩)) ∧ Below w.heap.size w w' := by
  obtain ⟨l, hl⟩ : ∃ l, lv t r = l := ⟨_, rfl⟩
  have HV := Lib.hid (fun W => level_any t r W)
  rw [hl] at HV
  have HK := Lib.hid (fun W => levelK_any 11 W)
  rw [show lvK 11 = 0 from rfl] at HK
  have E := Lib.hid (show opErr ⟨11, t, r, m, v, x⟩ = if (decide (0 ≤ l) && (decide ((0 : Int) = 3) || decide (0 = l))) && fitB m 1 6 false && fitB v 0 255 false && fitB x 0 255 false then 0 else 2 by subst hl; rfl)
  clear hl
  have hS := Lib.hid (boxO w #[.int .i64 11, .int .i64 t, .int .i64 r, .int .i64 m, .int .i64 v, .int .i64 x])
  obtain ⟨_, c0, c1, c2, c3, c4, c5, _⟩ := hS.out.b6
  go_enter Tryd.func13, Tryd.ntmps13
  go_wp2_with fail
  have hS := Lib.hid (show (fun W : World => Sep W [blk w.heap.size 36 #[.int .i64 11, .int .i64 t, .int .i64 r, .int .i64 m, .int .i64 v, .int .i64 x], old w]) _ from hS.out.drew)
  refine hl_begin (fun W : World => Sep W [blk w.heap.size 36 #[.int .i64 11, .int .i64 t, .int .i64 r, .int .i64 m, .int .i64 v, .int .i64 x], old w]) [(0, true), (1, true), (3, true), (4, true), (2, false), (5, false), (6, true), (7, true)] (by kernel_rfl) (by kernel_rfl) (by kernel_rfl) rfl (fun _ _ _ _ _ h => h) hS.out ?_
  change HL _ _ _ _ _ _ (World.drew _)
  generalize World.drew _ = wd at *
  refine hl_take ?v1 rfl (by kernel_rfl) ?y1 ?z1
  case y1 => intro W hW; skip; replace hW := Lib.hid hW; go_simp; try rfl
  case z1 =>
  simp only [Act.put, List.setIfInBounds_toArray, List.set_cons_succ, List.set_cons_zero, List.getElem_toArray, List.getElem_cons_zero, List.getElem_cons_succ]
  refine hl_take ?v2 rfl (by kernel_rfl) ?y2 ?z2
  case y2 => intro W hW; obtain ⟨_, c0, c1, c2, c3, c4, c5, _⟩ := (show Sep _ _ from hW).b6; replace hW := Lib.hid hW; go_simp; try rfl
  case z2 =>
  simp only [Act.put, List.setIfInBounds_toArray, List.set_cons_succ, List.set_cons_zero, List.getElem_toArray, List.getElem_cons_zero, List.getElem_cons_succ]
  refine hl_take ?v3 rfl (by kernel_rfl) ?y3 ?z3
  case y3 => intro W hW; skip; replace hW := Lib.hid hW; go_simp; try rfl
  case z3 =>
  simp only [Act.put, List.setIfInBounds_toArray, List.set_cons_succ, List.set_cons_zero, List.getElem_toArray, List.getElem_cons_zero, List.getElem_cons_succ]
  refine hl_take ?v4 rfl (by kernel_rfl) ?y4 ?z4
  case y4 => intro W hW; obtain ⟨_, c0, c1, c2, c3, c4, c5, _⟩ := (show Sep _ _ from hW).b6; replace hW := Lib.hid hW; go_simp; try rfl
  case z4 =>
  simp only [Act.put, List.setIfInBounds_toArray, List.set_cons_succ, List.set_cons_zero, List.getElem_toArray, List.getElem_cons_zero, List.getElem_cons_succ]
  refine hl_one rfl (by kernel_rfl) (fun K hK => ?_)
  go_simp
  go_at_call 32
  refine (HK.out _).mono ?_
  rintro e w1 ⟨rfl, rfl⟩
  refine hK.out _ _ hS.out ?_
  clear hK K
  try simp only [Act.put, List.setIfInBounds_toArray, List.set_cons_succ, List.set_cons_zero, List.getElem_toArray, List.getElem_cons_zero, List.getElem_cons_succ]
  refine hl_one rfl (by kernel_rfl) (fun K hK => ?_)
  go_simp
  go_at_call 33
  refine (HV.out _).mono ?_
  rintro e w1 ⟨rfl, b1⟩
  replace hS := Lib.hid (hS.out.below b1)
  clear b1
  refine hK.out _ _ hS.out ?_
  clear hK K
  try simp only [Act.put, List.setIfInBounds_toArray, List.set_cons_succ, List.set_cons_zero, List.getElem_toArray, List.getElem_cons_zero, List.getElem_cons_succ]
  refine hl_take ?v5 rfl (by kernel_rfl) ?y5 ?z5
  case y5 => intro W hW; skip; replace hW := Lib.hid hW; go_simp; try rfl
  case z5 =>
  simp only [Act.put, List.setIfInBounds_toArray, List.set_cons_succ, List.set_cons_zero, List.getElem_toArray, List.getElem_cons_zero, List.getElem_cons_succ]
  refine hl_take ?v6 rfl (by kernel_rfl) ?y6 ?z6
  case y6 => intro W hW; skip; replace hW := Lib.hid hW; go_simp; try rfl
  case z6 =>
  simp only [Act.put, List.setIfInBounds_toArray, List.set_cons_succ, List.set_cons_zero, List.getElem_toArray, List.getElem_cons_zero, List.getElem_cons_succ]
  refine hl_done ?_
  obtain ⟨_, c0, c1, c2, c3, c4, c5, _⟩ := hS.out.b6
  have hg := Lib.hid hS.out.tail.gold
  go_wp2_with (go_at_call 34; refine (fits_any _ _ _ _ _).mono ?_; rintro e w2 ⟨rfl, rfl⟩)
  all_goals clear c0 c1 c2 c3 c4 c5 hS HV HK
  all_goals go_ret
  all_goals refine ⟨?_, hg.out⟩
  all_goals clear hg
  all_goals refine congrArg (fun z => Ending.returned (.int .i64 z)) ?_
  all_goals rw [E.out]
  all_goals clear E
  all_goals (try subst_vars)
  all_goals first | (simp_all; done) | omega | (rw [show decide ((0 : Int) ≤ l) = false from decide_eq_false (by omega)]; simp)
set_option maxHeartbeats 4000000 in
set_option maxRecDepth 100000 in
theorem op_x (k t r m v x : Int) (hk : k < 1 ∨ 11 < k) (w : World) : Calls Tryd.prog 13 #[.agg #[.int .i64 k, .int .i64 t, .int .i64 r, .int .i64 m, .int .i64 v, .int .i64 x]] w fun e w' => e = .returned (.int .i64 (opErr ⟨k, t, r, m, v, x⟩)) ∧ Below w.heap.size w w' := by
  have HK := Lib.hid (fun W => levelK_any k W)
  rw [lvK_0 hk] at HK
  have e3 : (k == 3) = false := by rw [beq_eq_false_iff_ne]; omega
  have e4 : (k == 4) = false := by rw [beq_eq_false_iff_ne]; omega
  have e9 : (k == 9) = false := by rw [beq_eq_false_iff_ne]; omega
  have HV := Lib.hid (fun W => level_any t r W)
  have E := Lib.hid (show opErr ⟨k, t, r, m, v, x⟩ = 2 by unfold opErr opB; rw [decide_eq_false (by simp only; omega)]; rfl)
  have hS := Lib.hid (boxO w #[.int .i64 k, .int .i64 t, .int .i64 r, .int .i64 m, .int .i64 v, .int .i64 x])
  obtain ⟨_, c0, c1, c2, c3, c4, c5, _⟩ := hS.out.b6
  go_enter Tryd.func13, Tryd.ntmps13
  go_wp2_with fail
  have hS := Lib.hid (show (fun W : World => Sep W [blk w.heap.size 36 #[.int .i64 k, .int .i64 t, .int .i64 r, .int .i64 m, .int .i64 v, .int .i64 x], old w]) _ from hS.out.drew)
  refine hl_begin (fun W : World => Sep W [blk w.heap.size 36 #[.int .i64 k, .int .i64 t, .int .i64 r, .int .i64 m, .int .i64 v, .int .i64 x], old w]) [(0, true), (1, true), (3, true), (4, true), (2, false), (5, false), (6, true), (7, true)] (by kernel_rfl) (by kernel_rfl) (by kernel_rfl) rfl (fun _ _ _ _ _ h => h) hS.out ?_
  change HL _ _ _ _ _ _ (World.drew _)
  generalize World.drew _ = wd at *
  refine hl_take ?v1 rfl (by kernel_rfl) ?y1 ?z1
  case y1 => intro W hW; skip; replace hW := Lib.hid hW; go_simp; try rfl
  case z1 =>
  simp only [Act.put, List.setIfInBounds_toArray, List.set_cons_succ, List.set_cons_zero, List.getElem_toArray, List.getElem_cons_zero, List.getElem_cons_succ]
  refine hl_take ?v2 rfl (by kernel_rfl) ?y2 ?z2
  case y2 => intro W hW; obtain ⟨_, c0, c1, c2, c3, c4, c5, _⟩ := (show Sep _ _ from hW).b6; replace hW := Lib.hid hW; go_simp; try rfl
  case z2 =>
  simp only [Act.put, List.setIfInBounds_toArray, List.set_cons_succ, List.set_cons_zero, List.getElem_toArray, List.getElem_cons_zero, List.getElem_cons_succ]
  refine hl_take ?v3 rfl (by kernel_rfl) ?y3 ?z3
  case y3 => intro W hW; skip; replace hW := Lib.hid hW; go_simp; try rfl
  case z3 =>
  simp only [Act.put, List.setIfInBounds_toArray, List.set_cons_succ, List.set_cons_zero, List.getElem_toArray, List.getElem_cons_zero, List.getElem_cons_succ]
  refine hl_take ?v4 rfl (by kernel_rfl) ?y4 ?z4
  case y4 => intro W hW; obtain ⟨_, c0, c1, c2, c3, c4, c5, _⟩ := (show Sep _ _ from hW).b6; replace hW := Lib.hid hW; go_simp; try rfl
  case z4 =>
  simp only [Act.put, List.setIfInBounds_toArray, List.set_cons_succ, List.set_cons_zero, List.getElem_toArray, List.getElem_cons_zero, List.getElem_cons_succ]
  refine hl_one rfl (by kernel_rfl) (fun K hK => ?_)
  go_simp
  go_at_call 32
  refine (HK.out _).mono ?_
  rintro e w1 ⟨rfl, rfl⟩
  refine hK.out _ _ hS.out ?_
  clear hK K
  try simp only [Act.put, List.setIfInBounds_toArray, List.set_cons_succ, List.set_cons_zero, List.getElem_toArray, List.getElem_cons_zero, List.getElem_cons_succ]
  refine hl_one rfl (by kernel_rfl) (fun K hK => ?_)
  go_simp
  go_at_call 33
  refine (HV.out _).mono ?_
  rintro e w1 ⟨rfl, b1⟩
  replace hS := Lib.hid (hS.out.below b1)
  clear b1
  refine hK.out _ _ hS.out ?_
  clear hK K
  try simp only [Act.put, List.setIfInBounds_toArray, List.set_cons_succ, List.set_cons_zero, List.getElem_toArray, List.getElem_cons_zero, List.getElem_cons_succ]
  refine hl_take ?v5 rfl (by kernel_rfl) ?y5 ?z5
  case y5 => intro W hW; skip; replace hW := Lib.hid hW; go_simp; try rfl
  case z5 =>
  simp only [Act.put, List.setIfInBounds_toArray, List.set_cons_succ, List.set_cons_zero, List.getElem_toArray, List.getElem_cons_zero, List.getElem_cons_succ]
  refine hl_take ?v6 rfl (by kernel_rfl) ?y6 ?z6
  case y6 => intro W hW; skip; replace hW := Lib.hid hW; go_simp; try rfl
  case z6 =>
  simp only [Act.put, List.setIfInBounds_toArray, List.set_cons_succ, List.set_cons_zero, List.getElem_toArray, List.getElem_cons_zero, List.getElem_cons_succ]
  refine hl_done ?_
  obtain ⟨_, c0, c1, c2, c3, c4, c5, _⟩ := hS.out.b6
  have hg := Lib.hid hS.out.tail.gold
  go_wp2_with (go_at_call 34; refine (fits_any _ _ _ _ _).mono ?_; rintro e w2 ⟨rfl, rfl⟩)
  all_goals clear c0 c1 c2 c3 c4 c5 hS HV HK
  all_goals go_ret
  all_goals refine ⟨?_, hg.out⟩
  all_goals clear hg
  all_goals refine congrArg (fun z => Ending.returned (.int .i64 z)) ?_
  all_goals rw [E.out]
  all_goals clear E
  all_goals (try subst_vars)
  all_goals first | (simp_all; done) | omega | (rw [show decide ((0 : Int) ≤ l) = false from decide_eq_false (by omega)]; simp)
theorem op_any (o : Oq) (w : World) : Calls Tryd.prog 13 #[.agg (oC o).toArray] w fun e w' => e = .returned (.int .i64 (opErr o)) ∧ Below w.heap.size w w' := by
  obtain ⟨k, t, r, m, v, x⟩ := o
  simp only [oC]
  by_cases h1 : k = 1
  · subst h1; exact op_1 t r m v x w
  by_cases h2 : k = 2
  · subst h2; exact op_2 t r m v x w
  by_cases h3 : k = 3
  · subst h3; exact op_3 t r m v x w
  by_cases h4 : k = 4
  · subst h4; exact op_4 t r m v x w
  by_cases h5 : k = 5
  · subst h5; exact op_5 t r m v x w
  by_cases h6 : k = 6
  · subst h6; exact op_6 t r m v x w
  by_cases h7 : k = 7
  · subst h7; exact op_7 t r m v x w
  by_cases h8 : k = 8
  · subst h8; exact op_8 t r m v x w
  by_cases h9 : k = 9
  · subst h9; exact op_9 t r m v x w
  by_cases h10 : k = 10
  · subst h10; exact op_10 t r m v x w
  by_cases h11 : k = 11
  · subst h11; exact op_11 t r m v x w
  exact op_x k t r m v x (by omega) w
end Go.Proofs.YtdpolejbceoldaaDoor
