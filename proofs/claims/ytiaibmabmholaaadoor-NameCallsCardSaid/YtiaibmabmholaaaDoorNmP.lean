/-
  Contracts: T, R, Compare, Parent; the chapter's examples hold (lives). No condition.
-/
import Derived.Test.YtiaibmabmholaaaDoorNmT
namespace Go.Proofs.YtiaibmabmholaaaDoor
open Go.RowKit
theorem tK_any (t : Int) (w : World) : Calls Tryd.prog 22 #[.int .i64 t] w fun e w' => e = .returned (.agg #[.int .i64 t, .int .i64 (-1)]) ∧ Below w.heap.size w w' := by
  go_enter Tryd.func22, Tryd.ntmps22
  go_wp2
  refine bodyPost_ret (v := (.agg #[.int .i64 t, .int .i64 (-1)])) (by simp [results, Tryd.results22, go_sem, *]) rfl ⟨rfl, ?_⟩
  exact (Below.refl _ _).alloc (Nat.le_refl _) _
theorem nan_no (a : Int) : (a != a) = false := bne_self_eq_false a
theorem compareI_any (a b : Int) (w : World) : Calls Tryd.prog 40 #[.int .i64 a, .int .i64 b] w fun e w' => e = .returned (.int .i64 (cmpI a b)) ∧ w = w' := by
  have n1 := nan_no a
  have n2 := nan_no b
  by_cases h1 : a < b
  · have E := Lib.hid (show cmpI a b = -1 by simp [cmpI, h1])
    go_enter Tryd.func40, Tryd.ntmps40
    go_wp2
    go_ret
    exact ⟨by rw [E.out]; rfl, rfl⟩
  · by_cases h2 : b < a
    · have E := Lib.hid (show cmpI a b = 1 by simp [cmpI, h1, h2])
      go_enter Tryd.func40, Tryd.ntmps40
      go_wp2
      go_ret
      exact ⟨by rw [E.out]; rfl, rfl⟩
    · have E := Lib.hid (show cmpI a b = 0 by simp [cmpI, h1, h2])
      go_enter Tryd.func40, Tryd.ntmps40
      go_wp2
      go_ret
      exact ⟨by rw [E.out]; rfl, rfl⟩
def orI (x y : Int) : Int := if x = 0 then y else x
theorem or_any (x y : Int) (g : Nat) (w : World) (h0 : w.cell? ⟨g, 0, none⟩ = some (.int .i64 x)) (h1 : w.cell? ⟨g, 1, none⟩ = some (.int .i64 y)) :
    Calls Tryd.prog 39 #[.slice (some ⟨g, 0, none⟩) 2 2] w fun e w' => e = .returned (.int .i64 (orI x y)) ∧ w = w' := by
  have HX := Lib.hid h0
  have HY := Lib.hid h1
  clear h0 h1
  go_enter Tryd.func39, Tryd.ntmps39
  go_wp2
  go_loop [8] (fun i => ∃ k : Nat, k ≤ 2 ∧ i = .int .i64 k ∧ Hid (0 < k → x = 0) ∧ Hid (1 < k → y = 0)) (fun i => 2 - (intOf i).toNat)
  case atStart => exact ⟨0, by omega, rfl, fun h => absurd h (by omega), fun h => absurd h (by omega)⟩
  case round =>
    obtain ⟨k, hk, rfl, hx, hy⟩ := hrel
    have h3 : k = 0 ∨ k = 1 ∨ k = 2 := by omega
    rcases h3 with rfl | rfl | rfl
    · have c := HX.out
      cases hz : x != 0 with
      | true =>
        have E := Lib.hid (show orI x y = x by rw [orI, if_neg (bne_iff_ne.1 hz)])
        go_wp2
        go_ret
        exact ⟨by rw [E.out]; rfl, rfl⟩
      | false =>
        have hz' : x = 0 := by simpa using hz
        replace hz' := Lib.hid hz'
        go_wp2
        go_round
        case rel => exact ⟨1, by omega, by go_num, fun _ => hz'.out, fun h => absurd h (by omega)⟩
        case measure => simp [intOf]
    · have c := HY.out
      cases hz : y != 0 with
      | true =>
        have E := Lib.hid (show orI x y = y by rw [orI, if_pos (hx.out (by omega))])
        go_wp2
        go_ret
        exact ⟨by rw [E.out]; rfl, rfl⟩
      | false =>
        have hz' : y = 0 := by simpa using hz
        replace hz' := Lib.hid hz'
        go_wp2
        go_round
        case rel => exact ⟨2, by omega, by go_num, fun _ => hx.out (by omega), fun _ => hz'.out⟩
        case measure => simp [intOf]
    · have E := Lib.hid (show orI x y = 0 by rw [orI, if_pos (hx.out (by omega)), hy.out (by omega)])
      go_wp2
      go_ret
      exact ⟨by rw [E.out]; rfl, rfl⟩
set_option maxHeartbeats 1000000 in
set_option maxRecDepth 100000 in
theorem compare_any (t r t' r' : Int) (w : World) : Calls Tryd.prog 16 #[(.agg #[.int .i64 t, .int .i64 r]), (.agg #[.int .i64 t', .int .i64 r'])] w fun e w' => e = .returned (.int .i64 (cmpN t r t' r')) ∧ Below w.heap.size w w' := by
  have hS0 := Lib.hid (box2 w t r t' r')
  have E := Lib.hid (show cmpN t r t' r' = orI (cmpI t t') (cmpI r r') from rfl)
  go_enter Tryd.func16, Tryd.ntmps16
  go_wp2_with fail
  have hS := Lib.hid (show (fun W : World => Sep W [blk (w.heap.size + 1) 23 #[Value.int .i64 (t'), Value.int .i64 (r')], blk w.heap.size 23 #[Value.int .i64 (t), Value.int .i64 (r)], old w]) _ from hS0.out.drew)
  refine held_begin (fun W : World => Sep W [blk (w.heap.size + 1) 23 #[Value.int .i64 (t'), Value.int .i64 (r')], blk w.heap.size 23 #[Value.int .i64 (t), Value.int .i64 (r)], old w]) (by kernel_rfl) hS.out ?_
  change wpAnyH _ _ _ _ _ 13 _ _ (World.drew _)
  generalize World.drew _ = wd at *
  refine held_take 0 ?v0 rfl (by kernel_rfl) (by kernel_rfl) (by kernel_rfl) (fun _ _ _ _ _ h => h) (by kernel_rfl) hS.out ?y0 ?z0
  case y0 => intro W hW; change Sep W _ at hW; have d0 := hW.b2.2.1; have d1 := hW.b2.2.2.1; have c0 := hW.to1.b2.2.1; have c1 := hW.to1.b2.2.2.1; replace hW := Lib.hid hW; go_simp; try rfl
  case z0 =>
  simp only [Act.put, List.setIfInBounds_toArray, List.set_cons_succ, List.set_cons_zero, List.getElem_toArray, List.getElem_cons_zero, List.getElem_cons_succ]
  refine held_take 1 ?v1 rfl (by kernel_rfl) (by kernel_rfl) (by kernel_rfl) (fun _ _ _ _ _ h => h) (by kernel_rfl) hS.out ?y1 ?z1
  case y1 => intro W hW; change Sep W _ at hW; have d0 := hW.b2.2.1; have d1 := hW.b2.2.2.1; have c0 := hW.to1.b2.2.1; have c1 := hW.to1.b2.2.2.1; replace hW := Lib.hid hW; go_simp; try rfl
  case z1 =>
  simp only [Act.put, List.setIfInBounds_toArray, List.set_cons_succ, List.set_cons_zero, List.getElem_toArray, List.getElem_cons_zero, List.getElem_cons_succ]
  refine held_take 2 ?v2 rfl (by kernel_rfl) (by kernel_rfl) (by kernel_rfl) (fun _ _ _ _ _ h => h) (by kernel_rfl) hS.out ?y2 ?z2
  case y2 => intro W hW; change Sep W _ at hW; have d0 := hW.b2.2.1; have d1 := hW.b2.2.2.1; have c0 := hW.to1.b2.2.1; have c1 := hW.to1.b2.2.2.1; replace hW := Lib.hid hW; go_simp; try rfl
  case z2 =>
  simp only [Act.put, List.setIfInBounds_toArray, List.set_cons_succ, List.set_cons_zero, List.getElem_toArray, List.getElem_cons_zero, List.getElem_cons_succ]
  refine held_take 3 ?v3 rfl (by kernel_rfl) (by kernel_rfl) (by kernel_rfl) (fun _ _ _ _ _ h => h) (by kernel_rfl) hS.out ?y3 ?z3
  case y3 => intro W hW; change Sep W _ at hW; have d0 := hW.b2.2.1; have d1 := hW.b2.2.2.1; have c0 := hW.to1.b2.2.1; have c1 := hW.to1.b2.2.2.1; replace hW := Lib.hid hW; go_simp; try rfl
  case z3 =>
  simp only [Act.put, List.setIfInBounds_toArray, List.set_cons_succ, List.set_cons_zero, List.getElem_toArray, List.getElem_cons_zero, List.getElem_cons_succ]
  refine held_take 5 ?v5 rfl (by kernel_rfl) (by kernel_rfl) (by kernel_rfl) (fun _ _ _ _ _ h => h) (by kernel_rfl) hS.out ?y5 ?z5
  case y5 => intro W hW; change Sep W _ at hW; have d0 := hW.b2.2.1; have d1 := hW.b2.2.2.1; have c0 := hW.to1.b2.2.1; have c1 := hW.to1.b2.2.2.1; replace hW := Lib.hid hW; go_simp; try rfl
  case z5 =>
  simp only [Act.put, List.setIfInBounds_toArray, List.set_cons_succ, List.set_cons_zero, List.getElem_toArray, List.getElem_cons_zero, List.getElem_cons_succ]
  refine held_take 6 ?v6 rfl (by kernel_rfl) (by kernel_rfl) (by kernel_rfl) (fun _ _ _ _ _ h => h) (by kernel_rfl) hS.out ?y6 ?z6
  case y6 => intro W hW; change Sep W _ at hW; have d0 := hW.b2.2.1; have d1 := hW.b2.2.2.1; have c0 := hW.to1.b2.2.1; have c1 := hW.to1.b2.2.2.1; replace hW := Lib.hid hW; go_simp; try rfl
  case z6 =>
  simp only [Act.put, List.setIfInBounds_toArray, List.set_cons_succ, List.set_cons_zero, List.getElem_toArray, List.getElem_cons_zero, List.getElem_cons_succ]
  refine held_take 7 ?v7 rfl (by kernel_rfl) (by kernel_rfl) (by kernel_rfl) (fun _ _ _ _ _ h => h) (by kernel_rfl) hS.out ?y7 ?z7
  case y7 => intro W hW; change Sep W _ at hW; have d0 := hW.b2.2.1; have d1 := hW.b2.2.2.1; have c0 := hW.to1.b2.2.1; have c1 := hW.to1.b2.2.2.1; replace hW := Lib.hid hW; go_simp; try rfl
  case z7 =>
  simp only [Act.put, List.setIfInBounds_toArray, List.set_cons_succ, List.set_cons_zero, List.getElem_toArray, List.getElem_cons_zero, List.getElem_cons_succ]
  refine held_take 8 ?v8 rfl (by kernel_rfl) (by kernel_rfl) (by kernel_rfl) (fun _ _ _ _ _ h => h) (by kernel_rfl) hS.out ?y8 ?z8
  case y8 => intro W hW; change Sep W _ at hW; have d0 := hW.b2.2.1; have d1 := hW.b2.2.2.1; have c0 := hW.to1.b2.2.1; have c1 := hW.to1.b2.2.2.1; replace hW := Lib.hid hW; go_simp; try rfl
  case z8 =>
  simp only [Act.put, List.setIfInBounds_toArray, List.set_cons_succ, List.set_cons_zero, List.getElem_toArray, List.getElem_cons_zero, List.getElem_cons_succ]
  refine held_one 4 (by kernel_rfl) rfl (by kernel_rfl) (fun K hK => ?_)
  go_simp
  refine (compareI_any _ _ _).mono ?_
  rintro e w1 ⟨rfl, rfl⟩
  refine hK.out _ _ hS.out ?_
  clear hK K
  try simp only [Act.put, List.setIfInBounds_toArray, List.set_cons_succ, List.set_cons_zero, List.getElem_toArray, List.getElem_cons_zero, List.getElem_cons_succ]
  refine held_one 9 (by kernel_rfl) rfl (by kernel_rfl) (fun K hK => ?_)
  go_simp
  refine (compareI_any _ _ _).mono ?_
  rintro e w1 ⟨rfl, rfl⟩
  refine hK.out _ _ hS.out ?_
  clear hK K
  try simp only [Act.put, List.setIfInBounds_toArray, List.set_cons_succ, List.set_cons_zero, List.getElem_toArray, List.getElem_cons_zero, List.getElem_cons_succ]
  refine held_one 10 (by kernel_rfl) rfl (by kernel_rfl) (fun K hK => ?_)
  go_simp
  have hB := Lib.hid (hS.out.alloc #[.int .i64 (cmpI t t'), .int .i64 (cmpI r r')] 3)
  replace hS := Lib.hid (show Sep _ _ from hB.out.tail)
  obtain ⟨zb, b0, b1, _⟩ := hB.out.b2
  refine hK.out _ _ hS.out ?_
  clear hK K
  try simp only [Act.put, List.setIfInBounds_toArray, List.set_cons_succ, List.set_cons_zero, List.getElem_toArray, List.getElem_cons_zero, List.getElem_cons_succ]
  refine held_one 11 (by kernel_rfl) rfl (by kernel_rfl) (fun K hK => ?_)
  go_simp
  refine (or_any _ _ _ _ b0 b1).mono ?_
  rintro e w2 ⟨rfl, rfl⟩
  refine hK.out _ _ hS.out ?_
  clear hK K
  try simp only [Act.put, List.setIfInBounds_toArray, List.set_cons_succ, List.set_cons_zero, List.getElem_toArray, List.getElem_cons_zero, List.getElem_cons_succ]
  refine held_take 12 ?v12 rfl (by kernel_rfl) (by kernel_rfl) (by kernel_rfl) (fun _ _ _ _ _ h => h) (by kernel_rfl) hS.out ?y12 ?z12
  case y12 => intro W hW; change Sep W _ at hW; have d0 := hW.b2.2.1; have d1 := hW.b2.2.2.1; have c0 := hW.to1.b2.2.1; have c1 := hW.to1.b2.2.2.1; replace hW := Lib.hid hW; go_simp; try rfl
  case z12 =>
  simp only [Act.put, List.setIfInBounds_toArray, List.set_cons_succ, List.set_cons_zero, List.getElem_toArray, List.getElem_cons_zero, List.getElem_cons_succ]
  refine wpAnyH_done (by kernel_rfl) ?_ _
  go_wp2_with fail
  go_ret
  exact ⟨by rw [E.out]; rfl, hS.out.tail.tail.gold⟩
-- NEXT
end Go.Proofs.YtiaibmabmholaaaDoor
