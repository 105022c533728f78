/-
  The store's calls at nil. No condition.
-/
import Derived.Test.YtbpeajcfabjphaaSLv
import Derived.Test.YtbpeajcfabjphaaSDl
namespace Go.Proofs.Ytbpeajcfabjphaa
open Go.RowKit
theorem kDB_any (w : World) : Calls Try.prog 22 #[] w fun e w' => e = .returned (.agg #[.int .i64 (-1), .int .i64 (-1)]) ∧ Below w.heap.size w w' := by
  go_enter Try.func22, Try.ntmps22
  go_wp2_with fail
  refine bodyPost_ret (v := (.agg #[.int .i64 (-1), .int .i64 (-1)])) (by simp [results, Try.results22, go_sem, *]) rfl ⟨rfl, ?_⟩
  first
    | exact Below.refl _ _
    | exact (Below.refl _ _).alloc (Nat.le_refl _) _
set_option maxHeartbeats 2000000 in
theorem was_nil (t r : Int) (w : World) (rs : List Res) (hS : Sep w rs) :
    Calls Try.prog 33 #[.pointer none, (.agg #[.int .i64 t, .int .i64 r])] w fun e w' => e = .returned (.tuple #[was0, .int .i64 1]) ∧ Sep w' rs := by
  have hB := Lib.hid (was_boxes w t r hS)
  clear hS
  obtain ⟨_, e0, e1, e2, e3, f0, f1, f2, f3⟩ := hB.out.b4
  go_enter Try.func33, Try.ntmps33
  go_wp2_with fail
  refine bodyPost_ret (v := .tuple #[was0, .int .i64 1]) (by simp [results, Try.results33, go_sem, was0, *]) rfl ⟨rfl, ?_⟩
  exact hB.out.tail.tail
set_option maxHeartbeats 4000000 in
set_option maxRecDepth 100000 in
theorem put_nil (t r : Int) (v : Int) (w : World) (rs : List Res) (hS : Sep w rs) :
    Calls Try.prog 9 #[.pointer none, (.agg #[.int .i64 t, .int .i64 r]), .int .i64 v] w fun e w' => e = .returned (.tuple #[was0, .int .i64 1]) ∧ Sep w' rs := by
  have HW := Lib.hid (fun W rs' hS' => was_nil t r W rs' hS')
  have hB := Lib.hid (was_boxes w t r hS)
  clear hS
  obtain ⟨_, d0, d1, _⟩ := hB.out.to1.b2
  go_enter Try.func9, Try.ntmps9
  go_wp2_with fail
  refine (HW.out _ _ hB.out).mono ?_
  rintro e w1 ⟨rfl, q⟩
  have hC := Lib.hid (q.alloc #[.int .i64 0, .int .i64 0, .int .i64 0, .bool false] 31)
  unfold was0
  clear q HW d0 d1 hB
  obtain ⟨_, v0, v1, v2, v3, _⟩ := hC.out.b4
  obtain ⟨_, e0, e1, e2, e3, f0, f1, f2, f3⟩ := hC.out.to1.b4
  obtain ⟨_, d0, d1, _⟩ := hC.out.to2.b2
  have hZ := Lib.hid ((((hC.out.to1.set 0 (.int .i64 0)).set 1 (.int .i64 0)).set 2 (.int .i64 0)).set 3 (.bool false))
  go_wp2_with fail
  refine bodyPost_ret (v := .tuple #[.agg #[.int .i64 0, .int .i64 0, .int .i64 0, .bool false], .int .i64 1]) (by simp [results, Try.results9, go_sem, *]) rfl ⟨rfl, ?_⟩
  exact hZ.out.tail.tail.tail
theorem len_nil (w : World) : Calls Try.prog 20 #[.pointer none] w fun e w' => e = .returned (.int .i64 0) ∧ w = w' := by
  go_enter Try.func20, Try.ntmps20
  go_wp2_with fail
  refine (all_nil _).mono ?_
  rintro e w1 ⟨rfl, rfl⟩
  go_wp2_with fail
  go_ret
  exact ⟨rfl, rfl⟩
theorem clone_nil (w : World) : Calls Try.prog 24 #[.pointer none] w fun e w' => e = .returned (.pointer none) ∧ w = w' := by
  go_enter Try.func24, Try.ntmps24
  go_wp2_with fail
  go_ret
  exact ⟨rfl, rfl⟩
theorem rl_none (w : World) : RL w (.slice none 0 0) 3 0 (([] : Ent).flatMap rowC) := by
  refine ⟨rfl, _, _, rfl, Nat.le_refl _, (fun _ => rfl), fun h => absurd h (by decide)⟩
/-- Nothing, and an empty store. -/
theorem same_nil (p : Nat) (w : World) (rs : List Res) (hS : Sep w (stX p [] :: rs)) :
    Calls Try.prog 11 #[.pointer none, .pointer (some ⟨p, 0, none⟩)] w fun e w' => e = .returned (.bool true) ∧ Sep w' (stX p [] :: rs) := by
  have HA' := Lib.hid (fun W rs' hW => all_x p [] W rs' hW (by simp))
  have HQ := Lib.hid (fun u v W hu hv => equal_row u v [] (srtE []) W (by simp) hu hv)
  have h0 : srtE [] = [] := (srtE_uniq (by unfold NodupL; decide) (List.Perm.refl _) List.Pairwise.nil).symm
  rw [h0] at HA' HQ
  rw [decide_eq_true rfl] at HQ
  simp only [List.length_nil] at HA' HQ
  go_enter Try.func11, Try.ntmps11
  go_wp2_with fail
  refine (all_nil _).mono ?_
  rintro e w1 ⟨rfl, rfl⟩
  go_wp2_with fail
  refine (HA'.out _ _ hS).mono ?_
  rintro e w2 ⟨a', c', rfl, q2⟩
  replace q2 := Lib.hid q2
  go_wp2_with fail
  refine (HQ.out _ _ _ (rl_none _) q2.out.vec_rl).mono ?_
  rintro e w3 ⟨rfl, hb⟩
  replace q2 := Lib.hid (q2.out.below hb)
  go_wp2_with fail
  go_ret
  exact ⟨rfl, q2.out.tail⟩
end Go.Proofs.Ytbpeajcfabjphaa
