/-
  Undo: the chapter's example. No condition.
-/
import Derived.Test.YtidbidalalajbaaSameW
namespace Go.Proofs.Ytidbidalalajbaa
open Go.RowKit
theorem kT_any (t : Int) (w : World) : Calls Try.prog 13 #[.int .i64 t] w fun e w' => e = .returned (.agg #[.int .i64 t, .int .i64 (-1)]) ∧ Below w.heap.size w w' := by
  go_enter Try.func13, Try.ntmps13
  go_wp2_with fail
  refine bodyPost_ret (v := (.agg #[.int .i64 t, .int .i64 (-1)])) (by simp [results, Try.results13, go_sem, *]) rfl ⟨rfl, ?_⟩
  first
    | exact Below.refl _ _
    | exact (Below.refl _ _).alloc (Nat.le_refl _) _
theorem kR_any (t r : Int) (w : World) : Calls Try.prog 10 #[.int .i64 t, .int .i64 r] w fun e w' => e = .returned (.agg #[.int .i64 t, .int .i64 r]) ∧ Below w.heap.size w w' := by
  go_enter Try.func10, Try.ntmps10
  go_wp2_with fail
  refine bodyPost_ret (v := (.agg #[.int .i64 t, .int .i64 r])) (by simp [results, Try.results10, go_sem, *]) rfl ⟨rfl, ?_⟩
  first
    | exact Below.refl _ _
    | exact (Below.refl _ _).alloc (Nat.le_refl _) _
theorem back_nil (s : Option Addr) (w : World) : Calls Try.prog 15 #[.pointer none, .pointer s] w fun e w' => e = .returned (.tuple #[.int .i64 0, .int .i64 1]) ∧ Below w.heap.size w w' := by
  go_enter Try.func15, Try.ntmps15
  go_wp2_with fail
  refine bodyPost_ret (v := .tuple #[.int .i64 0, .int .i64 1]) (by simp [results, Try.results15, go_sem, *]) rfl ⟨rfl, ?_⟩
  exact (Below.refl _ _).alloc (Nat.le_refl _) _
theorem back_sto_nil (l : Addr) (w : World) : Calls Try.prog 15 #[.pointer (some l), .pointer none] w fun e w' => e = .returned (.tuple #[.int .i64 0, .int .i64 1]) ∧ Below w.heap.size w w' := by
  go_enter Try.func15, Try.ntmps15
  go_wp2_with fail
  refine bodyPost_ret (v := .tuple #[.int .i64 0, .int .i64 1]) (by simp [results, Try.results15, go_sem, *]) rfl ⟨rfl, ?_⟩
  exact (Below.refl _ _).alloc (Nat.le_refl _) _
theorem rec01 : isRec (0, 1) = true := by decide
end Go.Proofs.Ytidbidalalajbaa
