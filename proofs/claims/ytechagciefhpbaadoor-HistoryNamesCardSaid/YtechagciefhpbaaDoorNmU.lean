/-
  Contracts of the package name: Under. No condition.
-/
import Derived.Test.YtechagciefhpbaaDoorNmI
import Derived.Test.YtechagciefhpbaaDoorHeld
namespace Go.Proofs.YtechagciefhpbaaDoor
set_option linter.unusedSimpArgs false
set_option linter.unusedVariables false
set_option linter.unnecessarySimpa false
open Go.RowKit
theorem box2 (w : World) (t r t' r' : Int) : Sep ((w.alloc (.cells #[Value.int .i64 (t), Value.int .i64 (r)] 26)).alloc (.cells #[Value.int .i64 (t'), Value.int .i64 (r')] 26)) [blk (w.heap.size + 1) 26 #[Value.int .i64 (t'), Value.int .i64 (r')], blk w.heap.size 26 #[Value.int .i64 (t), Value.int .i64 (r)], old w] := by
  have := ((Sep.start w).alloc #[Value.int .i64 (t), Value.int .i64 (r)] 26).alloc #[Value.int .i64 (t'), Value.int .i64 (r')] 26
  simpa only [World.size_alloc] using this
/-- The names above one. -/
def ancL (t r : Int) (k : Nat) : List (Int × Int) := ([(-1, -1), (t, -1)] : List (Int × Int)).take k
theorem anc_RN {w w0 : World} {g k : Nat} {t r : Int} (hk : AncK t r k) (h : Sep w [blk g 26 #[.int .i64 (-1), .int .i64 (-1), .int .i64 t, .int .i64 (-1)], old w0]) : RN w (.slice (some ⟨g, 0, none⟩) k 2) (ancL t r k) := by
  have h2 := hk.lt
  obtain ⟨z, c0, c1, c2, c3, _⟩ := h.b4
  have hl : (ancL t r k).length = k := by simp [ancL]; omega
  refine ⟨_, 2, by rw [hl], fun h0 => ⟨g, 0, rfl, z, fun j hj => ?_⟩⟩
  rw [hl] at hj
  have : k = 1 ∨ k = 2 := by omega
  rcases this with rfl | rfl
  · obtain rfl : j = 0 := by omega
    exact ⟨c0, c1⟩
  · have : j = 0 ∨ j = 1 := by omega
    rcases this with rfl | rfl
    · exact ⟨c0, c1⟩
    · exact ⟨c2, c3⟩
theorem und_anc {t r t' r' : Int} {k : Nat} (hk : AncK t r k) (h1 : lv t r ≠ -1) (h2 : ¬(t = t' ∧ r = r')) : (ancL t r k).any (isN t' r') = undB t r t' r' := by
  have hs := lv_spec t r
  unfold AncK at hk
  rw [if_neg h1] at hk
  rw [Bool.eq_iff_iff]
  rcases hs with ⟨a1, a2, a3⟩ | ⟨a1, a2, a3, a4⟩ | ⟨a1, a2, a3, a4, a5⟩ | ⟨a1, _⟩
  · obtain rfl : k = 0 := by omega
    simp [ancL, undB]
    omega
  · obtain rfl : k = 1 := by omega
    simp [ancL, undB, isN, nmB]
    omega
  · obtain rfl : k = 2 := by omega
    simp [ancL, undB, isN, nmB]
    omega
  · exact absurd a1 h1
end Go.Proofs.YtechagciefhpbaaDoor
