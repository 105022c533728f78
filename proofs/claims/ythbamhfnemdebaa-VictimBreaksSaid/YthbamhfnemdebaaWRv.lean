/-
  The library's Reverse at ints. No condition beside a slice of the call's own that is not empty.
-/
import Derived.Test.YthbamhfnemdebaaWTr
import Derived.Test.YthbamhfnemdebaaWRvL
namespace Go.Proofs.Ythbamhfnemdebaa
open Go.RowKit
theorem revI_any (a : Option Addr) (n c : Nat) (xs : List Int) (w : World) (rs : List Res) (hS : Sep w (vec 3 1 (.slice a n c) n (xs.map (Value.int .i64)) :: rs)) (hl : xs.length = n) (h0 : 0 < n) (hn : n ≤ 1000000) :
    Calls Try.prog 31 #[.slice a n c] w fun e w' => e = .returned (.tuple #[]) ∧ Sep w' (vec 3 1 (.slice a n c) n (xs.reverse.map (Value.int .i64)) :: rs) := by
  obtain ⟨g, rfl⟩ : ∃ g, a = some ⟨g, 0, none⟩ := by
    rcases hS.gvec.2 with ⟨_, h1⟩ | ⟨g, cap, cur, hv, _⟩
    · omega
    · injection hv with e1 _ _
      exact ⟨g, e1⟩
  obtain ⟨hH, hg⟩ := hS.vec_holds1 (Value.int .i64) xs hl
  have hcon := Any.slices_Reverse_int Try.reverseI g 0 c xs w hH (by omega)
  rw [hl] at hcon
  refine Calls.mono (show Calls Try.prog 31 _ w _ from hcon) ?_
  rintro e w' ⟨rfl, m, rfl⟩
  refine ⟨rfl, ?_⟩
  have := hS.vec_row (Value.int .i64) m xs.reverse.toArray #[] (by simpa using hl)
  simpa using this
end Go.Proofs.Ythbamhfnemdebaa
