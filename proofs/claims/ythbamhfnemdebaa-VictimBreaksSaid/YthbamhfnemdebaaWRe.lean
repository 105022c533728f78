/-
  The program's Reach. No condition beside a list that can be read.
-/
import Derived.Test.YthbamhfnemdebaaWWo
namespace Go.Proofs.Ythbamhfnemdebaa
open Go.RowKit
theorem tgts_addE (R : List (Int × List Int)) (e : Ed) : (tgts (addE R e)).length = (tgts R).length + 1 := by
  unfold addE
  split
  · simp [tgts]
  · split
    · simp [tgts] <;> omega
    · simp [tgts] <;> omega
theorem tgts_fold : ∀ (S : List Ed) (R : List (Int × List Int)), (tgts (S.foldl addE R)).length = (tgts R).length + S.length
  | [], R => by simp
  | e :: S, R => by
    rw [List.foldl_cons, tgts_fold S, tgts_addE]
    simp only [List.length_cons]
    omega
theorem tgts_nx (L : List Ed) : (tgts (nxL L)).length ≤ L.length := by
  unfold nxL
  rw [tgts_fold]
  have := sdE_len L
  simp only [tgts, List.flatMap_nil, List.length_nil]
  omega
def srI (xs : List Int) : List Int := xs.mergeSort fun x y => decide (x ≤ y)
theorem srI_len (xs : List Int) : (srI xs).length = xs.length := (List.mergeSort_perm xs _).length_eq
end Go.Proofs.Ythbamhfnemdebaa
