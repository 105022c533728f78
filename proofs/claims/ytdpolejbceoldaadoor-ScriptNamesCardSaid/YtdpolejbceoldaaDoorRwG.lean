/-
  Many slices as one part of memory: a list of slices of one kind, each with its own cells; one of them taken out and put back. No condition.
-/
import Derived.Test.YtdpolejbceoldaaDoorSep
namespace Go.Proofs.YtdpolejbceoldaaDoor
set_option linter.unusedSimpArgs false
set_option linter.unusedVariables false
set_option linter.unnecessarySimpa false
open Go.RowKit
/-- A slice's value, its length, its cells. -/
abbrev Rw := Value × Nat × List Value
def nilRw : Rw := (.slice none 0 0, 0, [])
def rowsG (e : TypeId) (size : Nat) : List Rw → Res
  | [] => prop True
  | r :: rs => star (vec e size r.1 r.2.1 r.2.2) (rowsG e size rs)
variable {w : World} {e : TypeId} {size : Nat} {rs : List Res}
theorem Sep.rowsG_nil (h : Sep w rs) : Sep w (rowsG e size [] :: rs) := Sep.gprop.2 ⟨trivial, h⟩
theorem Sep.rowsG_cons {r : Rw} {R : List Rw} (h : Sep w (vec e size r.1 r.2.1 r.2.2 :: rowsG e size R :: rs)) : Sep w (rowsG e size (r :: R) :: rs) := Sep.gstar.2 h
theorem Sep.rowsG_split {r : Rw} {R : List Rw} (h : Sep w (rowsG e size (r :: R) :: rs)) : Sep w (vec e size r.1 r.2.1 r.2.2 :: rowsG e size R :: rs) := Sep.gstar.1 h
/-- The slice i in front; where it was there is none. -/
theorem Sep.rowsG_take : ∀ {R : List Rw} {i : Nat} {rs : List Res}, i < R.length → Sep w (rowsG e size R :: rs) →
    Sep w (vec e size (R.getD i nilRw).1 (R.getD i nilRw).2.1 (R.getD i nilRw).2.2 :: rowsG e size (R.set i nilRw) :: rs)
  | [], _, _, hi, _ => by simp at hi
  | r :: R, 0, rs, _, h => by
    have h2 := h.rowsG_split.vec_nil e size
    exact ((h2.to2.to1).rowsG_cons (r := nilRw)).to1
  | r :: R, i + 1, rs, hi, h => by
    have h2 := Sep.rowsG_take (i := i) (by simpa using hi) h.rowsG_split.to1
    exact (h2.to2.to1.to2.to2.rowsG_cons).to1
/-- A slice put in the place of the slice i. -/
theorem Sep.rowsG_put (n : Rw) : ∀ {R : List Rw} {i : Nat} {rs : List Res}, i < R.length → Sep w (vec e size n.1 n.2.1 n.2.2 :: rowsG e size R :: rs) → Sep w (rowsG e size (R.set i n) :: rs)
  | [], _, _, hi, _ => by simp at hi
  | r :: R, 0, rs, _, h => (h.to1.rowsG_split.tail.to1).rowsG_cons
  | r :: R, i + 1, rs, hi, h => by
    have h2 := h.to1.rowsG_split
    have h3 := Sep.rowsG_put n (i := i) (rs := vec e size r.1 r.2.1 r.2.2 :: rs) (by simpa using hi) h2.to2.to2.to1
    exact (h3.to1).rowsG_cons
theorem Sep.rowsG_app : ∀ {R S : List Rw} {rs : List Res}, Sep w (rowsG e size R :: rowsG e size S :: rs) → Sep w (rowsG e size (R ++ S) :: rs)
  | [], _, _, h => h.tail
  | r :: R, S, rs, h => by
    have h2 := h.rowsG_split
    have h3 := Sep.rowsG_app (R := R) (S := S) (rs := vec e size r.1 r.2.1 r.2.2 :: rs) h2.to2.to2
    exact h3.to1.rowsG_cons
theorem Sep.rowsG_nils : ∀ (k : Nat) {rs : List Res}, Sep w rs → Sep w (rowsG e size (List.replicate k nilRw) :: rs)
  | 0, _, h => h.rowsG_nil
  | k + 1, _, h => ((Sep.rowsG_nils k h).vec_nil e size).rowsG_cons (r := nilRw)
/-- So many empty slices more. -/
theorem Sep.rowsG_grow (k : Nat) {R : List Rw} (h : Sep w (rowsG e size R :: rs)) : Sep w (rowsG e size (R ++ List.replicate k nilRw) :: rs) := (Sep.rowsG_nils k h).to1.rowsG_app
end Go.Proofs.YtdpolejbceoldaaDoor
