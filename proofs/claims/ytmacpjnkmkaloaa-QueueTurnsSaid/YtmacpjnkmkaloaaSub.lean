/-
  Pieces of a function's code, by their place. No condition.
-/
import Derived.Test.YtmacpjnkmkaloaaSep
namespace Go.Proofs.Ytmacpjnkmkaloaa
open Go.RowKit
/-- The piece at a place: 0 the first part of a sequence, a choice's first arm, what a block, a loop, a scope holds; 1 the second. -/
def subC : Code → List Nat → Code
  | c, [] => c
  | .seq a _, 0 :: p => subC a p
  | .seq _ b, _ :: p => subC b p
  | .cond _ a _, 0 :: p => subC a p
  | .cond _ _ b, _ :: p => subC b p
  | .block _ b, _ :: p => subC b p
  | .loop b, _ :: p => subC b p
  | .scope b, _ :: p => subC b p
  | .rangeFunc _ _ a _, 0 :: p => subC a p
  | .rangeFunc _ _ _ b, _ :: p => subC b p
  | _, _ :: _ => .skip
def subF (f : Func) (p : List Nat) : Code := subC (f.body.getD .skip) p
end Go.Proofs.Ytmacpjnkmkaloaa
