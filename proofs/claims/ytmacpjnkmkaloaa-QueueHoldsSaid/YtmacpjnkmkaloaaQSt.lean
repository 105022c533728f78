/-
  The head behind so many calls. No condition.
-/
import Derived.Test.YtmacpjnkmkaloaaQDo
namespace Go.Proofs.Ytmacpjnkmkaloaa
open Go.RowKit
/-- The head behind k calls. -/
def stK (z : Nat → Nat → Int) : Nat → List Rq × Int
  | 0 => ([], 0)
  | k + 1 => doV (stK z k) ⟨z k 0 % 4, z k 1, z k 2, z k 3⟩
theorem stK_ord (z : Nat → Nat → Int) : ∀ k, k ≤ 40 → Ord (stK z k).2 (stK z k).1 ∧ (stK z k).2 ≤ k ∧ (stK z k).1.length ≤ k
  | 0, _ => ⟨ord_nil, Int.le_refl _, Nat.le_refl _⟩
  | k + 1, h => by
    obtain ⟨h1, h2, h3⟩ := stK_ord z k (by omega)
    have := ord_do (l := (stK z k).1) (n := (stK z k).2) ⟨z k 0 % 4, z k 1, z k 2, z k 3⟩ h1 (by omega)
    refine ⟨this.1, ?_, ?_⟩
    · have h4 := this.2.1
      show (doV (stK z k) _).2 ≤ ((k + 1 : Nat) : Int)
      have h5 : (doV (stK z k) ⟨z k 0 % 4, z k 1, z k 2, z k 3⟩).2 ≤ (stK z k).2 + 1 := h4
      omega
    · have h4 := this.2.2
      show (doV (stK z k) _).1.length ≤ k + 1
      have h5 : (doV (stK z k) ⟨z k 0 % 4, z k 1, z k 2, z k 3⟩).1.length ≤ (stK z k).1.length + 1 := h4
      omega
theorem Sep.two {w w' : World} {a b : Res} {rs : List Res} (h : Sep w' [a, b, old w]) (k : Sep w rs) : Sep w' (a :: b :: rs) := Sep.gstar.1 ((Sep.gstar.2 h).graft k)
theorem do_sep (t r n : Int) (sa : Option Addr) (sc : Nat) (l : List Rq) (k id txn mo : Int) (w : World) (rs : List Res) (hS : Sep w (vq (.slice sa l.length sc) l :: rs)) (hl : l.length ≤ 500) (hO : Ord n l) (hn : n < 4611686018427387904) :
    Calls Try.prog 18 #[hval t r (.slice sa l.length sc) n, .agg #[.int .i64 k, .int .i64 id, .int .i64 txn, .int .i64 mo]] w fun e w' => ∃ a c, e = .returned (hval t r (.slice a (doV (l, n) ⟨k % 4, id, txn, mo⟩).1.length c) (doV (l, n) ⟨k % 4, id, txn, mo⟩).2) ∧ Sep w' (vq (.slice a (doV (l, n) ⟨k % 4, id, txn, mo⟩).1.length c) (doV (l, n) ⟨k % 4, id, txn, mo⟩).1 :: rs) := by
  refine (do_any t r n _ l k id txn mo w hS.vq_rq hl hO hn).mono ?_
  rintro e w' (⟨rfl, hd, hb⟩ | ⟨a, c, rfl, q⟩)
  · rw [hd]
    exact ⟨sa, sc, rfl, hS.below hb⟩
  · exact ⟨a, c, rfl, (q.graft hS).drop1⟩
end Go.Proofs.Ytmacpjnkmkaloaa
