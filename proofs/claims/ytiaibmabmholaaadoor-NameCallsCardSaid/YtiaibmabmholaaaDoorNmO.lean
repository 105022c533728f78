/-
  How names come in as arguments. No condition.
-/
import Derived.Test.YtiaibmabmholaaaDoorNmC
import Derived.ProofKit
import Derived.OpenShut
import Derived.ChangeSame
import Derived.ChangeOld
import Derived.Lib.SmallJoins
namespace Go.Proofs.YtiaibmabmholaaaDoor
open Go.RowKit Go.ChangeShapes Go.WideShapes Go.Joins
theorem cellsN : Tryd.prog.cellsOf 23 = 2 := by kernel_rfl
section
variable {H : Type} {enc : TypeId × Value → H} {w : World} {base : Nat} {spare : Nat → Bool} {held : Bool}
set_option maxRecDepth 100000 in
theorem nm_open {r : Reach} {b0 : Nat} {v : Value} {d : DataW H} {p : List MemPlace} (hv : Value.okWide Tryd.prog w r b0 23 v) (h : DataW.Trod enc Tryd.prog w base spare held 23 v d p) :
    ∃ t r : Int, v = nm t r ∧ d = .agg [.lit (.int .i64 t), .lit (.int .i64 r)] ∧ p = [] ∧ (Lit.int .i64 t).wf = true ∧ (Lit.int .i64 r).wf = true := by
  obtain ⟨c0, c1, y0, y1, m, rfl, rfl, rfl, hy0, hy1⟩ := open_agg2 Tryd.underlying23 (by kernel_rfl) cellsN hv h
  obtain ⟨a, e0, rfl, wa⟩ := DataW.trod_int Tryd.underlying3 hy0
  obtain ⟨b, e1, rfl, wb⟩ := DataW.trod_int Tryd.underlying3 hy1
  simp at e0 e1
  subst e0 e1
  exact ⟨a, b, rfl, rfl, rfl, wa, wb⟩
set_option maxRecDepth 100000 in
theorem nm_shut {t r : Int} (wa : (Lit.int .i64 t).wf = true) (wb : (Lit.int .i64 r).wf = true) : DataW.Trod enc Tryd.prog w base spare held 23 (nm t r) (.agg [.lit (.int .i64 t), .lit (.int .i64 r)]) [] :=
  shut_agg2 (y0 := (.lit (.int .i64 t), [])) (y1 := (.lit (.int .i64 r), [])) Tryd.underlying23 (by kernel_rfl) cellsN ⟨1, by simp [DataW.trod, Tryd.underlying3, wa]⟩ ⟨1, by simp [DataW.trod, Tryd.underlying3, wb]⟩
end
end Go.Proofs.YtiaibmabmholaaaDoor
