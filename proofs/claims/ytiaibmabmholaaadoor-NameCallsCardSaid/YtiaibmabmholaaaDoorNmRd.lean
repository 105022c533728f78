/-
  What the parts of a name's text read as: cut at '.r', numbers of one or two digits. No condition.
-/
import Derived.Test.YtiaibmabmholaaaDoorNmV
import Derived.Lib.AtoiAll
import Derived.Lib.IndexMore
namespace Go.Proofs.YtiaibmabmholaaaDoor
open Go.RowKit
theorem cut_two {t r : Nat} (ht : t < 100) (hr : r < 100) : Go.Lib.cut (dg t ++ [46, 114] ++ dg r) [46, 114] = (dg t, dg r, true) := by
  have h : ((List.range 100).all fun t => (List.range 100).all fun r => decide (Go.Lib.cut (dg t ++ [46, 114] ++ dg r) [46, 114] = (dg t, dg r, true))) = true := by kernel_rfl
  exact of_decide_eq_true (List.all_eq_true.1 (List.all_eq_true.1 h t (List.mem_range.2 ht)) r (List.mem_range.2 hr))
theorem cut_one {t : Nat} (ht : t < 100) : Go.Lib.cut (dg t) [46, 114] = (dg t, [], false) := by
  have h : ((List.range 100).all fun t => decide (Go.Lib.cut (dg t) [46, 114] = (dg t, [], false))) = true := by kernel_rfl
  exact of_decide_eq_true (List.all_eq_true.1 h t (List.mem_range.2 ht))
theorem atoi_dg {n : Nat} (hn : n < 100) : Go.Lib.atoiAll (dg n) = .ok (n : Int) := by
  have h : ((List.range 100).all fun n => decide (Go.Lib.atoiAll (dg n) = .ok (n : Int))) = true := by kernel_rfl
  exact of_decide_eq_true (List.all_eq_true.1 h n (List.mem_range.2 hn))
end Go.Proofs.YtiaibmabmholaaaDoor
