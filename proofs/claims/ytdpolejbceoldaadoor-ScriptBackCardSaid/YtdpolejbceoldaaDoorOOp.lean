/-
  How ops and picks come in as arguments: alone, and in slices. No condition.
-/
import Derived.Test.YtdpolejbceoldaaDoorScS
import Derived.Test.YtdpolejbceoldaaDoorFlat
import Derived.ProofKit
import Derived.OpenShut
import Derived.Lib.SmallJoins
import Derived.Deep.Strs
namespace Go.Proofs.YtdpolejbceoldaaDoor
set_option linter.unusedSimpArgs false
set_option linter.unusedVariables false
set_option linter.unnecessarySimpa false
open Go.RowKit Go.ChangeShapes Go.WideShapes Go.Joins Go.Deep
theorem op_leaves : leaves Tryd.prog 5 36 = some [true, true, true, true, true, true] := by kernel_rfl
theorem op_cellsOf : Tryd.prog.cellsOf 36 = 6 := by kernel_rfl
theorem pk_leaves : leaves Tryd.prog 5 47 = some [true, true] := by kernel_rfl
theorem pk_cellsOf : Tryd.prog.cellsOf 47 = 2 := by kernel_rfl
theorem leafB_int {v : Value} (h : leafB true v) : ∃ n, v = .int .i64 n := ⟨h.choose, h.choose_spec.1⟩
theorem op_of (cs : List Value) (h : Leafs [true, true, true, true, true, true] cs) : ∃ e : Oq, cs = oC e ∧ True := by
  obtain ⟨hl, hat⟩ := h
  rcases cs with _ | ⟨c0, _ | ⟨c1, _ | ⟨c2, _ | ⟨c3, _ | ⟨c4, _ | ⟨c5, _ | ⟨c6, cs⟩⟩⟩⟩⟩⟩⟩ <;> simp at hl
  obtain ⟨n0, rfl⟩ := leafB_int (hat 0 true c0 rfl rfl)
  obtain ⟨n1, rfl⟩ := leafB_int (hat 1 true c1 rfl rfl)
  obtain ⟨n2, rfl⟩ := leafB_int (hat 2 true c2 rfl rfl)
  obtain ⟨n3, rfl⟩ := leafB_int (hat 3 true c3 rfl rfl)
  obtain ⟨n4, rfl⟩ := leafB_int (hat 4 true c4 rfl rfl)
  obtain ⟨n5, rfl⟩ := leafB_int (hat 5 true c5 rfl rfl)
  exact ⟨⟨n0, n1, n2, n3, n4, n5⟩, rfl, trivial⟩
theorem pk_of (cs : List Value) (h : Leafs [true, true] cs) : ∃ e : Int × Int, cs = pC e ∧ True := by
  obtain ⟨hl, hat⟩ := h
  rcases cs with _ | ⟨c0, _ | ⟨c1, _ | ⟨c2, cs⟩⟩⟩ <;> simp at hl
  obtain ⟨n0, rfl⟩ := leafB_int (hat 0 true c0 rfl rfl)
  obtain ⟨n1, rfl⟩ := leafB_int (hat 1 true c1 rfl rfl)
  exact ⟨(n0, n1), rfl, trivial⟩
section
variable {H : Type} {enc : TypeId × Value → H} {w : World} {base : Nat} {spare : Nat → Bool} {held : Bool}
theorem flat_open_Op {a : Option Addr} {len cap : Nat} {d : DataW H} {p : List MemPlace} (h : DataW.Trod enc Tryd.prog w base spare held 44 (.slice a len cap) d p) :
    ∃ l : List Oq, l.length = len ∧ RL w (.slice a len cap) 6 len (l.flatMap oC) ∧ cap ≤ maxLen ∧ ∀ x ∈ l, True :=
  flat_open (ev := oC) (G := fun _ => True) Tryd.underlying44 op_leaves op_cellsOf (by decide) oC_len op_of h
theorem flat_open_Pick {a : Option Addr} {len cap : Nat} {d : DataW H} {p : List MemPlace} (h : DataW.Trod enc Tryd.prog w base spare held 26 (.slice a len cap) d p) :
    ∃ l : List (Int × Int), l.length = len ∧ RL w (.slice a len cap) 2 len (l.flatMap pC) ∧ cap ≤ maxLen ∧ ∀ x ∈ l, True :=
  flat_open (ev := pC) (G := fun _ => True) Tryd.underlying26 pk_leaves pk_cellsOf (by decide) pC_len pk_of h
set_option maxRecDepth 100000 in
theorem agg_open_Op {rc : Reach} {b0 : Nat} {v : Value} {d : DataW H} {p : List MemPlace} (hv : Value.okWide Tryd.prog w rc b0 36 v) (h : DataW.Trod enc Tryd.prog w base spare held 36 v d p) : ∃ x : Oq, v = .agg (oC x).toArray := by
  obtain ⟨cs, rfl, hsz⟩ := okWide_struct Tryd.underlying36 hv
  obtain ⟨fuel, hf⟩ := h
  have hL := leaves_spec 5 _ _ _ _ _ op_leaves hf
  obtain ⟨x, hx, _⟩ := op_of _ hL
  refine ⟨x, ?_⟩
  have hc : (Value.agg cs).cells.toList = cs.toList := rfl
  rw [hc] at hx
  congr 1
  apply Array.toList_inj.1
  rw [hx]
set_option maxRecDepth 100000 in
theorem agg_open_Pick {rc : Reach} {b0 : Nat} {v : Value} {d : DataW H} {p : List MemPlace} (hv : Value.okWide Tryd.prog w rc b0 47 v) (h : DataW.Trod enc Tryd.prog w base spare held 47 v d p) : ∃ x : Int × Int, v = .agg (pC x).toArray := by
  obtain ⟨cs, rfl, hsz⟩ := okWide_struct Tryd.underlying47 hv
  obtain ⟨fuel, hf⟩ := h
  have hL := leaves_spec 5 _ _ _ _ _ pk_leaves hf
  obtain ⟨x, hx, _⟩ := pk_of _ hL
  refine ⟨x, ?_⟩
  have hc : (Value.agg cs).cells.toList = cs.toList := rfl
  rw [hc] at hx
  congr 1
  apply Array.toList_inj.1
  rw [hx]
end
end Go.Proofs.YtdpolejbceoldaaDoor
