/-
  How events come in as an argument. No condition.
-/
import Derived.Test.YtechagciefhpbaaFlat
import Derived.Test.YtechagciefhpbaaHEv
namespace Go.Proofs.Ytechagciefhpbaa
open Go.RowKit Go.ChangeShapes Go.WideShapes Go.Deep
theorem ev_leaves : leaves Try.prog 5 43 = some [true, true, false, true, true, true, true, true, true] := by kernel_rfl
theorem ev_cellsOf : Try.prog.cellsOf 43 = 9 := by kernel_rfl
theorem leafB_int {v : Value} (h : leafB true v) : ∃ n, v = .int .i64 n := ⟨h.choose, h.choose_spec.1⟩
theorem leafB_bool {v : Value} (h : leafB false v) : ∃ n, v = .bool n := h
theorem ev_of (cs : List Value) (h : Leafs [true, true, false, true, true, true, true, true, true] cs) : ∃ e : Ev, cs = e.cells ∧ True := by
  obtain ⟨hl, hat⟩ := h
  rcases cs with _ | ⟨c0, _ | ⟨c1, _ | ⟨c2, _ | ⟨c3, _ | ⟨c4, _ | ⟨c5, _ | ⟨c6, _ | ⟨c7, _ | ⟨c8, _ | ⟨c9, cs⟩⟩⟩⟩⟩⟩⟩⟩⟩⟩ <;> simp at hl
  obtain ⟨n0, rfl⟩ := leafB_int (hat 0 true c0 rfl rfl)
  obtain ⟨n1, rfl⟩ := leafB_int (hat 1 true c1 rfl rfl)
  obtain ⟨n2, rfl⟩ := leafB_bool (hat 2 false c2 rfl rfl)
  obtain ⟨n3, rfl⟩ := leafB_int (hat 3 true c3 rfl rfl)
  obtain ⟨n4, rfl⟩ := leafB_int (hat 4 true c4 rfl rfl)
  obtain ⟨n5, rfl⟩ := leafB_int (hat 5 true c5 rfl rfl)
  obtain ⟨n6, rfl⟩ := leafB_int (hat 6 true c6 rfl rfl)
  obtain ⟨n7, rfl⟩ := leafB_int (hat 7 true c7 rfl rfl)
  obtain ⟨n8, rfl⟩ := leafB_int (hat 8 true c8 rfl rfl)
  exact ⟨⟨n0, n1, n2, ⟨n3, n4, n5, n6, n7, n8⟩⟩, rfl, trivial⟩
section
variable {H : Type} {enc : TypeId × Value → H} {w : World} {base : Nat} {spare : Nat → Bool} {held : Bool}
theorem flat_open_Event {a : Option Addr} {len cap : Nat} {d : DataW H} {p : List MemPlace} (h : DataW.Trod enc Try.prog w base spare held 22 (.slice a len cap) d p) :
    ∃ l : List Ev, l.length = len ∧ RL w (.slice a len cap) 9 len (ecells l) ∧ cap ≤ maxLen ∧ ∀ x ∈ l, True :=
  flat_open (ev := Ev.cells) (G := fun _ => True) Try.underlying22 ev_leaves ev_cellsOf (by decide) ev_len ev_of h
end
end Go.Proofs.Ytechagciefhpbaa
