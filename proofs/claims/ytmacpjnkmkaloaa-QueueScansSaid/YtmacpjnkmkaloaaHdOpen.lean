/-
  How a head comes in as an argument. No condition.
-/
import Derived.Test.YtmacpjnkmkaloaaOpenN
import Derived.Test.YtmacpjnkmkaloaaQView
import Derived.ProofKit
import Derived.OpenShut
import Derived.Lib.SmallJoins
import Derived.Deep.Strs
namespace Go.Proofs.Ytmacpjnkmkaloaa
open Go.RowKit Go.ChangeShapes Go.WideShapes Go.Joins Go.Deep
def rqL (z : Nat → Nat → Int) (len : Nat) : List Rq := (List.range len).map fun i => ⟨z i 0, z i 1, z i 2, z i 3, z i 4⟩
theorem rqL_len (z : Nat → Nat → Int) (len : Nat) : (rqL z len).length = len := by simp [rqL]
theorem rq_rows {w : World} {a : Option Addr} {len cap : Nat} {z : Nat → Nat → Int} (h : IsRows 5 w a len cap z) (hn : a = none → cap = 0) : RQ w (.slice a len cap) (rqL z len) := by
  obtain ⟨h1, _, h2⟩ := h
  refine ⟨a, cap, by rw [rqL_len], by rw [rqL_len]; exact h1, hn, fun h0 => ?_⟩
  rw [rqL_len] at h0
  obtain ⟨b, off, ha, hb, hz⟩ := h2 h0
  refine ⟨b, off, ha, hb, fun j hj => ?_⟩
  rw [rqL_len] at hj
  have e : (rqL z len).getD j default = ⟨z j 0, z j 1, z j 2, z j 3, z j 4⟩ := by simp [rqL, List.getD_eq_getElem?_getD, hj]
  rw [e]
  exact ⟨(hz j hj 0 (by omega)).1, (hz j hj 1 (by omega)).1, (hz j hj 2 (by omega)).1, (hz j hj 3 (by omega)).1, (hz j hj 4 (by omega)).1⟩
theorem hd_cells : Try.prog.cellsOf 26 = 4 := by kernel_rfl
theorem hd_cells2 : Try.prog.cellsOf 23 = 2 := by kernel_rfl
theorem hd_cells1 : Try.prog.cellsOf 3 = 1 := by kernel_rfl
theorem hd_cellsS : Try.prog.cellsOf 24 = 1 := by kernel_rfl
theorem hd_cells5 : Try.prog.cellsOf 48 = 5 := by kernel_rfl
section
variable {H : Type} {enc : TypeId × Value → H} {w : World} {base : Nat} {spare : Nat → Bool} {held : Bool}
set_option maxRecDepth 100000 in
theorem head_open {rc : Reach} {b0 : Nat} {v : Value} {d : DataW H} {p : List MemPlace} (hv : Value.okWide Try.prog w rc b0 26 v) (h : DataW.Trod enc Try.prog w base spare held 26 v d p) :
    ∃ (t r n : Int) (a : Option Addr) (m c : Nat) (l : List Rq), v = .agg #[.int .i64 t, .int .i64 r, .slice a m c, .int .i64 n] ∧ RQ w (.slice a m c) l ∧ l.length = m := by
  obtain ⟨cs, rfl, hsz⟩ := okWide_struct Try.underlying26 hv
  obtain ⟨c0, c1, c2, c3, rfl⟩ := array4 (hsz.trans hd_cells)
  obtain ⟨fuel, hf⟩ := h
  obtain ⟨y0, y1, y2, k, _, _, h0, h1, h2⟩ := trod_struct3 Try.underlying26 hf
  have hc : (Value.agg #[c0, c1, c2, c3]).cells.toList = [c0, c1, c2, c3] := rfl
  simp only [hc, hd_cells2, hd_cellsS, hd_cells1, List.drop_zero, List.drop_succ_cons, List.take_succ_cons, List.take_zero, List.take_nil] at h0 h1 h2
  obtain ⟨q0, q1, k0, _, _, g0, g1⟩ := trod_struct2 Try.underlying23 h0
  simp only [hd_cells1, List.drop_zero, List.drop_succ_cons, List.take_succ_cons, List.take_zero, List.take_nil] at g0 g1
  obtain ⟨t, e0, _, _⟩ := DataW.trod_int Try.underlying3 g0
  obtain ⟨r, e1, _, _⟩ := DataW.trod_int Try.underlying3 g1
  obtain ⟨n, e2, _, _⟩ := DataW.trod_int Try.underlying3 h2
  simp at e0 e1 e2
  subst e0 e1 e2
  obtain ⟨a, m, c, rfl⟩ : ∃ a m c, c2 = .slice a m c := by
    rcases open_slice_fields Try.underlying24 Try.underlying48 (by kernel_rfl) hd_cells5 h1 with ⟨hcs, _⟩ | ⟨x, l, c, m, D, Pl, hcs, _⟩
    · exact ⟨none, 0, 0, by simpa using hcs⟩
    · exact ⟨some x, l, c, by simpa using hcs⟩
  have hT : DataW.Trod enc Try.prog w base spare held 24 (.slice a m c) y1.1 y1.2 := ⟨k, by simpa [Value.cells] using h1⟩
  obtain ⟨z, hz⟩ := rows_open Try.underlying24 Try.underlying48 (by kernel_rfl) hd_cells5 (fun j f hj => by match j, hj with | 0, rfl => exact Try.underlying3 | 1, rfl => exact Try.underlying3 | 2, rfl => exact Try.underlying44 | 3, rfl => exact Try.underlying44 | 4, rfl => exact Try.underlying3) (by decide) hT
  exact ⟨t, r, n, a, m, c, rqL z m, rfl, rq_rows hz (rows_nil Try.underlying24 Try.underlying48 (by kernel_rfl) hd_cells5 hT), rqL_len z m⟩
end
end Go.Proofs.Ytmacpjnkmkaloaa
