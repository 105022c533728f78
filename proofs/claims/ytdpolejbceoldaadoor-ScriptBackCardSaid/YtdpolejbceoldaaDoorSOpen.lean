/-
  How a script comes in as an argument. No condition.
-/
import Derived.Test.YtdpolejbceoldaaDoorOOp
import Derived.Test.YtdpolejbceoldaaDoorScT
namespace Go.Proofs.YtdpolejbceoldaaDoor
set_option linter.unusedSimpArgs false
set_option linter.unusedVariables false
set_option linter.unnecessarySimpa false
open Go.RowKit Go.ChangeShapes Go.WideShapes Go.Joins Go.Deep
theorem sc_cells : Tryd.prog.cellsOf 30 = 6 := by kernel_rfl
theorem sc_cells1 : Tryd.prog.cellsOf 25 = 1 := by kernel_rfl
theorem sc_cells2 : Tryd.prog.cellsOf 26 = 1 := by kernel_rfl
theorem sc_cells3 : Tryd.prog.cellsOf 28 = 4 := by kernel_rfl
theorem sc_cells4 : Tryd.prog.cellsOf 44 = 1 := by kernel_rfl
theorem cp_leaves : leaves Tryd.prog 5 28 = some [true, true, true, true] := by kernel_rfl
section
variable {H : Type} {enc : TypeId × Value → H} {w : World} {base : Nat} {spare : Nat → Bool} {held : Bool}
theorem opsC_open {n : Nat} {cs : List Value} {D : DataW H × List MemPlace} (h : DataW.trod enc Tryd.prog w base spare held n 44 cs = some D) : ∃ (y : Value) (l : List Oq), cs = [y] ∧ RL w y 6 l.length (l.flatMap oC) := by
  obtain ⟨a, m, c, rfl⟩ : ∃ a m c, cs = [.slice a m c] := by
    rcases open_slice Tryd.underlying44 h with ⟨hcs, _⟩ | ⟨x, l, c, m', n, D, Pl, hcs, _⟩
    · exact ⟨none, 0, 0, by simpa using hcs⟩
    · exact ⟨some x, l, c, by simpa using hcs⟩
  have hT : DataW.Trod enc Tryd.prog w base spare held 44 (.slice a m c) D.1 D.2 := ⟨n, by simpa [Value.cells] using h⟩
  obtain ⟨l, hl, hr, _⟩ := flat_open_Op hT
  exact ⟨_, l, rfl, by rw [hl]; exact hr⟩
theorem ths_open {a : Option Addr} {len cap : Nat} {d : DataW H} {p : List MemPlace} (h : DataW.Trod enc Tryd.prog w base spare held 25 (.slice a len cap) d p) :
    ∃ (vs : List Value) (L : List (List Oq)), vs.length = len ∧ L.length = len ∧ RL w (.slice a len cap) 1 len vs ∧ ∀ k, k < len → RL w (vs.getD k undef) 6 (L.getD k []).length ((L.getD k []).flatMap oC) := by
  obtain ⟨fuel, hf⟩ := h
  rcases open_slice Tryd.underlying25 hf with ⟨hcs, _⟩ | ⟨x, l, c, m', n, D, Pl, hcs, hb, hl, hm, hmm, hx, hi⟩
  · simp [Value.cells] at hcs
    obtain ⟨rfl, rfl, rfl⟩ := hcs
    exact ⟨[], [], rfl, rfl, RL.nil w _, fun k hk => absurd hk (by omega)⟩
  · simp [Value.cells] at hcs
    obtain ⟨rfl, rfl, rfl⟩ := hcs
    have hlm : len ≤ m' := by rw [hmm]; split <;> omega
    have key : ∀ i, i < len → ∃ (y : Value) (l : List Oq), RL w y 6 l.length (l.flatMap oC) ∧ w.cell? (x.add i) = some y := by
      intro i hi'
      obtain ⟨cs', hc, ht'⟩ := hi i (by omega)
      rw [sc_cells4, Nat.mul_one] at hc
      obtain ⟨y, l, rfl, hy⟩ := opsC_open ht'
      obtain ⟨_, hcl, hat⟩ := World.cells?_some hc
      have := hat 0 (by simp)
      rw [Go.Deep.add_add, Nat.add_zero] at this
      exact ⟨y, l, hy, this⟩
    have hpick : ∀ k, k ≤ len → ∃ (vs : List Value) (L : List (List Oq)), vs.length = k ∧ L.length = k ∧ ∀ i, i < k → RL w (vs.getD i undef) 6 (L.getD i []).length ((L.getD i []).flatMap oC) ∧ w.cell? (x.add i) = some (vs.getD i undef) := by
      intro k
      induction k with
      | zero => exact fun _ => ⟨[], [], rfl, rfl, fun i hi => absurd hi (by omega)⟩
      | succ k ih =>
        intro hk'
        obtain ⟨vs, L, h1, h2, h3⟩ := ih (by omega)
        obtain ⟨y, l, hy1, hy2⟩ := key k (by omega)
        refine ⟨vs ++ [y], L ++ [l], by simp [h1], by simp [h2], fun i hi => ?_⟩
        rcases Nat.lt_or_ge i k with g | g
        · have e1 : (vs ++ [y]).getD i undef = vs.getD i undef := by simp [List.getD, List.getElem?_append_left (show i < vs.length by omega)]
          have e2 : (L ++ [l]).getD i [] = L.getD i [] := by simp [List.getD, List.getElem?_append_left (show i < L.length by omega)]
          rw [e1, e2]
          exact h3 i g
        · obtain rfl : i = k := by omega
          have e1 : (vs ++ [y]).getD i undef = y := by rw [← h1]; simp [List.getD]
          have e2 : (L ++ [l]).getD i [] = l := by rw [← h2]; simp [List.getD]
          rw [e1, e2]
          exact ⟨hy1, hy2⟩
    obtain ⟨vs, L, h1, h2, h3⟩ := hpick len (Nat.le_refl _)
    refine ⟨vs, L, h1, h2, ⟨by rw [h1, Nat.mul_one], some x, cap, rfl, hl, (fun h => by cases h), fun h0 => ?_⟩, fun k hk => (h3 k hk).1⟩
    obtain ⟨b, off, sp⟩ := x
    have hc := (h3 0 h0).2
    have hsp : sp = none := by simpa [Addr.add] using World.cell?_spot hc
    subst hsp
    refine ⟨b, off, rfl, by simpa [Addr.add] using World.block_lt_of_cell? _ _ hc, fun j u hu => ?_⟩
    have hj : j < len := by rw [← h1]; exact (List.getElem?_eq_some_iff.1 hu).1
    have := (h3 j hj).2
    rw [Addr.add_lit] at this
    rw [this, List.getD_eq_getElem?_getD, hu]
    rfl
set_option maxRecDepth 100000 in
theorem sc_open {rc : Reach} {b0 : Nat} {v : Value} {d : DataW H} {p : List MemPlace} (hv : Value.okWide Tryd.prog w rc b0 30 v) (h : DataW.Trod enc Tryd.prog w base spare held 30 v d p) :
    ∃ (tv pv : Value) (S : Sc) (vs : List Value), v = .agg #[tv, pv, .int .i64 S.c0, .int .i64 S.c1, .int .i64 S.c2, .int .i64 S.c3] ∧ scR w tv pv S vs := by
  obtain ⟨cs, rfl, hsz⟩ := okWide_struct Tryd.underlying30 hv
  obtain ⟨c0, c1, c2, c3, c4, c5, rfl⟩ : ∃ c0 c1 c2 c3 c4 c5, cs = #[c0, c1, c2, c3, c4, c5] := by
    have h6 := hsz.trans sc_cells
    obtain ⟨l⟩ := cs
    simp at h6
    rcases l with _ | ⟨a0, _ | ⟨a1, _ | ⟨a2, _ | ⟨a3, _ | ⟨a4, _ | ⟨a5, _ | ⟨a6, l⟩⟩⟩⟩⟩⟩⟩ <;> simp at h6
    exact ⟨a0, a1, a2, a3, a4, a5, rfl⟩
  obtain ⟨fuel, hf⟩ := h
  obtain ⟨y0, y1, y2, k, _, _, h0, h1, h2⟩ := trod_struct3 Tryd.underlying30 hf
  have hc : (Value.agg #[c0, c1, c2, c3, c4, c5]).cells.toList = [c0, c1, c2, c3, c4, c5] := rfl
  simp only [hc, sc_cells1, sc_cells2, sc_cells3, List.drop_zero, List.drop_succ_cons, List.take_succ_cons, List.take_zero, List.take_nil] at h0 h1 h2
  obtain ⟨hl, hat⟩ := leaves_spec 5 _ _ _ _ _ cp_leaves h2
  obtain ⟨n0, rfl⟩ := leafB_int (hat 0 true c2 rfl rfl)
  obtain ⟨n1, rfl⟩ := leafB_int (hat 1 true c3 rfl rfl)
  obtain ⟨n2, rfl⟩ := leafB_int (hat 2 true c4 rfl rfl)
  obtain ⟨n3, rfl⟩ := leafB_int (hat 3 true c5 rfl rfl)
  obtain ⟨a, m, c, rfl⟩ : ∃ a m c, c0 = .slice a m c := by
    rcases open_slice Tryd.underlying25 h0 with ⟨hcs, _⟩ | ⟨x, l, c, m', n, D, Pl, hcs, _⟩
    · exact ⟨none, 0, 0, by simpa using hcs⟩
    · exact ⟨some x, l, c, by simpa using hcs⟩
  obtain ⟨a', m', c', rfl⟩ : ∃ a m c, c1 = .slice a m c := by
    rcases open_slice Tryd.underlying26 h1 with ⟨hcs, _⟩ | ⟨x, l, c, m', n, D, Pl, hcs, _⟩
    · exact ⟨none, 0, 0, by simpa using hcs⟩
    · exact ⟨some x, l, c, by simpa using hcs⟩
  have hT : DataW.Trod enc Tryd.prog w base spare held 25 (.slice a m c) y0.1 y0.2 := ⟨k, by simpa [Value.cells] using h0⟩
  have hP : DataW.Trod enc Tryd.prog w base spare held 26 (.slice a' m' c') y1.1 y1.2 := ⟨k, by simpa [Value.cells] using h1⟩
  obtain ⟨vs, L, e1, e2, e3, e4⟩ := ths_open hT
  obtain ⟨pl, f1, f2, _⟩ := flat_open_Pick hP
  subst e2
  subst f1
  exact ⟨_, _, ⟨L, pl, n0, n1, n2, n3⟩, vs, rfl, ⟨e1, e3, e4, f2⟩⟩
end
end Go.Proofs.YtdpolejbceoldaaDoor
