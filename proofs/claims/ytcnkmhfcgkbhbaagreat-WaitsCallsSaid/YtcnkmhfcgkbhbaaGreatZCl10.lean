/-
  Contracts and plain laws that the walk leans on, part 10. No condition.
-/
import Derived.Test.YtcnkmhfcgkbhbaaGreatZCl9
import Derived.ProofKit
import Derived.OpenShut
import Derived.ShutString
import Derived.ChangeOld
import Derived.ChangeSame
import Derived.Deep.Slices
import Derived.Deep.Fields
import Derived.Lib.SmallJoins
import Derived.Deep.Strs
namespace Go.Proofs.YtcnkmhfcgkbhbaaGreat
open Go.RowKit Go.ChangeShapes Go.WideShapes Go.Deep
section
variable {H : Type} {enc : TypeId × Value → H} {P : Program} {w : World} {base : Nat} {spare : Nat → Bool} {held : Bool}
theorem open_slice_fields {t e : TypeId} {fs : Array Field} {fuel : Nat} {cs : List Value} {x : DataW H × List MemPlace} (ht : P.underlying t = some (.slice e)) (he : P.underlying e = some (.struct fs))
    (hone : oneCellFields P fs = true) (hC : P.cellsOf e = fs.size) (h : DataW.trod enc P w base spare held fuel t cs = some x) :
    (cs = [.slice none 0 0] ∧ x = (.nil, [])) ∨
    ∃ (a : Addr) (len cap m : Nat) (D : Nat → DataW H) (Pl : Nat → List MemPlace), cs = [.slice (some a) len cap] ∧ base ≤ a.block ∧ len ≤ cap ∧ cap ≤ maxLen ∧ m = (if spare a.block then cap else len) ∧
      x = (.slice ((List.range len).map D) ((List.range (m - len)).map fun j => D (len + j)), MemPlace.row a (m * fs.size) ++ (List.range m).flatMap Pl) ∧
      ∀ i, i < m → ∃ (ys : List (DataW H × List MemPlace)) (n : Nat), D i = .agg (ys.map (·.1)) ∧ Pl i = ys.flatMap (·.2) ∧ ys.length = fs.size ∧
        ∀ (j : Nat) (f : Field), fs[j]? = some f → ∃ (v : Value) (y : DataW H × List MemPlace), w.cell? (a.add (i * fs.size + j)) = some v ∧ ys[j]? = some y ∧ DataW.trod enc P w base spare held n f.type [v] = some y := by
  rcases open_slice ht h with h0 | ⟨a, len, cap, m, n, D, Pl, hcs, hb, hl, hm, hmm, hx, hi⟩
  · exact .inl h0
  · refine .inr ⟨a, len, cap, m, D, Pl, hcs, hb, hl, hm, hmm, by rw [hC] at hx; exact hx, fun i him => ?_⟩
    obtain ⟨cs', hc, ht'⟩ := hi i him
    rw [hC] at hc
    obtain ⟨ys, n', hn', hy, hlen, hyl, hf⟩ := DataW.trod_struct he ht'
    obtain ⟨_, hcl, hat⟩ := World.cells?_some hc
    simp only [Prod.mk.injEq] at hy
    refine ⟨ys, n', hy.1, hy.2, hyl, fun j f hj => ?_⟩
    obtain ⟨ho, hk⟩ := hone_of hone j f hj
    have hjl : j < fs.size := (Array.getElem?_eq_some_iff.1 hj).1
    have hcell := hat j hjl
    have hv : cs'[j]? = some (cs'[j]'(by omega)) := List.getElem?_eq_getElem (by omega)
    have h1 := hf j f hj
    rw [ho, hk] at h1
    have hone' : (cs'.drop j).take 1 = [cs'[j]'(by omega)] := by
      rw [List.drop_eq_getElem_cons (by omega)]
      rfl
    rw [hone'] at h1
    have hys : ys[j]? = some (ys[j]'(by omega)) := List.getElem?_eq_getElem (by omega)
    refine ⟨_, _, ?_, hys, h1.trans hys⟩
    rw [← Go.Deep.add_add, hcell, hv]

/-- A slice of structs of ints that came in, as the walks take it. -/
theorem rows_open {t e : TypeId} {fs : Array Field} {a : Option Addr} {len cap : Nat} {d : DataW H} {p : List MemPlace} (ht : P.underlying t = some (.slice e)) (he : P.underlying e = some (.struct fs))
    (hone : oneCellFields P fs = true) (hC : P.cellsOf e = fs.size) (hint : ∀ (j : Nat) (f : Field), fs[j]? = some f → P.underlying f.type = some (.int .i64))
    (hsz : 0 < fs.size) (h : DataW.Trod enc P w base spare held t (.slice a len cap) d p) : ∃ z, IsRows fs.size w a len cap z := by
  obtain ⟨fuel, hf⟩ := h
  rcases open_slice_fields ht he hone hC hf with ⟨hcs, _⟩ | ⟨x, l, c, m, D, Pl, hcs, _, hl, hm, hmm, _, hx⟩
  · simp [Value.cells] at hcs
    obtain ⟨rfl, rfl, rfl⟩ := hcs
    exact ⟨fun _ _ => 0, Nat.le_refl _, by simp [maxLen], fun h => absurd h (by omega)⟩
  · simp [Value.cells] at hcs
    obtain ⟨rfl, rfl, rfl⟩ := hcs
    have hlm : len ≤ m := by rw [hmm]; split <;> omega
    have key : ∀ i, i < len → ∀ j, j < fs.size → ∃ n, w.cell? (x.add (i * fs.size + j)) = some (.int .i64 n) ∧ (Lit.int .i64 n).wf = true := by
      intro i hi j hj
      obtain ⟨ys, n, _, _, _, hfs⟩ := hx i (by omega)
      obtain ⟨v, y, hcell, _, htr⟩ := hfs j fs[j] (Array.getElem?_eq_getElem hj)
      obtain ⟨q, hv, _, hwf⟩ := DataW.trod_int (hint j _ (Array.getElem?_eq_getElem hj)) htr
      injection hv with hv _
      subst hv
      exact ⟨q, hcell, hwf⟩
    refine ⟨fun i j => match w.cell? (x.add (i * fs.size + j)) with | some (.int _ n) => n | _ => 0, hl, hm, fun h0 => ?_⟩
    obtain ⟨n, hc, _⟩ := key 0 h0 0 hsz
    obtain ⟨b, off, sp⟩ := x
    have hsp : sp = none := by simpa [Addr.add] using World.cell?_spot hc
    subst hsp
    refine ⟨b, off, rfl, by simpa [Addr.add] using World.block_lt_of_cell? _ _ hc, fun i hi j hj => ?_⟩
    obtain ⟨q, hq, hwf⟩ := key i hi j hj
    have e : (⟨b, off, none⟩ : Addr).add (i * fs.size + j) = ⟨b, off + i * fs.size + j, none⟩ := by rw [Addr.add_lit]; simp [Nat.add_assoc]
    rw [e] at hq
    simp only [e, hq, true_and]
    exact hwf

end
end Go.Proofs.YtcnkmhfcgkbhbaaGreat
namespace Go.Proofs.YtcnkmhfcgkbhbaaGreat
open Go.RowKit Go.ChangeShapes Go.WideShapes Go.Deep
theorem rows_nil {H : Type} {enc : TypeId × Value → H} {P : Program} {w : World} {base : Nat} {spare : Nat → Bool} {held : Bool} {t e : TypeId} {fs : Array Field} {a : Option Addr} {len cap : Nat} {d : DataW H} {p : List MemPlace} (ht : P.underlying t = some (.slice e)) (he : P.underlying e = some (.struct fs))
    (hone : oneCellFields P fs = true) (hC : P.cellsOf e = fs.size) (h : DataW.Trod enc P w base spare held t (.slice a len cap) d p) : a = none → cap = 0 := by
  obtain ⟨fuel, hf⟩ := h
  rcases open_slice_fields ht he hone hC hf with ⟨hcs, _⟩ | ⟨x, l, c, m, D, Pl, hcs, _⟩
  · simp [Value.cells] at hcs
    obtain ⟨rfl, rfl, rfl⟩ := hcs
    exact fun _ => rfl
  · simp [Value.cells] at hcs
    obtain ⟨rfl, rfl, rfl⟩ := hcs
    intro h
    cases h
end Go.Proofs.YtcnkmhfcgkbhbaaGreat
namespace Go.Proofs.YtcnkmhfcgkbhbaaGreat
open Go.RowKit Go.ChangeShapes Go.WideShapes Go.Joins Go.Deep
def rqL (z : Nat → Nat → Int) (len : Nat) : List Rq := (List.range len).map fun i => ⟨z i 0, z i 1, z i 2, z i 3, z i 4⟩
theorem rqL_len (z : Nat → Nat → Int) (len : Nat) : (rqL z len).length = len := by simp [rqL]
theorem rq_rows {w : World} {a : Option Addr} {len cap : Nat} {z : Nat → Nat → Int} (h : IsRows 5 w a len cap z) (hn : a = none → cap = 0) : RQ w (.slice a len cap) (rqL z len) := by
  obtain ⟨h1, _, h2⟩ := h
  refine ⟨a, cap, by rw [rqL_len], by rw [rqL_len]; exact h1, hn, fun h0 => ?_⟩
  rw [rqL_len] at h0
  obtain ⟨b, off, ha, hb, hz⟩ := h2 h0
  refine ⟨b, off, ha, hb, fun j hj => ?_⟩
  rw [rqL_len] at hj
  have e : (rqL z len).getD j default = ⟨z j 0, z j 1, z j 2, z j 3, z j 4⟩ := by simp [rqL, List.getD_eq_getElem?_getD, hj]
  rw [e]
  exact ⟨(hz j hj 0 (by omega)).1, (hz j hj 1 (by omega)).1, (hz j hj 2 (by omega)).1, (hz j hj 3 (by omega)).1, (hz j hj 4 (by omega)).1⟩
theorem hd_cells : Tryz.prog.cellsOf 61 = 4 := by kernel_rfl
theorem hd_cells2 : Tryz.prog.cellsOf 58 = 2 := by kernel_rfl
theorem hd_cells1 : Tryz.prog.cellsOf 3 = 1 := by kernel_rfl
theorem hd_cellsS : Tryz.prog.cellsOf 59 = 1 := by kernel_rfl
theorem hd_cells5 : Tryz.prog.cellsOf 64 = 5 := by kernel_rfl
section
variable {H : Type} {enc : TypeId × Value → H} {w : World} {base : Nat} {spare : Nat → Bool} {held : Bool}
end
end Go.Proofs.YtcnkmhfcgkbhbaaGreat
namespace Go.Proofs.YtcnkmhfcgkbhbaaGreat
open Go.RowKit Go.ChangeShapes Go.WideShapes Go.Joins Go.Deep
/-- A head: its name, how many began to wait, its queue as a value, and as a list. -/
structure Hv where
  t : Int
  r : Int
  n : Int
  v : Value
  l : List Rq
instance : Inhabited Hv := ⟨⟨0, 0, 0, .slice none 0 0, []⟩⟩
def Hv.cells (x : Hv) : List Value := [.int .i64 x.t, .int .i64 x.r, x.v, .int .i64 x.n]
/-- The value u is a slice of heads that reads as hs. -/
def HD (w : World) (u : Value) (hs : List Hv) : Prop :=
  ∃ a c, u = .slice a hs.length c ∧ (0 < hs.length → ∃ b off, a = some ⟨b, off, none⟩ ∧ b < w.heap.size ∧ ∀ i, i < hs.length →
    w.cell? ⟨b, off + i * 4, none⟩ = some (.int .i64 (hs.getD i default).t) ∧ w.cell? ⟨b, off + i * 4 + 1, none⟩ = some (.int .i64 (hs.getD i default).r) ∧
    w.cell? ⟨b, off + i * 4 + 2, none⟩ = some (hs.getD i default).v ∧ w.cell? ⟨b, off + i * 4 + 3, none⟩ = some (.int .i64 (hs.getD i default).n)) ∧
    ∀ i, i < hs.length → RQ w (hs.getD i default).v (hs.getD i default).l
theorem HD.below {w w' : World} {u : Value} {hs : List Hv} (h : HD w u hs) (hb : Below w.heap.size w w') : HD w' u hs := by
  obtain ⟨a, c, hv, hr, hq⟩ := h
  refine ⟨a, c, hv, fun h0 => ?_, fun i hi => (hq i hi).below hb⟩
  obtain ⟨b, off, ha, hlt, hz⟩ := hr h0
  have k : ∀ o, w'.cell? ⟨b, o, none⟩ = w.cell? ⟨b, o, none⟩ := fun o => hb.cell (p := ⟨b, o, none⟩) hlt
  exact ⟨b, off, ha, Nat.lt_of_lt_of_le hlt hb.size, fun j hj => by rw [k, k, k, k]; exact hz j hj⟩
theorem array4l {α : Type} {cs : List α} (h : cs.length = 4) : ∃ a b c d, cs = [a, b, c, d] := by
  match cs, h with
  | [a, b, c, d], _ => exact ⟨a, b, c, d, rfl⟩
section
variable {H : Type} {enc : TypeId × Value → H} {w : World} {base : Nat} {spare : Nat → Bool} {held : Bool}
set_option maxRecDepth 100000 in
theorem headC_open {n : Nat} {cs : List Value} {x : DataW H × List MemPlace} (hl : cs.length = 4) (hf : DataW.trod enc Tryz.prog w base spare held n 61 cs = some x) : ∃ y : Hv, cs = y.cells ∧ RQ w y.v y.l := by
  obtain ⟨c0, c1, c2, c3, rfl⟩ := array4l hl
  obtain ⟨y0, y1, y2, k, _, _, h0, h1, h2⟩ := trod_struct3 Tryz.underlying61 hf
  simp only [hd_cells2, hd_cellsS, hd_cells1, List.drop_zero, List.drop_succ_cons, List.take_succ_cons, List.take_zero, List.take_nil] at h0 h1 h2
  obtain ⟨q0, q1, k0, _, _, g0, g1⟩ := trod_struct2 Tryz.underlying58 h0
  simp only [hd_cells1, List.drop_zero, List.drop_succ_cons, List.take_succ_cons, List.take_zero, List.take_nil] at g0 g1
  obtain ⟨t, e0, _, _⟩ := DataW.trod_int Tryz.underlying3 g0
  obtain ⟨r, e1, _, _⟩ := DataW.trod_int Tryz.underlying3 g1
  obtain ⟨n, e2, _, _⟩ := DataW.trod_int Tryz.underlying3 h2
  simp at e0 e1 e2
  subst e0 e1 e2
  obtain ⟨a, m, c, rfl⟩ : ∃ a m c, c2 = .slice a m c := by
    rcases open_slice_fields Tryz.underlying59 Tryz.underlying64 (by kernel_rfl) hd_cells5 h1 with ⟨hcs, _⟩ | ⟨x, l, c, m, D, Pl, hcs, _⟩
    · exact ⟨none, 0, 0, by simpa using hcs⟩
    · exact ⟨some x, l, c, by simpa using hcs⟩
  have hT : DataW.Trod enc Tryz.prog w base spare held 59 (.slice a m c) y1.1 y1.2 := ⟨k, by simpa [Value.cells] using h1⟩
  obtain ⟨z, hz⟩ := rows_open Tryz.underlying59 Tryz.underlying64 (by kernel_rfl) hd_cells5 (fun j f hj => by match j, hj with | 0, rfl => exact Tryz.underlying3 | 1, rfl => exact Tryz.underlying3 | 2, rfl => exact Tryz.underlying62 | 3, rfl => exact Tryz.underlying62 | 4, rfl => exact Tryz.underlying3) (by decide) hT
  exact ⟨⟨t, r, n, .slice a m c, rqL z m⟩, rfl, rq_rows hz (rows_nil Tryz.underlying59 Tryz.underlying64 (by kernel_rfl) hd_cells5 hT)⟩
/-- A slice of heads that came in. -/
theorem heads_open {a : Option Addr} {len cap : Nat} {d : DataW H} {p : List MemPlace} (h : DataW.Trod enc Tryz.prog w base spare held 22 (.slice a len cap) d p) : ∃ hs : List Hv, hs.length = len ∧ HD w (.slice a len cap) hs := by
  obtain ⟨fuel, hf⟩ := h
  rcases open_slice Tryz.underlying22 hf with ⟨hcs, _⟩ | ⟨x, l, c, m', n, D, Pl, hcs, hb, hl, hm, hmm, hx, hi⟩
  · simp [Value.cells] at hcs
    obtain ⟨rfl, rfl, rfl⟩ := hcs
    exact ⟨[], rfl, none, 0, rfl, fun h => absurd h (by simp), fun i h => absurd h (by simp)⟩
  · simp [Value.cells] at hcs
    obtain ⟨rfl, rfl, rfl⟩ := hcs
    have hlm : len ≤ m' := by rw [hmm]; split <;> omega
    have key : ∀ i, i < len → ∃ y : Hv, RQ w y.v y.l ∧ ∀ j u, y.cells[j]? = some u → w.cell? (x.add (i * 4 + j)) = some u := by
      intro i hi'
      obtain ⟨cs', hc, ht'⟩ := hi i (by omega)
      rw [hd_cells] at hc
      obtain ⟨_, hcl, hat⟩ := World.cells?_some hc
      obtain ⟨y, rfl, hy⟩ := headC_open hcl ht'
      refine ⟨y, hy, fun j u hu => ?_⟩
      have hj : j < 4 := (List.getElem?_eq_some_iff.1 hu).1
      have hcell := hat j hj
      rw [← Go.Deep.add_add, hcell, hu]
    have hpick : ∀ k, k ≤ len → ∃ l : List Hv, l.length = k ∧ ∀ i, i < k → RQ w (l.getD i default).v (l.getD i default).l ∧ ∀ j u, (l.getD i default).cells[j]? = some u → w.cell? (x.add (i * 4 + j)) = some u := by
      intro k
      induction k with
      | zero => exact fun _ => ⟨[], rfl, fun i hi => absurd hi (by omega)⟩
      | succ k ih =>
        intro hk'
        obtain ⟨l, hll, hlp⟩ := ih (by omega)
        obtain ⟨y, hy1, hy2⟩ := key k (by omega)
        refine ⟨l ++ [y], by simp [hll], fun i hi => ?_⟩
        rcases Nat.lt_or_ge i l.length with h1 | h1
        · have e : (l ++ [y]).getD i default = l.getD i default := by simp [List.getD, List.getElem?_append_left h1]
          rw [e]
          exact hlp i (by omega)
        · have h2 : i = l.length := by omega
          subst h2
          have e : (l ++ [y]).getD l.length default = y := by simp [List.getD]
          rw [e]
          rw [hll]
          exact ⟨hy1, hy2⟩
    obtain ⟨hs, hll, hlp⟩ := hpick len (Nat.le_refl _)
    refine ⟨hs, hll, some x, cap, by rw [hll], fun h0 => ?_, fun i hi => (hlp i (by omega)).1⟩
    obtain ⟨b, off, sp⟩ := x
    have hc := (hlp 0 (by omega)).2 0 _ rfl
    have hsp : sp = none := by simpa [Addr.add] using World.cell?_spot hc
    subst hsp
    refine ⟨b, off, rfl, by simpa [Addr.add] using World.block_lt_of_cell? _ _ hc, fun i hi => ?_⟩
    have hh := (hlp i (by omega)).2
    have g := fun j u hu => (Addr.add_lit b off (i * 4 + j) ▸ hh j u hu : w.cell? ⟨b, off + (i * 4 + j), none⟩ = some u)
    have g0 := g 0 _ rfl
    have g1 := g 1 _ rfl
    have g2 := g 2 _ rfl
    have g3 := g 3 _ rfl
    rw [Nat.add_zero] at g0
    rw [← Nat.add_assoc] at g1 g2 g3
    exact ⟨g0, g1, g2, g3⟩
end
end Go.Proofs.YtcnkmhfcgkbhbaaGreat
namespace Go.Proofs.YtcnkmhfcgkbhbaaGreat
open Go.RowKit
section
variable {P : Program} {ops : Array Oper} {Q : Exit → Act → World → Prop} {md : Region.Mode} {S : World → Prop} {z : Nat}
/-- Operation j waits for operation k, through others. -/
inductive Waits (md : Region.Mode) (ops : Array Oper) : Nat → Nat → Prop
  | one {j k : Nat} {o : Oper} {e : Edge} (ho : ops[j]? = some o) (he : e ∈ o.after) (hb : Region.binds md e = true) (hk : e.on = k) : Waits md ops j k
  | more {j m k : Nat} (h1 : Waits md ops j m) (h2 : Waits md ops m k) : Waits md ops j k
def Closed (md : Region.Mode) (ops : Array Oper) (l : Array Bool) : Prop := ∀ k o, ops[k]? = some o → l.getD k false = true → ∀ e ∈ o.after, Region.binds md e = true → l.getD e.on false = true
theorem Closed.waits {l : Array Bool} (h : Closed md ops l) {m k : Nat} (hw : Waits md ops m k) : l.getD m false = true → l.getD k false = true := by
  induction hw with
  | one ho he hb hk => exact fun hm => hk ▸ h _ _ ho hm _ he hb
  | more _ _ i1 i2 => exact fun hm => i2 (i1 hm)
theorem Closed.ready {l : Array Bool} (h : Closed md ops l) {j k : Nat} (hj : j ∈ Region.ready md ops l) (hw : Waits md ops j k) : l.getD k false = true := by
  induction hw with
  | one ho he hb hk =>
    obtain ⟨_, o', ho', hall⟩ := mem_ready.1 hj
    rw [ho] at ho'
    injection ho' with ho'
    subst ho'
    exact hk ▸ hall _ he hb
  | more _ h2 i1 _ => exact h.waits h2 (i1 hj)
theorem Closed.set {l : Array Bool} (h : Closed md ops l) {j : Nat} (hj : j ∈ Region.ready md ops l) : Closed md ops (l.setIfInBounds j true) := by
  intro k o ho hk e he hb
  by_cases hjk : j = k
  · subst hjk
    obtain ⟨_, o', ho', hall⟩ := mem_ready.1 hj
    rw [ho] at ho'
    injection ho' with ho'
    subst ho'
    exact getD_set_true (hall e he hb)
  · rw [getD_set_ne false hjk] at hk
    exact getD_set_true (h k o ho hk e he hb)
theorem Closed.none (n : Nat) : Closed md ops (Array.replicate n false) := by
  intro k o ho hk
  exfalso
  rw [Array.getD_eq_getD_getElem?, Array.getElem?_replicate] at hk
  split at hk <;> simp at hk
/-- Whatever order is picked from here on; S holds behind every operation that is carried out, but the last one. -/
def wpAnyX (P : Program) (md : Region.Mode) (ops : Array Oper) (Q : Exit → Act → World → Prop) (S : World → Prop) (z : Nat) : Nat → Array Bool → Act → World → Prop
  | 0, listed, a, w => Region.ready md ops listed = [] ∧ Q .normal a w
  | fuel + 1, listed, a, w =>
    (Region.ready md ops listed = [] → Q .normal a w) ∧
    ∀ i ∈ Region.ready md ops listed, wpOp P ops Q i (fun a' w' => (i ≠ z → S w') ∧ wpAnyX P md ops Q S z fuel (listed.setIfInBounds i true) a' w') a w
theorem wpAny_of_X : ∀ (fuel : Nat) (listed : Array Bool) (a : Act) (w : World), wpAnyX P md ops Q S z fuel listed a w → wpAny P md ops Q fuel listed a w
  | 0, _, _, _, h => h
  | fuel + 1, _, _, _, h => ⟨h.1, fun i hi => wpOp_mono (fun a' w' h' => wpAny_of_X fuel _ a' w' h'.2) (h.2 i hi)⟩
theorem wpAnyX_first (hz : ∀ k, k < ops.size → k ≠ z → Waits md ops z k) {i : Nat} {oi : Oper} {v : Value} (hi : ops[i]? = some oi) (hsel : ∀ (j : Nat) (o : Oper) cs b, ops[j]? = some o → o.op ≠ .select cs b)
    (hQ : ∀ c a w, Q (.panic c) (a.put oi.dst v) w → Q (.panic c) a w) :
    ∀ (fuel : Nat) (listed : Array Bool) (a : Act) (w : World), Closed md ops listed →
      (∀ j oj, ops[j]? = some oj → j ≠ i → listed.getD j true = false → (∀ e ∈ oj.after, Region.binds md e = true → e.on ≠ i) → oi.apart ops oj = true) →
      i ∈ Region.ready md ops listed → YieldsIf P ops S oi v a → S w →
      wpAnyX P md ops Q S z fuel (listed.setIfInBounds i true) (a.put oi.dst v) w → wpAnyX P md ops Q S z (fuel + 1) listed a w := by
  intro fuel
  induction fuel with
  | zero =>
    intro listed a w _ _ hr hy hS H
    refine ⟨fun h => (by rw [h] at hr; cases hr), fun j hj => ?_⟩
    by_cases hji : j = i
    · subst hji; exact hy.wpOp hi hS ⟨fun _ => hS, H⟩
    · have := ready_mono hj hji
      rw [H.1] at this
      cases this
  | succ fuel ih =>
    intro listed a w hcl hfree hr hy hS H
    refine ⟨fun h => (by rw [h] at hr; cases hr), fun j hj => ?_⟩
    by_cases hji : j = i
    · subst hji; exact hy.wpOp hi hS ⟨fun _ => hS, H⟩
    · have h1 := H.2 j (ready_mono hj hji)
      obtain ⟨hjun, oj, hoj, hall⟩ := mem_ready.1 hj
      have hun : ∀ k, k ∈ Region.ready md ops listed → listed.getD k false = true → False := fun k hk h2 => by
        have h0 := (mem_ready.1 hk).1
        rcases Nat.lt_or_ge k listed.size with h' | h'
        · simp [h'] at h0 h2; rw [h0] at h2; cases h2
        · simp [Array.getElem?_eq_none h'] at h2
      have hnot : ∀ e ∈ oj.after, Region.binds md e = true → e.on ≠ i := fun e he hb heq => hun i hr (heq ▸ hall e he hb)
      have hjz : j ≠ z := fun e => hun i hr (hcl.ready hj (e ▸ hz i (Array.getElem?_eq_some_iff.1 hi).1 (fun e2 => hji (e.trans e2.symm))))
      have h2 := wpOp_putIf hoj (hfree j oj hoj hji hjun hnot) (fun cs b => hsel i oi cs b hi) (fun cs b => hsel j oj cs b hoj) hQ hy h1
      have hfree' : ∀ k ok, ops[k]? = some ok → k ≠ i → (listed.setIfInBounds j true).getD k true = false →
          (∀ e ∈ ok.after, Region.binds md e = true → e.on ≠ i) → oi.apart ops ok = true := fun k ok hk hki hun hno => by
        refine hfree k ok hk hki ?_ hno
        by_cases hjk : j = k
        · subst hjk; exact hjun
        · rw [getD_set_ne true hjk] at hun; exact hun
      refine wpOp_mono (fun a' w' h3 => ⟨h3.2.1, ih (listed.setIfInBounds j true) a' w' (hcl.set hj) hfree' (ready_mono hr (Ne.symm hji)) h3.1 (h3.2.1 hjz) ?_⟩) h2
      rw [Array.setIfInBounds_comm _ _ hji]
      exact h3.2.2
theorem wpAnyX_take (hz : ∀ k, k < ops.size → k ≠ z → Waits md ops z k) {i : Nat} {oi : Oper} {v : Value} {fuel : Nat} {listed : Array Bool} {a : Act} {w : World} (hcl : Closed md ops listed) (hi : ops[i]? = some oi)
    (hs : Region.noSelect ops = true) (hf : Region.free md ops listed i = true) (hr : (Region.ready md ops listed).contains i = true)
    (hQ : ∀ c a w, Q (.panic c) (a.put oi.dst v) w → Q (.panic c) a w) (hy : YieldsIf P ops S oi v a) (hS : S w)
    (h : wpAnyX P md ops Q S z fuel (listed.setIfInBounds i true) (a.put oi.dst v) w) : wpAnyX P md ops Q S z (fuel + 1) listed a w :=
  wpAnyX_first hz hi (Region.noSelect_spec hs) hQ fuel listed a w hcl (Region.free_spec hi hf) (by simpa using hr) hy hS h
/-- The plan: (i, true): taken first, or passed over; (i, false): alone ready. -/
def HX (P : Program) (ops : Array Oper) (Q : Exit → Act → World → Prop) (S : World → Prop) (z : Nat) : List (Nat × Bool) → Act → World → Prop
  | [], a, w => Q .normal a w
  | (i, true) :: r, a, w => ∃ o, ops[i]? = some o ∧
      ((Region.wanted o (yielded ops a.tmps) = true ∧ ∃ v, (∀ W, S W → (execOp a.eval o).run P W = .ok (.value v) W) ∧ HX P ops Q S z r (a.put o.dst v) w) ∨
       (Region.wanted o (yielded ops a.tmps) = false ∧ HX P ops Q S z r (a.put o.dst undef) w))
  | (i, false) :: r, a, w => ∃ o, ops[i]? = some o ∧
      ((Region.wanted o (yielded ops a.tmps) = true ∧ ∀ K : Act → World → Prop, Hid (∀ a w, (i ≠ z → S w) → HX P ops Q S z r a w → K a w) → o.wp P a w K Q) ∨
       (Region.wanted o (yielded ops a.tmps) = false ∧ HX P ops Q S z r (a.put o.dst undef) w))
/-- Behind the last operation nothing is taken first. -/
def lastOK (z : Nat) : List (Nat × Bool) → Bool
  | [] => true
  | (i, _) :: r => (i != z || r.isEmpty) && lastOK z r
theorem HX.sound (hz : ∀ k, k < ops.size → k ≠ z → Waits md ops z k) (hs : Region.noSelect ops = true) (hQ : ∀ c t t' d w, Q (.panic c) ⟨t, d⟩ w → Q (.panic c) ⟨t', d⟩ w) : ∀ (p : List (Nat × Bool)) (l : Array Bool) (a : Act) (w : World), Closed md ops l → planOK md ops p l = true → lastOK z p = true → (p ≠ [] → S w) → HX P ops Q S z p a w → wpAnyX P md ops Q S z p.length l a w
  | [], l, a, w, _, hp, _, hS, h => by
    simp only [planOK, List.isEmpty_iff] at hp
    exact ⟨hp, h⟩
  | (i, true) :: r, l, a, w, hcl, hp, hlz, hS, h => by
    simp only [planOK, Bool.and_eq_true] at hp
    simp only [lastOK, Bool.and_eq_true] at hlz
    have hri : i ∈ Region.ready md ops l := by simpa using hp.1.2
    obtain ⟨o, ho, ⟨hw, v, hy, h⟩ | ⟨hw, h⟩⟩ := h
    · exact wpAnyX_take hz hcl ho hs hp.1.1 hp.1.2 (put_back hQ) (.inl ⟨hw, hy⟩) (hS (by simp)) (HX.sound hz hs hQ r _ _ _ (hcl.set hri) hp.2 hlz.2 (fun _ => hS (by simp)) h)
    · exact wpAnyX_take hz hcl ho hs hp.1.1 hp.1.2 (put_back hQ) (.inr ⟨hw, rfl⟩) (hS (by simp)) (HX.sound hz hs hQ r _ _ _ (hcl.set hri) hp.2 hlz.2 (fun _ => hS (by simp)) h)
  | (i, false) :: r, l, a, w, hcl, hp, hlz, hS, h => by
    simp only [planOK, Bool.and_eq_true, beq_iff_eq] at hp
    simp only [lastOK, Bool.and_eq_true, Bool.or_eq_true, List.isEmpty_iff, bne_iff_ne] at hlz
    have hri : i ∈ Region.ready md ops l := by rw [hp.1]; simp
    have hnext : ∀ w', (i ≠ z → S w') → r ≠ [] → S w' := fun w' h1 h2 => h1 (hlz.1.resolve_right h2)
    obtain ⟨o, ho, ⟨hw, h⟩ | ⟨hw, h⟩⟩ := h
    · refine ⟨fun h0 => absurd (hp.1 ▸ h0) (by simp), fun j hj => ?_⟩
      rw [hp.1] at hj
      simp only [List.mem_singleton] at hj
      subst hj
      unfold wpOp
      simp only [ho]
      rw [if_pos hw]
      exact .inl (h _ (Lib.hid fun a w h1 h2 => ⟨h1, HX.sound hz hs hQ r _ _ _ (hcl.set hri) hp.2 hlz.2 (hnext w h1) h2⟩))
    · refine ⟨fun h0 => absurd (hp.1 ▸ h0) (by simp), fun j hj => ?_⟩
      rw [hp.1] at hj
      simp only [List.mem_singleton] at hj
      subst hj
      unfold wpOp
      simp only [ho]
      rw [if_neg (by rw [hw]; decide)]
      exact ⟨fun _ => hS (by simp), HX.sound hz hs hQ r _ _ _ (hcl.set hri) hp.2 hlz.2 (fun _ => hS (by simp)) h⟩
/-- Who waits for whom: each number with one that waits for it and stands ahead. -/
def certOK (md : Region.Mode) (ops : Array Oper) : List (Nat × Nat) → List Nat → Bool
  | [], _ => true
  | (k, s) :: r, d => d.contains s && ((ops[s]?).map fun o => o.after.any fun e => Region.binds md e && e.on == k).getD false && certOK md ops r (k :: d)
def certAll : List (Nat × Nat) → List Nat → List Nat
  | [], d => d
  | (k, _) :: r, d => certAll r (k :: d)
theorem certOK_spec : ∀ (c : List (Nat × Nat)) (d : List Nat), certOK md ops c d = true → (∀ k ∈ d, k ≠ z → Waits md ops z k) → ∀ k ∈ certAll c d, k ≠ z → Waits md ops z k
  | [], _, _, hd => hd
  | (k, s) :: r, d, h, hd => by
    simp only [certOK, Bool.and_eq_true, List.contains_iff_mem] at h
    obtain ⟨⟨hs, he⟩, hr⟩ := h
    refine certOK_spec r (k :: d) hr (fun m hm hne => ?_)
    rcases List.mem_cons.1 hm with rfl | hm
    · have hone : Waits md ops s m := by
        cases ho : ops[s]? with
        | none => rw [ho] at he; cases he
        | some o =>
          rw [ho] at he
          simp only [Option.map_some, Option.getD_some, Array.any_eq_true', Bool.and_eq_true, beq_iff_eq] at he
          obtain ⟨e, h1, h2, h3⟩ := he
          exact .one ho h1 h2 h3
      by_cases hsz : s = z
      · exact hsz ▸ hone
      · exact .more (hd s hs hsz) hone
    · exact hd m hm hne
theorem hx_begin {id : Nat} {a : Act} {w : World} (S : World → Prop) (z : Nat) (p : List (Nat × Bool)) (c : List (Nat × Nat)) (hm : P.follows .mixedOrders = true) (hs : Region.noSelect ops = true)
    (hp : planOK .any ops p (Array.replicate ops.size false) = true) (hlz : lastOK z p = true) (hn : p.length = ops.size) (hc : certOK .any ops c [z] = true) (hall : (List.range ops.size).all (fun k => (certAll c [z]).contains k) = true)
    (hQ : ∀ c t t' d w, Q (.panic c) ⟨t, d⟩ w → Q (.panic c) ⟨t', d⟩ w) (hS : S w.drew)
    (h : HX P ops Q S z p a w.drew) : (Code.region id ops true).wp P Q a w := by
  have hz : ∀ k, k < ops.size → k ≠ z → Waits .any ops z k := fun k hk hne => by
    have h1 := List.all_eq_true.1 hall k (List.mem_range.2 hk)
    exact certOK_spec c [z] hc (fun m hm hmz => absurd (by simpa using hm) hmz) k (by simpa using h1) hne
  have := HX.sound hz hs hQ p _ a w.drew (Closed.none _) hp hlz (fun _ => hS) h
  rw [hn] at this
  exact wp_region_any hm (wpAny_of_X _ _ _ _ this)
theorem hx_take {i : Nat} {r : List (Nat × Bool)} (v : Value) {o : Oper} {a : Act} {w : World} (hi : ops[i]? = some o) (hw : Region.wanted o (yielded ops a.tmps) = true)
    (hy : ∀ W, S W → (execOp a.eval o).run P W = .ok (.value v) W) (h : HX P ops Q S z r (a.put o.dst v) w) : HX P ops Q S z ((i, true) :: r) a w := ⟨o, hi, .inl ⟨hw, v, hy, h⟩⟩
theorem hx_one {i : Nat} {r : List (Nat × Bool)} {o : Oper} {a : Act} {w : World} (hne : i ≠ z) (hi : ops[i]? = some o) (hw : Region.wanted o (yielded ops a.tmps) = true)
    (h : ∀ K : Act → World → Prop, Hid (∀ a w, S w → HX P ops Q S z r a w → K a w) → o.wp P a w K Q) : HX P ops Q S z ((i, false) :: r) a w :=
  ⟨o, hi, .inl ⟨hw, fun K hK => h K (Lib.hid fun a w h1 h2 => hK.out a w (fun _ => h1) h2)⟩⟩
theorem hx_last {r : List (Nat × Bool)} {o : Oper} {a : Act} {w : World} (hi : ops[z]? = some o) (hw : Region.wanted o (yielded ops a.tmps) = true)
    (h : ∀ K : Act → World → Prop, Hid (∀ a w, HX P ops Q S z r a w → K a w) → o.wp P a w K Q) : HX P ops Q S z ((z, false) :: r) a w :=
  ⟨o, hi, .inl ⟨hw, fun K hK => h K (Lib.hid fun a w h2 => hK.out a w (fun h => absurd rfl h) h2)⟩⟩
theorem hx_done {a : Act} {w : World} (h : Q .normal a w) : HX P ops Q S z [] a w := h
end
end Go.Proofs.YtcnkmhfcgkbhbaaGreat
