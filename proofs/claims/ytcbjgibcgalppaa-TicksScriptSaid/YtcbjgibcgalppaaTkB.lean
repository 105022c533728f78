/-
  Timers: Less, Len, Swap. No condition beside timers that can be read.
-/
import Derived.Test.YtcbjgibcgalppaaTkA
import Derived.Test.YtcbjgibcgalppaaDelG
namespace Go.Proofs.Ytcbjgibcgalppaa
open Go.RowKit Go.Shelf
/-- The three cells of a timer in a row. -/
def At3 (w : World) (g k : Nat) (x : Tm) : Prop := w.cell? ⟨g, k * 3, none⟩ = some (.int .i64 x.1) ∧ w.cell? ⟨g, k * 3 + 1, none⟩ = some (.int .i64 x.2.1) ∧ w.cell? ⟨g, k * 3 + 2, none⟩ = some (.int .i64 x.2.2)
abbrev tVec (v : Value) (n : Nat) (xs : List Tm) : Res := vec 61 3 v n (xs.flatMap tC)
theorem Sep.tAt {w : World} {g n c : Nat} {xs : List Tm} {rs : List Res} (h : Sep w (tVec (.slice (some ⟨g, 0, none⟩) n c) n xs :: rs)) (k : Nat) (hk : k < xs.length) : At3 w g k (gt_ xs k) ∧ (∀ o, w.frozen? ⟨g, o, none⟩ = false) ∧ g < w.heap.size := by
  have e : xs[k]? = some (gt_ xs k) := by simp [gt_, List.getD_eq_getElem?_getD, hk]
  have f := fun j => flat_at tC 3 tC_len xs k j _ e
  obtain ⟨_, hb, _⟩ := h.vec_blk
  exact ⟨⟨(h.vec_cell (f 0 (by omega))).1, (h.vec_cell (f 1 (by omega))).1, (h.vec_cell (f 2 (by omega))).1⟩, fun o => hb.gblk.frozen o, hb.gblk.lt⟩
set_option maxHeartbeats 1000000 in
theorem less_any (g n c i j : Nat) (x y : Tm) (w : World) (hi : i < n) (hj : j < n) (hg : g < w.heap.size) (c0 : At3 w g i x) (c1 : At3 w g j y) :
    Calls Try.prog 87 #[.slice (some ⟨g, 0, none⟩) n c, .int .i64 i, .int .i64 j] w fun e w' => e = .returned (.bool (ltT x y)) ∧ Below w.heap.size w w' := by
  obtain ⟨a0, a1, a2⟩ := x
  obtain ⟨b0, b1, b2⟩ := y
  have i1 : (0 : Int) ≤ (i : Int) := by omega
  have i2 : (i : Int) < (n : Int) := by omega
  have j1 : (0 : Int) ≤ (j : Int) := by omega
  have j2 : (j : Int) < (n : Int) := by omega
  obtain ⟨h0, h1, h2⟩ := c0
  obtain ⟨k0, k1, k2⟩ := c1
  simp only at h0 h1 h2 k0 k1 k2
  have HC := Lib.hid (fun V : World => compareT_any (a0, a1, a2) (b0, b1, b2) V)
  simp only [tV] at HC
  unfold ltT
  generalize cmpT (a0, a1, a2) (b0, b1, b2) = q at *
  go_enter Try.func87, Try.ntmps87
  go_wp2_with fail
  have hS := Lib.hid (show (fun V : World => Below w.heap.size w V) _ from (Below.refl w.heap.size w).drew)
  refine hl_begin (fun V : World => Below w.heap.size w V) [(0, true), (1, true), (2, true), (3, true), (4, true), (5, true), (6, true), (7, true), (8, false), (9, true), (10, true)] (by kernel_rfl) (by kernel_rfl) (by kernel_rfl) rfl (fun _ _ _ _ _ h => h) hS.out ?_
  change HL _ _ _ _ _ _ (World.drew _)
  generalize World.drew _ = wd at *
  refine hl_take ?v1 rfl (by kernel_rfl) ?y1 ?z1
  case y1 => intro W hW; skip; replace hW := Lib.hid hW; go_simp; try rfl
  case z1 =>
  simp only [Act.put, List.setIfInBounds_toArray, List.set_cons_succ, List.set_cons_zero, List.getElem_toArray, List.getElem_cons_zero]
  refine hl_take ?v2 rfl (by kernel_rfl) ?y2 ?z2
  case y2 => intro W hW; skip; replace hW := Lib.hid hW; go_simp; try rfl
  case z2 =>
  simp only [Act.put, List.setIfInBounds_toArray, List.set_cons_succ, List.set_cons_zero, List.getElem_toArray, List.getElem_cons_zero, List.getElem_cons_succ]
  refine hl_take ?v3 rfl (by kernel_rfl) ?y3 ?z3
  case y3 => intro W hW; skip; replace hW := Lib.hid hW; go_simp; try rfl
  case z3 =>
  simp only [Act.put, List.setIfInBounds_toArray, List.set_cons_succ, List.set_cons_zero, List.getElem_toArray, List.getElem_cons_zero, List.getElem_cons_succ]
  refine hl_take ?v4 rfl (by kernel_rfl) ?y4 ?z4
  case y4 => intro W hW; have y0 := (Below.cell (p := ⟨g, i * 3, none⟩) (show Below w.heap.size w _ from hW) hg).trans h0; have y1 := (Below.cell (p := ⟨g, i * 3 + 1, none⟩) (show Below w.heap.size w _ from hW) hg).trans h1; have y2 := (Below.cell (p := ⟨g, i * 3 + 2, none⟩) (show Below w.heap.size w _ from hW) hg).trans h2; have z0 := (Below.cell (p := ⟨g, j * 3, none⟩) (show Below w.heap.size w _ from hW) hg).trans k0; have z1 := (Below.cell (p := ⟨g, j * 3 + 1, none⟩) (show Below w.heap.size w _ from hW) hg).trans k1; have z2 := (Below.cell (p := ⟨g, j * 3 + 2, none⟩) (show Below w.heap.size w _ from hW) hg).trans k2; replace hW := Lib.hid hW; go_simp; try rfl
  case z4 =>
  simp only [Act.put, List.setIfInBounds_toArray, List.set_cons_succ, List.set_cons_zero, List.getElem_toArray, List.getElem_cons_zero, List.getElem_cons_succ]
  refine hl_take ?v5 rfl (by kernel_rfl) ?y5 ?z5
  case y5 => intro W hW; skip; replace hW := Lib.hid hW; go_simp; try rfl
  case z5 =>
  simp only [Act.put, List.setIfInBounds_toArray, List.set_cons_succ, List.set_cons_zero, List.getElem_toArray, List.getElem_cons_zero, List.getElem_cons_succ]
  refine hl_take ?v6 rfl (by kernel_rfl) ?y6 ?z6
  case y6 => intro W hW; skip; replace hW := Lib.hid hW; go_simp; try rfl
  case z6 =>
  simp only [Act.put, List.setIfInBounds_toArray, List.set_cons_succ, List.set_cons_zero, List.getElem_toArray, List.getElem_cons_zero, List.getElem_cons_succ]
  refine hl_take ?v7 rfl (by kernel_rfl) ?y7 ?z7
  case y7 => intro W hW; skip; replace hW := Lib.hid hW; go_simp; try rfl
  case z7 =>
  simp only [Act.put, List.setIfInBounds_toArray, List.set_cons_succ, List.set_cons_zero, List.getElem_toArray, List.getElem_cons_zero, List.getElem_cons_succ]
  refine hl_take ?v8 rfl (by kernel_rfl) ?y8 ?z8
  case y8 => intro W hW; have y0 := (Below.cell (p := ⟨g, i * 3, none⟩) (show Below w.heap.size w _ from hW) hg).trans h0; have y1 := (Below.cell (p := ⟨g, i * 3 + 1, none⟩) (show Below w.heap.size w _ from hW) hg).trans h1; have y2 := (Below.cell (p := ⟨g, i * 3 + 2, none⟩) (show Below w.heap.size w _ from hW) hg).trans h2; have z0 := (Below.cell (p := ⟨g, j * 3, none⟩) (show Below w.heap.size w _ from hW) hg).trans k0; have z1 := (Below.cell (p := ⟨g, j * 3 + 1, none⟩) (show Below w.heap.size w _ from hW) hg).trans k1; have z2 := (Below.cell (p := ⟨g, j * 3 + 2, none⟩) (show Below w.heap.size w _ from hW) hg).trans k2; replace hW := Lib.hid hW; go_simp; try rfl
  case z8 =>
  simp only [Act.put, List.setIfInBounds_toArray, List.set_cons_succ, List.set_cons_zero, List.getElem_toArray, List.getElem_cons_zero, List.getElem_cons_succ]
  refine hl_one rfl (by kernel_rfl) (fun K hK => ?_)
  go_simp
  refine (HC.out _).mono ?_
  rintro e w2 ⟨rfl, _, q⟩
  replace hS := Lib.hid (show (fun V : World => Below w.heap.size w V) w2 from hS.out.trans (q.mono hS.out.size))
  refine hK.out _ _ hS.out ?_
  clear hK K
  try simp only [Act.put, List.setIfInBounds_toArray, List.set_cons_succ, List.set_cons_zero, List.getElem_toArray, List.getElem_cons_zero, List.getElem_cons_succ]
  refine hl_take ?v9 rfl (by kernel_rfl) ?y9 ?z9
  case y9 => intro W hW; skip; replace hW := Lib.hid hW; go_simp; try rfl
  case z9 =>
  simp only [Act.put, List.setIfInBounds_toArray, List.set_cons_succ, List.set_cons_zero, List.getElem_toArray, List.getElem_cons_zero, List.getElem_cons_succ]
  refine hl_take ?v10 rfl (by kernel_rfl) ?y10 ?z10
  case y10 => intro W hW; skip; replace hW := Lib.hid hW; go_simp; try rfl
  case z10 =>
  simp only [Act.put, List.setIfInBounds_toArray, List.set_cons_succ, List.set_cons_zero, List.getElem_toArray, List.getElem_cons_zero, List.getElem_cons_succ]
  refine hl_done ?_
  skip
  go_wp2_with fail
  go_ret
  exact ⟨rfl, hS.out⟩
end Go.Proofs.Ytcbjgibcgalppaa
