/-
  The contracts of copies and views of a head's requests. No condition beside requests that can be read.
-/
import Derived.Test.YtmacpjnkmkaloaaQBase
namespace Go.Proofs.Ytmacpjnkmkaloaa
open Go.RowKit
theorem qcells_len (l : List Rq) : (qcells l).length = l.length * 5 := by
  induction l with
  | nil => rfl
  | cons r l ih => simp only [qcells, List.flatMap_cons, List.length_append, List.length_cons] at *; rw [ih, Rq.cells]; simp; omega
theorem qcells_at (l : List Rq) (j : Nat) (h : j < l.length) : ∀ f, f < 5 → (qcells l)[j * 5 + f]? = (Rq.cells (l.getD j default))[f]? := by
  induction l generalizing j with
  | nil => simp at h
  | cons r l ih =>
    intro f hf
    cases j with
    | zero => simp only [qcells, List.flatMap_cons]; rw [Nat.zero_mul, Nat.zero_add, List.getElem?_append_left (by simp [Rq.cells]; omega)]; rfl
    | succ j =>
      simp only [qcells, List.flatMap_cons]
      rw [List.getElem?_append_right (by simp [Rq.cells]; omega)]
      have := ih j (by simpa using h) f hf
      simp only [qcells] at this
      rw [show (j + 1) * 5 + f - r.cells.length = j * 5 + f by simp [Rq.cells]; omega, this]
      simp [List.getD]
theorem qcells_one (l : List Rq) : ∀ u ∈ qcells l, u.oneCell' = true := by
  intro u hu
  simp only [qcells, List.mem_flatMap] at hu
  obtain ⟨r, _, hu⟩ := hu
  simp only [Rq.cells, List.mem_cons, List.not_mem_nil, or_false] at hu
  rcases hu with rfl | rfl | rfl | rfl | rfl <;> rfl
theorem RQ.src {w : World} {v : Value} {l : List Rq} (h : RQ w v l) : SrcA w 5 v l.length (qcells l) := by
  obtain ⟨a, c, rfl, hc, hna, hr⟩ := h
  cases a with
  | none =>
    have h0 : l.length = 0 := by
      rcases Nat.eq_zero_or_pos l.length with h | h
      · exact h
      · obtain ⟨b, off, h, _⟩ := hr h; cases h
    have hl := List.eq_nil_of_length_eq_zero h0
    subst hl
    exact .inl ⟨by rw [hna rfl]; rfl, rfl, rfl⟩
  | some ad =>
    refine .inr ⟨ad, c, rfl, qcells_len l, fun j u hu => ?_⟩
    have hj : j < l.length * 5 := by
      rcases Nat.lt_or_ge j (l.length * 5) with h | h
      · exact h
      · rw [List.getElem?_eq_none (by rw [qcells_len]; exact h)] at hu; cases hu
    obtain ⟨b, off, hb, _, hz⟩ := hr (by omega)
    injection hb with hb
    subst hb
    obtain ⟨z0, z1, z2, z3, z4⟩ := hz (j / 5) (by omega)
    rw [Addr.add_lit]
    have hq := qcells_at l (j / 5) (by omega) (j % 5) (by omega)
    rw [show j / 5 * 5 + j % 5 = j by omega, hu] at hq
    have e : off + j = off + j / 5 * 5 + j % 5 := by omega
    rw [e]
    have h5 : j % 5 = 0 ∨ j % 5 = 1 ∨ j % 5 = 2 ∨ j % 5 = 3 ∨ j % 5 = 4 := by omega
    rcases h5 with h | h | h | h | h <;> rw [h] at hq ⊢ <;> simp only [Rq.cells, List.getElem?_cons_zero, List.getElem?_cons_succ] at hq <;> rw [hq] <;> assumption
theorem RQ.of_own {w : World} {base : Nat} {v : Value} {l : List Rq} (h : w.ownsRow base 48 5 v l.length (qcells l)) : RQ w v l := by
  rcases h.2 with ⟨hv, h0⟩ | ⟨g, cap, cur, rfl, _, hg, hnc, _⟩
  · subst hv
    have hl := List.eq_nil_of_length_eq_zero h0
    subst hl
    exact ⟨none, 0, rfl, Nat.le_refl _, fun _ => rfl, fun h => absurd h (by simp)⟩
  · refine ⟨some ⟨g, 0, none⟩, cap, rfl, hnc, (fun h => by cases h), fun _ => ⟨g, 0, rfl, (Array.getElem?_eq_some_iff.1 hg).1, fun j hj => ?_⟩⟩
    have key : ∀ f, f < 5 → ∀ u, (Rq.cells (l.getD j default))[f]? = some u → w.cell? ⟨g, 0 + j * 5 + f, none⟩ = some u := by
      intro f hf u hu
      have := h.cells (g := g) rfl (j * 5 + f) u (by rw [qcells_at l j hj f hf]; exact hu)
      rw [Addr.add_lit] at this
      rw [show 0 + j * 5 + f = 0 + (j * 5 + f) by omega]
      exact this
    exact ⟨key 0 (by omega) _ rfl, key 1 (by omega) _ rfl, key 2 (by omega) _ rfl, key 3 (by omega) _ rfl, key 4 (by omega) _ rfl⟩
theorem info_req : (Try.prog.info? 48).map (fun i => (i.zero, i.size, i.bytes)) = some (some (.agg #[.int .i64 0, .int .i64 0, .int .i64 0, .int .i64 0, .int .i64 0]), 5, 40) := by kernel_rfl

/-- A copy of requests, in memory of its own. -/
def vq (v : Value) (l : List Rq) : Res := vec 48 5 v l.length (qcells l)
theorem Sep.vq_rq {w : World} {v : Value} {l : List Rq} {rs : List Res} (h : Sep w (vq v l :: rs)) : RQ w v l := RQ.of_own h.gvec
theorem Sep.vq_at {w : World} {a : Option Addr} {m c i : Nat} {l : List Rq} {rs : List Res} (h : Sep w (vq (.slice a m c) l :: rs)) (hl : l.length = m) (hi : i < m) :
    ∃ g, a = some ⟨g, 0, none⟩ ∧ g < w.heap.size ∧ m ≤ c ∧ w.cell? ⟨g, i * 5, none⟩ = some (.int .i64 (l.getD i default).id) ∧ w.cell? ⟨g, i * 5 + 1, none⟩ = some (.int .i64 (l.getD i default).txn) ∧ w.cell? ⟨g, i * 5 + 2, none⟩ = some (.int .i64 (l.getD i default).mode) ∧
      w.cell? ⟨g, i * 5 + 3, none⟩ = some (.int .i64 (l.getD i default).want) ∧ w.cell? ⟨g, i * 5 + 4, none⟩ = some (.int .i64 (l.getD i default).since) ∧ ∀ o, w.frozen? ⟨g, o, none⟩ = false := by
  subst hl
  unfold vq at h
  rcases h.gvec.2 with ⟨_, h0⟩ | ⟨g, cap, cur, hv, _⟩
  · omega
  · injection hv with e1 _ e3
    subst e1 e3
    have key : ∀ f, f < 5 → ∀ u, (Rq.cells (l.getD i default))[f]? = some u → w.cell? ⟨g, i * 5 + f, none⟩ = some u := fun f hf u hu => (h.vec_cell (by rw [qcells_at l i hi f hf]; exact hu)).1
    obtain ⟨cur', hb, hnc, _⟩ := h.vec_blk
    exact ⟨g, rfl, hb.gblk.lt, hnc, key 0 (by omega) _ rfl, key 1 (by omega) _ rfl, key 2 (by omega) _ rfl, key 3 (by omega) _ rfl, key 4 (by omega) _ rfl, fun o => hb.gblk.frozen o⟩
theorem clone_any (v : Value) (l : List Rq) (w : World) (hv : RQ w v l) (hl : l.length ≤ 1000) :
    Calls Try.prog 72 #[v] w fun e w' => ∃ a c, e = .returned (.slice a l.length c) ∧ Sep w' [vq (.slice a l.length c) l, old w] := by
  have hS := hv.src
  have h1 := qcells_one l
  obtain ⟨a, c, rfl, hc, hna, hr⟩ := hv
  obtain ⟨i0, hi, hz0, hz1, hz2⟩ := info_parts info_req
  cases a with
  | none =>
    rcases hS with ⟨h, h0, hq⟩ | ⟨ad, c', h, _⟩
    · have hl := List.eq_nil_of_length_eq_zero h0
      subst hl
      obtain rfl : c = 0 := hna rfl
      have fin := Lib.hid (show Sep w [vq (.slice none 0 0) [], old w] from (Sep.start w).vec_nil _ _)
      have hn := Lib.run_eql_slice_nil (P := Try.prog)
      clear hr h hq hna
      go_enter Try.func72, Try.ntmps72
      go_wp2
      go_ret
      exact ⟨_, _, rfl, fin.out⟩
    · cases h
  | some ad =>
    have hn := Lib.run_eql_slice_nil (P := Try.prog)
    replace hS := Lib.hid hS
    replace h1 := Lib.hid h1
    clear hr hna
    go_enter Try.func72, Try.ntmps72
    have hE := Lib.hid (show Sep (w.alloc (.cells #[] 48)) [vec 48 5 (.slice (some ⟨w.heap.size, 0, none⟩) 0 0) 0 [], old w] from
      (Sep.start w).vec_new (World.ownsRow_made w #[] 0 (Nat.le_refl _) (Nat.zero_le _) rfl) ((Below.refl _ _).alloc (Nat.le_refl _) _))
    have hS2 := Lib.hid (show SrcA (w.alloc (.cells #[] 48)) 5 (.slice (some ad) l.length c) l.length (qcells l) from hS.out.below ((Below.refl _ _).alloc (Nat.le_refl _) _))
    generalize hn : l.length = n at *
    replace hn := Lib.hid hn
    go_wp2_with (at_builtin; refine wpList_append_sep hE.out rfl _ _ 24 rfl i0 _ 40 Try.underlying24 hi hz0 hz1 hz2 rfl (by decide) rfl n (qcells l) hS2.out h1.out ?c3 ?c4 ?_)
    case c3 => simp only [maxLen]; omega
    case c4 => omega
    intro a' c' w1 hS1
    replace hS1 := Lib.hid hS1
    go_wp2_with fail
    go_ret
    exact ⟨a', c', by simp, by unfold vq; rw [hn.out]; exact hS1.out⟩
def hval (t r : Int) (q : Value) (n : Int) : Value := .agg #[.int .i64 t, .int .i64 r, q, .int .i64 n]
theorem own_any (t r n : Int) (v : Value) (l : List Rq) (w : World) (hv : RQ w v l) (hl : l.length ≤ 1000) :
    Calls Try.prog 41 #[hval t r v n] w fun e w' => ∃ a c, e = .returned (hval t r (.slice a l.length c) n) ∧ Sep w' [vq (.slice a l.length c) l, old w] := by
  have h0 : ∀ b1 b2, Sep ((w.alloc (.cells b1 26)).alloc (.cells b2 69)) [blk (w.heap.size + 1) 69 b2, blk w.heap.size 26 b1, old w] := fun b1 b2 => by
    have := ((Sep.start w).alloc b1 26).alloc b2 69
    simpa using this
  have H := Lib.hid (fun b1 b2 => clone_any v l ((w.alloc (.cells b1 26)).alloc (.cells b2 69)) (hv.below ((Below.refl _ _).alloc (Nat.le_refl _) _ |>.alloc (by simp) _)) hl)
  replace h0 := Lib.hid h0
  obtain ⟨a, c, rfl, _⟩ := hv
  unfold hval
  go_enter Try.func41, Try.ntmps41
  go_wp2_with fail
  refine (H.out _ _).mono ?_
  rintro e w1 ⟨a', c', rfl, hS⟩
  have hT := hS.graft (h0.out _ _)
  obtain ⟨z1, d0, d1, d2, d3, g0, g1, g2, g3⟩ := hT.to1.b4
  obtain ⟨z2, c0, c1, c2, c3, _, _, f2, _⟩ := hT.to2.b4
  replace hT := Lib.hid hT
  clear hS H h0
  go_wp2_with fail
  refine bodyPost_ret (v := .agg #[.int .i64 t, .int .i64 r, .slice a' l.length c', .int .i64 n]) (by simp [results, Try.results41, go_sem, *]) rfl ⟨_, _, rfl, ?_⟩
  exact ((((((hT.out.to2.set 2 _).to2.set 0 _).set 1 _).set 2 _).set 3 _)).tail.tail
end Go.Proofs.Ytmacpjnkmkaloaa
