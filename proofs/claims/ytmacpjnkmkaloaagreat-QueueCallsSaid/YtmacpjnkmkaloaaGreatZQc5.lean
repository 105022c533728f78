/-
  Contracts and plain laws that the walk leans on, part 5. No condition.
-/
import Derived.Test.YtmacpjnkmkaloaaGreatZQc4
import Derived.Deep.RegionLaw
namespace Go.Proofs.YtmacpjnkmkaloaaGreat
set_option linter.unusedSimpArgs false
set_option linter.unusedVariables false
set_option linter.unnecessarySimpa false
open Go.RowKit
theorem qcells_drop (l : List Rq) : ∀ k, qcells (l.drop k) = (qcells l).drop (k * 5) := by
  induction l with
  | nil => intro k; simp [qcells]
  | cons r l ih =>
    intro k
    cases k with
    | zero => simp
    | succ k =>
      simp only [List.drop_succ_cons]
      rw [ih k]
      simp only [qcells, List.flatMap_cons]
      rw [show (k + 1) * 5 = r.cells.length + k * 5 by simp [Rq.cells]; omega, List.drop_append]
      simp
theorem qcells_take (l : List Rq) : ∀ k, qcells (l.take k) = (qcells l).take (k * 5) := by
  induction l with
  | nil => intro k; simp [qcells]
  | cons r l ih =>
    intro k
    cases k with
    | zero => simp [qcells]
    | succ k =>
      simp only [List.take_succ_cons]
      have := ih k
      simp only [qcells, List.flatMap_cons] at this ⊢
      have e : r.cells.take (r.cells.length + k * 5) = r.cells := List.take_of_length_le (by omega)
      rw [this, show (k + 1) * 5 = r.cells.length + k * 5 by simp [Rq.cells]; omega, List.take_append, e, Nat.add_sub_cancel_left]
theorem qcells_erase (l : List Rq) (i : Nat) : (qcells l).take (i * 5) ++ qcells (l.drop (i + 1)) = qcells (l.eraseIdx i) := by
  rw [List.eraseIdx_eq_take_drop_succ, ← qcells_take]
  simp [qcells]
theorem RQ.src_drop {w : World} {b off m c c' k : Nat} {l : List Rq} (h : RQ w (.slice (some ⟨b, off, none⟩) m c) l) (hk : k ≤ m) (hl : l.length = m) : SrcA w 5 (.slice (some ⟨b, off + k * 5, none⟩) (m - k) c') (m - k) (qcells (l.drop k)) := by
  rcases h.src with ⟨h, _⟩ | ⟨ad, c2, he, hlen, hc⟩
  · cases h
  · injection he with e1 e2 e3
    injection e1 with e1
    subst e1
    refine .inr ⟨_, _, rfl, by rw [qcells_len, List.length_drop, hl], fun j u hu => ?_⟩
    rw [qcells_drop, List.getElem?_drop] at hu
    have := hc _ u hu
    rw [Addr.add_lit] at this ⊢
    rw [show off + k * 5 + j = off + (k * 5 + j) by omega]
    exact this
theorem RQ.src_end {w : World} {b off m c : Nat} {l : List Rq} (_h : RQ w (.slice (some ⟨b, off, none⟩) m c) l) (hl : l.length = m) (c' : Nat) : SrcA w 5 (.slice (some ⟨b, off, none⟩) 0 c') 0 (qcells (l.drop m)) := by
  rw [List.drop_eq_nil_of_le (by omega)]
  exact .inr ⟨_, _, rfl, rfl, fun j u hu => by simp [qcells] at hu⟩
set_option maxHeartbeats 1000000 in
set_option maxHeartbeats 8000000 in
set_option maxRecDepth 100000 in
theorem withoutQ_any (t r n : Int) (v : Value) (l : List Rq) (i : Nat) (w : World) (hv : RQ w v l) (hl : l.length ≤ 1000) (hi : i < l.length) :
    Calls Tryz.prog 59 #[hval t r v n, .int .i64 i] w fun e w' => ∃ a c, e = .returned (hval t r (.slice a (l.eraseIdx i).length c) n) ∧ Sep w' [vq (.slice a (l.eraseIdx i).length c) (l.eraseIdx i), old w] := by
  have h0 : ∀ b1 b2, Sep ((w.alloc (.cells b1 26)).alloc (.cells b2 26)) [blk (w.heap.size + 1) 26 b2, blk w.heap.size 26 b1, old w] := fun b1 b2 => by
    have := ((Sep.start w).alloc b1 26).alloc b2 26
    rw [World.size_alloc] at this
    exact this
  have H := Lib.hid (fun b1 b2 => copied_any t r n v l ((w.alloc (.cells b1 26)).alloc (.cells b2 26)) (hv.below (two_boxes _ _ _ _ _)) hl)
  replace h0 := Lib.hid h0
  have hv' := Lib.hid hv
  obtain ⟨a, c, rfl, hmc, _, hr⟩ := hv
  obtain ⟨b, off, rfl, hbl, _⟩ := hr (by omega)
  obtain ⟨i0, hi0, hz0, hz1, hz2⟩ := info_parts info_req
  have h1 := Lib.hid (qcells_one (l.drop (i + 1)))
  clear hr
  unfold hval at *
  generalize hm : l.length = m at *
  replace hm := Lib.hid hm
  go_enter Tryz.func59, Tryz.ntmps59
  go_wp2_with fail
  refine (H.out _ _).mono ?_
  rintro e w1 ⟨a1, c1, rfl, hS⟩
  have hlt1 := (hS.graft (h0.out _ _)).to1.gblk.lt
  have hT := Lib.hid ((hS.graft (h0.out _ _)).alloc #[.int .i64 t, .int .i64 r, .slice a1 m c1, .int .i64 n] 26)
  obtain ⟨g, rfl, hgl, hmc1, _⟩ := hT.out.to1.vq_at hm.out hi
  obtain ⟨y1, d0, d1, d2, d3, g0, g1, g2, g3⟩ := hT.out.b4
  obtain ⟨y2, e0, e1, e2, e3, f0, f1, f2, f3⟩ := hT.out.to2.b4
  obtain ⟨y3, k0, k1, k2, k3, _⟩ := hT.out.to3.b4
  have hne1 : w.heap.size + 1 ≠ w1.heap.size := by omega
  have hne2 : w1.heap.size ≠ w.heap.size + 1 := by omega
  clear hS H h0
  have i1 : (0 : Int) ≤ (i : Int) := by omega
  have i2 : (i : Int) < (m : Int) := by omega
  have hSh := Lib.hid ((show Sep _ (vec 42 5 (.slice (some ⟨g, 0, none⟩) l.length c1) l.length (qcells l) :: _) from by have h := hT.out.to1; unfold vq at h; rw [hm.out] at h ⊢; exact h).vec_shrink (k := i) (by rw [hm.out]; omega))
  have hbel := Lib.hid (hT.out.tail.tail.tail.tail.gold)
  have h63 : i + (m - (i + 1)) ≤ maxLen := by simp only [maxLen]; omega
  have hby : (i + (m - (i + 1))) * 40 ≤ 140737488355328 := by omega
  have hew : IntKind.i64.wrap ((i : Int) + 1) = (i : Int) + 1 := IntWalk.i64_in _ (by omega)
  have i3 : (0 : Int) ≤ (i : Int) + 1 := by omega
  have i4 : (i : Int) + 1 ≤ (m : Int) := by omega
  have i5 : ((i : Int) + 1).toNat = i + 1 := by omega
  have i6 : (i : Int) ≤ (c1 : Int) := by omega
  by_cases hcap : c = i + 1
  · obtain rfl : m = i + 1 := by omega
    obtain rfl : c = i + 1 := hcap
    have hsrc := Lib.hid (show ∀ W (c' : Nat), Below w.heap.size w W → SrcA W 5 (.slice (some ⟨b, off, none⟩) 0 c') 0 (qcells (l.drop (i + 1))) from fun W c' hb => (hv'.out.below hb).src_end hm.out c')
    have hsrc := Lib.hid (hsrc.out (w1.alloc (.cells #[.int .i64 t, .int .i64 r, .slice (some ⟨g, 0, none⟩) (i + 1) c1, .int .i64 n] 26)).drew 0 hbel.out.drew)
    go_wp2_with fail
    go_region_law
      ((refine step_append_sep hSh.out.drew (by kernel_rfl) (.tmp 11) (.tmp 16) 24 (by rfl) i0 _ 40 Tryz.underlying24 hi0 hz0 hz1 hz2 (by rfl) (by decide) (by rfl) 0 (qcells (l.drop (i + 1))) hsrc.out h1.out (by simp only [maxLen]; omega) (by omega) ?_; intro a' c' w2 hS2; obtain ⟨u1, u2, u3, u4, u5, u6, u7, u8, u9⟩ := hS2.to1.b4; obtain ⟨v1, v2, v3, v4, v5, _⟩ := hS2.to3.b4; obtain ⟨x1, x2, x3, x4, x5, x6, x7, x8, x9⟩ := hS2.to2.b4; replace hS2 := Lib.hid hS2))
    all_goals
      have hlen : i = (l.eraseIdx i).length := by rw [List.length_eraseIdx_of_lt (by rw [hm.out]; exact hi), hm.out]; omega
      replace hlen := Lib.hid hlen
      go_wp2_with fail
      refine bodyPost_ret (v := .agg #[.int .i64 t, .int .i64 r, .slice a' (i) c', .int .i64 n]) (by simp [results, Tryz.results59, go_sem, *]) rfl ⟨a', c', by rw [← hlen.out], ?_⟩
      have hZ := (((((hS2.out.to1.set 2 (.slice a' (i) c')).to2.set 0 (.int .i64 t)).set 1 (.int .i64 r)).set 2 (.slice a' (i) c')).set 3 (.int .i64 n)).tail.tail.drop1
      rw [qcells_erase] at hZ
      unfold vq
      rw [← hlen.out]
      exact hZ
  · have hsrc := Lib.hid (show ∀ W c', Below w.heap.size w W → SrcA W 5 (.slice (some ⟨b, off + (i + 1) * 5, none⟩) (m - (i + 1)) c') (m - (i + 1)) (qcells (l.drop (i + 1))) from fun W c' hb => (hv'.out.below hb).src_drop (by omega) hm.out)
    have hsrc := Lib.hid (hsrc.out (w1.alloc (.cells #[.int .i64 t, .int .i64 r, .slice (some ⟨g, 0, none⟩) m c1, .int .i64 n] 26)).drew (c - (i + 1)) hbel.out.drew)
    go_wp2_with fail
    go_region_law
      ((refine step_append_sep hSh.out.drew (by kernel_rfl) (.tmp 11) (.tmp 16) 24 (by rfl) i0 _ 40 Tryz.underlying24 hi0 hz0 hz1 hz2 (by rfl) (by decide) (by rfl) (m - (i + 1)) (qcells (l.drop (i + 1))) hsrc.out h1.out h63 hby ?_; intro a' c' w2 hS2; obtain ⟨u1, u2, u3, u4, u5, u6, u7, u8, u9⟩ := hS2.to1.b4; obtain ⟨v1, v2, v3, v4, v5, _⟩ := hS2.to3.b4; obtain ⟨x1, x2, x3, x4, x5, x6, x7, x8, x9⟩ := hS2.to2.b4; replace hS2 := Lib.hid hS2))
    all_goals
      have hlen : i + (m - (i + 1)) = (l.eraseIdx i).length := by rw [List.length_eraseIdx_of_lt (by rw [hm.out]; exact hi), hm.out]; omega
      replace hlen := Lib.hid hlen
      go_wp2_with fail
      refine bodyPost_ret (v := .agg #[.int .i64 t, .int .i64 r, .slice a' (i + (m - (i + 1))) c', .int .i64 n]) (by simp [results, Tryz.results59, go_sem, *]) rfl ⟨a', c', by rw [← hlen.out], ?_⟩
      have hZ := (((((hS2.out.to1.set 2 (.slice a' (i + (m - (i + 1))) c')).to2.set 0 (.int .i64 t)).set 1 (.int .i64 r)).set 2 (.slice a' (i + (m - (i + 1))) c')).set 3 (.int .i64 n)).tail.tail.drop1
      rw [qcells_erase] at hZ
      unfold vq
      rw [← hlen.out]
      exact hZ
end Go.Proofs.YtmacpjnkmkaloaaGreat
namespace Go.Proofs.YtmacpjnkmkaloaaGreat
set_option linter.unusedSimpArgs false
set_option linter.unusedVariables false
set_option linter.unnecessarySimpa false
open Go.RowKit
def zhd : Value := hval 0 0 (.slice none 0 0) 0
theorem boxes2 (w : World) (t0 t1 : TypeId) (b1 b2 : Array Value) : Sep ((w.alloc (.cells b1 t0)).alloc (.cells b2 t1)) [blk (w.heap.size + 1) t1 b2, blk w.heap.size t0 b1, old w] := by
  have := ((Sep.start w).alloc b1 t0).alloc b2 t1
  rw [World.size_alloc] at this
  exact this
theorem leaveR_none (t r n : Int) (v : Value) (l : List Rq) (id0 : Int) (w : World) (hv : RQ w v l) (hl : l.length ≤ 1000) (hi : idxF (fun q => q.id == id0) l 0 = -1) :
    Calls Tryz.prog 16 #[hval t r v n, .int .i64 id0] w fun e w' => e = .returned (.tuple #[zhd, .int .i64 5]) ∧ Below w.heap.size w w' := by
  have hB := Lib.hid (boxes2 w 26 26 #[.int .i64 t, .int .i64 r, v, .int .i64 n] #[.int .i64 0, .int .i64 0, .slice none 0 0, .int .i64 0])
  have hb2 := two_boxes w #[.int .i64 t, .int .i64 r, v, .int .i64 n] #[.int .i64 0, .int .i64 0, .slice none 0 0, .int .i64 0] 26 26
  have HA := Lib.hid (at_any t r n v l id0 _ (hv.below hb2) hl)
  rw [hi] at HA
  clear hb2 hi
  obtain ⟨a, c, rfl, _⟩ := hv
  unfold hval at *
  go_enter Tryz.func16, Tryz.ntmps16
  go_wp2_with fail
  refine HA.out.mono ?_
  rintro e w1 ⟨rfl, b1⟩
  replace hB := Lib.hid (hB.out.below b1)
  obtain ⟨y2, e0, e1, e2, e3, f0, f1, f2, f3⟩ := hB.out.b4
  clear b1 HA
  go_wp2_with fail
  refine bodyPost_ret (v := .tuple #[.agg #[.int .i64 0, .int .i64 0, .slice none 0 0, .int .i64 0], .int .i64 5]) (by simp [results, Tryz.results16, go_sem, *]) rfl ⟨rfl, ?_⟩
  exact ((((hB.out.set 0 (.int .i64 0)).set 1 (.int .i64 0)).set 2 (.slice none 0 0)).set 3 (.int .i64 0)).tail.tail.gold
theorem leaveR_some (t r n : Int) (v : Value) (l : List Rq) (id0 : Int) (i : Nat) (w : World) (hv : RQ w v l) (hl : l.length ≤ 1000) (hi : idxF (fun q => q.id == id0) l 0 = i) (hil : i < l.length) :
    Calls Tryz.prog 16 #[hval t r v n, .int .i64 id0] w fun e w' => ∃ a c, e = .returned (.tuple #[hval t r (.slice a (l.eraseIdx i).length c) n, .int .i64 0]) ∧ Sep w' [vq (.slice a (l.eraseIdx i).length c) (l.eraseIdx i), old w] := by
  have hB := Lib.hid (boxes2 w 26 26 #[.int .i64 t, .int .i64 r, v, .int .i64 n] #[.int .i64 0, .int .i64 0, .slice none 0 0, .int .i64 0])
  have hb2 := two_boxes w #[.int .i64 t, .int .i64 r, v, .int .i64 n] #[.int .i64 0, .int .i64 0, .slice none 0 0, .int .i64 0] 26 26
  have HA := Lib.hid (at_any t r n v l id0 _ (hv.below hb2) hl)
  rw [hi] at HA
  have HW := Lib.hid (fun W (hb : Below w.heap.size w W) => withoutQ_any t r n v l i W (hv.below hb) hl hil)
  have d : decide ((i : Int) < 0) = false := by rw [decide_eq_false_iff_not]; omega
  clear hb2 hi
  obtain ⟨a, c, rfl, _⟩ := hv
  unfold hval at *
  go_enter Tryz.func16, Tryz.ntmps16
  go_wp2_with fail
  refine HA.out.mono ?_
  rintro e w1 ⟨rfl, b1⟩
  replace hB := Lib.hid (hB.out.below b1)
  obtain ⟨y2, e0, e1, e2, e3, f0, f1, f2, f3⟩ := hB.out.b4
  obtain ⟨y3, k0, k1, k2, k3, _⟩ := hB.out.to1.b4
  replace HW := Lib.hid (HW.out w1 hB.out.tail.tail.gold)
  clear b1 HA
  go_wp2_with fail
  refine HW.out.mono ?_
  rintro e w2 ⟨a', c', rfl, hS⟩
  replace hS := Lib.hid (hS.graft hB.out)
  clear HW y2 e0 e1 e2 e3 f0 f1 f2 f3 y3 k0 k1 k2 k3 hB
  obtain ⟨y2, e0, e1, e2, e3, f0, f1, f2, f3⟩ := hS.out.to1.b4
  generalize hz : (l.eraseIdx i).length = z at *
  go_wp2_with fail
  refine bodyPost_ret (v := .tuple #[.agg #[.int .i64 t, .int .i64 r, .slice a' z c', .int .i64 n], .int .i64 0]) (by simp [results, Tryz.results16, go_sem, *]) rfl ⟨a', c', by rw [hz], ?_⟩
  rw [hz]
  exact (((((hS.out.to1.set 0 (.int .i64 t)).set 1 (.int .i64 r)).set 2 (.slice a' z c')).set 3 (.int .i64 n)).tail.drop1)
/-- What is left of a request that does not wait any more. -/
def calm (l : List Rq) (i : Nat) : List Rq := l.set i { (l.getD i default) with want := (l.getD i default).mode, since := 0 }
theorem calm_len (l : List Rq) (i : Nat) : (calm l i).length = l.length := by simp [calm]
theorem qcells_calm (l : List Rq) (i : Nat) (h : i < l.length) : ((qcells l).set (i * 5 + 3) (.int .i64 (l.getD i default).mode)).set (i * 5 + 4) (.int .i64 0) = qcells (calm l i) := by
  induction l generalizing i with
  | nil => simp at h
  | cons r l ih =>
    cases i with
    | zero => rfl
    | succ i =>
      have ih' := ih i (by simpa using h)
      have e : (r :: l).getD (i + 1) default = l.getD i default := by simp [List.getD]
      unfold calm
      rw [e]
      simp only [List.set_cons_succ]
      unfold calm at ih'
      simp only [qcells, List.flatMap_cons] at ih' ⊢
      rw [← ih']
      rw [List.set_append_right _ _ (by simp [Rq.cells]; omega), List.set_append_right _ _ (by simp [Rq.cells]; omega)]
      simp only [Rq.cells, List.length_cons, List.length_nil]
      rw [show (i + 1) * 5 + 3 - (0 + 1 + 1 + 1 + 1 + 1) = i * 5 + 3 by omega, show (i + 1) * 5 + 4 - (0 + 1 + 1 + 1 + 1 + 1) = i * 5 + 4 by omega]
theorem Sep.vq_calm {w : World} {g m c i : Nat} {l : List Rq} {rs : List Res} (h : Sep w (vq (.slice (some ⟨g, 0, none⟩) m c) l :: rs)) (hl : l.length = m) (hi : i < m) :
    Sep ((w.setCell ⟨g, i * 5 + 3, none⟩ (.int .i64 (l.getD i default).mode)).setCell ⟨g, i * 5 + 4, none⟩ (.int .i64 0)) (vq (.slice (some ⟨g, 0, none⟩) m c) (calm l i) :: rs) := by
  subst hl
  have h1 : Sep w (vec 42 5 (.slice (some ⟨g, 0, none⟩) l.length c) l.length (qcells l) :: rs) := h
  have h2 := (h1.vec_set (k := i * 5 + 3) (by rw [qcells_len]; omega) (.int .i64 (l.getD i default).mode)).vec_set (k := i * 5 + 4) (by rw [List.length_set, qcells_len]; omega) (.int .i64 0)
  rw [qcells_calm l i hi] at h2
  unfold vq
  rw [calm_len]
  exact h2
/-- Abandon's answers: 5 none, 7 no wait, 0. -/
theorem abandonR_none (t r n : Int) (v : Value) (l : List Rq) (id0 : Int) (w : World) (hv : RQ w v l) (hl : l.length ≤ 1000) (hi : idxF (fun q => q.id == id0) l 0 = -1) :
    Calls Tryz.prog 18 #[hval t r v n, .int .i64 id0] w fun e w' => e = .returned (.tuple #[zhd, .int .i64 5]) ∧ Below w.heap.size w w' := by
  have hB := Lib.hid (boxes2 w 26 26 #[.int .i64 t, .int .i64 r, v, .int .i64 n] #[.int .i64 0, .int .i64 0, .slice none 0 0, .int .i64 0])
  have hb2 := two_boxes w #[.int .i64 t, .int .i64 r, v, .int .i64 n] #[.int .i64 0, .int .i64 0, .slice none 0 0, .int .i64 0] 26 26
  have HA := Lib.hid (at_any t r n v l id0 _ (hv.below hb2) hl)
  rw [hi] at HA
  clear hb2 hi
  obtain ⟨a, c, rfl, _⟩ := hv
  unfold hval at *
  go_enter Tryz.func18, Tryz.ntmps18
  go_wp2_with fail
  refine HA.out.mono ?_
  rintro e w1 ⟨rfl, b1⟩
  replace hB := Lib.hid (hB.out.below b1)
  obtain ⟨y2, e0, e1, e2, e3, f0, f1, f2, f3⟩ := hB.out.b4
  clear b1 HA
  go_wp2_with fail
  refine bodyPost_ret (v := .tuple #[.agg #[.int .i64 0, .int .i64 0, .slice none 0 0, .int .i64 0], .int .i64 5]) (by simp [results, Tryz.results18, go_sem, *]) rfl ⟨rfl, ?_⟩
  exact ((((hB.out.set 0 (.int .i64 0)).set 1 (.int .i64 0)).set 2 (.slice none 0 0)).set 3 (.int .i64 0)).tail.tail.gold
theorem abandonR_calm (t r n : Int) (v : Value) (l : List Rq) (id0 : Int) (i : Nat) (w : World) (hv : RQ w v l) (hl : l.length ≤ 1000) (hi : idxF (fun q => q.id == id0) l 0 = i) (hil : i < l.length) (hs : (l.getD i default).since ≤ 0) :
    Calls Tryz.prog 18 #[hval t r v n, .int .i64 id0] w fun e w' => e = .returned (.tuple #[zhd, .int .i64 7]) ∧ Below w.heap.size w w' := by
  have hB := Lib.hid (boxes2 w 26 26 #[.int .i64 t, .int .i64 r, v, .int .i64 n] #[.int .i64 0, .int .i64 0, .slice none 0 0, .int .i64 0])
  have hb2 := two_boxes w #[.int .i64 t, .int .i64 r, v, .int .i64 n] #[.int .i64 0, .int .i64 0, .slice none 0 0, .int .i64 0] 26 26
  have HA := Lib.hid (at_any t r n v l id0 _ (hv.below hb2) hl)
  rw [hi] at HA
  have HW := Lib.hid (fun W => waitsR_any (l.getD i default) W)
  rw [decide_eq_false (show ¬ 0 < (l.getD i default).since by omega)] at HW
  have d : decide ((i : Int) < 0) = false := by rw [decide_eq_false_iff_not]; omega
  clear hb2 hi hs
  obtain ⟨a, c, rfl, hlc, _, hr⟩ := hv
  obtain ⟨b, off, rfl, hbl, hz⟩ := hr (by omega)
  obtain ⟨z0, z1, z2, z3, z4⟩ := hz i hil
  clear hr hz
  generalize l.getD i default = q at *
  have i1 : (0 : Int) ≤ (i : Int) := by omega
  have i2 : (i : Int) < (l.length : Int) := by omega
  obtain ⟨id, txn, mode, want, since⟩ := q
  unfold hval at *
  simp only [Rq.val] at HW z0 z1 z2 z3 z4
  generalize l.length = m at *
  go_enter Tryz.func18, Tryz.ntmps18
  go_wp2_with fail
  refine HA.out.mono ?_
  rintro e w1 ⟨rfl, b1⟩
  replace hB := Lib.hid (hB.out.below b1)
  obtain ⟨y2, e0, e1, e2, e3, f0, f1, f2, f3⟩ := hB.out.b4
  obtain ⟨y3, k0, k1, k2, k3, _⟩ := hB.out.to1.b4
  rw [← hB.out.tail.tail.gold.cell (by exact hbl)] at z0 z1 z2 z3 z4
  clear b1 HA
  go_wp2_with fail
  refine (HW.out _).mono ?_
  rintro e w2 ⟨rfl, b2⟩
  replace hB := Lib.hid (hB.out.below b2)
  clear b2 HW y2 e0 e1 e2 e3 f0 f1 f2 f3 y3 k0 k1 k2 k3 z0 z1 z2 z3 z4
  obtain ⟨y2, e0, e1, e2, e3, f0, f1, f2, f3⟩ := hB.out.b4
  go_wp2_with fail
  refine bodyPost_ret (v := .tuple #[.agg #[.int .i64 0, .int .i64 0, .slice none 0 0, .int .i64 0], .int .i64 7]) (by simp [results, Tryz.results18, go_sem, *]) rfl ⟨rfl, ?_⟩
  exact ((((hB.out.set 0 (.int .i64 0)).set 1 (.int .i64 0)).set 2 (.slice none 0 0)).set 3 (.int .i64 0)).tail.tail.gold
theorem abandonR_gone (t r n : Int) (v : Value) (l : List Rq) (id0 : Int) (i : Nat) (w : World) (hv : RQ w v l) (hl : l.length ≤ 1000) (hi : idxF (fun q => q.id == id0) l 0 = i) (hil : i < l.length) (hs : 0 < (l.getD i default).since) (hm : ((l.getD i default).mode != 0) = false) :
    Calls Tryz.prog 18 #[hval t r v n, .int .i64 id0] w fun e w' => ∃ a c, e = .returned (.tuple #[hval t r (.slice a (l.eraseIdx i).length c) n, .int .i64 0]) ∧ Sep w' [vq (.slice a (l.eraseIdx i).length c) (l.eraseIdx i), old w] := by
  have hB := Lib.hid (boxes2 w 26 26 #[.int .i64 t, .int .i64 r, v, .int .i64 n] #[.int .i64 0, .int .i64 0, .slice none 0 0, .int .i64 0])
  have hb2 := two_boxes w #[.int .i64 t, .int .i64 r, v, .int .i64 n] #[.int .i64 0, .int .i64 0, .slice none 0 0, .int .i64 0] 26 26
  have HA := Lib.hid (at_any t r n v l id0 _ (hv.below hb2) hl)
  rw [hi] at HA
  have HW := Lib.hid (fun W => waitsR_any (l.getD i default) W)
  rw [decide_eq_true (show 0 < (l.getD i default).since by omega)] at HW
  have HH := Lib.hid (fun W => holdsR_any (l.getD i default) W)
  rw [hm] at HH
  have HX' := Lib.hid (fun W (hb : Below w.heap.size w W) => withoutQ_any t r n v l i W (hv.below hb) hl hil)
  have d : decide ((i : Int) < 0) = false := by rw [decide_eq_false_iff_not]; omega
  clear hb2 hi hs hm
  obtain ⟨a, c, rfl, hlc, _, hr⟩ := hv
  obtain ⟨b, off, rfl, hbl, hz⟩ := hr (by omega)
  obtain ⟨z0, z1, z2, z3, z4⟩ := hz i hil
  have hz' := Lib.hid (hz i hil)
  clear hr hz
  generalize l.getD i default = q at *
  have i1 : (0 : Int) ≤ (i : Int) := by omega
  have i2 : (i : Int) < (l.length : Int) := by omega
  obtain ⟨id, txn, mode, want, since⟩ := q
  unfold hval at *
  simp only [Rq.val] at HW HH z0 z1 z2 z3 z4
  generalize hlm : l.length = m at *
  replace hlm := Lib.hid hlm
  go_enter Tryz.func18, Tryz.ntmps18
  go_wp2_with fail
  refine HA.out.mono ?_
  rintro e w1 ⟨rfl, b1⟩
  replace hB := Lib.hid (hB.out.below b1)
  obtain ⟨y2, e0, e1, e2, e3, f0, f1, f2, f3⟩ := hB.out.b4
  obtain ⟨y3, k0, k1, k2, k3, _⟩ := hB.out.to1.b4
  rw [← hB.out.tail.tail.gold.cell (by exact hbl)] at z0 z1 z2 z3 z4
  clear b1 HA
  go_wp2_with fail
  refine (HW.out _).mono ?_
  rintro e w2 ⟨rfl, b2⟩
  replace hB := Lib.hid (hB.out.below b2)
  clear b2 HW y2 e0 e1 e2 e3 f0 f1 f2 f3 y3 k0 k1 k2 k3 z0 z1 z2 z3 z4
  obtain ⟨y2, e0, e1, e2, e3, f0, f1, f2, f3⟩ := hB.out.b4
  obtain ⟨y3, k0, k1, k2, k3, _⟩ := hB.out.to1.b4
  obtain ⟨z0, z1, z2, z3, z4⟩ := hz'.out
  rw [← hB.out.tail.tail.gold.cell (by exact hbl)] at z0 z1 z2 z3 z4
  try simp only at z0 z1 z2 z3 z4
  go_wp2_with fail
  refine (HH.out _).mono ?_
  rintro e w3 ⟨rfl, b3⟩
  replace hB := Lib.hid (hB.out.below b3)
  clear b3 HH y2 e0 e1 e2 e3 f0 f1 f2 f3 y3 k0 k1 k2 k3 z0 z1 z2 z3 z4
  obtain ⟨y2, e0, e1, e2, e3, f0, f1, f2, f3⟩ := hB.out.b4
  obtain ⟨y3, k0, k1, k2, k3, _⟩ := hB.out.to1.b4
  replace HX' := Lib.hid (HX'.out w3 hB.out.tail.tail.gold)
  go_wp2_with fail
  refine HX'.out.mono ?_
  rintro e w4 ⟨a', c', rfl, hS⟩
  replace hS := Lib.hid (hS.graft hB.out)
  clear HX' y2 e0 e1 e2 e3 f0 f1 f2 f3 y3 k0 k1 k2 k3 hB
  obtain ⟨y2, e0, e1, e2, e3, f0, f1, f2, f3⟩ := hS.out.to1.b4
  generalize hz : (l.eraseIdx i).length = z at *
  go_wp2_with fail
  refine bodyPost_ret (v := .tuple #[.agg #[.int .i64 t, .int .i64 r, .slice a' z c', .int .i64 n], .int .i64 0]) (by simp [results, Tryz.results18, go_sem, *]) rfl ⟨a', c', by rw [hz], ?_⟩
  rw [hz]
  exact (((((hS.out.to1.set 0 (.int .i64 t)).set 1 (.int .i64 r)).set 2 (.slice a' z c')).set 3 (.int .i64 n)).tail.drop1)
set_option maxHeartbeats 2000000 in
theorem abandonR_stay (t r n : Int) (v : Value) (l : List Rq) (id0 : Int) (i : Nat) (w : World) (hv : RQ w v l) (hl : l.length ≤ 1000) (hi : idxF (fun q => q.id == id0) l 0 = i) (hil : i < l.length) (hs : 0 < (l.getD i default).since) (hm : ((l.getD i default).mode != 0) = true) :
    Calls Tryz.prog 18 #[hval t r v n, .int .i64 id0] w fun e w' => ∃ a c, e = .returned (.tuple #[hval t r (.slice a (calm l i).length c) n, .int .i64 0]) ∧ Sep w' [vq (.slice a (calm l i).length c) (calm l i), old w] := by
  have hB := Lib.hid (boxes2 w 26 26 #[.int .i64 t, .int .i64 r, v, .int .i64 n] #[.int .i64 0, .int .i64 0, .slice none 0 0, .int .i64 0])
  have hb2 := two_boxes w #[.int .i64 t, .int .i64 r, v, .int .i64 n] #[.int .i64 0, .int .i64 0, .slice none 0 0, .int .i64 0] 26 26
  have HA := Lib.hid (at_any t r n v l id0 _ (hv.below hb2) hl)
  rw [hi] at HA
  have HW := Lib.hid (fun W => waitsR_any (l.getD i default) W)
  rw [decide_eq_true (show 0 < (l.getD i default).since by omega)] at HW
  have HH := Lib.hid (fun W => holdsR_any (l.getD i default) W)
  rw [hm] at HH
  have HX' := Lib.hid (fun W (hb : Below w.heap.size w W) => copied_any t r n v l W (hv.below hb) hl)
  have d : decide ((i : Int) < 0) = false := by rw [decide_eq_false_iff_not]; omega
  clear hb2 hi hs hm
  obtain ⟨a, c, rfl, hlc, _, hr⟩ := hv
  obtain ⟨b, off, rfl, hbl, hz⟩ := hr (by omega)
  obtain ⟨z0, z1, z2, z3, z4⟩ := hz i hil
  have hz' := Lib.hid (hz i hil)
  clear hr hz
  generalize hq : l.getD i default = q at *
  replace hq := Lib.hid hq
  have i1 : (0 : Int) ≤ (i : Int) := by omega
  have i2 : (i : Int) < (l.length : Int) := by omega
  obtain ⟨id, txn, mode, want, since⟩ := q
  unfold hval at *
  simp only [Rq.val] at HW HH z0 z1 z2 z3 z4
  generalize hlm : l.length = m at *
  replace hlm := Lib.hid hlm
  go_enter Tryz.func18, Tryz.ntmps18
  go_wp2_with fail
  refine HA.out.mono ?_
  rintro e w1 ⟨rfl, b1⟩
  replace hB := Lib.hid (hB.out.below b1)
  obtain ⟨y2, e0, e1, e2, e3, f0, f1, f2, f3⟩ := hB.out.b4
  obtain ⟨y3, k0, k1, k2, k3, _⟩ := hB.out.to1.b4
  rw [← hB.out.tail.tail.gold.cell (by exact hbl)] at z0 z1 z2 z3 z4
  clear b1 HA
  go_wp2_with fail
  refine (HW.out _).mono ?_
  rintro e w2 ⟨rfl, b2⟩
  replace hB := Lib.hid (hB.out.below b2)
  clear b2 HW y2 e0 e1 e2 e3 f0 f1 f2 f3 y3 k0 k1 k2 k3 z0 z1 z2 z3 z4
  obtain ⟨y2, e0, e1, e2, e3, f0, f1, f2, f3⟩ := hB.out.b4
  obtain ⟨y3, k0, k1, k2, k3, _⟩ := hB.out.to1.b4
  obtain ⟨z0, z1, z2, z3, z4⟩ := hz'.out
  rw [← hB.out.tail.tail.gold.cell (by exact hbl)] at z0 z1 z2 z3 z4
  try simp only at z0 z1 z2 z3 z4
  go_wp2_with fail
  refine (HH.out _).mono ?_
  rintro e w3 ⟨rfl, b3⟩
  replace hB := Lib.hid (hB.out.below b3)
  clear b3 HH y2 e0 e1 e2 e3 f0 f1 f2 f3 y3 k0 k1 k2 k3 z0 z1 z2 z3 z4
  obtain ⟨y2, e0, e1, e2, e3, f0, f1, f2, f3⟩ := hB.out.b4
  obtain ⟨y3, k0, k1, k2, k3, _⟩ := hB.out.to1.b4
  replace HX' := Lib.hid (HX'.out w3 hB.out.tail.tail.gold)
  go_wp2_with fail
  refine HX'.out.mono ?_
  rintro e w4 ⟨a', c', rfl, hS⟩
  replace hS := Lib.hid (hS.graft hB.out)
  clear HX' y2 e0 e1 e2 e3 f0 f1 f2 f3 y3 k0 k1 k2 k3 hB
  have hlt1 := hS.out.to1.gblk.lt
  have hT := Lib.hid (hS.out.alloc #[.int .i64 t, .int .i64 r, .slice a' m c', .int .i64 n] 26)
  obtain ⟨g, rfl, hgl, hmc1, q0, q1, q2, q3, q4, hfz⟩ := hT.out.to1.vq_at hlm.out hil
  have zf3 := hfz (i * 5 + 3)
  have zf4 := hfz (i * 5 + 4)
  have n1 := hT.out.to1.vq_ne hlm.out
  have n2 := Ne.symm n1
  have n3 : w.heap.size + 1 ≠ w4.heap.size := by omega
  have n4 := Ne.symm n3
  have n5 := hT.out.tail.to1.to1.vq_ne hlm.out
  have n6 := Ne.symm n5
  have hS4 := hT.out.to1.vq_calm hlm.out hil
  rw [hq.out] at q0 q1 q2 q3 q4 hS4
  simp only at q0 q1 q2 q3 q4 hS4
  replace hS4 := Lib.hid hS4
  obtain ⟨y1, d0, d1, d2, d3, g0, g1, g2, g3⟩ := hT.out.b4
  obtain ⟨y2, e0, e1, e2, e3, f0, f1, f2, f3⟩ := hT.out.to2.b4
  clear hS hfz
  go_wp2_with fail
  go_region
  all_goals
    go_wp2_with fail
    refine bodyPost_ret (v := .tuple #[.agg #[.int .i64 t, .int .i64 r, .slice (some ⟨g, 0, none⟩) m c', .int .i64 n], .int .i64 0]) (by simp [results, Tryz.results18, go_sem, *]) rfl ⟨_, c', by rw [calm_len, hlm.out], ?_⟩
    rw [calm_len, hlm.out]
    exact (((((hS4.out.to2.set 0 (.int .i64 t)).set 1 (.int .i64 r)).set 2 (.slice (some ⟨g, 0, none⟩) m c')).set 3 (.int .i64 n)).tail.drop1.drop1).drew
end Go.Proofs.YtmacpjnkmkaloaaGreat
namespace Go.Proofs.YtmacpjnkmkaloaaGreat
set_option linter.unusedSimpArgs false
set_option linter.unusedVariables false
set_option linter.unnecessarySimpa false
open Go.RowKit
/-- May a request be by itself? -/
def rightB (r : Rq) (n : Int) : Bool := decide (0 ≤ r.id) && (knownB r.mode && (knownB r.want && (decide (0 ≤ r.since) && (decide (r.since ≤ n) && (if 0 < r.since then !covB r.mode r.want else (r.mode != 0 && r.want == r.mode))))))
set_option maxHeartbeats 1000000 in
theorem rightR_any (r : Rq) (n : Int) (w : World) : Calls Tryz.prog 36 #[r.val, .int .i64 n] w fun e w' => e = .returned (.bool (rightB r n)) ∧ Below w.heap.size w w' := by
  have Km := Lib.hid (fun W => knownR_any r.mode W)
  have Kw := Lib.hid (fun W => knownR_any r.want W)
  have HW := Lib.hid (fun W => waitsR_any r W)
  have HH := Lib.hid (fun W => holdsR_any r W)
  have HC := Lib.hid (fun W => coversR_any r.mode r.want W)
  unfold rightB
  obtain ⟨id, txn, mode, want, since⟩ := r
  have hb0 := Lib.hid ((Below.refl w.heap.size w).alloc (Nat.le_refl _) (.cells #[.int .i64 id, .int .i64 txn, .int .i64 mode, .int .i64 want, .int .i64 since] 42))
  unfold Rq.val at *
  simp only at Km Kw HW HH HC ⊢
  by_cases h0 : id < 0
  · have d0 : decide (id < 0) = true := decide_eq_true h0
    rw [show decide (0 ≤ id) = false by simp; omega]
    clear h0
    go_enter Tryz.func36, Tryz.ntmps36
    go_wp2_with fail
    all_goals go_ret
    all_goals exact ⟨by first | rfl | (simp; done), hb0.out⟩
  · have d0 : decide (id < 0) = false := decide_eq_false h0
    rw [show decide (0 ≤ id) = true by simp; omega]
    clear h0
    cases hm : knownB mode with
    | false =>
      rw [hm] at Km
      go_enter Tryz.func36, Tryz.ntmps36
      go_wp2_with fail
      refine (Km.out _).mono ?_
      rintro e w' ⟨rfl, rfl⟩
      go_wp2_with fail
      all_goals go_ret
      all_goals exact ⟨by first | rfl | (simp; done), hb0.out⟩
    | true =>
      rw [hm] at Km
      cases hw : knownB want with
      | false =>
        rw [hw] at Kw
        go_enter Tryz.func36, Tryz.ntmps36
        go_wp2_with fail
        refine (Km.out _).mono ?_
        rintro e w' ⟨rfl, rfl⟩
        go_wp2_with fail
        refine (Kw.out _).mono ?_
        rintro e w' ⟨rfl, rfl⟩
        go_wp2_with fail
        all_goals go_ret
        all_goals exact ⟨by first | rfl | (simp; done), hb0.out⟩
      | true =>
        rw [hw] at Kw
        by_cases h1 : since < 0
        · have d1 : decide (since < 0) = true := decide_eq_true h1
          rw [show decide (0 ≤ since) = false by simp; omega]
          clear h1
          go_enter Tryz.func36, Tryz.ntmps36
          go_wp2_with fail
          refine (Km.out _).mono ?_
          rintro e w' ⟨rfl, rfl⟩
          go_wp2_with fail
          refine (Kw.out _).mono ?_
          rintro e w' ⟨rfl, rfl⟩
          go_wp2_with fail
          all_goals go_ret
          all_goals exact ⟨by first | rfl | (simp; done), hb0.out⟩
        · have d1 : decide (since < 0) = false := decide_eq_false h1
          rw [show decide (0 ≤ since) = true by simp; omega]
          clear h1
          by_cases h2 : n < since
          · have d2 : decide (n < since) = true := decide_eq_true h2
            rw [show decide (since ≤ n) = false by simp; omega]
            clear h2
            go_enter Tryz.func36, Tryz.ntmps36
            go_wp2_with fail
            refine (Km.out _).mono ?_
            rintro e w' ⟨rfl, rfl⟩
            go_wp2_with fail
            refine (Kw.out _).mono ?_
            rintro e w' ⟨rfl, rfl⟩
            go_wp2_with fail
            all_goals go_ret
            all_goals exact ⟨by first | rfl | (simp; done), hb0.out⟩
          · have d2 : decide (n < since) = false := decide_eq_false h2
            rw [show decide (since ≤ n) = true by simp; omega]
            clear h2
            by_cases h3 : 0 < since
            · rw [decide_eq_true h3] at HW
              rw [if_pos h3]
              clear h3
              go_enter Tryz.func36, Tryz.ntmps36
              go_wp2_with fail
              refine (Km.out _).mono ?_
              rintro e w' ⟨rfl, rfl⟩
              go_wp2_with fail
              refine (Kw.out _).mono ?_
              rintro e w' ⟨rfl, rfl⟩
              go_wp2_with fail
              refine (HW.out _).mono ?_
              rintro e w1 ⟨rfl, b1⟩
              obtain ⟨c0, c1, c2, c3, c4⟩ := cellsA b1 _ _ _ _ _ rfl
              have hb1 := Lib.hid (belA _ b1)
              clear b1
              go_wp2_with fail
              refine (HC.out _).mono ?_
              rintro e w2 ⟨rfl, b2⟩
              replace hb1 := Lib.hid (belT hb1.out b2)
              clear b2 c0 c1 c2 c3 c4
              go_wp2_with fail
              all_goals go_ret
              all_goals exact ⟨by first | rfl | (simp; done), hb1.out⟩
            · rw [decide_eq_false h3] at HW
              rw [if_neg h3]
              clear h3
              cases hmo : mode != 0 with
              | false =>
                rw [hmo] at HH
                go_enter Tryz.func36, Tryz.ntmps36
                go_wp2_with fail
                refine (Km.out _).mono ?_
                rintro e w' ⟨rfl, rfl⟩
                go_wp2_with fail
                refine (Kw.out _).mono ?_
                rintro e w' ⟨rfl, rfl⟩
                go_wp2_with fail
                refine (HW.out _).mono ?_
                rintro e w1 ⟨rfl, b1⟩
                obtain ⟨c0, c1, c2, c3, c4⟩ := cellsA b1 _ _ _ _ _ rfl
                have hb1 := Lib.hid (belA _ b1)
                clear b1
                go_wp2_with fail
                refine (HH.out _).mono ?_
                rintro e w2 ⟨rfl, b2⟩
                replace hb1 := Lib.hid (belT hb1.out b2)
                clear b2 c0 c1 c2 c3 c4
                go_wp2_with fail
                all_goals go_ret
                all_goals exact ⟨by first | rfl | (simp; done), hb1.out⟩
              | true =>
                rw [hmo] at HH
                go_enter Tryz.func36, Tryz.ntmps36
                go_wp2_with fail
                refine (Km.out _).mono ?_
                rintro e w' ⟨rfl, rfl⟩
                go_wp2_with fail
                refine (Kw.out _).mono ?_
                rintro e w' ⟨rfl, rfl⟩
                go_wp2_with fail
                refine (HW.out _).mono ?_
                rintro e w1 ⟨rfl, b1⟩
                obtain ⟨c0, c1, c2, c3, c4⟩ := cellsA b1 _ _ _ _ _ rfl
                have hb1 := Lib.hid (belA _ b1)
                clear b1
                have hcc := Lib.hid (And.intro c2 c3)
                go_wp2_with fail
                refine (HH.out _).mono ?_
                rintro e w2 ⟨rfl, b2⟩
                have l1 := World.block_lt_of_cell? _ _ c0
                replace c2 := (b2.cell (p := ⟨w.heap.size, 2, none⟩) l1).trans c2
                replace c3 := (b2.cell (p := ⟨w.heap.size, 3, none⟩) l1).trans c3
                replace hb1 := Lib.hid (belT hb1.out b2)
                clear b2 c0 c1 c4
                go_wp2_with fail
                all_goals go_ret
                all_goals exact ⟨by first | rfl | (simp; done), hb1.out⟩
end Go.Proofs.YtmacpjnkmkaloaaGreat
namespace Go.Proofs.YtmacpjnkmkaloaaGreat
set_option linter.unusedSimpArgs false
set_option linter.unusedVariables false
set_option linter.unnecessarySimpa false
open Go.RowKit
theorem kitT_any (t : Int) (w : World) : Calls Tryz.prog 71 #[.int .i64 t] w fun e w' => e = .returned (.agg #[.int .i64 t, .int .i64 (-1)]) ∧ Below w.heap.size w w' := by
  go_enter Tryz.func71, Tryz.ntmps71
  go_wp2
  exact bodyPost_ret (v := .agg #[.int .i64 t, .int .i64 (-1)]) (by simp [results, Tryz.results71, go_sem]) rfl ⟨rfl, (Below.refl _ _).alloc (Nat.le_refl _) _⟩
theorem empty_any (w : World) : Calls Tryz.prog 30 #[] w fun e w' => e = .returned (hval 0 (-1) (.slice none 0 0) 0) ∧ Below w.heap.size w w' := by
  have hB := Lib.hid ((Sep.start w).alloc #[.int .i64 0, .int .i64 0, .slice none 0 0, .int .i64 0] 26)
  have H := Lib.hid (fun W => kitT_any 0 W)
  unfold hval
  go_enter Tryz.func30, Tryz.ntmps30
  go_wp2_with fail
  refine (H.out _).mono ?_
  rintro e w1 ⟨rfl, b1⟩
  replace hB := Lib.hid (hB.out.below b1)
  obtain ⟨y2, e0, e1, e2, e3, f0, f1, f2, f3⟩ := hB.out.b4
  clear b1
  go_wp2_with fail
  refine bodyPost_ret (v := .agg #[.int .i64 0, .int .i64 (-1), .slice none 0 0, .int .i64 0]) (by simp [results, Tryz.results30, go_sem, *]) rfl ⟨rfl, ?_⟩
  exact ((((hB.out.set 0 (.int .i64 0)).set 1 (.int .i64 (-1))).set 2 (.slice none 0 0)).set 3 (.int .i64 0)).tail.gold
/-- What a transaction holds. -/
def modeOf (l : List Rq) (t0 : Int) : Int := if idxF (fun q => q.txn == t0) l 0 < 0 then 0 else (l.getD (idxF (fun q => q.txn == t0) l 0).toNat default).mode
theorem mode_any (t r n : Int) (v : Value) (l : List Rq) (t0 : Int) (w : World) (hv : RQ w v l) (hl : l.length ≤ 1000) :
    Calls Tryz.prog 23 #[hval t r v n, .int .i64 t0] w fun e w' => e = .returned (.int .i64 (modeOf l t0)) ∧ Below w.heap.size w w' := by
  have H := Lib.hid (fun b0 => index_any v l 63 #[.pointer (some ⟨w.heap.size + 1, 0, none⟩)] (fun q => q.txn == t0) ((w.alloc (.cells b0 26)).alloc (.cells #[.int .i64 t0] 3)) (hv.below (two_boxes _ _ _ _ _)) hl
    (mode1 t0 (w.heap.size + 1) _ (by simp) (snd_box _ _ _ _ _ 0)) eg_mode)
  have hB := Lib.hid (fun b0 => boxes2 w 26 3 b0 #[.int .i64 t0])
  have hbd := idxF_bd (fun q => q.txn == t0) l 0
  have hv' := Lib.hid hv
  obtain ⟨a, c, rfl, hlc, _, hr⟩ := hv
  unfold modeOf
  generalize idxF (fun q => q.txn == t0) l 0 = x at *
  replace hr := Lib.hid hr
  have eg := eg_mode
  unfold hval
  rcases hbd with rfl | ⟨j, hx, hj, _⟩
  · go_enter Tryz.func23, Tryz.ntmps23
    go_wp2_with fail
    refine (H.out _).mono ?_
    rintro e w1 ⟨rfl, b1⟩
    have fin := Lib.hid ((hB.out _).below b1).tail.tail.gold
    clear b1
    go_wp2_with fail
    go_ret
    exact ⟨rfl, fin.out⟩
  · rw [Nat.zero_add] at hx
    subst hx
    rw [if_neg (by omega), Int.toNat_natCast]
    obtain ⟨b, off, rfl, hbl, hz⟩ := hr.out (by omega)
    have z2 := (hz j hj).2.2.1
    have d : decide ((j : Int) < 0) = false := by rw [decide_eq_false_iff_not]; omega
    have i1 : (0 : Int) ≤ (j : Int) := by omega
    have i2 : (j : Int) < (l.length : Int) := by omega
    clear hz hr
    generalize (l.getD j default).mode = mo at *
    generalize l.length = m at *
    go_enter Tryz.func23, Tryz.ntmps23
    go_wp2_with fail
    refine (H.out _).mono ?_
    rintro e w1 ⟨rfl, b1⟩
    replace hB := Lib.hid ((hB.out _).below b1)
    obtain ⟨y3, k0, k1, k2, k3, _⟩ := hB.out.to1.b4
    rw [← hB.out.tail.tail.gold.cell (by exact hbl)] at z2
    clear b1
    go_wp2_with fail
    go_ret
    exact ⟨rfl, hB.out.tail.tail.gold⟩
end Go.Proofs.YtmacpjnkmkaloaaGreat
namespace Go.Proofs.YtmacpjnkmkaloaaGreat
set_option linter.unusedSimpArgs false
set_option linter.unusedVariables false
set_option linter.unnecessarySimpa false
open Go.RowKit

/-- The value v is a slice of n elements of sz cells each, and its cells read as cs. -/
def RL (w : World) (v : Value) (sz n : Nat) (cs : List Value) : Prop :=
  cs.length = n * sz ∧ ∃ a c, v = .slice a n c ∧ n ≤ c ∧ (a = none → c = 0) ∧ (0 < n → ∃ b off, a = some ⟨b, off, none⟩ ∧ b < w.heap.size ∧ ∀ j u, cs[j]? = some u → w.cell? ⟨b, off + j, none⟩ = some u)
theorem RL.below {w w' : World} {v : Value} {sz n : Nat} {cs : List Value} (h : RL w v sz n cs) (hb : Below w.heap.size w w') : RL w' v sz n cs := by
  obtain ⟨hl, a, c, hv, hc, hna, hr⟩ := h
  refine ⟨hl, a, c, hv, hc, hna, fun h0 => ?_⟩
  obtain ⟨b, off, ha, hlt, hz⟩ := hr h0
  exact ⟨b, off, ha, Nat.lt_of_lt_of_le hlt hb.size, fun j u hj => (hb.cell (p := ⟨b, off + j, none⟩) hlt).trans (hz j u hj)⟩
theorem RL.nil (w : World) (sz : Nat) : RL w (.slice none 0 0) sz 0 [] := ⟨by simp, none, 0, rfl, Nat.le_refl _, fun _ => rfl, fun h => by omega⟩
theorem RL.of_own {w : World} {base : Nat} {e : TypeId} {sz n : Nat} {v : Value} {cs : List Value} (h : w.ownsRow base e sz v n cs) : RL w v sz n cs := by
  refine ⟨h.1, ?_⟩
  rcases h.2 with ⟨rfl, rfl⟩ | ⟨g, cap, cur, rfl, hb, hg, hnc, hcm, hcs, htake⟩
  · exact ⟨none, 0, rfl, Nat.le_refl _, fun _ => rfl, fun h => by omega⟩
  · refine ⟨_, cap, rfl, hnc, (fun h => by cases h), fun _ => ⟨g, 0, rfl, (Array.getElem?_eq_some_iff.1 hg).1, fun j u hu => ?_⟩⟩
    have := h.cells (g := g) rfl j u hu
    rw [Addr.add_lit] at this
    exact this
theorem flat_at {α : Type} (enc : α → List Value) (sz : Nat) (hz : ∀ x, (enc x).length = sz) : ∀ (l : List α) (k j : Nat) (x : α), l[k]? = some x → j < sz → (l.flatMap enc)[k * sz + j]? = (enc x)[j]?
  | [], _, _, _, h, _ => by simp at h
  | y :: l, 0, j, x, h, hj => by
    simp at h
    subst h
    rw [List.flatMap_cons, List.getElem?_append_left (by rw [hz]; omega)]
    simp
  | y :: l, k + 1, j, x, h, hj => by
    have ih := flat_at enc sz hz l k j x (by simpa using h) hj
    rw [List.flatMap_cons, List.getElem?_append_right (by rw [hz, Nat.succ_mul]; omega), hz, ← ih]
    congr 1
    rw [Nat.succ_mul]
    omega
/-- Element k of a slice that reads as records: its cells, behind an address. -/
theorem RL.at_ {α : Type} {enc : α → List Value} {sz : Nat} (hz : ∀ x, (enc x).length = sz) {w : World} {v : Value} {l : List α} (h : RL w v sz l.length (l.flatMap enc)) (h0 : 0 < l.length) :
    ∃ b off c, v = .slice (some ⟨b, off, none⟩) l.length c ∧ l.length ≤ c ∧ b < w.heap.size ∧ ∀ k x, l[k]? = some x → ∀ j u, (enc x)[j]? = some u → w.cell? ⟨b, off + (k * sz + j), none⟩ = some u := by
  obtain ⟨_, a, c, rfl, hc, hna, hr⟩ := h
  obtain ⟨b, off, rfl, hb, hcell⟩ := hr h0
  refine ⟨b, off, c, rfl, hc, hb, fun k x hk j u hu => hcell _ _ ?_⟩
  have hj : j < sz := by rw [← hz x]; exact (List.getElem?_eq_some_iff.1 hu).1
  rw [flat_at enc sz hz l k j x hk hj]
  exact hu
end Go.Proofs.YtmacpjnkmkaloaaGreat
namespace Go.Proofs.YtmacpjnkmkaloaaGreat
set_option linter.unusedSimpArgs false
set_option linter.unusedVariables false
set_option linter.unnecessarySimpa false
open Go.RowKit
end Go.Proofs.YtmacpjnkmkaloaaGreat
namespace Go.Proofs.YtmacpjnkmkaloaaGreat
set_option linter.unusedSimpArgs false
set_option linter.unusedVariables false
set_option linter.unnecessarySimpa false
open Go.RowKit
section
variable {w : World} {e : TypeId} {size n : Nat} {xs : List Value} {rs : List Res}
end
section
variable {α : Type} {enc : α → List Value} {sz : Nat}
end
section
variable {w : World} {e : TypeId} {size n : Nat} {xs : List Value} {rs : List Res}
theorem run_clear_sep {P : Program} {g c : Nat} (hS : Sep w (vec e size (.slice (some ⟨g, 0, none⟩) n c) n xs :: rs)) (t ty : TypeId) (z : Value) (ht : P.underlying t = some (.slice e)) (hz : ∀ w : World, (zeroValue e).run P w = .ok z w)
    (hzs : z.cells.size = size) (hz1 : ∀ u ∈ z.cells.toList, u.oneCell' = true) (k : Nat) (hk : k < n) (c' : Nat) :
    ∃ w' ys, (Builtin.clear_ #[t] ty #[.slice (some ⟨g, k * size, none⟩) (n - k) c']).run P w = .ok (.tuple #[]) w' ∧ Sep w' (vec e size (.slice (some ⟨g, 0, none⟩) n c) n (xs.take (k * size) ++ ys) :: rs) := by
  have hl := hS.gvec.1
  obtain ⟨cur, hB, hnc, hcm, hcs, htk⟩ := hS.vec_blk
  have hg := hB.gblk
  have hzl : (Builtin.zeroCells z.cells (n - k)).toList.length = (n - k) * size := by rw [Array.length_toList, size_zeroCells, hzs]
  have hn : k * size + (n - k) * size = n * size := by rw [← Nat.add_mul]; congr 1; omega
  have hnc' : n * size ≤ c * size := Nat.mul_le_mul_right _ hnc
  have hst := run_storeCells_at P g (k * size) e (Builtin.zeroCells z.cells (n - k)).toList 0 cur w hg (by rw [hzl]; omega) (by
    intro u hu
    simp only [Builtin.zeroCells, Array.toList_map, List.mem_map, Array.toList_range, List.mem_range] at hu
    obtain ⟨j, hj, rfl⟩ := hu
    have hsz : 0 < z.cells.size := by
      rcases Nat.eq_zero_or_pos z.cells.size with h0 | h0
      · rw [h0] at hj; simp at hj
      · exact h0
    have hlt : j % z.cells.size < z.cells.size := Nat.mod_lt _ hsz
    have hm : z.cells[j % z.cells.size]! ∈ z.cells.toList := by
      rw [getElem!_pos z.cells _ hlt]
      exact Array.getElem_mem_toList hlt
    exact hz1 _ hm)
  simp only [Nat.add_zero] at hst
  refine ⟨w.setRow g (cur.toList.take (k * size) ++ (Builtin.zeroCells z.cells (n - k)).toList ++ cur.toList.drop (k * size + (Builtin.zeroCells z.cells (n - k)).toList.length)).toArray, (Builtin.zeroCells z.cells (n - k)).toList, ?_, ?_⟩
  · obtain ⟨d, hd⟩ : ∃ d, n - k = d + 1 := ⟨n - k - 1, by omega⟩
    rw [hd] at hst ⊢
    simp [Builtin.clear_, run_underlying ht, hz, hst]
  · obtain ⟨A, h1, h2⟩ := hB.open_
    have hS2 : Sep (w.setRow g (cur.toList.take (k * size) ++ (Builtin.zeroCells z.cells (n - k)).toList ++ cur.toList.drop (k * size + (Builtin.zeroCells z.cells (n - k)).toList.length)).toArray) (blk g e (cur.toList.take (k * size) ++ (Builtin.zeroCells z.cells (n - k)).toList ++ cur.toList.drop (k * size + (Builtin.zeroCells z.cells (n - k)).toList.length)).toArray :: rs) :=
      h2 _ _ A ⟨h1.1, setRow_heap w g cur _ e _ hg⟩ ⟨rfl, rfl, rfl, by simp, fun b _ hb => setRow_other w g b _ (fun e => hb ((h1.1 b).2 e))⟩ (fun _ => .inl)
    have hkn : k * size ≤ n * size := Nat.mul_le_mul_right _ (by omega)
    have hcl : cur.toList.length = c * size := by rw [Array.length_toList, hcs]
    refine hS2.blk_vec ?_ hnc hcm ?_ ?_
    · rw [List.length_append, List.length_take, hl, hzl]; omega
    · simp only [List.size_toArray, List.length_append, List.length_take, List.length_drop, hzl, hcl]; omega
    · have ht2 : (cur.toList.take (k * size)) = xs.take (k * size) := by rw [← htk, List.take_take, Nat.min_eq_left hkn]
      rw [ht2]
      simp only
      rw [List.take_append_of_le_length (by rw [List.length_append, List.length_take, hl, hzl]; omega)]
      exact List.take_of_length_le (by rw [List.length_append, List.length_take, hl, hzl]; omega)
/-- clear of the tail of a slice of the call's own. -/
theorem wpList_clear_sep {P : Program} {ops : Array Oper} {rest : List Oper} {o : Oper} {a : Act} {Q : Exit → Act → World → Prop} {g c : Nat} (hS : Sep w (vec e size (.slice (some ⟨g, 0, none⟩) n c) n xs :: rs)) (hw : Region.wanted o (yielded ops a.tmps) = true) (x : Operand) (t : TypeId)
    (ho : o.op = .call { callee := .builtin .clear, args := #[x], argTypes := #[t] }) (z : Value) (ht : P.underlying t = some (.slice e)) (hz : ∀ w : World, (zeroValue e).run P w = .ok z w)
    (hzs : z.cells.size = size) (hz1 : ∀ u ∈ z.cells.toList, u.oneCell' = true) (k : Nat) (hk : k < n) (c' : Nat) (hx : a.eval x = .slice (some ⟨g, k * size, none⟩) (n - k) c')
    (h : ∀ w' ys, Sep w' (vec e size (.slice (some ⟨g, 0, none⟩) n c) n (xs.take (k * size) ++ ys) :: rs) → wpList P ops Q rest (a.put o.dst (.tuple #[])) w') : wpList P ops Q (o :: rest) a w := by
  obtain ⟨w', ys, hr, hS'⟩ := run_clear_sep (P := P) hS t o.type z ht hz hzs hz1 k hk c'
  unfold wpList
  rw [if_pos hw]
  refine .inl ?_
  unfold Oper.wp execOp
  simp only [ho, resolve, invoke, builtin, Sem.run_bind, Sem.run_pure, Result.andThen_ok, List.map_toArray, List.map_cons, List.map_nil, hx, hr]
  exact h w' ys hS'
end
section
variable {α : Type} [Inhabited α]
end
end Go.Proofs.YtmacpjnkmkaloaaGreat
namespace Go.Proofs.YtmacpjnkmkaloaaGreat
set_option linter.unusedSimpArgs false
set_option linter.unusedVariables false
set_option linter.unnecessarySimpa false
open Go.RowKit
section
variable {w : World} {e : TypeId} {size n : Nat} {xs : List Value} {rs : List Res}
end
theorem zero48 (w : World) : (zeroValue 42).run Tryz.prog w = .ok (.agg #[.int .i64 0, .int .i64 0, .int .i64 0, .int .i64 0, .int .i64 0]) w := by kernel_rfl
theorem size48 : (Value.agg #[.int .i64 0, .int .i64 0, .int .i64 0, .int .i64 0, .int .i64 0]).cells.size = 5 := rfl
theorem one48 : ∀ u ∈ (Value.agg #[.int .i64 0, .int .i64 0, .int .i64 0, .int .i64 0, .int .i64 0]).cells.toList, u.oneCell' = true := by
  intro u hu
  simp [Value.cells] at hu
  subst hu
  rfl
/-- What is asked of a function value while a row is written. -/
def PredC (g : Nat) (lb : Array Value) (p : Rq → Bool) (ctx : List Res) : Prop :=
  ∀ (W : World) (r : Rq), Sep W ctx → Calls Tryz.prog g (#[r.val] ++ lb) W fun e w' => e = .returned (.bool (p r)) ∧ Below W.heap.size W w'
theorem qcells_put (l : List Rq) (i : Nat) (q : Rq) (h : i < l.length) : (((((qcells l).set (i * 5) (.int .i64 q.id)).set (i * 5 + 1) (.int .i64 q.txn)).set (i * 5 + 2) (.int .i64 q.mode)).set (i * 5 + 3) (.int .i64 q.want)).set (i * 5 + 4) (.int .i64 q.since) = qcells (l.set i q) := by
  induction l generalizing i with
  | nil => simp at h
  | cons r l ih =>
    cases i with
    | zero => rfl
    | succ i =>
      have ih' := ih i (by simpa using h)
      simp only [List.set_cons_succ]
      simp only [qcells, List.flatMap_cons] at ih' ⊢
      rw [← ih']
      rw [List.set_append_right _ _ (by simp [Rq.cells]; omega), List.set_append_right _ _ (by simp [Rq.cells]; omega), List.set_append_right _ _ (by simp [Rq.cells]; omega), List.set_append_right _ _ (by simp [Rq.cells]; omega), List.set_append_right _ _ (by simp [Rq.cells]; omega)]
      simp only [Rq.cells, List.length_cons, List.length_nil]
      rw [show (i + 1) * 5 - (0 + 1 + 1 + 1 + 1 + 1) = i * 5 by omega, show (i + 1) * 5 + 1 - (0 + 1 + 1 + 1 + 1 + 1) = i * 5 + 1 by omega, show (i + 1) * 5 + 2 - (0 + 1 + 1 + 1 + 1 + 1) = i * 5 + 2 by omega, show (i + 1) * 5 + 3 - (0 + 1 + 1 + 1 + 1 + 1) = i * 5 + 3 by omega, show (i + 1) * 5 + 4 - (0 + 1 + 1 + 1 + 1 + 1) = i * 5 + 4 by omega]
theorem Sep.vq_put {w : World} {g m c i : Nat} {l : List Rq} {rs : List Res} (h : Sep w (vq (.slice (some ⟨g, 0, none⟩) m c) l :: rs)) (hl : l.length = m) (hi : i < m) (q : Rq) :
    Sep (((((w.setCell ⟨g, i * 5, none⟩ (.int .i64 q.id)).setCell ⟨g, i * 5 + 1, none⟩ (.int .i64 q.txn)).setCell ⟨g, i * 5 + 2, none⟩ (.int .i64 q.mode)).setCell ⟨g, i * 5 + 3, none⟩ (.int .i64 q.want)).setCell ⟨g, i * 5 + 4, none⟩ (.int .i64 q.since)) (vq (.slice (some ⟨g, 0, none⟩) m c) (l.set i q) :: rs) := by
  subst hl
  have h1 : Sep w (vec 42 5 (.slice (some ⟨g, 0, none⟩) l.length c) l.length (qcells l) :: rs) := h
  have h2 := ((((h1.vec_set (k := i * 5) (by rw [qcells_len]; omega) (.int .i64 q.id)).vec_set (k := i * 5 + 1) (by simp only [List.length_set]; rw [qcells_len]; omega) (.int .i64 q.txn)).vec_set (k := i * 5 + 2) (by simp only [List.length_set]; rw [qcells_len]; omega) (.int .i64 q.mode)).vec_set (k := i * 5 + 3) (by simp only [List.length_set]; rw [qcells_len]; omega) (.int .i64 q.want)).vec_set (k := i * 5 + 4) (by simp only [List.length_set]; rw [qcells_len]; omega) (.int .i64 q.since)
  rw [qcells_put l i q hi] at h2
  unfold vq
  rw [List.length_set]
  exact h2
def keepQ (p : Rq → Bool) (l : List Rq) : List Rq := l.filter fun q => !p q
theorem keepQ_snoc (p : Rq → Bool) (l : List Rq) (k : Nat) (h : k < l.length) : keepQ p (l.take (k + 1)) = keepQ p (l.take k) ++ (if p (l.getD k default) then [] else [l.getD k default]) := by
  rw [take_snocQ l k h]
  unfold keepQ
  rw [List.filter_append]
  generalize l.getD k default = q
  cases hp : p q <;> simp [hp]
theorem idx_take (p : Rq → Bool) : ∀ (l : List Rq) (k : Nat) (j : Nat), idxF p l k = ((k + j : Nat) : Int) → j < l.length → p (l.getD j default) = true ∧ keepQ p (l.take j) = l.take j
  | [], k, j, _, h => by simp at h
  | x :: l, k, j, h, hj => by
    unfold idxF at h
    cases hx : p x with
    | true =>
      rw [hx] at h
      simp only [if_true] at h
      obtain rfl : j = 0 := by omega
      exact ⟨by simpa [List.getD] using hx, by simp [keepQ]⟩
    | false =>
      rw [hx] at h
      simp only [Bool.false_eq_true, if_false] at h
      cases j with
      | zero =>
        exfalso
        rcases idxF_bd p l (k + 1) with h' | ⟨j', h1, _, _⟩ <;> omega
      | succ j =>
        have := idx_take p l (k + 1) j (by rw [h]; congr 1; omega) (by simpa using hj)
        refine ⟨by simpa [List.getD] using this.1, ?_⟩
        have h2 := this.2
        unfold keepQ at h2 ⊢
        simp only [List.take_succ_cons]
        rw [List.filter_cons_of_pos (by simp [hx]), h2]
theorem idx_none (p : Rq → Bool) : ∀ (l : List Rq) (k : Nat), idxF p l k = -1 → keepQ p l = l
  | [], _, _ => rfl
  | x :: l, k, h => by
    unfold idxF at h
    cases hx : p x with
    | true => rw [hx] at h; simp only [if_true] at h; omega
    | false =>
      rw [hx] at h
      simp only [Bool.false_eq_true, if_false] at h
      have := idx_none p l (k + 1) h
      unfold keepQ at this ⊢
      rw [List.filter_cons_of_pos (by simp [hx]), this]
theorem take_set_snoc (l : List Rq) (i : Nat) (q : Rq) (h : i < l.length) : (l.set i q).take (i + 1) = l.take i ++ [q] := by
  rw [List.take_succ_eq_append_getElem (by rw [List.length_set]; exact h), List.take_set_of_le (Nat.le_refl _)]
  simp
set_option maxHeartbeats 2000000 in
set_option maxRecDepth 100000 in
theorem deleteFunc_any (a : Option Addr) (m c : Nat) (l : List Rq) (g : Nat) (lb : Array Value) (p : Rq → Bool) (w : World) (ctx : List Res) (hS : Sep w (vq (.slice a m c) l :: ctx)) (hl : l.length = m) (hm : m ≤ 1000) (hp : PredC g lb p ctx)
    (eg : ∀ args w, (callFunc g args).run Tryz.prog w = .ok (.enter g args) w) :
    Calls Tryz.prog 82 #[.slice a m c, .func (.func g) #[] lb] w fun e w' => e = .returned (.slice a (keepQ p l).length c) ∧ Sep w' (vq (.slice a (keepQ p l).length c) (keepQ p l) :: ctx) := by
  have HI := Lib.hid (index_any (.slice a m c) l g lb p w (by have := hS.vq_rq; exact this) (by omega) (fun W r hb => hp W r (hS.tail.below hb)) eg)
  have hbd := idxF_bd p l 0
  have hnone := Lib.hid (idx_none p l 0)
  have htake := Lib.hid (idx_take p l 0)
  replace hS := Lib.hid hS
  replace hp := Lib.hid hp
  generalize idxF p l 0 = x at *
  rcases hbd with rfl | ⟨i0, hx, hi0, hpi⟩
  · have E := Lib.hid (hnone.out rfl)
    go_enter Tryz.func82, Tryz.ntmps82
    go_wp2_with fail
    refine HI.out.mono ?_
    rintro e w1 ⟨rfl, b1⟩
    replace hS := Lib.hid (hS.out.below b1)
    clear b1
    go_wp2_with fail
    go_ret
    exact ⟨by rw [E.out, hl]; rfl, by rw [E.out, hl]; exact hS.out⟩
  · rw [Nat.zero_add] at hx
    subst hx
    obtain ⟨hpt, hk0⟩ := htake.out i0 (by simp) hi0
    obtain ⟨g0, rfl, _⟩ := hS.out.vq_at hl (by omega : i0 < m)
    have hm0 : ((i0 : Int) == -1) = false := by rw [beq_eq_false_iff_ne]; omega
    have hst := Lib.hid (show keepQ p (l.take (i0 + 1)) = l.take i0 by rw [keepQ_snoc p l i0 hi0, hpt, hk0]; simp)
    replace hk0 := Lib.hid hk0
    replace hl := Lib.hid hl
    have hi0' : i0 < m := by have := hl.out; omega
    clear hpt hpi hnone htake
    go_enter Tryz.func82, Tryz.ntmps82
    go_wp2_with fail
    refine HI.out.mono ?_
    rintro e w1 ⟨rfl, b1⟩
    replace hS := Lib.hid (hS.out.below b1)
    clear b1 HI
    go_wp2_with fail
    go_loopg [5, 6] (m - (i0 + 1)) (fun g s5 s6 wr => ∃ (i j : Nat) (cur : List Rq), i < j ∧ j ≤ m ∧ g = m - j ∧ s5 = .int .i64 i ∧ s6 = .int .i64 j ∧ Hid (cur.length = m) ∧ Hid (cur.take i = keepQ p (l.take j)) ∧ Hid (i = (keepQ p (l.take j)).length) ∧ Hid (cur.drop j = l.drop j) ∧ Hid (Sep wr (vq (.slice (some ⟨g0, 0, none⟩) m c) cur :: ctx)))
    case atStart => exact ⟨i0, i0 + 1, l, by omega, by omega, rfl, rfl, by go_num, hl, Lib.hid (by rw [hst.out]), Lib.hid (by rw [hst.out, List.length_take]; omega), Lib.hid rfl, hS⟩
    case round =>
      clear hS hst hk0
      obtain ⟨i, j, cur, hij, hjm, hg, rfl, rfl, hcl, hct, hci, hcd, hS⟩ := hrel
      by_cases hlt : j < m
      · have hqq : cur.getD j default = l.getD j default := by
          have h1 := congrArg (fun x : List Rq => x.getD 0 default) hcd.out
          simpa [List.getD] using h1
        replace hqq := Lib.hid hqq
        obtain ⟨g', hg', hgl, hmc, z0, z1, z2, z3, z4, hfz⟩ := hS.out.vq_at hcl.out hlt
        injection hg' with hg'
        injection hg' with hg'
        subst hg'
        rw [hqq.out] at z0 z1 z2 z3 z4
        have hsn := Lib.hid (keepQ_snoc p l j (by have := hl.out; omega))
        have hcd' := Lib.hid (show cur.drop (j + 1) = l.drop (j + 1) by have h := congrArg (List.drop 1) hcd.out; simpa [List.drop_drop] using h)
        generalize l.getD j default = q at *
        have hS2 := Lib.hid (hS.out.alloc q.cells.toArray 42)
        have HP := Lib.hid (hp.out _ q hS2.out.tail.tail)
        have hput := Lib.hid (fun W (h : Sep W (vq (.slice (some ⟨g0, 0, none⟩) m c) cur :: blk wr.heap.size 42 q.cells.toArray :: ctx)) => h.vq_put hcl.out (show i < m by omega) q)
        obtain ⟨id, txn, mode, want, since⟩ := q
        simp only [Rq.val] at HP z0 z1 z2 z3 z4
        simp only [Rq.cells] at hS2 HP hput
        have i1 : (0 : Int) ≤ (j : Int) := by omega
        have i2 : (j : Int) < (m : Int) := by omega
        have i3 : (0 : Int) ≤ (i : Int) := by omega
        have i4 : (i : Int) < (m : Int) := by omega
        clear hfz
        go_wp2_with fail
        refine HP.out.mono ?_
        rintro e w2 ⟨rfl, b2⟩
        have hS3 := Lib.hid (hS2.out.below b2)
        obtain ⟨_, r0, r1, r2, r3, r4, _⟩ := hS3.out.b5
        obtain ⟨g', hg', hgl2, _, y0, y1, y2, y3, y4, hfz⟩ := hS3.out.to1.vq_at hcl.out (show i < m by omega)
        injection hg' with hg'
        injection hg' with hg'
        subst hg'
        have f0 := hfz (i * 5)
        have f1 := hfz (i * 5 + 1)
        have f2 := hfz (i * 5 + 2)
        have f3 := hfz (i * 5 + 3)
        have f4 := hfz (i * 5 + 4)
        clear b2 HP hS2 z0 z1 z2 z3 z4 hS hfz
        cases hpq : p ⟨id, txn, mode, want, since⟩ with
        | true =>
          rw [hpq] at hsn
          simp only [if_true, List.append_nil] at hsn
          clear hpq
          go_wp2_with fail
          go_roundg (m - (j + 1))
          case measure => omega
          case rel => exact ⟨i, j + 1, cur, by omega, by omega, rfl, rfl, by go_num, hcl, Lib.hid (by rw [hsn.out]; exact hct.out), Lib.hid (by rw [hsn.out]; exact hci.out), hcd', Lib.hid hS3.out.tail⟩
        | false =>
          rw [hpq] at hsn
          simp only [Bool.false_eq_true, if_false] at hsn
          have hS4 := hput.out _ hS3.out.to1
          try simp only at hS4
          replace hS4 := Lib.hid hS4
          clear hpq hput
          go_wp2_with fail
          go_roundg (m - (j + 1))
          case measure => omega
          case rel => exact ⟨i + 1, j + 1, cur.set i ⟨id, txn, mode, want, since⟩, by omega, by omega, rfl, by go_num, by go_num, Lib.hid (by rw [List.length_set]; exact hcl.out), Lib.hid (by rw [hsn.out, ← hct.out]; exact take_set_snoc cur i _ (by rw [hcl.out]; omega)), Lib.hid (by rw [hsn.out, List.length_append, ← hci.out]; rfl), Lib.hid (by rw [List.drop_set_of_lt (by omega)]; exact hcd'.out), Lib.hid hS4.out.drop1⟩
      · have hjm' : j = m := by omega
        have hlm : l.take j = l := List.take_of_length_le (by have := hl.out; omega)
        rw [hlm] at hct hci
        have hi3 : i < m := by omega
        obtain ⟨g', hg', hgl, hmc, _⟩ := hS.out.vq_at hcl.out hi3
        have hcv := Lib.hid (show Sep wr (vec 42 5 (.slice (some ⟨g0, 0, none⟩) m c) m (qcells cur) :: ctx) from by have h := hS.out; unfold vq at h; rw [hcl.out] at h; exact h)
        have i3 : (0 : Int) ≤ (i : Int) := by omega
        have i4 : (i : Int) < (m : Int) := by omega
        have i5 : (i : Int) ≤ (c : Int) := by omega
        clear hg' hgl hlm
        go_wp2_with (refine wpList_clear_sep hcv.out (by kernel_rfl) (.tmp 38) 24 (by rfl) _ Tryz.underlying24 zero48 size48 one48 i hi3 (c - i) (by rfl) ?_)
        intro w3 ys hS3
        have hS4 := hS3.vec_shrink (k := i) (by omega)
        have hq : ((qcells cur).take (i * 5) ++ ys).take (i * 5) = qcells (keepQ p l) := by
          rw [List.take_append_of_le_length (by rw [List.length_take, qcells_len, hcl.out]; omega), List.take_take, Nat.min_self, ← qcells_take, hct.out]
        rw [hq] at hS4
        replace hS4 := Lib.hid hS4
        clear hS3 hq hcv hS
        go_wp2_with fail
        go_ret
        exact ⟨by rw [← hci.out]; rfl, by unfold vq; rw [← hci.out]; exact hS4.out⟩
end Go.Proofs.YtmacpjnkmkaloaaGreat
