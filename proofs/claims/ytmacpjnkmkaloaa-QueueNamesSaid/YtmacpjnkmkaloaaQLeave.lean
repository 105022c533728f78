/-
  The contracts of the reference's Leave and Abandon. No condition beside requests that can be read.
-/
import Derived.Test.YtmacpjnkmkaloaaQSame
import Derived.Deep.RegionLaw
namespace Go.Proofs.Ytmacpjnkmkaloaa
open Go.RowKit
theorem qcells_drop (l : List Rq) : ∀ k, qcells (l.drop k) = (qcells l).drop (k * 5) := by
  induction l with
  | nil => intro k; simp [qcells]
  | cons r l ih =>
    intro k
    cases k with
    | zero => simp
    | succ k =>
      simp only [List.drop_succ_cons]
      rw [ih k]
      simp only [qcells, List.flatMap_cons]
      rw [show (k + 1) * 5 = r.cells.length + k * 5 by simp [Rq.cells]; omega, List.drop_append]
      simp
theorem qcells_take (l : List Rq) : ∀ k, qcells (l.take k) = (qcells l).take (k * 5) := by
  induction l with
  | nil => intro k; simp [qcells]
  | cons r l ih =>
    intro k
    cases k with
    | zero => simp [qcells]
    | succ k =>
      simp only [List.take_succ_cons]
      have := ih k
      simp only [qcells, List.flatMap_cons] at this ⊢
      have e : r.cells.take (r.cells.length + k * 5) = r.cells := List.take_of_length_le (by omega)
      rw [this, show (k + 1) * 5 = r.cells.length + k * 5 by simp [Rq.cells]; omega, List.take_append, e, Nat.add_sub_cancel_left]
theorem qcells_erase (l : List Rq) (i : Nat) : (qcells l).take (i * 5) ++ qcells (l.drop (i + 1)) = qcells (l.eraseIdx i) := by
  rw [List.eraseIdx_eq_take_drop_succ, ← qcells_take]
  simp [qcells]
theorem RQ.src_drop {w : World} {b off m c c' k : Nat} {l : List Rq} (h : RQ w (.slice (some ⟨b, off, none⟩) m c) l) (hk : k ≤ m) (hl : l.length = m) : SrcA w 5 (.slice (some ⟨b, off + k * 5, none⟩) (m - k) c') (m - k) (qcells (l.drop k)) := by
  rcases h.src with ⟨h, _⟩ | ⟨ad, c2, he, hlen, hc⟩
  · cases h
  · injection he with e1 e2 e3
    injection e1 with e1
    subst e1
    refine .inr ⟨_, _, rfl, by rw [qcells_len, List.length_drop, hl], fun j u hu => ?_⟩
    rw [qcells_drop, List.getElem?_drop] at hu
    have := hc _ u hu
    rw [Addr.add_lit] at this ⊢
    rw [show off + k * 5 + j = off + (k * 5 + j) by omega]
    exact this
theorem RQ.src_end {w : World} {b off m c : Nat} {l : List Rq} (_h : RQ w (.slice (some ⟨b, off, none⟩) m c) l) (hl : l.length = m) (c' : Nat) : SrcA w 5 (.slice (some ⟨b, off, none⟩) 0 c') 0 (qcells (l.drop m)) := by
  rw [List.drop_eq_nil_of_le (by omega)]
  exact .inr ⟨_, _, rfl, rfl, fun j u hu => by simp [qcells] at hu⟩
set_option maxHeartbeats 1000000 in
set_option maxHeartbeats 8000000 in
set_option maxRecDepth 100000 in
theorem withoutR_any (t r n : Int) (v : Value) (l : List Rq) (i : Nat) (w : World) (hv : RQ w v l) (hl : l.length ≤ 1000) (hi : i < l.length) :
    Calls Try.prog 39 #[hval t r v n, .int .i64 i] w fun e w' => ∃ a c, e = .returned (hval t r (.slice a (l.eraseIdx i).length c) n) ∧ Sep w' [vq (.slice a (l.eraseIdx i).length c) (l.eraseIdx i), old w] := by
  have h0 : ∀ b1 b2, Sep ((w.alloc (.cells b1 26)).alloc (.cells b2 26)) [blk (w.heap.size + 1) 26 b2, blk w.heap.size 26 b1, old w] := fun b1 b2 => by
    have := ((Sep.start w).alloc b1 26).alloc b2 26
    rw [World.size_alloc] at this
    exact this
  have H := Lib.hid (fun b1 b2 => copied_any t r n v l ((w.alloc (.cells b1 26)).alloc (.cells b2 26)) (hv.below (two_boxes _ _ _ _ _)) hl)
  replace h0 := Lib.hid h0
  have hv' := Lib.hid hv
  obtain ⟨a, c, rfl, hmc, _, hr⟩ := hv
  obtain ⟨b, off, rfl, hbl, _⟩ := hr (by omega)
  obtain ⟨i0, hi0, hz0, hz1, hz2⟩ := info_parts info_req
  have h1 := Lib.hid (qcells_one (l.drop (i + 1)))
  clear hr
  unfold hval at *
  generalize hm : l.length = m at *
  replace hm := Lib.hid hm
  go_enter Try.func39, Try.ntmps39
  go_wp2_with fail
  refine (H.out _ _).mono ?_
  rintro e w1 ⟨a1, c1, rfl, hS⟩
  have hlt1 := (hS.graft (h0.out _ _)).to1.gblk.lt
  have hT := Lib.hid ((hS.graft (h0.out _ _)).alloc #[.int .i64 t, .int .i64 r, .slice a1 m c1, .int .i64 n] 26)
  obtain ⟨g, rfl, hgl, hmc1, _⟩ := hT.out.to1.vq_at hm.out hi
  obtain ⟨y1, d0, d1, d2, d3, g0, g1, g2, g3⟩ := hT.out.b4
  obtain ⟨y2, e0, e1, e2, e3, f0, f1, f2, f3⟩ := hT.out.to2.b4
  obtain ⟨y3, k0, k1, k2, k3, _⟩ := hT.out.to3.b4
  have hne1 : w.heap.size + 1 ≠ w1.heap.size := by omega
  have hne2 : w1.heap.size ≠ w.heap.size + 1 := by omega
  clear hS H h0
  have i1 : (0 : Int) ≤ (i : Int) := by omega
  have i2 : (i : Int) < (m : Int) := by omega
  have hSh := Lib.hid ((show Sep _ (vec 48 5 (.slice (some ⟨g, 0, none⟩) l.length c1) l.length (qcells l) :: _) from by have h := hT.out.to1; unfold vq at h; rw [hm.out] at h ⊢; exact h).vec_shrink (k := i) (by rw [hm.out]; omega))
  have hbel := Lib.hid (hT.out.tail.tail.tail.tail.gold)
  have h63 : i + (m - (i + 1)) ≤ maxLen := by simp only [maxLen]; omega
  have hby : (i + (m - (i + 1))) * 40 ≤ 140737488355328 := by omega
  have hew : IntKind.i64.wrap ((i : Int) + 1) = (i : Int) + 1 := IntWalk.i64_in _ (by omega)
  have i3 : (0 : Int) ≤ (i : Int) + 1 := by omega
  have i4 : (i : Int) + 1 ≤ (m : Int) := by omega
  have i5 : ((i : Int) + 1).toNat = i + 1 := by omega
  have i6 : (i : Int) ≤ (c1 : Int) := by omega
  by_cases hcap : c = i + 1
  · obtain rfl : m = i + 1 := by omega
    obtain rfl : c = i + 1 := hcap
    have hsrc := Lib.hid (show ∀ W (c' : Nat), Below w.heap.size w W → SrcA W 5 (.slice (some ⟨b, off, none⟩) 0 c') 0 (qcells (l.drop (i + 1))) from fun W c' hb => (hv'.out.below hb).src_end hm.out c')
    have hsrc := Lib.hid (hsrc.out (w1.alloc (.cells #[.int .i64 t, .int .i64 r, .slice (some ⟨g, 0, none⟩) (i + 1) c1, .int .i64 n] 26)).drew 0 hbel.out.drew)
    go_wp2_with fail
    go_region_law
      ((refine step_append_sep hSh.out.drew (by kernel_rfl) (.tmp 11) (.tmp 16) 24 (by rfl) i0 _ 40 Try.underlying24 hi0 hz0 hz1 hz2 (by rfl) (by decide) (by rfl) 0 (qcells (l.drop (i + 1))) hsrc.out h1.out (by simp only [maxLen]; omega) (by omega) ?_; intro a' c' w2 hS2; obtain ⟨u1, u2, u3, u4, u5, u6, u7, u8, u9⟩ := hS2.to1.b4; obtain ⟨v1, v2, v3, v4, v5, _⟩ := hS2.to3.b4; obtain ⟨x1, x2, x3, x4, x5, x6, x7, x8, x9⟩ := hS2.to2.b4; replace hS2 := Lib.hid hS2))
    all_goals
      have hlen : i = (l.eraseIdx i).length := by rw [List.length_eraseIdx_of_lt (by rw [hm.out]; exact hi), hm.out]; omega
      replace hlen := Lib.hid hlen
      go_wp2_with fail
      refine bodyPost_ret (v := .agg #[.int .i64 t, .int .i64 r, .slice a' (i) c', .int .i64 n]) (by simp [results, Try.results39, go_sem, *]) rfl ⟨a', c', by rw [← hlen.out], ?_⟩
      have hZ := (((((hS2.out.to1.set 2 (.slice a' (i) c')).to2.set 0 (.int .i64 t)).set 1 (.int .i64 r)).set 2 (.slice a' (i) c')).set 3 (.int .i64 n)).tail.tail.drop1
      rw [qcells_erase] at hZ
      unfold vq
      rw [← hlen.out]
      exact hZ
  · have hsrc := Lib.hid (show ∀ W c', Below w.heap.size w W → SrcA W 5 (.slice (some ⟨b, off + (i + 1) * 5, none⟩) (m - (i + 1)) c') (m - (i + 1)) (qcells (l.drop (i + 1))) from fun W c' hb => (hv'.out.below hb).src_drop (by omega) hm.out)
    have hsrc := Lib.hid (hsrc.out (w1.alloc (.cells #[.int .i64 t, .int .i64 r, .slice (some ⟨g, 0, none⟩) m c1, .int .i64 n] 26)).drew (c - (i + 1)) hbel.out.drew)
    go_wp2_with fail
    go_region_law
      ((refine step_append_sep hSh.out.drew (by kernel_rfl) (.tmp 11) (.tmp 16) 24 (by rfl) i0 _ 40 Try.underlying24 hi0 hz0 hz1 hz2 (by rfl) (by decide) (by rfl) (m - (i + 1)) (qcells (l.drop (i + 1))) hsrc.out h1.out h63 hby ?_; intro a' c' w2 hS2; obtain ⟨u1, u2, u3, u4, u5, u6, u7, u8, u9⟩ := hS2.to1.b4; obtain ⟨v1, v2, v3, v4, v5, _⟩ := hS2.to3.b4; obtain ⟨x1, x2, x3, x4, x5, x6, x7, x8, x9⟩ := hS2.to2.b4; replace hS2 := Lib.hid hS2))
    all_goals
      have hlen : i + (m - (i + 1)) = (l.eraseIdx i).length := by rw [List.length_eraseIdx_of_lt (by rw [hm.out]; exact hi), hm.out]; omega
      replace hlen := Lib.hid hlen
      go_wp2_with fail
      refine bodyPost_ret (v := .agg #[.int .i64 t, .int .i64 r, .slice a' (i + (m - (i + 1))) c', .int .i64 n]) (by simp [results, Try.results39, go_sem, *]) rfl ⟨a', c', by rw [← hlen.out], ?_⟩
      have hZ := (((((hS2.out.to1.set 2 (.slice a' (i + (m - (i + 1))) c')).to2.set 0 (.int .i64 t)).set 1 (.int .i64 r)).set 2 (.slice a' (i + (m - (i + 1))) c')).set 3 (.int .i64 n)).tail.tail.drop1
      rw [qcells_erase] at hZ
      unfold vq
      rw [← hlen.out]
      exact hZ
end Go.Proofs.Ytmacpjnkmkaloaa
