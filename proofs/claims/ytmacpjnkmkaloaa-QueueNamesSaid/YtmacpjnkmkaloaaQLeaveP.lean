/-
  The contracts of the program's view.without and Leave. No condition beside requests that can be read.
-/
import Derived.Test.YtmacpjnkmkaloaaQDel
namespace Go.Proofs.Ytmacpjnkmkaloaa
open Go.RowKit
theorem withoutP_any (t r n : Int) (a : Option Addr) (m c : Nat) (l : List Rq) (id0 : Int) (w : World) (rs : List Res) (hS : Sep w (vq (.slice a m c) l :: rs)) (hl : l.length = m) (hm : m ≤ 1000) :
    Calls Try.prog 49 #[hval t r (.slice a m c) n, .int .i64 id0] w fun e w' => e = .returned (hval t r (.slice a (keepQ (fun q => q.id == id0) l).length c) n) ∧ Sep w' (vq (.slice a (keepQ (fun q => q.id == id0) l).length c) (keepQ (fun q => q.id == id0) l) :: rs) := by
  have h3 : ∀ b0 b1 b2, Sep (((w.alloc (.cells b0 69)).alloc (.cells b1 3)).alloc (.cells b2 26)) (vq (.slice a m c) l :: blk (w.heap.size + 1 + 1) 26 b2 :: blk (w.heap.size + 1) 3 b1 :: blk w.heap.size 69 b0 :: rs) := fun b0 b1 b2 => by
    have := ((hS.alloc b0 69).alloc b1 3).alloc b2 26
    rw [World.size_alloc, World.size_alloc] at this
    exact this.to3
  have HD := Lib.hid (fun b0 b2 => deleteFunc_any a m c l 78 #[.pointer (some ⟨w.heap.size + 1, 0, none⟩)] (fun q => q.id == id0) _ _ (h3 b0 #[.int .i64 id0] b2) hl hm
    (fun W q hW => without1 id0 (w.heap.size + 1) W hW.to1.gblk.lt (hW.to1.gblk.cell 0) W q (Below.refl _ _)) eg_without)
  have eg := eg_without
  replace h3 := Lib.hid h3
  generalize keepQ (fun q => q.id == id0) l = l' at *
  clear hS
  unfold hval
  go_enter Try.func49, Try.ntmps49
  go_wp2_with fail
  refine (HD.out _ _).mono ?_
  rintro e w1 ⟨rfl, hS1⟩
  obtain ⟨y1, d0, d1, d2, d3, g0, g1, g2, g3⟩ := hS1.to1.b4
  obtain ⟨y2, e0, e1, e2, e3, f0, f1, f2, f3⟩ := hS1.to3.b4
  replace hS1 := Lib.hid hS1
  clear HD h3
  go_wp2_with fail
  refine bodyPost_ret (v := .agg #[.int .i64 t, .int .i64 r, .slice a l'.length c, .int .i64 n]) (by simp [results, Try.results49, go_sem, *]) rfl ⟨rfl, ?_⟩
  exact (((((hS1.out.to3.set 2 (.slice a l'.length c)).to2.set 0 (.int .i64 t)).set 1 (.int .i64 r)).set 2 (.slice a l'.length c)).set 3 (.int .i64 n)).tail.tail.drop1
/-- Leave where there is no such request. -/
theorem leaveP_none (t r n : Int) (v : Value) (l : List Rq) (id0 : Int) (w : World) (hv : RQ w v l) (hl : l.length ≤ 1000) (hi : idxF (fun q => q.id == id0) l 0 = -1) :
    Calls Try.prog 20 #[hval t r v n, .int .i64 id0] w fun e w' => e = .returned (.tuple #[zhd, .int .i64 5]) ∧ Below w.heap.size w w' := by
  have hB := Lib.hid (boxes2 w 26 26 #[.int .i64 t, .int .i64 r, v, .int .i64 n] #[.int .i64 0, .int .i64 0, .slice none 0 0, .int .i64 0])
  have HO := Lib.hid (own_any t r n v l _ (hv.below (two_boxes w #[.int .i64 t, .int .i64 r, v, .int .i64 n] #[.int .i64 0, .int .i64 0, .slice none 0 0, .int .i64 0] 26 26)) hl)
  obtain ⟨a, c, rfl, _⟩ := hv
  unfold hval at *
  go_enter Try.func20, Try.ntmps20
  go_wp2_with fail
  refine HO.out.mono ?_
  rintro e w1 ⟨a1, c1, rfl, hS⟩
  have hS2 := (hS.graft hB.out).alloc #[.int .i64 t, .int .i64 r, .slice a1 l.length c1, .int .i64 n] 69
  have HP := Lib.hid (place_any t r n (.slice a1 l.length c1) l id0 _ hS2.to1.vq_rq hl)
  rw [hi] at HP
  unfold hval at HP
  obtain ⟨y1, d0, d1, d2, d3, g0, g1, g2, g3⟩ := hS2.b4
  replace hS2 := Lib.hid hS2
  clear hS HO hi
  go_wp2_with fail
  refine HP.out.mono ?_
  rintro e w2 ⟨rfl, b2⟩
  replace hS2 := Lib.hid (hS2.out.below b2)
  obtain ⟨z1, k0, k1, k2, k3, m0, m1, m2, m3⟩ := hS2.out.to2.b4
  clear b2 HP y1 d0 d1 d2 d3 g0 g1 g2 g3
  go_wp2_with fail
  refine bodyPost_ret (v := .tuple #[.agg #[.int .i64 0, .int .i64 0, .slice none 0 0, .int .i64 0], .int .i64 5]) (by simp [results, Try.results20, go_sem, *]) rfl ⟨rfl, ?_⟩
  exact ((((hS2.out.to2.set 0 (.int .i64 0)).set 1 (.int .i64 0)).set 2 (.slice none 0 0)).set 3 (.int .i64 0)).tail.tail.tail.tail.gold
/-- Leave where there is one. -/
theorem leaveP_some (t r n : Int) (v : Value) (l : List Rq) (id0 : Int) (i : Nat) (w : World) (hv : RQ w v l) (hl : l.length ≤ 1000) (hi : idxF (fun q => q.id == id0) l 0 = i) :
    Calls Try.prog 20 #[hval t r v n, .int .i64 id0] w fun e w' => ∃ a c, e = .returned (.tuple #[hval t r (.slice a (keepQ (fun q => q.id == id0) l).length c) n, .int .i64 0]) ∧ Sep w' [vq (.slice a (keepQ (fun q => q.id == id0) l).length c) (keepQ (fun q => q.id == id0) l), old w] := by
  have hB := Lib.hid (boxes2 w 26 26 #[.int .i64 t, .int .i64 r, v, .int .i64 n] #[.int .i64 0, .int .i64 0, .slice none 0 0, .int .i64 0])
  have HO := Lib.hid (own_any t r n v l _ (hv.below (two_boxes w #[.int .i64 t, .int .i64 r, v, .int .i64 n] #[.int .i64 0, .int .i64 0, .slice none 0 0, .int .i64 0] 26 26)) hl)
  have d : decide ((i : Int) < 0) = false := by rw [decide_eq_false_iff_not]; omega
  obtain ⟨a, c, rfl, _⟩ := hv
  unfold hval at *
  go_enter Try.func20, Try.ntmps20
  go_wp2_with fail
  refine HO.out.mono ?_
  rintro e w1 ⟨a1, c1, rfl, hS⟩
  have hS2 := (hS.graft hB.out).alloc #[.int .i64 t, .int .i64 r, .slice a1 l.length c1, .int .i64 n] 69
  have HP := Lib.hid (place_any t r n (.slice a1 l.length c1) l id0 _ hS2.to1.vq_rq hl)
  rw [hi] at HP
  unfold hval at HP
  obtain ⟨y1, d0, d1, d2, d3, g0, g1, g2, g3⟩ := hS2.b4
  replace hS2 := Lib.hid hS2
  clear hS HO hi
  go_wp2_with fail
  refine HP.out.mono ?_
  rintro e w2 ⟨rfl, b2⟩
  replace hS2 := Lib.hid (hS2.out.below b2)
  clear b2 HP y1 d0 d1 d2 d3 g0 g1 g2 g3
  obtain ⟨y1, d0, d1, d2, d3, g0, g1, g2, g3⟩ := hS2.out.b4
  have HW := Lib.hid (withoutP_any t r n a1 l.length c1 l id0 w2 _ hS2.out.to1 rfl hl)
  unfold hval at HW
  generalize hkq : keepQ (fun q => q.id == id0) l = l' at *
  replace hkq := Lib.hid hkq
  go_wp2_with fail
  refine HW.out.mono ?_
  rintro e w3 ⟨rfl, hS3⟩
  obtain ⟨z1, k0, k1, k2, k3, m0, m1, m2, m3⟩ := hS3.to2.b4
  replace hS3 := Lib.hid hS3
  clear HW hS2 y1 d0 d1 d2 d3 g0 g1 g2 g3
  go_wp2_with fail
  refine bodyPost_ret (v := .tuple #[.agg #[.int .i64 t, .int .i64 r, .slice a1 l'.length c1, .int .i64 n], .int .i64 0]) (by simp [results, Try.results20, go_sem, *]) rfl ⟨a1, c1, by rw [hkq.out], ?_⟩
  rw [hkq.out]
  exact (((((hS3.out.to2.set 0 (.int .i64 t)).set 1 (.int .i64 r)).set 2 (.slice a1 l'.length c1)).set 3 (.int .i64 n)).tail.drop1.drop1)
end Go.Proofs.Ytmacpjnkmkaloaa
