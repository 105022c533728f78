/-
  Ask where it is granted at once. No condition beside requests that can be read.
-/
import Derived.Test.YtmacpjnkmkaloaaQGood
namespace Go.Proofs.Ytmacpjnkmkaloaa
open Go.RowKit
theorem SrcA.cells (w : World) (cs : Array Value) (t : TypeId) (c : Nat) : SrcA (w.alloc (.cells cs t)) cs.size (.slice (some ⟨w.heap.size, 0, none⟩) 1 c) 1 cs.toList := by
  refine .inr ⟨_, _, rfl, by simp, fun j u hu => ?_⟩
  have h := ((Sep.start w).alloc cs t).gblk.cell j
  rw [Addr.add_lit, Nat.zero_add]
  rw [h, ← hu]
  simp
set_option maxHeartbeats 2000000 in
set_option maxRecDepth 100000 in
theorem askP_grant (t r n : Int) (v : Value) (l : List Rq) (id0 t0 mo : Int) (w : World) (hv : RQ w v l) (hl : l.length ≤ 1000) (h0 : ¬ id0 < 0) (ha : askedB mo = true) (hc : l.any (fun q => q.id == id0 || q.txn == t0) = false)
    (hf : firstI l < 0) (hm : l.any (fitsP ⟨id0, t0, 0, mo, 0⟩) = false) :
    Calls Try.prog 30 #[hval t r v n, .int .i64 id0, .int .i64 t0, .int .i64 mo] w fun e w' => ∃ a c, e = .returned (.tuple #[hval t r (.slice a (l.length + 1) c) n, .bool true, .int .i64 0]) ∧ Sep w' [vq (.slice a (l.length + 1) c) (l ++ [⟨id0, t0, mo, mo, 0⟩]), old w] := by
  have hB := Lib.hid (boxes4 w 26 3 3 26 #[.int .i64 t, .int .i64 r, v, .int .i64 n] #[.int .i64 id0] #[.int .i64 t0] #[.int .i64 0, .int .i64 0, .slice none 0 0, .int .i64 0])
  have HA := Lib.hid (fun W => asked_any mo W)
  have HC := Lib.hid (contains_any v l 67 #[.pointer (some ⟨w.heap.size + 1, 0, none⟩), .pointer (some ⟨w.heap.size + 1 + 1, 0, none⟩)] (fun q => q.id == id0 || q.txn == t0) _ (hv.below hB.out.tail.tail.tail.tail.gold) hl
    (ask1 id0 t0 (w.heap.size + 1) (w.heap.size + 1 + 1) _ hB.out.to2.gblk.lt (hB.out.to2.gblk.cell 0) hB.out.to1.gblk.lt (hB.out.to1.gblk.cell 0)) eg_ask)
  have HO := Lib.hid (fun W hb => own_any t r n v l W (hv.below hb) hl)
  rw [hc] at HC
  rw [ha] at HA
  have eg := eg_ask
  have d0 : decide (id0 < 0) = false := decide_eq_false h0
  have df : decide (firstI l < 0) = true := decide_eq_true hf
  replace hm := Lib.hid hm
  obtain ⟨a, c, rfl, _⟩ := hv
  unfold hval at *
  clear hc ha h0 hf
  go_enter Try.func30, Try.ntmps30
  go_wp2_with fail
  refine (HA.out _).mono ?_
  rintro e w1 ⟨rfl, rfl⟩
  go_wp2_with fail
  refine HC.out.mono ?_
  rintro e w2 ⟨rfl, b2⟩
  replace hB := Lib.hid (hB.out.below b2)
  obtain ⟨y1, x0, x1, x2, x3, _⟩ := hB.out.to3.b4
  obtain ⟨_, x4, _⟩ := hB.out.to2.b1
  obtain ⟨_, x5, _⟩ := hB.out.to1.b1
  clear b2 HC
  go_wp2_with fail
  refine (HO.out _ hB.out.tail.tail.tail.tail.gold).mono ?_
  rintro e w3 ⟨a1, c1, rfl, hS⟩
  have hS1 := Lib.hid ((hS.graft hB.out).alloc #[.int .i64 t, .int .i64 r, .slice a1 l.length c1, .int .i64 n] 69)
  have hS2 := hS1.out.alloc #[.int .i64 id0, .int .i64 t0, .int .i64 0, .int .i64 mo, .int .i64 0] 48
  rw [World.size_alloc] at hS2
  replace hS2 := Lib.hid hS2
  clear hS hB HO x0 x1 x2 x3 x4 x5 y1
  obtain ⟨_, x4, _⟩ := hS1.out.to4.b1
  obtain ⟨_, x5, _⟩ := hS1.out.to3.b1
  obtain ⟨_, p0, p1, p2, p3, p4, _⟩ := hS2.out.b5
  obtain ⟨_, q0, q1, q2, q3, _⟩ := hS2.out.to1.b4
  clear hS1
  have HF := Lib.hid (fun W hb => first_any t r n (.slice a1 l.length c1) l W ((hS2.out.to2.vq_rq).below hb) hl)
  have HT := Lib.hid (fun W hb => fits_any t r n (.slice a1 l.length c1) l ⟨id0, t0, 0, mo, 0⟩ W ((hS2.out.to2.vq_rq).below hb) hl)
  unfold hval at HF HT
  simp only [Rq.val, hm.out, Bool.not_false] at HT
  generalize firstI l = fi at *
  go_wp2_with fail
  refine (HF.out _ (Below.refl _ _)).mono ?_
  rintro e w4 ⟨rfl, b4⟩
  replace HT := Lib.hid (HT.out _ b4)
  replace hS2 := Lib.hid (hS2.out.below b4)
  clear b4 HF p0 p1 p2 p3 p4 q0 q1 q2 q3 x4 x5
  obtain ⟨_, p0, p1, p2, p3, p4, _⟩ := hS2.out.b5
  obtain ⟨_, q0, q1, q2, q3, _⟩ := hS2.out.to1.b4
  go_wp2_with fail
  refine HT.out.mono ?_
  rintro e w5 ⟨rfl, b5⟩
  replace hS2 := Lib.hid (hS2.out.below b5)
  clear b5 HT p0 p1 p2 p3 p4 q0 q1 q2 q3
  obtain ⟨_, p0, p1, p2, p3, p4, _⟩ := hS2.out.b5
  obtain ⟨_, q0, q1, q2, q3, _⟩ := hS2.out.to1.b4
  have hS3 := hS2.out.set 2 (.int .i64 mo)
  replace hS3 := Lib.hid (show Sep _ [blk (w3.heap.size + 1) 48 #[.int .i64 id0, .int .i64 t0, .int .i64 mo, .int .i64 mo, .int .i64 0], _, _, _, _, _, _, _] from hS3)
  obtain ⟨i0, hi0, hz0, hz1, hz2⟩ := info_parts info_req
  have hsrc := Lib.hid (SrcA.cells (w5.setCell ⟨w3.heap.size + 1, 2, none⟩ (.int .i64 mo)) #[.int .i64 id0, .int .i64 t0, .int .i64 mo, .int .i64 mo, .int .i64 0] 48 1)
  have h1 : Hid (∀ u ∈ ([.int .i64 id0, .int .i64 t0, .int .i64 mo, .int .i64 mo, .int .i64 0] : List Value), u.oneCell' = true) := Lib.hid (by simp [Value.oneCell'])
  clear hS2
  rw [World.size_setCell] at hsrc
  go_wp2_with (at_builtin; refine wpList_append_sep (hS3.out.to2.allocG _) rfl _ _ 24 rfl i0 _ 40 Try.underlying24 hi0 hz0 hz1 hz2 rfl (by decide) rfl 1 _ hsrc.out h1.out ?c3 ?c4 ?_)
  case c3 => simp only [maxLen]; omega
  case c4 => omega
  intro a' c' w6 hS6
  obtain ⟨u1, u2, u3, u4, u5, u6, u7, u8, u9⟩ := hS6.to2.b4
  obtain ⟨x1, x2, x3, x4, x5, x6, x7, x8, x9⟩ := hS6.to3.b4
  have ne1 := hS6.to2.drop1.drop1.blk_ne
  have ne2 := ne1.symm
  replace hS6 := Lib.hid hS6
  go_wp2_with fail
  refine bodyPost_ret (v := .tuple #[.agg #[.int .i64 t, .int .i64 r, .slice a' (l.length + 1) c', .int .i64 n], .bool true, .int .i64 0]) (by simp [results, Try.results30, go_sem, *]) rfl ⟨a', c', rfl, ?_⟩
  have hZ := (((((hS6.out.to2.set 2 (.slice a' (l.length + 1) c')).to3.set 0 (.int .i64 t)).set 1 (.int .i64 r)).set 2 (.slice a' (l.length + 1) c')).set 3 (.int .i64 n))
  have hY := hZ.tail.tail.drop1.drop1.drop1.drop1
  unfold vq
  rw [List.length_append, show qcells (l ++ [(⟨id0, t0, mo, mo, 0⟩ : Rq)]) = qcells l ++ _ from by unfold qcells; rw [List.flatMap_append]]
  exact hY
end Go.Proofs.Ytmacpjnkmkaloaa
