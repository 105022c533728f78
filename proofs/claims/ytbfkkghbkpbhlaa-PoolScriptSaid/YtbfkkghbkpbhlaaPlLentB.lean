/-
  What a pool's Each tells, collected (lent). No condition beside a pool that New made.
-/
import Derived.Test.YtbfkkghbkpbhlaaPlLent
namespace Go.Proofs.Ytbfkkghbkpbhlaa
open Go.RowKit Go.Shelf
attribute [local go_sem] Oper.semAt_some
theorem func_nil (c : Value) (w : World) : (binOp .eql 55 (.func (.func 31) #[] #[c]) .nilFunc).run Try.prog w = .ok (.bool false) w := by kernel_rfl
set_option maxRecDepth 100000 in
set_option maxHeartbeats 4000000 in
theorem lent_any (p : Nat) (lent : List Bool) (w : World) (rs : List Res) (hS : Sep w (poolR p lent :: rs)) (hm : lent.length ≤ 128) : Calls Try.prog 14 #[.pointer (some ⟨p, 0, none⟩)] w fun e W' => ∃ v, e = .returned (.tuple #[v, .bool true]) ∧ RI W' v (lentU lent lent.length) ∧ Below w.heap.size w W' := by
  obtain ⟨i0, hi, hz0, hz1, hz2⟩ := info_parts info_int
  have hlL := lentU_len lent lent.length
  refine (callsIn_wide (n := 8)).1 ?_
  have h1 : 1 ≤ 8 := by omega
  have hq := fun c W => func_nil c W
  refine callsIn_of_wp_marks Try.func14 rfl trivial ?_ rfl
  simp only [Try.ntmps14, List.size_toArray, List.length_cons, List.length_nil, Nat.reduceAdd, Nat.reduceSub, Array.replicate_succ, Array.replicate_zero, List.push_toArray, List.append_toArray, List.nil_append, List.cons_append]
  gi_wp2_with (refine ⟨trivial, ?_⟩; gi_at_call 28; refine (each_in _ _ _).mono ?_; rintro e w' ⟨rfl, rfl⟩)
  have hS0 := Lib.hid (((hS.alloc #[.slice none 0 0] 22).alloc #[.bool false] 4).alloc #[.pointer (some ⟨p, 0, none⟩)] 25)
  simp only [World.size_alloc] at hS0
  obtain ⟨w0, hw0⟩ : ∃ w0, w0 = ((w.alloc (.cells #[.slice none 0 0] 22)).alloc (.cells #[.bool false] 4)).alloc (.cells #[.pointer (some ⟨p, 0, none⟩)] 25) := ⟨_, rfl⟩
  have hz0' : w0.heap.size = w.heap.size + 1 + 1 + 1 := by rw [hw0]; simp only [World.size_alloc]
  rw [← hw0] at hS0 ⊢
  have bO := Boxed.new w0 22 (.slice none 0 0)
  rw [hz0'] at bO
  have hB0 : Below w0.heap.size w0 (w0.alloc (.cells #[.slice none 0 0] 22)) := (Below.refl _ _).alloc (Nat.le_refl _) _
  have hcp := hS0.out.b1.2.1
  have hP := Lib.hid hS0.out.tail.tail.tail
  replace hw0 := Lib.hid hw0
  replace hz0' := Lib.hid hz0'
  refine wpIn_rangeFunc_ownG rfl h1 (gf := 31) (lb := #[.pointer (some ⟨w.heap.size + 1 + 1, 0, none⟩)]) rfl trivial (enters_of Try.func31 (by kernel_rfl) rfl)
    (each_stops (8 - 1) (by omega) (w.heap.size + 1 + 1) p lent w0 _ rs hP.out (by rw [hz0'.out]; omega) hcp hm hB0) belowK_t (belowK_b (by simp)) (Below.refl _ _) (fun _ => rfl)
    (fun pre W => (∃ v, Boxed W (w.heap.size + 1 + 1 + 1) 22 v ∧ W.ownsRow w0.heap.size 3 1 v pre.length (pre.map (Value.int .i64)) ∧ (v = .slice none 0 0 ↔ pre = [])) ∧ Below w0.heap.size w0 W)
    (fun _ _ _ => False)
    (OwnFrom.and (Own.from (holdsRow_own w0.heap.size (w.heap.size + 1 + 1 + 1) 22 3 1 (fun pre => pre.length) (fun pre => pre.map (Value.int .i64)) (fun pre v => v = .slice none 0 0 ↔ pre = [])) _) (ownFrom_below (Nat.le_refl _) (by simp)))
    (fun _ _ _ _ _ hs _ _ => hs)
    ⟨⟨_, bO, World.ownsRow_nil _ _ _ _, by simp⟩, hB0⟩
    (fun x => { tmps := #[.pointer (some ⟨p, 0, none⟩), undef, .pointer (some ⟨w.heap.size, 0, none⟩), .pointer (some ⟨w.heap.size + 1, 0, none⟩), .func (.func 31) #[] #[.pointer (some ⟨w.heap.size + 1 + 1, 0, none⟩)], .pointer (some ⟨w.heap.size + 1 + 1 + 1, 0, none⟩), .int .i64 x, .pointer (some ⟨p, 0, none⟩), .func (.func 31) #[] #[.pointer (some ⟨w.heap.size + 1 + 1, 0, none⟩)], .func (.func 31) #[] #[.pointer (some ⟨w.heap.size + 1 + 1, 0, none⟩)], .bool false, .func (.func 31) #[] #[.pointer (some ⟨w.heap.size + 1 + 1, 0, none⟩)], .int .i64 x, undef, undef, undef, undef, undef, undef, undef, undef], defers := [] }) ?assign ?body ?done ?stop
  case assign =>
    intro l x W K hK
    gi_wp2
    exact hK
  case body =>
    rintro l pre x W ⟨⟨v, hv, hrow, hnil⟩, hB⟩ hlt
    obtain ⟨va, vc, rfl⟩ := own_slice hrow
    have hc := hv.cell
    have hpl : pre.length ≤ 200 := by omega
    have hml : pre.length + 1 ≤ maxLen := by simp only [maxLen]; omega
    have hpl' : ¬ (200 : Int) < (pre.length : Int) := by omega
    gi_wp2_with (gi_at_builtin; refine wpListIn_append_own _ rfl _ _ 22 rfl w0.heap.size 3 i0 (.int .i64 0) 1 8 Try.underlying22 hi hz0 hz1 hz2 rfl (by decide) _ _ _ rfl (hrow.alloc _) ⟨W.heap.size, 0, none⟩ 1 1 [.int .i64 x] rfl rfl (cell_one_new _ _ _) (by simp [Value.oneCell']) (by omega) (by omega) (by have := hB.size; simp; omega) ?_; intro v' w1 hown' hgrow _; obtain ⟨g', cap', rfl⟩ := ownsRow_succ hown'; obtain ⟨hv1, hv2, hr2, hk2, hb2⟩ := hv.appended (by decide) hrow hB.size (by have := hz0'.out; omega) hown' hgrow; have hc1 := hv1.cell; have hf1 := hv1.frozen)
    exact ⟨hk2.from _, hb2, ⟨_, hv2, by simpa using hr2, by simp⟩, hB.trans hb2⟩
  case done =>
    rintro D ys W hD rfl ⟨⟨v, hv, hrow, hnil⟩, hB⟩ hK
    obtain ⟨va, vc, rfl⟩ := own_slice hrow
    have hc := hv.cell
    have hSW := hS0.out.below hB
    obtain ⟨_, k0, k1⟩ := hSW.to1.b1
    obtain ⟨_, k2, k3⟩ := hSW.to2.b1
    have hne1 := hSW.to1.to2.blk_ne
    have hz1' := hz0'.out
    have hDD : w0.heap.size ≤ D := by simp at hD; omega
    have hown := Lib.hid hrow
    have hBw : Below w.heap.size w W := (((((Below.refl _ w).alloc (Nat.le_refl _) _).alloc (by simp) _).alloc (by simp; omega) _ : Below w.heap.size w _)).trans (by have := hw0.out; rw [this] at hB; exact hB.mono (by simp; omega))
    gi_wp2
    have q1 : ((W.setCell ⟨w.heap.size, 0, none⟩ (.slice va (lentU lent lent.length).length vc)).setCell ⟨w.heap.size + 1, 0, none⟩ (.bool true)).heap[D]? = some (.deferred (some [])) := (KeepsOthers.setCell _ _ _).same D _ ((KeepsOthers.setCell _ _ _).same D _ hK rfl) rfl
    refine ⟨by simp, .inl ⟨_, _, rfl, run_takeDeferred q1, ?_⟩⟩
    have r0 : ((W.setCell ⟨w.heap.size, 0, none⟩ (.slice va (lentU lent lent.length).length vc)).setCell ⟨w.heap.size + 1, 0, none⟩ (.bool true)).cell? ⟨w.heap.size, 0, none⟩ = some (.slice va (lentU lent lent.length).length vc) := (World.cell?_setCell_other _ _ _ _ (by simp)).trans (World.cell?_setCell_same _ _ _ k2)
    have r1 : ((W.setCell ⟨w.heap.size, 0, none⟩ (.slice va (lentU lent lent.length).length vc)).setCell ⟨w.heap.size + 1, 0, none⟩ (.bool true)).cell? ⟨w.heap.size + 1, 0, none⟩ = some (.bool true) := World.cell?_setCell_same _ _ _ ((World.cell?_setCell_other _ _ _ _ (by simp)).trans k0)
    have R0 := cell_kept r0 (grownBy_putObj' _ D (.deferred none)) (fun r e => by cases e; exact ⟨_, q1, rfl⟩)
    have R1 := cell_kept r1 (grownBy_putObj' _ D (.deferred none)) (fun r e => by cases e; exact ⟨_, q1, rfl⟩)
    have hR := RI.of_own (ownsRow_putObj (ownsRow_setCell_below (ownsRow_setCell_below hrow (a := ⟨w.heap.size, 0, none⟩) (by simp only; omega) (.slice va (lentU lent lent.length).length vc)) (a := ⟨w.heap.size + 1, 0, none⟩) (by simp only; omega) (.bool true)) (.deferred none) q1 rfl)
    refine ⟨.tuple #[.slice va (lentU lent lent.length).length vc, .bool true], ?_, _, rfl, hR, ((hBw.setCell (p := ⟨w.heap.size, 0, none⟩) (Nat.le_refl _) _).setCell (p := ⟨w.heap.size + 1, 0, none⟩) (by simp) _).trans (belowK_b (w := w) (Nat.le_refl _) _ D _ _ (by omega) q1 rfl rfl)⟩
    simp [results, Try.results14, go_sem, R0, R1, Try.underlying22, Try.underlying4]
  case stop =>
    rintro D c pre W _ _ h _
    exact h.elim
end Go.Proofs.Ytbfkkghbkpbhlaa
