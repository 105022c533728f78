/-
  A script as it reads, wherever it lies; SameScript at two that read the same. No condition beside scripts that can be read.
-/
import Derived.Test.YtdpolejbceoldaaDoorScS
import Derived.Test.YtdpolejbceoldaaDoorScO
namespace Go.Proofs.YtdpolejbceoldaaDoor
set_option linter.unusedSimpArgs false
set_option linter.unusedVariables false
set_option linter.unnecessarySimpa false
open Go.RowKit
/-- The two slices of a script read as S. -/
structure scR (w : World) (tv pv : Value) (S : Sc) (vs : List Value) : Prop where
  len : vs.length = S.ths.length
  th : RL w tv 1 S.ths.length vs
  op : ∀ k, k < S.ths.length → RL w (vs.getD k undef) 6 (S.ths.getD k []).length ((S.ths.getD k []).flatMap oC)
  pk : RL w pv 2 S.pks.length (S.pks.flatMap pC)
theorem scR.below {w w' : World} {tv pv : Value} {S : Sc} {vs : List Value} (h : scR w tv pv S vs) (hb : Below w.heap.size w w') : scR w' tv pv S vs :=
  ⟨h.len, h.th.below hb, fun k hk => (h.op k hk).below hb, h.pk.below hb⟩
theorem scV_reads {w : World} {rs : List Res} {tv pv : Value} {S : Sc} (h : Sep w (scV tv pv S :: rs)) : ∃ vs, scR w tv pv S vs := by
  obtain ⟨ta, tc, pa, pc, vs, rfl, rfl, hl, h2⟩ := scV_open h
  refine ⟨vs, hl, h2.vec_rl, fun k hk => ?_, h2.to2.vec_rl⟩
  obtain ⟨a, c, hv, h3⟩ := th_open hl hk h2.to1
  rw [hv]
  exact h3.vec_rl
/-- What is gone through is not too much. -/
structure ScSm (S : Sc) : Prop where
  th : S.ths.length ≤ 1000
  op : ∀ t, (S.ths.getD t []).length ≤ 100000
  pk : S.pks.length ≤ 100000
theorem ScOk.sm {S : Sc} {n : Nat} (h : ScOk S n) : ScSm S := ⟨by have := h.hi; omega, fun t => by have := h.ops t; omega, by have := h.pk2; omega⟩
/-- The header of the thread k. -/
theorem scR.hd {w : World} {tv pv : Value} {S : Sc} {vs : List Value} (h : scR w tv pv S vs) {k : Nat} (hk : k < S.ths.length) : ∃ g off c a m d, tv = .slice (some ⟨g, off, none⟩) S.ths.length c ∧ g < w.heap.size ∧ w.cell? ⟨g, off + k, none⟩ = some (.slice a m d) ∧ m = (S.ths.getD k []).length ∧ RL w (.slice a m d) 6 m ((S.ths.getD k []).flatMap oC) := by
  obtain ⟨_, a, c, rfl, _, _, hr⟩ := id h.th
  obtain ⟨g, off, rfl, hlt, hc⟩ := hr (by omega)
  have hop := h.op k hk
  obtain ⟨_, a', c', hv, _⟩ := id hop
  have hx := hc k (.slice a' (S.ths.getD k []).length c') (by rw [← hv, List.getD_eq_getElem?_getD, List.getElem?_eq_getElem (show k < vs.length by have := h.len; omega)]; rfl)
  rw [hv] at hop
  exact ⟨g, off, c, a', _, c', rfl, hlt, hx, rfl, hop⟩
theorem box2 (w : World) (t : TypeId) (cs ds : Array Value) : Sep ((w.alloc (.cells cs t)).alloc (.cells ds t)) [blk (w.heap.size + 1) t ds, blk w.heap.size t cs, old w] := by
  have := ((Sep.start w).alloc cs t).alloc ds t
  rwa [World.size_alloc] at this
set_option maxHeartbeats 4000000 in
set_option maxRecDepth 100000 in
theorem sameK_true (t1 p1 t2 p2 : Value) (S : Sc) (v1 v2 : List Value) (w : World) (hm : ScSm S) (h1 : scR w t1 p1 S v1) (h2 : scR w t2 p2 S v2) :
    Calls Tryd.prog 10 #[.agg #[t1, p1, .int .i64 S.c0, .int .i64 S.c1, .int .i64 S.c2, .int .i64 S.c3], .agg #[t2, p2, .int .i64 S.c0, .int .i64 S.c1, .int .i64 S.c2, .int .i64 S.c3]] w fun e w' => e = .returned (.bool true) ∧ Below w.heap.size w w' := by
  obtain ⟨_, ta1, tc1, rfl, _⟩ := id h1.th
  obtain ⟨_, ta2, tc2, rfl, _⟩ := id h2.th
  obtain ⟨_, pa1, pc1, rfl, _⟩ := id h1.pk
  obtain ⟨_, pa2, pc2, rfl, _⟩ := id h2.pk
  have HP := fun W (hb : Below w.heap.size w W) => same_pk _ _ S.pks S.pks W (by have := hm.pk; omega) (h1.pk.below hb) (h2.pk.below hb)
  rw [decide_eq_true (rfl : S.pks = S.pks)] at HP
  have hq := fun W => run_neq_caps S.c0 S.c0 S.c1 S.c1 S.c2 S.c2 S.c3 S.c3 W
  rw [show eqB_caps S.c0 S.c0 S.c1 S.c1 S.c2 S.c2 S.c3 S.c3 = true by rw [eqB_caps_iff]; simp] at hq
  obtain ⟨n, hn⟩ : ∃ n, S.ths.length = n := ⟨_, rfl⟩
  obtain ⟨np, hnp⟩ : ∃ n, S.pks.length = n := ⟨_, rfl⟩
  have hH1 := Lib.hid (fun k hk => h1.hd (k := k) hk)
  have hH2 := Lib.hid (fun k hk => h2.hd (k := k) hk)
  have hS0 := box2 w 30 #[.slice ta1 S.ths.length tc1, .slice pa1 S.pks.length pc1, .int .i64 S.c0, .int .i64 S.c1, .int .i64 S.c2, .int .i64 S.c3] #[.slice ta2 S.ths.length tc2, .slice pa2 S.pks.length pc2, .int .i64 S.c0, .int .i64 S.c1, .int .i64 S.c2, .int .i64 S.c3]
  rw [hnp] at HP hS0 ⊢
  rw [hn] at hH1 hH2 hS0 ⊢
  have hmo := Lib.hid hm.op
  have hn8 : n ≤ 1000 := by have := hm.th; omega
  generalize S.c0 = e0 at *
  generalize S.c1 = e1 at *
  generalize S.c2 = e2 at *
  generalize S.c3 = e3 at *
  replace HP := Lib.hid HP
  replace hn := Lib.hid hn
  have hS := Lib.hid hS0
  clear hnp h1 h2 hS0
  obtain ⟨_, b0, b1, b2, b3, b4, b5, _⟩ := hS.out.b6
  obtain ⟨_, a0, a1, a2, a3, a4, a5, _⟩ := hS.out.to1.b6
  go_enter Tryd.func10, Tryd.ntmps10
  go_wp2_with (go_at_call 15; refine (HP.out _ hS.out.to2.gold).mono ?_; rintro e w2 ⟨rfl, q2⟩; replace hS := Lib.hid (hS.out.below q2); clear q2 a0 a1 a2 a3 a4 a5 b0 b1 b2 b3 b4 b5; obtain ⟨_, b0, b1, b2, b3, b4, b5, _⟩ := hS.out.b6; obtain ⟨_, a0, a1, a2, a3, a4, a5, _⟩ := hS.out.to1.b6)
  clear a0 a1 a2 a3 a4 a5 b0 b1 b2 b3 b4 b5
  go_loopw [5] (fun s wr => ∃ k : Nat, k ≤ n ∧ s = .int .i64 k ∧ Hid (Sep wr [blk (w.heap.size + 1) 30 #[.slice ta2 n tc2, .slice pa2 np pc2, .int .i64 e0, .int .i64 e1, .int .i64 e2, .int .i64 e3], blk w.heap.size 30 #[.slice ta1 n tc1, .slice pa1 np pc1, .int .i64 e0, .int .i64 e1, .int .i64 e2, .int .i64 e3], old w])) (fun s _ => n - (intOf s).toNat)
  case atStart => exact ⟨0, Nat.zero_le _, rfl, hS⟩
  case round =>
    clear hS
    obtain ⟨k, hk, rfl, hS⟩ := hrel
    obtain ⟨_, b0, b1, b2, b3, b4, b5, _⟩ := hS.out.b6
    obtain ⟨_, a0, a1, a2, a3, a4, a5, _⟩ := hS.out.to1.b6
    by_cases hlt : k < n
    · obtain ⟨g1, o1, x1, y1, m1, d1, E1, l1, z1, rfl, R1⟩ := hH1.out k hlt
      obtain ⟨g2, o2, x2, y2, m2, d2, E2, l2, z2, rfl, R2⟩ := hH2.out k hlt
      injection E1 with E1 _ F1
      injection E2 with E2 _ F2
      subst E1
      subst E2
      subst F1
      subst F2
      have HO := fun W (hb : Below w.heap.size w W) => same_op _ _ (S.ths.getD k []) (S.ths.getD k []) W (hmo.out k) (R1.below hb) (R2.below hb)
      rw [decide_eq_true (rfl : S.ths.getD k [] = S.ths.getD k [])] at HO
      have hz1 := Lib.hid (fun W (hb : Below w.heap.size w W) => (hb.cell (p := ⟨g1, o1 + k, none⟩) l1).trans z1)
      have hz2 := Lib.hid (fun W (hb : Below w.heap.size w W) => (hb.cell (p := ⟨g2, o2 + k, none⟩) l2).trans z2)
      generalize (S.ths.getD k []).length = m at *
      replace HO := Lib.hid HO
      clear R1 R2 z1 z2
      have hk1 := Lib.hid (show k + 1 ≤ n from hlt)
      have i1 : (0 : Int) ≤ (k : Int) := by omega
      have i2 : (k : Int) < (n : Int) := by omega
      go_wp2_with fail
      have hS := Lib.hid (show (fun W : World => Sep W [blk (w.heap.size + 1) 30 #[.slice (some ⟨g2, o2, none⟩) n tc2, .slice pa2 np pc2, .int .i64 e0, .int .i64 e1, .int .i64 e2, .int .i64 e3], blk w.heap.size 30 #[.slice (some ⟨g1, o1, none⟩) n tc1, .slice pa1 np pc1, .int .i64 e0, .int .i64 e1, .int .i64 e2, .int .i64 e3], old w]) _ from hS.out.drew)
      refine hl_begin (fun W : World => Sep W [blk (w.heap.size + 1) 30 #[.slice (some ⟨g2, o2, none⟩) n tc2, .slice pa2 np pc2, .int .i64 e0, .int .i64 e1, .int .i64 e2, .int .i64 e3], blk w.heap.size 30 #[.slice (some ⟨g1, o1, none⟩) n tc1, .slice pa1 np pc1, .int .i64 e0, .int .i64 e1, .int .i64 e2, .int .i64 e3], old w]) [(0, true), (1, true), (2, true), (3, true), (4, true), (5, true), (6, true), (7, true), (8, true), (9, true), (10, false), (11, true)] (by kernel_rfl) (by kernel_rfl) (by kernel_rfl) rfl (fun _ _ _ _ _ h => h) hS.out ?_
      change HL _ _ _ _ _ _ (World.drew _)
      generalize World.drew _ = wd at *
      refine hl_take ?v1 rfl (by kernel_rfl) ?y1 ?z1
      case y1 => intro W hW; have := i1; have := i2; replace hW := Lib.hid hW; go_simp; try rfl
      case z1 =>
      simp only [Act.put, List.setIfInBounds_toArray, List.set_cons_succ, List.set_cons_zero, List.getElem_toArray, List.getElem_cons_zero, List.getElem_cons_succ]
      refine hl_take ?v2 rfl (by kernel_rfl) ?y2 ?z2
      case y2 => intro W hW; obtain ⟨_, b0, b1, b2, b3, b4, b5, _⟩ := (show Sep _ _ from hW).b6; obtain ⟨_, a0, a1, a2, a3, a4, a5, _⟩ := (show Sep _ _ from hW).to1.b6; have z1 := hz1.out W (show Sep _ _ from hW).to2.gold; have z2 := hz2.out W (show Sep _ _ from hW).to2.gold; replace hW := Lib.hid hW; go_simp; try rfl
      case z2 =>
      simp only [Act.put, List.setIfInBounds_toArray, List.set_cons_succ, List.set_cons_zero, List.getElem_toArray, List.getElem_cons_zero, List.getElem_cons_succ]
      refine hl_take ?v3 rfl (by kernel_rfl) ?y3 ?z3
      case y3 => intro W hW; have := i1; have := i2; replace hW := Lib.hid hW; go_simp; try rfl
      case z3 =>
      simp only [Act.put, List.setIfInBounds_toArray, List.set_cons_succ, List.set_cons_zero, List.getElem_toArray, List.getElem_cons_zero, List.getElem_cons_succ]
      refine hl_take ?v4 rfl (by kernel_rfl) ?y4 ?z4
      case y4 => intro W hW; have := i1; have := i2; replace hW := Lib.hid hW; go_simp; try rfl
      case z4 =>
      simp only [Act.put, List.setIfInBounds_toArray, List.set_cons_succ, List.set_cons_zero, List.getElem_toArray, List.getElem_cons_zero, List.getElem_cons_succ]
      refine hl_take ?v5 rfl (by kernel_rfl) ?y5 ?z5
      case y5 => intro W hW; obtain ⟨_, b0, b1, b2, b3, b4, b5, _⟩ := (show Sep _ _ from hW).b6; obtain ⟨_, a0, a1, a2, a3, a4, a5, _⟩ := (show Sep _ _ from hW).to1.b6; have z1 := hz1.out W (show Sep _ _ from hW).to2.gold; have z2 := hz2.out W (show Sep _ _ from hW).to2.gold; replace hW := Lib.hid hW; go_simp; try rfl
      case z5 =>
      simp only [Act.put, List.setIfInBounds_toArray, List.set_cons_succ, List.set_cons_zero, List.getElem_toArray, List.getElem_cons_zero, List.getElem_cons_succ]
      refine hl_take ?v6 rfl (by kernel_rfl) ?y6 ?z6
      case y6 => intro W hW; have := i1; have := i2; replace hW := Lib.hid hW; go_simp; try rfl
      case z6 =>
      simp only [Act.put, List.setIfInBounds_toArray, List.set_cons_succ, List.set_cons_zero, List.getElem_toArray, List.getElem_cons_zero, List.getElem_cons_succ]
      refine hl_take ?v7 rfl (by kernel_rfl) ?y7 ?z7
      case y7 => intro W hW; obtain ⟨_, b0, b1, b2, b3, b4, b5, _⟩ := (show Sep _ _ from hW).b6; obtain ⟨_, a0, a1, a2, a3, a4, a5, _⟩ := (show Sep _ _ from hW).to1.b6; have z1 := hz1.out W (show Sep _ _ from hW).to2.gold; have z2 := hz2.out W (show Sep _ _ from hW).to2.gold; replace hW := Lib.hid hW; go_simp; try rfl
      case z7 =>
      simp only [Act.put, List.setIfInBounds_toArray, List.set_cons_succ, List.set_cons_zero, List.getElem_toArray, List.getElem_cons_zero, List.getElem_cons_succ]
      refine hl_take ?v8 rfl (by kernel_rfl) ?y8 ?z8
      case y8 => intro W hW; have := i1; have := i2; replace hW := Lib.hid hW; go_simp; try rfl
      case z8 =>
      simp only [Act.put, List.setIfInBounds_toArray, List.set_cons_succ, List.set_cons_zero, List.getElem_toArray, List.getElem_cons_zero, List.getElem_cons_succ]
      refine hl_take ?v9 rfl (by kernel_rfl) ?y9 ?z9
      case y9 => intro W hW; have := i1; have := i2; replace hW := Lib.hid hW; go_simp; try rfl
      case z9 =>
      simp only [Act.put, List.setIfInBounds_toArray, List.set_cons_succ, List.set_cons_zero, List.getElem_toArray, List.getElem_cons_zero, List.getElem_cons_succ]
      refine hl_take ?v10 rfl (by kernel_rfl) ?y10 ?z10
      case y10 => intro W hW; obtain ⟨_, b0, b1, b2, b3, b4, b5, _⟩ := (show Sep _ _ from hW).b6; obtain ⟨_, a0, a1, a2, a3, a4, a5, _⟩ := (show Sep _ _ from hW).to1.b6; have z1 := hz1.out W (show Sep _ _ from hW).to2.gold; have z2 := hz2.out W (show Sep _ _ from hW).to2.gold; replace hW := Lib.hid hW; go_simp; try rfl
      case z10 =>
      simp only [Act.put, List.setIfInBounds_toArray, List.set_cons_succ, List.set_cons_zero, List.getElem_toArray, List.getElem_cons_zero, List.getElem_cons_succ]
      refine hl_one rfl (by kernel_rfl) (fun K hK => ?_)
      go_simp
      go_at_call 26
      refine (HO.out _ hS.out.to2.gold).mono ?_
      rintro e w3 ⟨rfl, q3⟩
      replace hS := Lib.hid (hS.out.below q3)
      clear q3
      refine hK.out _ _ hS.out ?_
      clear hK K
      try simp only [Act.put, List.setIfInBounds_toArray, List.set_cons_succ, List.set_cons_zero, List.getElem_toArray, List.getElem_cons_zero, List.getElem_cons_succ]
      refine hl_take ?v11 rfl (by kernel_rfl) ?y11 ?z11
      case y11 => intro W hW; have := i1; have := i2; replace hW := Lib.hid hW; go_simp; try rfl
      case z11 =>
      simp only [Act.put, List.setIfInBounds_toArray, List.set_cons_succ, List.set_cons_zero, List.getElem_toArray, List.getElem_cons_zero, List.getElem_cons_succ]
      refine hl_done ?_
      clear a0 a1 a2 a3 a4 a5 b0 b1 b2 b3 b4 b5
      go_wp2_with fail
      go_roundw
      case rel => exact ⟨k + 1, hk1.out, by go_num, hS⟩
      case measure => have := hk1.out; simp [intOf]; omega
    · obtain rfl : k = n := by omega
      go_wp2_with fail
      go_ret
      exact ⟨rfl, hS.out.to2.gold⟩
end Go.Proofs.YtdpolejbceoldaaDoor
