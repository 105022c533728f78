/-
  slices.EqualFunc at equal threads; the program's Same of scripts that read the same, and of such whose caps differ. No condition beside scripts that can be read.
-/
import Derived.Test.YtdpolejbceoldaaDoorScT
namespace Go.Proofs.YtdpolejbceoldaaDoor
set_option linter.unusedSimpArgs false
set_option linter.unusedVariables false
set_option linter.unnecessarySimpa false
open Go.RowKit
set_option maxHeartbeats 4000000 in
set_option maxRecDepth 100000 in
theorem equalThreads_true (t1 p1 t2 p2 : Value) (S : Sc) (v1 v2 : List Value) (w : World) (hm : ScSm S) (h1 : scR w t1 p1 S v1) (h2 : scR w t2 p2 S v2) :
    Calls Tryd.prog 37 #[t1, t2, .func (.func 38) #[] #[]] w fun e w' => e = .returned (.bool true) ∧ Below w.heap.size w w' := by
  obtain ⟨_, ta1, tc1, rfl, _⟩ := id h1.th
  obtain ⟨_, ta2, tc2, rfl, _⟩ := id h2.th
  obtain ⟨n, hn⟩ : ∃ n, S.ths.length = n := ⟨_, rfl⟩
  have hH1 := Lib.hid (fun k hk => h1.hd (k := k) hk)
  have hH2 := Lib.hid (fun k hk => h2.hd (k := k) hk)
  rw [hn] at hH1 hH2 ⊢
  have hmo := Lib.hid hm.op
  have hn8 : n ≤ 1000 := by have := hm.th; omega
  replace hn := Lib.hid hn
  clear h1 h2 hm
  go_enter Tryd.func37, Tryd.ntmps37
  go_wp2_with fail
  go_loopw [17] (fun s wr => ∃ k : Nat, k ≤ n ∧ s = .int .i64 k ∧ Hid (Below w.heap.size w wr)) (fun s _ => n - (intOf s).toNat)
  case atStart => exact ⟨0, Nat.zero_le _, rfl, Lib.hid (Below.refl _ _)⟩
  case round =>
    obtain ⟨k, hk, rfl, hB⟩ := hrel
    by_cases hlt : k < n
    · obtain ⟨g1, o1, x1, y1, m1, d1, E1, l1, z1, rfl, R1⟩ := hH1.out k hlt
      obtain ⟨g2, o2, x2, y2, m2, d2, E2, l2, z2, rfl, R2⟩ := hH2.out k hlt
      injection E1 with E1 _ F1
      injection E2 with E2 _ F2
      subst E1
      subst E2
      subst F1
      subst F2
      have HO := fun W (hb : Below w.heap.size w W) => equal_op _ _ (S.ths.getD k []) (S.ths.getD k []) W (hmo.out k) (R1.below hb) (R2.below hb)
      rw [decide_eq_true (rfl : S.ths.getD k [] = S.ths.getD k [])] at HO
      have c1 := (hB.out.cell (p := ⟨g1, o1 + k, none⟩) l1).trans z1
      have c2 := (hB.out.cell (p := ⟨g2, o2 + k, none⟩) l2).trans z2
      generalize (S.ths.getD k []).length = m at *
      replace HO := Lib.hid HO
      clear R1 R2 z1 z2
      have hk1 := Lib.hid (show k + 1 ≤ n from hlt)
      have i1 : (0 : Int) ≤ (k : Int) := by omega
      have i2 : (k : Int) < (n : Int) := by omega
      go_wp2_with (go_at_call 38; refine (HO.out _ hB.out).mono ?_; rintro e w3 ⟨rfl, q3⟩; replace hB := Lib.hid (hB.out.trans (q3.mono hB.out.size)); clear q3)
      go_roundw
      case rel => exact ⟨k + 1, hk1.out, by go_num, hB⟩
      case measure => have := hk1.out; simp [intOf]; omega
    · obtain rfl : k = n := by omega
      go_wp2_with fail
      go_ret
      exact ⟨rfl, hB.out⟩
set_option maxHeartbeats 4000000 in
set_option maxRecDepth 100000 in
theorem sameP_true (t1 p1 t2 p2 : Value) (S : Sc) (v1 v2 : List Value) (w : World) (hm : ScSm S) (h1 : scR w t1 p1 S v1) (h2 : scR w t2 p2 S v2) :
    Calls Tryd.prog 16 #[.agg #[t1, p1, .int .i64 S.c0, .int .i64 S.c1, .int .i64 S.c2, .int .i64 S.c3], .agg #[t2, p2, .int .i64 S.c0, .int .i64 S.c1, .int .i64 S.c2, .int .i64 S.c3]] w fun e w' => e = .returned (.bool true) ∧ Below w.heap.size w w' := by
  have HP := fun W (hb : Below w.heap.size w W) => equal_pk _ _ S.pks S.pks W (by have := hm.pk; omega) (h1.pk.below hb) (h2.pk.below hb)
  rw [decide_eq_true (rfl : S.pks = S.pks)] at HP
  have HT := Lib.hid (fun W (hb : Below w.heap.size w W) => equalThreads_true t1 p1 t2 p2 S v1 v2 W hm (h1.below hb) (h2.below hb))
  have hq := fun W => run_eql_caps S.c0 S.c0 S.c1 S.c1 S.c2 S.c2 S.c3 S.c3 W
  rw [show eqB_caps S.c0 S.c0 S.c1 S.c1 S.c2 S.c2 S.c3 S.c3 = true by rw [eqB_caps_iff]; simp] at hq
  obtain ⟨_, ta1, tc1, rfl, _⟩ := id h1.th
  obtain ⟨_, ta2, tc2, rfl, _⟩ := id h2.th
  obtain ⟨_, pa1, pc1, rfl, _⟩ := id h1.pk
  obtain ⟨_, pa2, pc2, rfl, _⟩ := id h2.pk
  have hS := box2 w 30 #[.slice ta1 S.ths.length tc1, .slice pa1 S.pks.length pc1, .int .i64 S.c0, .int .i64 S.c1, .int .i64 S.c2, .int .i64 S.c3] #[.slice ta2 S.ths.length tc2, .slice pa2 S.pks.length pc2, .int .i64 S.c0, .int .i64 S.c1, .int .i64 S.c2, .int .i64 S.c3]
  generalize S.c0 = e0 at *
  generalize S.c1 = e1 at *
  generalize S.c2 = e2 at *
  generalize S.c3 = e3 at *
  generalize S.ths.length = n at *
  generalize S.pks.length = np at *
  replace hS := Lib.hid hS
  replace HP := Lib.hid HP
  clear h1 h2 hm
  obtain ⟨_, b0, b1, b2, b3, b4, b5, _⟩ := hS.out.b6
  obtain ⟨_, a0, a1, a2, a3, a4, a5, _⟩ := hS.out.to1.b6
  go_enter Tryd.func16, Tryd.ntmps16
  go_wp2_with (first
    | (go_at_call 36; refine (HP.out _ hS.out.to2.gold).mono ?_; rintro e w2 ⟨rfl, q2⟩; replace hS := Lib.hid (hS.out.below q2); clear q2 a0 a1 a2 a3 a4 a5 b0 b1 b2 b3 b4 b5; obtain ⟨_, b0, b1, b2, b3, b4, b5, _⟩ := hS.out.b6; obtain ⟨_, a0, a1, a2, a3, a4, a5, _⟩ := hS.out.to1.b6)
    | (go_at_call 37; refine (HT.out _ hS.out.to2.gold).mono ?_; rintro e w3 ⟨rfl, q3⟩; replace hS := Lib.hid (hS.out.below q3); clear q3))
  go_ret
  exact ⟨rfl, hS.out.to2.gold⟩
set_option maxHeartbeats 4000000 in
set_option maxRecDepth 100000 in
theorem sameP_caps (t1 p1 t2 p2 : Value) (a b c d a' b' c' d' : Int) (w : World) (h : eqB_caps a a' b b' c c' d d' = false) :
    Calls Tryd.prog 16 #[.agg #[t1, p1, .int .i64 a, .int .i64 b, .int .i64 c, .int .i64 d], .agg #[t2, p2, .int .i64 a', .int .i64 b', .int .i64 c', .int .i64 d']] w fun e w' => e = .returned (.bool false) ∧ Below w.heap.size w w' := by
  have hq := fun W => run_eql_caps a a' b b' c c' d d' W
  rw [h] at hq
  clear h
  have hS := Lib.hid (box2 w 30 #[t1, p1, .int .i64 a, .int .i64 b, .int .i64 c, .int .i64 d] #[t2, p2, .int .i64 a', .int .i64 b', .int .i64 c', .int .i64 d'])
  obtain ⟨_, b0, b1, b2, b3, b4, b5, _⟩ := hS.out.b6
  obtain ⟨_, a0, a1, a2, a3, a4, a5, _⟩ := hS.out.to1.b6
  go_enter Tryd.func16, Tryd.ntmps16
  go_wp2_with fail
  go_ret
  exact ⟨rfl, hS.out.to2.gold⟩
end Go.Proofs.YtdpolejbceoldaaDoor
