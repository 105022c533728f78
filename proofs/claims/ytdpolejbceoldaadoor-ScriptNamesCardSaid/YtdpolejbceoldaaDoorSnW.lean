/-
  ScriptNames, walked. No condition.
-/
import Derived.Test.YtdpolejbceoldaaDoorScN
import Derived.Test.YtdpolejbceoldaaDoorScE
namespace Go.Proofs.YtdpolejbceoldaaDoor
set_option linter.unusedSimpArgs false
set_option linter.unusedVariables false
set_option linter.unnecessarySimpa false
open Go.RowKit Go.Shelf
attribute [local go_sem] Oper.semAt_some
theorem wpIn_only {n : Nat} {P : Program} {c : Code} {K : Act → World → Prop} {Q' : Exit → Act → World → Prop} {a : Act} {w : World} (h : c.wp P (Exit.then K (fun _ _ _ => False)) a w) : c.wpIn Fence.wide n P (Exit.then K Q') a w :=
  wpIn_mono (wpIn_wide.2 h) fun e a w h => by
    cases e with
    | normal => exact h
    | ret => exact h.elim
    | exit id => exact h.elim
    | goto t => exact h.elim
    | panic c => exact h.elim
    | outgrown => exact h.elim
def wantB : ByteArray := ⟨#[1, 2, 3, 4, 0, 2, 0, 0, 2, 0, 1, 0, 0, 0, 0, 0, 2, 0, 3, 2, 3, 0, 9, 5, 2, 1, 9, 4, 0, 4, 0, 0, 3, 1, 1, 0, 0, 0, 0, 0, 3, 2, 200, 0, 0, 0, 0, 0]⟩
theorem want_bytes : bytesOf smS = wantB := by decide +kernel
def oddL : List Oq := [⟨0, 0, 0, 0, 0, 0⟩, ⟨12, -1, -1, 0, 0, 0⟩, ⟨1, 0, 0, 0, 0, 0⟩, ⟨2, 1, -1, 0, 0, 0⟩, ⟨6, 1, 1, 0, 0, 0⟩, ⟨9, 1, -1, 0, 0, 0⟩, ⟨2, 1, 1, 3, 0, 0⟩, ⟨2, 1, 1, 0, 1, 0⟩, ⟨10, 1, -1, 0, 0, 1⟩, ⟨3, 1, 1, 0, 256, 0⟩, ⟨7, -1, -1, 0, 0, 1⟩]
theorem odd_all : ∀ x ∈ oddL, opErr x = 2 := by decide +kernel
theorem odd_cells : (#[.int .i64 0, .int .i64 0, .int .i64 0, .int .i64 0, .int .i64 0, .int .i64 0, .int .i64 12, .int .i64 (-1), .int .i64 (-1), .int .i64 0, .int .i64 0, .int .i64 0, .int .i64 1, .int .i64 0, .int .i64 0, .int .i64 0, .int .i64 0, .int .i64 0, .int .i64 2, .int .i64 1, .int .i64 (-1), .int .i64 0, .int .i64 0, .int .i64 0, .int .i64 6, .int .i64 1, .int .i64 1, .int .i64 0, .int .i64 0, .int .i64 0, .int .i64 9, .int .i64 1, .int .i64 (-1), .int .i64 0, .int .i64 0, .int .i64 0, .int .i64 2, .int .i64 1, .int .i64 1, .int .i64 3, .int .i64 0, .int .i64 0, .int .i64 2, .int .i64 1, .int .i64 1, .int .i64 0, .int .i64 1, .int .i64 0, .int .i64 10, .int .i64 1, .int .i64 (-1), .int .i64 0, .int .i64 0, .int .i64 1, .int .i64 3, .int .i64 1, .int .i64 1, .int .i64 0, .int .i64 256, .int .i64 0, .int .i64 7, .int .i64 (-1), .int .i64 (-1), .int .i64 0, .int .i64 0, .int .i64 1] : Array Value).toList = oddL.flatMap oC := rfl
theorem want_op : entV (bt (wantB.extract 16 24)) = .tuple #[.int .i64 0, .agg #[.int .i64 3, .int .i64 1, .int .i64 2, .int .i64 0, .int .i64 9, .int .i64 5], .bool true] := by
  have h1 : isOp (bt (wantB.extract 16 24)) = true := by decide +kernel
  have h2 : opOf (bt (wantB.extract 16 24)) = ⟨3, 1, 2, 0, 9, 5⟩ := by decide +kernel
  have h3 : bt (wantB.extract 16 24) 1 = 0 := by decide +kernel
  unfold entV
  rw [h1, h2, h3]
  rfl
theorem want_no : entV (bt (wantB.extract 0 8)) = .tuple #[.int .i64 0, .agg #[.int .i64 0, .int .i64 0, .int .i64 0, .int .i64 0, .int .i64 0, .int .i64 0], .bool false] := by
  have h1 : isOp (bt (wantB.extract 0 8)) = false := by decide +kernel
  unfold entV
  rw [h1]
  rfl
theorem sm_chk : chkS smS = true := by decide +kernel
theorem zz_caps : eqB_caps (readB (⟨#[122, 122]⟩ ++ wantB)).c0 2 (readB (⟨#[122, 122]⟩ ++ wantB)).c1 3 (readB (⟨#[122, 122]⟩ ++ wantB)).c2 4 (readB (⟨#[122, 122]⟩ ++ wantB)).c3 0 = false := by decide +kernel
theorem nil_chk : chkErr ⟨[], [], 0, 0, 0, 0⟩ = 2 := by decide +kernel
set_option maxHeartbeats 8000000 in
set_option maxRecDepth 100000 in
theorem names_walk (w : World) : Calls Tryd.prog 7 #[] w fun e w' => e = .returned (.bool true) ∧ Below w.heap.size w w' := by
  have k1 : 1 ≤ 8 := by omega
  have hA := Lib.hid ((Sep.start w).alloc #[.bool false] 4)
  refine (callsIn_wide (n := 8)).1 ?_
  refine callsIn_of_wp_marks Tryd.func7 rfl trivial ?_ rfl
  simp only [Tryd.ntmps7, List.size_toArray, List.length_cons, List.length_nil, Nat.reduceAdd, Nat.reduceSub, Array.replicate_succ, Array.replicate_zero, List.push_toArray, List.append_toArray, List.nil_append, List.cons_append]
  gi_wp2_with (first
    | (refine ⟨trivial, ?_⟩; gi_at_call 8; refine (callsIn_wide.2 (lives_any _)).mono ?_; rintro e w1 ⟨rfl, q1⟩; replace hA := Lib.hid (hA.out.below q1); clear q1))
  refine ⟨trivial, ?_⟩
  refine (callsIn_wide.2 (small_any _)).mono ?_
  rintro e w2 ⟨tv, pv, vs, rfl, R, q2⟩
  have hA2 := hA.out.below q2
  clear q2 hA
  have hsm : ScSm smS := ⟨by decide, fun t => by
    match t with
    | 0 => decide
    | 1 => decide
    | n + 2 => rw [List.getD_eq_getElem?_getD, List.getElem?_eq_none (by show 2 ≤ n + 2; omega)]; decide, by decide⟩
  have HB := fun W (hb : Below w2.heap.size w2 W) => bytes_ok tv pv smS vs W hsm (R.below hb) sm_chk
  rw [want_bytes] at HB
  replace HB := Lib.hid HB
  have HC := fun W (hb : Below w2.heap.size w2 W) => check_any tv pv smS vs W hsm (R.below hb)
  rw [show chkErr smS = 0 from rfl] at HC
  replace HC := Lib.hid HC
  obtain ⟨g0, o0, c0_, a0, m0, d0, rfl, l0, z0, hm0, RL0⟩ := R.hd (k := 0) (by decide)
  obtain ⟨g1, o1, c1_, a1, m1, d1, E1, l1, z1, hm1, RL1⟩ := R.hd (k := 1) (by decide)
  injection E1 with E1 _ E3
  injection E1 with E1
  injection E1 with E1 E2 _
  subst E1 E2 E3
  obtain rfl : m0 = 2 := hm0
  obtain rfl : m1 = 1 := hm1
  obtain ⟨_, pa, pc, rfl, _⟩ := id R.pk
  obtain ⟨gb0, ob0, rfl, lb0, he0⟩ := op_cells RL0 rfl (by decide)
  obtain ⟨gb1, ob1, rfl, lb1, he1⟩ := op_cells RL1 rfl (by decide)
  obtain ⟨f0, f1, f2, f3, f4, f5⟩ := he0 1 ⟨3, 1, 2, 0, 9, 5⟩ rfl
  obtain ⟨h0, h1, h2, h3, h4, h5⟩ := he1 0 ⟨9, 3, -1, 4, 0, 0⟩ rfl
  replace R := Lib.hid R
  have hS := Lib.hid ((Sep.start w2).alloc #[.slice (some ⟨g0, o0, none⟩) 2 c0_, .slice pa 2 pc, .int .i64 2, .int .i64 3, .int .i64 4, .int .i64 0] 30)
  have hb0 := Lib.hid ((Below.refl w2.heap.size w2).alloc (Nat.le_refl _) (.cells #[.slice (some ⟨g0, o0, none⟩) 2 c0_, .slice pa 2 pc, .int .i64 2, .int .i64 3, .int .i64 4, .int .i64 0] 30))
  replace hA2 := Lib.hid hA2
  clear RL0 RL1 he0 he1
  simp only [show smS.ths.length = 2 from rfl, show smS.pks.length = 2 from rfl]
  obtain ⟨_, s0, s1, s2, s3, s4, s5, _⟩ := hS.out.b6
  gi_wp2_with (first
    | (refine ⟨trivial, ?_⟩; gi_at_call 19; refine (callsIn_wide.2 (HB.out _ hb0.out)).mono ?_; rintro e w3 ⟨rfl, q3⟩; replace hS := Lib.hid (hS.out.below q3); replace hb0 := Lib.hid (hb0.out.trans (q3.mono hb0.out.size)); clear q3 s0 s1 s2 s3 s4 s5)
    | (refine ⟨trivial, ?_⟩; gi_at_call 21; refine (callsIn_wide.2 (dbK_any _)).mono ?_; rintro e w4 ⟨rfl, qq⟩; replace hS := Lib.hid (hS.out.below qq); replace hb0 := Lib.hid (hb0.out.trans (qq.mono hb0.out.size)); clear qq)
    | (refine ⟨trivial, ?_⟩; gi_at_call 22; refine (callsIn_wide.2 (tK_any _ _)).mono ?_; rintro e w5 ⟨rfl, qq⟩; replace hS := Lib.hid (hS.out.below qq); replace hb0 := Lib.hid (hb0.out.trans (qq.mono hb0.out.size)); clear qq)
    | (refine ⟨trivial, ?_⟩; gi_at_call 23; refine (callsIn_wide.2 (rK_any _ _ _)).mono ?_; rintro e w6 ⟨rfl, qq⟩; replace hS := Lib.hid (hS.out.below qq); replace hb0 := Lib.hid (hb0.out.trans (qq.mono hb0.out.size)); clear qq))
  have hO := Lib.hid (hS.out.alloc #[.int .i64 0, .int .i64 0, .int .i64 0, .int .i64 0, .int .i64 0, .int .i64 0, .int .i64 12, .int .i64 (-1), .int .i64 (-1), .int .i64 0, .int .i64 0, .int .i64 0, .int .i64 1, .int .i64 0, .int .i64 0, .int .i64 0, .int .i64 0, .int .i64 0, .int .i64 2, .int .i64 1, .int .i64 (-1), .int .i64 0, .int .i64 0, .int .i64 0, .int .i64 6, .int .i64 1, .int .i64 1, .int .i64 0, .int .i64 0, .int .i64 0, .int .i64 9, .int .i64 1, .int .i64 (-1), .int .i64 0, .int .i64 0, .int .i64 0, .int .i64 2, .int .i64 1, .int .i64 1, .int .i64 3, .int .i64 0, .int .i64 0, .int .i64 2, .int .i64 1, .int .i64 1, .int .i64 0, .int .i64 1, .int .i64 0, .int .i64 10, .int .i64 1, .int .i64 (-1), .int .i64 0, .int .i64 0, .int .i64 1, .int .i64 3, .int .i64 1, .int .i64 1, .int .i64 0, .int .i64 256, .int .i64 0, .int .i64 7, .int .i64 (-1), .int .i64 (-1), .int .i64 0, .int .i64 0, .int .i64 1] 36)
  have hbO := Lib.hid (hb0.out.alloc hb0.out.size (.cells #[.int .i64 0, .int .i64 0, .int .i64 0, .int .i64 0, .int .i64 0, .int .i64 0, .int .i64 12, .int .i64 (-1), .int .i64 (-1), .int .i64 0, .int .i64 0, .int .i64 0, .int .i64 1, .int .i64 0, .int .i64 0, .int .i64 0, .int .i64 0, .int .i64 0, .int .i64 2, .int .i64 1, .int .i64 (-1), .int .i64 0, .int .i64 0, .int .i64 0, .int .i64 6, .int .i64 1, .int .i64 1, .int .i64 0, .int .i64 0, .int .i64 0, .int .i64 9, .int .i64 1, .int .i64 (-1), .int .i64 0, .int .i64 0, .int .i64 0, .int .i64 2, .int .i64 1, .int .i64 1, .int .i64 3, .int .i64 0, .int .i64 0, .int .i64 2, .int .i64 1, .int .i64 1, .int .i64 0, .int .i64 1, .int .i64 0, .int .i64 10, .int .i64 1, .int .i64 (-1), .int .i64 0, .int .i64 0, .int .i64 1, .int .i64 3, .int .i64 1, .int .i64 1, .int .i64 0, .int .i64 256, .int .i64 0, .int .i64 7, .int .i64 (-1), .int .i64 (-1), .int .i64 0, .int .i64 0, .int .i64 1] 36))
  generalize hOe : w4.heap.size = O at *
  generalize w4.alloc (.cells #[.int .i64 0, .int .i64 0, .int .i64 0, .int .i64 0, .int .i64 0, .int .i64 0, .int .i64 12, .int .i64 (-1), .int .i64 (-1), .int .i64 0, .int .i64 0, .int .i64 0, .int .i64 1, .int .i64 0, .int .i64 0, .int .i64 0, .int .i64 0, .int .i64 0, .int .i64 2, .int .i64 1, .int .i64 (-1), .int .i64 0, .int .i64 0, .int .i64 0, .int .i64 6, .int .i64 1, .int .i64 1, .int .i64 0, .int .i64 0, .int .i64 0, .int .i64 9, .int .i64 1, .int .i64 (-1), .int .i64 0, .int .i64 0, .int .i64 0, .int .i64 2, .int .i64 1, .int .i64 1, .int .i64 3, .int .i64 0, .int .i64 0, .int .i64 2, .int .i64 1, .int .i64 1, .int .i64 0, .int .i64 1, .int .i64 0, .int .i64 10, .int .i64 1, .int .i64 (-1), .int .i64 0, .int .i64 0, .int .i64 1, .int .i64 3, .int .i64 1, .int .i64 1, .int .i64 0, .int .i64 256, .int .i64 0, .int .i64 7, .int .i64 (-1), .int .i64 (-1), .int .i64 0, .int .i64 0, .int .i64 1] 36) = w7 at *
  clear hS hb0 hOe
  gi_loopw [6] (fun s wr => ∃ k : Nat, k ≤ 11 ∧ s = .int .i64 k ∧ Hid (Sep wr [blk O 36 #[.int .i64 0, .int .i64 0, .int .i64 0, .int .i64 0, .int .i64 0, .int .i64 0, .int .i64 12, .int .i64 (-1), .int .i64 (-1), .int .i64 0, .int .i64 0, .int .i64 0, .int .i64 1, .int .i64 0, .int .i64 0, .int .i64 0, .int .i64 0, .int .i64 0, .int .i64 2, .int .i64 1, .int .i64 (-1), .int .i64 0, .int .i64 0, .int .i64 0, .int .i64 6, .int .i64 1, .int .i64 1, .int .i64 0, .int .i64 0, .int .i64 0, .int .i64 9, .int .i64 1, .int .i64 (-1), .int .i64 0, .int .i64 0, .int .i64 0, .int .i64 2, .int .i64 1, .int .i64 1, .int .i64 3, .int .i64 0, .int .i64 0, .int .i64 2, .int .i64 1, .int .i64 1, .int .i64 0, .int .i64 1, .int .i64 0, .int .i64 10, .int .i64 1, .int .i64 (-1), .int .i64 0, .int .i64 0, .int .i64 1, .int .i64 3, .int .i64 1, .int .i64 1, .int .i64 0, .int .i64 256, .int .i64 0, .int .i64 7, .int .i64 (-1), .int .i64 (-1), .int .i64 0, .int .i64 0, .int .i64 1], blk w2.heap.size 30 #[.slice (some ⟨g0, o0, none⟩) 2 c0_, .slice pa 2 pc, .int .i64 2, .int .i64 3, .int .i64 4, .int .i64 0], old w2]) ∧ Hid (Below w2.heap.size w2 wr)) (fun s _ => 11 - (intOf s).toNat)
  case atStart => exact ⟨0, by omega, rfl, hO, hbO⟩
  case round =>
    clear hO hbO
    obtain ⟨k, hk, rfl, hO, hb0⟩ := hrel
    by_cases hlt : k < 11
    · have RO := rl_blk 6 11 hO.out rfl (by decide)
      rw [odd_cells] at RO
      obtain ⟨gO, oO, EO, lO, heO⟩ := op_cells RO rfl (by decide)
      injection EO with EO
      injection EO with EO1 EO2 _
      subst EO1 EO2
      obtain ⟨o_, ho⟩ : ∃ o, oddL[k]? = some o := ⟨oddL[k]'hlt, List.getElem?_eq_getElem _⟩
      have hoE := odd_all o_ (List.mem_of_getElem? ho)
      obtain ⟨e0, e1, e2, e3, e4, e5⟩ := heO k o_ ho
      simp only [Nat.zero_add, ← Nat.add_assoc, Nat.add_zero] at e0 e1 e2 e3 e4 e5
      have HO := fun W => op_any o_ W
      rw [hoE] at HO
      obtain ⟨ok, ot, or_, om, ov, ox⟩ := o_
      simp only [oC] at HO
      simp only at e0 e1 e2 e3 e4 e5
      replace HO := Lib.hid HO
      clear RO heO ho hoE
      have i0 : (0 : Int) ≤ (k : Int) := by omega
      have i3 : (k : Int) < 11 := by omega
      have hk1 := Lib.hid (show k + 1 ≤ 11 from hlt)
      gi_wp2_with (refine ⟨trivial, ?_⟩; gi_at_call 13; refine (callsIn_wide.2 (HO.out _)).mono ?_; rintro e w8 ⟨rfl, qq⟩; replace hO := Lib.hid (hO.out.below qq); replace hb0 := Lib.hid (hb0.out.trans (qq.mono hb0.out.size)); clear qq HO e0 e1 e2 e3 e4 e5)
      go_roundw
      case rel => exact ⟨k + 1, hk1.out, by go_num, hO, hb0⟩
      case measure => have := hk1.out; simp [intOf]; omega
    · obtain rfl : k = 11 := by omega
      have hrw : readB wantB = smS := by rw [← want_bytes]; exact bytesOf_back sm_chk
      have hw48 : wantB.size = 48 := rfl
      have HE1 := fun W => entry_any (wantB.extract 16 24) (by decide +kernel) W
      rw [want_op] at HE1
      have HE2 := fun W => entry_any (wantB.extract 0 8) (by decide +kernel) W
      rw [want_no] at HE2
      have HRw := fun W => read_any wantB W
      rw [hrw] at HRw
      have HRz := fun W => read_any (⟨#[122, 122]⟩ ++ wantB) W
      have hzc := zz_caps
      generalize readB (⟨#[122, 122]⟩ ++ wantB) = RZ at HRz hzc
      have A1 := fun W => run_string_add_sum (P := Tryd.prog) W ⟨#[122, 122]⟩ wantB (by decide)
      have A2 := fun W => run_string_add_sum (P := Tryd.prog) W wantB ⟨#[49, 50, 51]⟩ (by decide)
      have HEa := fun W => each_any (wantB ++ ⟨#[49, 50, 51]⟩) W
      have h51 : (wantB ++ ⟨#[49, 50, 51]⟩).size / 8 = 6 := by decide +kernel
      simp only [show (⟨#[1, 2, 3, 4, 0, 2, 0, 0, 2, 0, 1, 0, 0, 0, 0, 0, 2, 0, 3, 2, 3, 0, 9, 5, 2, 1, 9, 4, 0, 4, 0, 0, 3, 1, 1, 0, 0, 0, 0, 0, 3, 2, 200, 0, 0, 0, 0, 0]⟩ : ByteArray) = wantB from rfl]
      generalize wantB = wb at *
      replace HE1 := Lib.hid HE1
      replace HE2 := Lib.hid HE2
      replace HRw := Lib.hid HRw
      replace HRz := Lib.hid HRz
      replace HEa := Lib.hid HEa
      replace hzc := Lib.hid hzc
      replace h51 := Lib.hid h51
      clear hrw
      gi_wp2_with (first
        | (refine ⟨trivial, ?_⟩; gi_at_call 12; refine (callsIn_wide.2 (HE1.out _)).mono ?_; rintro e w9 ⟨rfl, qq⟩; replace hO := Lib.hid ((hO.out.tail.below qq).alloc #[.int .i64 3, .int .i64 1, .int .i64 2, .int .i64 0, .int .i64 9, .int .i64 5] 36); replace hb0 := Lib.hid ((hb0.out.trans (qq.mono hb0.out.size)).alloc (hb0.out.trans (qq.mono hb0.out.size)).size (.cells #[.int .i64 3, .int .i64 1, .int .i64 2, .int .i64 0, .int .i64 9, .int .i64 5] 36)); clear qq HE1)
        | (refine ⟨trivial, ?_⟩; gi_at_call 12; refine (callsIn_wide.2 (HE2.out _)).mono ?_; rintro e w10 ⟨rfl, qq⟩; replace hO := Lib.hid ((hO.out.below qq).allocG (.cells #[.int .i64 0, .int .i64 0, .int .i64 0, .int .i64 0, .int .i64 0, .int .i64 0] 36)); replace hb0 := Lib.hid ((hb0.out.trans (qq.mono hb0.out.size)).alloc (hb0.out.trans (qq.mono hb0.out.size)).size (.cells #[.int .i64 0, .int .i64 0, .int .i64 0, .int .i64 0, .int .i64 0, .int .i64 0] 36)); clear qq HE2))
      refine ⟨trivial, ?_⟩
      refine (callsIn_wide.2 (HRz.out _)).mono ?_
      rintro e w11 ⟨tz, pz, rfl, qz⟩
      obtain ⟨vz, Rz⟩ := scV_reads qz
      obtain ⟨_, ua, uc, rfl, _⟩ := id Rz.th
      obtain ⟨_, va, vc, rfl, _⟩ := id Rz.pk
      have hO2 := Lib.hid ((hO.out.below qz.to1.gold).alloc #[.slice ua RZ.ths.length uc, .slice va RZ.pks.length vc, .int .i64 RZ.c0, .int .i64 RZ.c1, .int .i64 RZ.c2, .int .i64 RZ.c3] 30)
      have hb2 := Lib.hid ((hb0.out.trans (qz.to1.gold.mono hb0.out.size)).alloc (hb0.out.trans (qz.to1.gold.mono hb0.out.size)).size (.cells #[.slice ua RZ.ths.length uc, .slice va RZ.pks.length vc, .int .i64 RZ.c0, .int .i64 RZ.c1, .int .i64 RZ.c2, .int .i64 RZ.c3] 30))
      clear qz HRz Rz hO hb0
      have hO := Lib.hid (hO2.out.alloc #[.int .i64 0] 3)
      have hb0 := Lib.hid (hb2.out.alloc hb2.out.size (.cells #[.int .i64 0] 3))
      clear hO2 hb2
      gi_wp2_with (refine ⟨trivial, ?_⟩; gi_at_call 24; refine (callsIn_wide.2 (HEa.out _)).mono ?_; rintro e w12 ⟨rfl, rfl⟩)
      have hE := Lib.hid (hO.out.alloc #[.string (wb ++ ⟨#[49, 50, 51]⟩)] 9)
      simp only [World.size_alloc] at hE
      clear hO hb0 HEa
      generalize hP1 : w9.heap.size = P1 at *
      generalize hR3 : w11.heap.size = R3 at *
      generalize hN4 : R3 + 1 = N4 at *
      generalize hBx : N4 + 1 = Bx at *
      generalize World.alloc _ _ = w13 at *
      refine range_sep rfl k1 (gf := eachfn) (lb := #[.pointer (some ⟨Bx, 0, none⟩)]) rfl trivial (enters_of Tryd.func47 (by kernel_rfl) rfl) (rs := bxR Bx (wb ++ ⟨#[49, 50, 51]⟩) :: blk N4 3 #[.int .i64 0] :: blk R3 30 #[.slice ua RZ.ths.length uc, .slice va RZ.pks.length vc, .int .i64 RZ.c0, .int .i64 RZ.c1, .int .i64 RZ.c2, .int .i64 RZ.c3] :: blk P1 36 #[.int .i64 3, .int .i64 1, .int .i64 2, .int .i64 0, .int .i64 9, .int .i64 5] :: blk w2.heap.size 30 #[.slice (some ⟨g0, o0, none⟩) 2 c0_, .slice pa 2 pc, .int .i64 2, .int .i64 3, .int .i64 4, .int .i64 0] :: old w2 :: []) (rs' := exi (bxR Bx) :: blk N4 3 #[.int .i64 6] :: blk R3 30 #[.slice ua RZ.ths.length uc, .slice va RZ.pks.length vc, .int .i64 RZ.c0, .int .i64 RZ.c1, .int .i64 RZ.c2, .int .i64 RZ.c3] :: blk P1 36 #[.int .i64 3, .int .i64 1, .int .i64 2, .int .i64 0, .int .i64 9, .int .i64 5] :: blk w2.heap.size 30 #[.slice (some ⟨g0, o0, none⟩) 2 c0_, .slice pa 2 pc, .int .i64 2, .int .i64 3, .int .i64 4, .int .i64 0] :: old w2 :: []) hE.out ?seq ?done
      case seq =>
        intro fn l D W hfn hW
        have hE2 := each1_in (8 - 1) (by omega) l Bx (wb ++ ⟨#[49, 50, 51]⟩) (fun k => ob l (.loop (recR fn _ _ _ _ D .ready)) :: ob D (.deferred (some [])) :: blk N4 3 #[.int .i64 (k : Int)] :: blk R3 30 #[.slice ua RZ.ths.length uc, .slice va RZ.pks.length vc, .int .i64 RZ.c0, .int .i64 RZ.c1, .int .i64 RZ.c2, .int .i64 RZ.c3] :: blk P1 36 #[.int .i64 3, .int .i64 1, .int .i64 2, .int .i64 0, .int .i64 9, .int .i64 5] :: blk w2.heap.size 30 #[.slice (some ⟨g0, o0, none⟩) 2 c0_, .slice pa 2 pc, .int .i64 2, .int .i64 3, .int .i64 4, .int .i64 0] :: old w2 :: []) ?_ W (hW.bring 2 rfl)
        · rw [h51.out] at hE2
          refine hE2.mono ?_
          rintro e W2 ⟨hv, s, h2⟩
          exact ⟨hv, (((Sep.exi_mk (f := bxR Bx) s h2).bring 1 rfl).bring 2 rfl).to1⟩
        rintro k s x W3 hk hx hbx hS3
        have hk5 : k ≤ 5 := by have := h51.out; omega
        refine YieldAt.mono (round_sep hfn rfl (hS3.bring 1 rfl) (rs' := bxR Bx s :: ob D (.deferred (some [])) :: blk N4 3 #[.int .i64 ((k + 1 : Nat) : Int)] :: blk R3 30 #[.slice ua RZ.ths.length uc, .slice va RZ.pks.length vc, .int .i64 RZ.c0, .int .i64 RZ.c1, .int .i64 RZ.c2, .int .i64 RZ.c3] :: blk P1 36 #[.int .i64 3, .int .i64 1, .int .i64 2, .int .i64 0, .int .i64 9, .int .i64 5] :: blk w2.heap.size 30 #[.slice (some ⟨g0, o0, none⟩) 2 c0_, .slice pa 2 pc, .int .i64 2, .int .i64 3, .int .i64 4, .int .i64 0] :: old w2 :: []) ?_) ?_
        case refine_2 =>
          rintro e W4 ⟨rfl, h4⟩
          exact ⟨rfl, h4.to1⟩
        have hS4 := Lib.hid hS3.to1
        clear hS3 hW hE hbx
        gi_wp2
        refine ⟨_, hS4.out, ?_⟩
        intro W5 hS5
        clear hS4
        obtain ⟨_, n0, nf0⟩ := (hS5.bring 3 rfl).b1
        have hN := Lib.hid ((hS5.bring 3 rfl).set 0 (.int .i64 ((k + 1 : Nat) : Int)))
        have i9 : (k : Int) ≤ 5 := by omega
        have i8 : (0 : Int) ≤ (k : Int) := by omega
        clear hS5
        gi_wp2
        exact hN.out.to3.to3.to3
      case done =>
        intro D W hW
        have hzz := Lib.hid (fun W (hb : Below w2.heap.size w2 W) => And.intro ((hb.cell (p := ⟨g0, o0 + 0, none⟩) l0).trans z0) (And.intro ((hb.cell (p := ⟨g0, o0 + 1, none⟩) l0).trans z1) (And.intro (And.intro ((hb.cell (p := ⟨gb0, _, none⟩) lb0).trans f0) (And.intro ((hb.cell (p := ⟨gb0, _, none⟩) lb0).trans f1) (And.intro ((hb.cell (p := ⟨gb0, _, none⟩) lb0).trans f2) (And.intro ((hb.cell (p := ⟨gb0, _, none⟩) lb0).trans f3) (And.intro ((hb.cell (p := ⟨gb0, _, none⟩) lb0).trans f4) ((hb.cell (p := ⟨gb0, _, none⟩) lb0).trans f5)))))) (And.intro ((hb.cell (p := ⟨gb1, _, none⟩) lb1).trans h0) (And.intro ((hb.cell (p := ⟨gb1, _, none⟩) lb1).trans h1) (And.intro ((hb.cell (p := ⟨gb1, _, none⟩) lb1).trans h2) (And.intro ((hb.cell (p := ⟨gb1, _, none⟩) lb1).trans h3) (And.intro ((hb.cell (p := ⟨gb1, _, none⟩) lb1).trans h4) ((hb.cell (p := ⟨gb1, _, none⟩) lb1).trans h5)))))))))
        simp only [Nat.add_zero, Nat.zero_mul, Nat.one_mul, ← Nat.add_assoc] at hzz
        have hW2 := Lib.hid hW
        clear hE hW
        have HOp := fun W => op_any ⟨9, 3, -1, 4, 0, 0⟩ W
        rw [show opErr ⟨9, 3, -1, 4, 0, 0⟩ = 0 from rfl] at HOp
        simp only [oC] at HOp
        replace HOp := Lib.hid HOp
        have HNil := fun W => check_any (.slice none 0 0) (.slice none 0 0) ⟨[], [], 0, 0, 0, 0⟩ [] W ⟨by decide, fun t => by rw [List.getD_eq_getElem?_getD, List.getElem?_eq_none (by simp)]; decide, by decide⟩ ⟨rfl, RL.nil W 1, fun k hk => absurd hk (by simp), RL.nil W 2⟩
        rw [nil_chk] at HNil
        replace HNil := Lib.hid HNil
        have hqo := fun W => run_eql_op 3 3 1 1 2 2 0 0 9 9 5 5 W
        rw [show eqB_op 3 3 1 1 2 2 0 0 9 9 5 5 = true by rw [eqB_op_iff]; simp] at hqo
        gi_wp2
        refine wpIn_only ?_
        have hS := Lib.hid (show (fun W : World => Sep W (ob D (.deferred (some [])) :: exi (bxR Bx) :: blk N4 3 #[.int .i64 6] :: blk R3 30 #[.slice ua RZ.ths.length uc, .slice va RZ.pks.length vc, .int .i64 RZ.c0, .int .i64 RZ.c1, .int .i64 RZ.c2, .int .i64 RZ.c3] :: blk P1 36 #[.int .i64 3, .int .i64 1, .int .i64 2, .int .i64 0, .int .i64 9, .int .i64 5] :: blk w2.heap.size 30 #[.slice (some ⟨g0, o0, none⟩) 2 c0_, .slice pa 2 pc, .int .i64 2, .int .i64 3, .int .i64 4, .int .i64 0] :: old w2 :: [])) _ from hW2.out.drew)
        refine hx_begin (fun W : World => Sep W (ob D (.deferred (some [])) :: exi (bxR Bx) :: blk N4 3 #[.int .i64 6] :: blk R3 30 #[.slice ua RZ.ths.length uc, .slice va RZ.pks.length vc, .int .i64 RZ.c0, .int .i64 RZ.c1, .int .i64 RZ.c2, .int .i64 RZ.c3] :: blk P1 36 #[.int .i64 3, .int .i64 1, .int .i64 2, .int .i64 0, .int .i64 9, .int .i64 5] :: blk w2.heap.size 30 #[.slice (some ⟨g0, o0, none⟩) 2 c0_, .slice pa 2 pc, .int .i64 2, .int .i64 3, .int .i64 4, .int .i64 0] :: old w2 :: [])) 64 [(0, true), (1, true), (2, true), (3, true), (4, true), (5, true), (6, true), (7, true), (8, true), (10, true), (9, false), (11, false), (12, true), (13, true), (14, true), (15, false), (16, true), (17, true), (18, true), (19, true), (20, false), (21, true), (22, true), (23, true), (24, true), (25, true), (26, true), (27, true), (28, true), (29, true), (30, true), (31, true), (32, true), (33, true), (34, true), (35, true), (36, true), (37, true), (38, true), (39, true), (40, true), (41, true), (42, true), (43, true), (44, true), (45, true), (46, true), (47, false), (48, true), (49, true), (50, true), (51, true), (52, true), (53, true), (54, true), (55, true), (56, true), (57, true), (58, true), (59, true), (60, true), (61, false), (62, true), (63, true), (64, false)] [(63, 64), (61, 64), (0, 64), (1, 64), (2, 64), (3, 64), (4, 64), (5, 64), (6, 64), (7, 64), (8, 64), (9, 64), (10, 64), (11, 64), (12, 64), (13, 64), (14, 64), (15, 64), (16, 64), (17, 64), (18, 64), (19, 64), (20, 64), (21, 64), (22, 64), (23, 64), (24, 64), (25, 64), (26, 64), (27, 64), (28, 64), (29, 64), (30, 64), (31, 64), (32, 64), (33, 64), (34, 64), (35, 64), (36, 64), (37, 64), (38, 64), (39, 64), (40, 64), (41, 64), (42, 64), (43, 64), (44, 64), (45, 64), (46, 64), (47, 64), (48, 64), (49, 64), (50, 64), (51, 64), (52, 64), (53, 64), (54, 64), (55, 64), (56, 64), (57, 64), (58, 64), (59, 64), (60, 64), (62, 64)] (by kernel_rfl) (by kernel_rfl) (by kernel_rfl) (by kernel_rfl) rfl (by kernel_rfl) (by kernel_rfl) (fun _ _ _ _ _ h => h) hS.out ?_
        change HX _ _ _ _ _ _ _ (World.drew _)
        generalize World.drew _ = wd at *
        refine hx_take ?v1 rfl (by kernel_rfl) ?y1 ?z1
        case y1 => intro W hW; skip; replace hW := Lib.hid hW; go_simp; try rfl
        case z1 =>
        simp only [Act.put, List.setIfInBounds_toArray, List.set_cons_succ, List.set_cons_zero, List.getElem_toArray, List.getElem_cons_zero, List.getElem_cons_succ]
        refine hx_take ?v2 rfl (by kernel_rfl) ?y2 ?z2
        case y2 => intro W hW; skip; replace hW := Lib.hid hW; go_simp; try rfl
        case z2 =>
        simp only [Act.put, List.setIfInBounds_toArray, List.set_cons_succ, List.set_cons_zero, List.getElem_toArray, List.getElem_cons_zero, List.getElem_cons_succ]
        refine hx_take ?v3 rfl (by kernel_rfl) ?y3 ?z3
        case y3 => intro W hW; skip; replace hW := Lib.hid hW; go_simp; try rfl
        case z3 =>
        simp only [Act.put, List.setIfInBounds_toArray, List.set_cons_succ, List.set_cons_zero, List.getElem_toArray, List.getElem_cons_zero, List.getElem_cons_succ]
        refine hx_take ?v4 rfl (by kernel_rfl) ?y4 ?z4
        case y4 => intro W hW; skip; replace hW := Lib.hid hW; go_simp; try rfl
        case z4 =>
        simp only [Act.put, List.setIfInBounds_toArray, List.set_cons_succ, List.set_cons_zero, List.getElem_toArray, List.getElem_cons_zero, List.getElem_cons_succ]
        refine hx_take ?v5 rfl (by kernel_rfl) ?y5 ?z5
        case y5 => intro W hW; skip; replace hW := Lib.hid hW; go_simp; try rfl
        case z5 =>
        simp only [Act.put, List.setIfInBounds_toArray, List.set_cons_succ, List.set_cons_zero, List.getElem_toArray, List.getElem_cons_zero, List.getElem_cons_succ]
        refine hx_take ?v6 rfl (by kernel_rfl) ?y6 ?z6
        case y6 => intro W hW; skip; replace hW := Lib.hid hW; go_simp; try rfl
        case z6 =>
        simp only [Act.put, List.setIfInBounds_toArray, List.set_cons_succ, List.set_cons_zero, List.getElem_toArray, List.getElem_cons_zero, List.getElem_cons_succ]
        refine hx_take ?v7 rfl (by kernel_rfl) ?y7 ?z7
        case y7 => intro W hW; skip; replace hW := Lib.hid hW; go_simp; try rfl
        case z7 =>
        simp only [Act.put, List.setIfInBounds_toArray, List.set_cons_succ, List.set_cons_zero, List.getElem_toArray, List.getElem_cons_zero, List.getElem_cons_succ]
        refine hx_take ?v8 rfl (by kernel_rfl) ?y8 ?z8
        case y8 => intro W hW; skip; replace hW := Lib.hid hW; go_simp; try rfl
        case z8 =>
        simp only [Act.put, List.setIfInBounds_toArray, List.set_cons_succ, List.set_cons_zero, List.getElem_toArray, List.getElem_cons_zero, List.getElem_cons_succ]
        refine hx_take ?v9 rfl (by kernel_rfl) ?y9 ?z9
        case y9 => intro W hW; skip; replace hW := Lib.hid hW; go_simp; try rfl
        case z9 =>
        simp only [Act.put, List.setIfInBounds_toArray, List.set_cons_succ, List.set_cons_zero, List.getElem_toArray, List.getElem_cons_zero, List.getElem_cons_succ]
        refine hx_take ?v10 rfl (by kernel_rfl) ?y10 ?z10
        case y10 => intro W hW; obtain ⟨_, s0, s1, s2, s3, s4, s5, _⟩ := ((show Sep _ _ from hW).bring 5 rfl).b6; replace hW := Lib.hid hW; go_simp; try rfl
        case z10 =>
        simp only [Act.put, List.setIfInBounds_toArray, List.set_cons_succ, List.set_cons_zero, List.getElem_toArray, List.getElem_cons_zero, List.getElem_cons_succ]
        refine hx_one (by decide) rfl (by kernel_rfl) (fun K hK => ?_)
        go_simp
        go_at_call 11
        refine (HRw.out _).mono ?_
        rintro e w20 ⟨tr, pr, rfl, qr⟩
        obtain ⟨vr, Rr⟩ := scV_reads qr
        replace hS := Lib.hid (hS.out.below qr.to1.gold)
        have HSm := Lib.hid (sameP_true tr pr _ _ smS vr vs w20 hsm Rr (R.out.below hS.out.tail.tail.tail.tail.tail.tail.gold))
        clear qr Rr HRw
        refine hK.out _ _ hS.out ?_
        clear hK K
        try simp only [Act.put, List.setIfInBounds_toArray, List.set_cons_succ, List.set_cons_zero, List.getElem_toArray, List.getElem_cons_zero, List.getElem_cons_succ]
        refine hx_one (by decide) rfl (by kernel_rfl) (fun K hK => ?_)
        go_simp
        go_at_call 16
        refine (HSm.out).mono ?_
        rintro e w21 ⟨rfl, q⟩
        replace hS := Lib.hid (hS.out.below q)
        clear q HSm
        refine hK.out _ _ hS.out ?_
        clear hK K
        try simp only [Act.put, List.setIfInBounds_toArray, List.set_cons_succ, List.set_cons_zero, List.getElem_toArray, List.getElem_cons_zero, List.getElem_cons_succ]
        refine hx_take ?v11 rfl (by kernel_rfl) ?y11 ?z11
        case y11 => intro W hW; skip; replace hW := Lib.hid hW; go_simp; try rfl
        case z11 =>
        simp only [Act.put, List.setIfInBounds_toArray, List.set_cons_succ, List.set_cons_zero, List.getElem_toArray, List.getElem_cons_zero, List.getElem_cons_succ]
        refine hx_take ?v12 rfl (by kernel_rfl) ?y12 ?z12
        case y12 => intro W hW; skip; replace hW := Lib.hid hW; go_simp; try rfl
        case z12 =>
        simp only [Act.put, List.setIfInBounds_toArray, List.set_cons_succ, List.set_cons_zero, List.getElem_toArray, List.getElem_cons_zero, List.getElem_cons_succ]
        refine hx_take ?v13 rfl (by kernel_rfl) ?y13 ?z13
        case y13 => intro W hW; obtain ⟨_, s0, s1, s2, s3, s4, s5, _⟩ := ((show Sep _ _ from hW).bring 5 rfl).b6; replace hW := Lib.hid hW; go_simp; try rfl
        case z13 =>
        simp only [Act.put, List.setIfInBounds_toArray, List.set_cons_succ, List.set_cons_zero, List.getElem_toArray, List.getElem_cons_zero, List.getElem_cons_succ]
        refine hx_one (by decide) rfl (by kernel_rfl) (fun K hK => ?_)
        go_simp
        go_at_call 18
        refine (HC.out _ hS.out.tail.tail.tail.tail.tail.tail.gold).mono ?_
        rintro e w22 ⟨rfl, q⟩
        replace hS := Lib.hid (hS.out.below q)
        clear q HC
        refine hK.out _ _ hS.out ?_
        clear hK K
        try simp only [Act.put, List.setIfInBounds_toArray, List.set_cons_succ, List.set_cons_zero, List.getElem_toArray, List.getElem_cons_zero, List.getElem_cons_succ]
        refine hx_take ?v14 rfl (by kernel_rfl) ?y14 ?z14
        case y14 => intro W hW; skip; replace hW := Lib.hid hW; go_simp; try rfl
        case z14 =>
        simp only [Act.put, List.setIfInBounds_toArray, List.set_cons_succ, List.set_cons_zero, List.getElem_toArray, List.getElem_cons_zero, List.getElem_cons_succ]
        refine hx_take ?v15 rfl (by kernel_rfl) ?y15 ?z15
        case y15 => intro W hW; skip; replace hW := Lib.hid hW; go_simp; try rfl
        case z15 =>
        simp only [Act.put, List.setIfInBounds_toArray, List.set_cons_succ, List.set_cons_zero, List.getElem_toArray, List.getElem_cons_zero, List.getElem_cons_succ]
        refine hx_take ?v16 rfl (by kernel_rfl) ?y16 ?z16
        case y16 => intro W hW; skip; replace hW := Lib.hid hW; go_simp; try rfl
        case z16 =>
        simp only [Act.put, List.setIfInBounds_toArray, List.set_cons_succ, List.set_cons_zero, List.getElem_toArray, List.getElem_cons_zero, List.getElem_cons_succ]
        refine hx_take ?v17 rfl (by kernel_rfl) ?y17 ?z17
        case y17 => intro W hW; skip; replace hW := Lib.hid hW; go_simp; try rfl
        case z17 =>
        simp only [Act.put, List.setIfInBounds_toArray, List.set_cons_succ, List.set_cons_zero, List.getElem_toArray, List.getElem_cons_zero, List.getElem_cons_succ]
        refine hx_one (by decide) rfl (by kernel_rfl) (fun K hK => ?_)
        go_simp
        go_at_call 18
        refine (HNil.out _).mono ?_
        rintro e w23 ⟨rfl, q⟩
        replace hS := Lib.hid (hS.out.below q)
        clear q HNil
        refine hK.out _ _ hS.out ?_
        clear hK K
        try simp only [Act.put, List.setIfInBounds_toArray, List.set_cons_succ, List.set_cons_zero, List.getElem_toArray, List.getElem_cons_zero, List.getElem_cons_succ]
        refine hx_take ?v18 rfl (by kernel_rfl) ?y18 ?z18
        case y18 => intro W hW; skip; replace hW := Lib.hid hW; go_simp; try rfl
        case z18 =>
        simp only [Act.put, List.setIfInBounds_toArray, List.set_cons_succ, List.set_cons_zero, List.getElem_toArray, List.getElem_cons_zero, List.getElem_cons_succ]
        refine hx_take ?v19 rfl (by kernel_rfl) ?y19 ?z19
        case y19 => intro W hW; skip; replace hW := Lib.hid hW; go_simp; try rfl
        case z19 =>
        simp only [Act.put, List.setIfInBounds_toArray, List.set_cons_succ, List.set_cons_zero, List.getElem_toArray, List.getElem_cons_zero, List.getElem_cons_succ]
        refine hx_take ?v20 rfl (by kernel_rfl) ?y20 ?z20
        case y20 => intro W hW; skip; replace hW := Lib.hid hW; go_simp; try rfl
        case z20 =>
        simp only [Act.put, List.setIfInBounds_toArray, List.set_cons_succ, List.set_cons_zero, List.getElem_toArray, List.getElem_cons_zero, List.getElem_cons_succ]
        refine hx_take ?v21 rfl (by kernel_rfl) ?y21 ?z21
        case y21 => intro W hW; skip; replace hW := Lib.hid hW; go_simp; try rfl
        case z21 =>
        simp only [Act.put, List.setIfInBounds_toArray, List.set_cons_succ, List.set_cons_zero, List.getElem_toArray, List.getElem_cons_zero, List.getElem_cons_succ]
        refine hx_take ?v22 rfl (by kernel_rfl) ?y22 ?z22
        case y22 => intro W hW; skip; replace hW := Lib.hid hW; go_simp; try rfl
        case z22 =>
        simp only [Act.put, List.setIfInBounds_toArray, List.set_cons_succ, List.set_cons_zero, List.getElem_toArray, List.getElem_cons_zero, List.getElem_cons_succ]
        refine hx_take ?v23 rfl (by kernel_rfl) ?y23 ?z23
        case y23 => intro W hW; skip; replace hW := Lib.hid hW; go_simp; try rfl
        case z23 =>
        simp only [Act.put, List.setIfInBounds_toArray, List.set_cons_succ, List.set_cons_zero, List.getElem_toArray, List.getElem_cons_zero, List.getElem_cons_succ]
        refine hx_take ?v24 rfl (by kernel_rfl) ?y24 ?z24
        case y24 => intro W hW; skip; replace hW := Lib.hid hW; go_simp; try rfl
        case z24 =>
        simp only [Act.put, List.setIfInBounds_toArray, List.set_cons_succ, List.set_cons_zero, List.getElem_toArray, List.getElem_cons_zero, List.getElem_cons_succ]
        refine hx_take ?v25 rfl (by kernel_rfl) ?y25 ?z25
        case y25 => intro W hW; skip; replace hW := Lib.hid hW; go_simp; try rfl
        case z25 =>
        simp only [Act.put, List.setIfInBounds_toArray, List.set_cons_succ, List.set_cons_zero, List.getElem_toArray, List.getElem_cons_zero, List.getElem_cons_succ]
        refine hx_take ?v26 rfl (by kernel_rfl) ?y26 ?z26
        case y26 => intro W hW; skip; replace hW := Lib.hid hW; go_simp; try rfl
        case z26 =>
        simp only [Act.put, List.setIfInBounds_toArray, List.set_cons_succ, List.set_cons_zero, List.getElem_toArray, List.getElem_cons_zero, List.getElem_cons_succ]
        refine hx_take ?v27 rfl (by kernel_rfl) ?y27 ?z27
        case y27 => intro W hW; skip; replace hW := Lib.hid hW; go_simp; try rfl
        case z27 =>
        simp only [Act.put, List.setIfInBounds_toArray, List.set_cons_succ, List.set_cons_zero, List.getElem_toArray, List.getElem_cons_zero, List.getElem_cons_succ]
        refine hx_take ?v28 rfl (by kernel_rfl) ?y28 ?z28
        case y28 => intro W hW; obtain ⟨_, s0, s1, s2, s3, s4, s5, _⟩ := ((show Sep _ _ from hW).bring 4 rfl).b6; replace hW := Lib.hid hW; go_simp; try rfl
        case z28 =>
        simp only [Act.put, List.setIfInBounds_toArray, List.set_cons_succ, List.set_cons_zero, List.getElem_toArray, List.getElem_cons_zero, List.getElem_cons_succ]
        refine hx_take ?v29 rfl (by kernel_rfl) ?y29 ?z29
        case y29 => intro W hW; skip; replace hW := Lib.hid hW; go_simp; try rfl
        case z29 =>
        simp only [Act.put, List.setIfInBounds_toArray, List.set_cons_succ, List.set_cons_zero, List.getElem_toArray, List.getElem_cons_zero, List.getElem_cons_succ]
        refine hx_take ?v30 rfl (by kernel_rfl) ?y30 ?z30
        case y30 => intro W hW; obtain ⟨_, s0, s1, s2, s3, s4, s5, _⟩ := ((show Sep _ _ from hW).bring 5 rfl).b6; replace hW := Lib.hid hW; go_simp; try rfl
        case z30 =>
        simp only [Act.put, List.setIfInBounds_toArray, List.set_cons_succ, List.set_cons_zero, List.getElem_toArray, List.getElem_cons_zero, List.getElem_cons_succ]
        refine hx_take ?v31 rfl (by kernel_rfl) ?y31 ?z31
        case y31 => intro W hW; skip; replace hW := Lib.hid hW; go_simp; try rfl
        case z31 =>
        simp only [Act.put, List.setIfInBounds_toArray, List.set_cons_succ, List.set_cons_zero, List.getElem_toArray, List.getElem_cons_zero, List.getElem_cons_succ]
        refine hx_take ?v32 rfl (by kernel_rfl) ?y32 ?z32
        case y32 => intro W hW; obtain ⟨z0_, z1_, ⟨f0_, f1_, f2_, f3_, f4_, f5_⟩, h0_, h1_, h2_, h3_, h4_, h5_⟩ := hzz.out _ (show Sep _ _ from hW).tail.tail.tail.tail.tail.tail.gold; replace hW := Lib.hid hW; go_simp; try rfl
        case z32 =>
        simp only [Act.put, List.setIfInBounds_toArray, List.set_cons_succ, List.set_cons_zero, List.getElem_toArray, List.getElem_cons_zero, List.getElem_cons_succ]
        refine hx_take ?v33 rfl (by kernel_rfl) ?y33 ?z33
        case y33 => intro W hW; skip; replace hW := Lib.hid hW; go_simp; try rfl
        case z33 =>
        simp only [Act.put, List.setIfInBounds_toArray, List.set_cons_succ, List.set_cons_zero, List.getElem_toArray, List.getElem_cons_zero, List.getElem_cons_succ]
        refine hx_take ?v34 rfl (by kernel_rfl) ?y34 ?z34
        case y34 => intro W hW; obtain ⟨z0_, z1_, ⟨f0_, f1_, f2_, f3_, f4_, f5_⟩, h0_, h1_, h2_, h3_, h4_, h5_⟩ := hzz.out _ (show Sep _ _ from hW).tail.tail.tail.tail.tail.tail.gold; replace hW := Lib.hid hW; go_simp; try rfl
        case z34 =>
        simp only [Act.put, List.setIfInBounds_toArray, List.set_cons_succ, List.set_cons_zero, List.getElem_toArray, List.getElem_cons_zero, List.getElem_cons_succ]
        refine hx_take ?v35 rfl (by kernel_rfl) ?y35 ?z35
        case y35 => intro W hW; skip; replace hW := Lib.hid hW; go_simp; try rfl
        case z35 =>
        simp only [Act.put, List.setIfInBounds_toArray, List.set_cons_succ, List.set_cons_zero, List.getElem_toArray, List.getElem_cons_zero, List.getElem_cons_succ]
        refine hx_take ?v36 rfl (by kernel_rfl) ?y36 ?z36
        case y36 => intro W hW; skip; replace hW := Lib.hid hW; go_simp; try rfl
        case z36 =>
        simp only [Act.put, List.setIfInBounds_toArray, List.set_cons_succ, List.set_cons_zero, List.getElem_toArray, List.getElem_cons_zero, List.getElem_cons_succ]
        refine hx_take ?v37 rfl (by kernel_rfl) ?y37 ?z37
        case y37 => intro W hW; skip; replace hW := Lib.hid hW; go_simp; try rfl
        case z37 =>
        simp only [Act.put, List.setIfInBounds_toArray, List.set_cons_succ, List.set_cons_zero, List.getElem_toArray, List.getElem_cons_zero, List.getElem_cons_succ]
        refine hx_take ?v38 rfl (by kernel_rfl) ?y38 ?z38
        case y38 => intro W hW; skip; replace hW := Lib.hid hW; go_simp; try rfl
        case z38 =>
        simp only [Act.put, List.setIfInBounds_toArray, List.set_cons_succ, List.set_cons_zero, List.getElem_toArray, List.getElem_cons_zero, List.getElem_cons_succ]
        refine hx_take ?v39 rfl (by kernel_rfl) ?y39 ?z39
        case y39 => intro W hW; skip; replace hW := Lib.hid hW; go_simp; try rfl
        case z39 =>
        simp only [Act.put, List.setIfInBounds_toArray, List.set_cons_succ, List.set_cons_zero, List.getElem_toArray, List.getElem_cons_zero, List.getElem_cons_succ]
        refine hx_take ?v40 rfl (by kernel_rfl) ?y40 ?z40
        case y40 => intro W hW; skip; replace hW := Lib.hid hW; go_simp; try rfl
        case z40 =>
        simp only [Act.put, List.setIfInBounds_toArray, List.set_cons_succ, List.set_cons_zero, List.getElem_toArray, List.getElem_cons_zero, List.getElem_cons_succ]
        refine hx_take ?v41 rfl (by kernel_rfl) ?y41 ?z41
        case y41 => intro W hW; skip; replace hW := Lib.hid hW; go_simp; try rfl
        case z41 =>
        simp only [Act.put, List.setIfInBounds_toArray, List.set_cons_succ, List.set_cons_zero, List.getElem_toArray, List.getElem_cons_zero, List.getElem_cons_succ]
        refine hx_take ?v42 rfl (by kernel_rfl) ?y42 ?z42
        case y42 => intro W hW; obtain ⟨_, s0, s1, s2, s3, s4, s5, _⟩ := ((show Sep _ _ from hW).bring 3 rfl).b6; replace hW := Lib.hid hW; go_simp; try rfl
        case z42 =>
        simp only [Act.put, List.setIfInBounds_toArray, List.set_cons_succ, List.set_cons_zero, List.getElem_toArray, List.getElem_cons_zero, List.getElem_cons_succ]
        refine hx_take ?v43 rfl (by kernel_rfl) ?y43 ?z43
        case y43 => intro W hW; obtain ⟨_, s0, s1, s2, s3, s4, s5, _⟩ := ((show Sep _ _ from hW).bring 5 rfl).b6; replace hW := Lib.hid hW; go_simp; try rfl
        case z43 =>
        simp only [Act.put, List.setIfInBounds_toArray, List.set_cons_succ, List.set_cons_zero, List.getElem_toArray, List.getElem_cons_zero, List.getElem_cons_succ]
        refine hx_one (by decide) rfl (by kernel_rfl) (fun K hK => ?_)
        go_simp
        go_at_call 16
        refine (sameP_caps _ _ _ _ _ _ _ _ _ _ _ _ _ hzc.out).mono ?_
        rintro e w24 ⟨rfl, q⟩
        replace hS := Lib.hid (hS.out.below q)
        clear q
        refine hK.out _ _ hS.out ?_
        clear hK K
        try simp only [Act.put, List.setIfInBounds_toArray, List.set_cons_succ, List.set_cons_zero, List.getElem_toArray, List.getElem_cons_zero, List.getElem_cons_succ]
        refine hx_take ?v44 rfl (by kernel_rfl) ?y44 ?z44
        case y44 => intro W hW; skip; replace hW := Lib.hid hW; go_simp; try rfl
        case z44 =>
        simp only [Act.put, List.setIfInBounds_toArray, List.set_cons_succ, List.set_cons_zero, List.getElem_toArray, List.getElem_cons_zero, List.getElem_cons_succ]
        refine hx_take ?v45 rfl (by kernel_rfl) ?y45 ?z45
        case y45 => intro W hW; skip; replace hW := Lib.hid hW; go_simp; try rfl
        case z45 =>
        simp only [Act.put, List.setIfInBounds_toArray, List.set_cons_succ, List.set_cons_zero, List.getElem_toArray, List.getElem_cons_zero, List.getElem_cons_succ]
        refine hx_take ?v46 rfl (by kernel_rfl) ?y46 ?z46
        case y46 => intro W hW; skip; replace hW := Lib.hid hW; go_simp; try rfl
        case z46 =>
        simp only [Act.put, List.setIfInBounds_toArray, List.set_cons_succ, List.set_cons_zero, List.getElem_toArray, List.getElem_cons_zero, List.getElem_cons_succ]
        refine hx_take ?v47 rfl (by kernel_rfl) ?y47 ?z47
        case y47 => intro W hW; obtain ⟨_, s0, _⟩ := ((show Sep _ _ from hW).bring 2 rfl).b1; replace hW := Lib.hid hW; go_simp; try rfl
        case z47 =>
        simp only [Act.put, List.setIfInBounds_toArray, List.set_cons_succ, List.set_cons_zero, List.getElem_toArray, List.getElem_cons_zero, List.getElem_cons_succ]
        refine hx_take ?v48 rfl (by kernel_rfl) ?y48 ?z48
        case y48 => intro W hW; skip; replace hW := Lib.hid hW; go_simp; try rfl
        case z48 =>
        simp only [Act.put, List.setIfInBounds_toArray, List.set_cons_succ, List.set_cons_zero, List.getElem_toArray, List.getElem_cons_zero, List.getElem_cons_succ]
        refine hx_take ?v49 rfl (by kernel_rfl) ?y49 ?z49
        case y49 => intro W hW; skip; replace hW := Lib.hid hW; go_simp; try rfl
        case z49 =>
        simp only [Act.put, List.setIfInBounds_toArray, List.set_cons_succ, List.set_cons_zero, List.getElem_toArray, List.getElem_cons_zero, List.getElem_cons_succ]
        refine hx_take ?v50 rfl (by kernel_rfl) ?y50 ?z50
        case y50 => intro W hW; skip; replace hW := Lib.hid hW; go_simp; try rfl
        case z50 =>
        simp only [Act.put, List.setIfInBounds_toArray, List.set_cons_succ, List.set_cons_zero, List.getElem_toArray, List.getElem_cons_zero, List.getElem_cons_succ]
        refine hx_take ?v51 rfl (by kernel_rfl) ?y51 ?z51
        case y51 => intro W hW; skip; replace hW := Lib.hid hW; go_simp; try rfl
        case z51 =>
        simp only [Act.put, List.setIfInBounds_toArray, List.set_cons_succ, List.set_cons_zero, List.getElem_toArray, List.getElem_cons_zero, List.getElem_cons_succ]
        refine hx_take ?v52 rfl (by kernel_rfl) ?y52 ?z52
        case y52 => intro W hW; obtain ⟨_, s0, s1, s2, s3, s4, s5, _⟩ := ((show Sep _ _ from hW).bring 5 rfl).b6; replace hW := Lib.hid hW; go_simp; try rfl
        case z52 =>
        simp only [Act.put, List.setIfInBounds_toArray, List.set_cons_succ, List.set_cons_zero, List.getElem_toArray, List.getElem_cons_zero, List.getElem_cons_succ]
        refine hx_take ?v53 rfl (by kernel_rfl) ?y53 ?z53
        case y53 => intro W hW; skip; replace hW := Lib.hid hW; go_simp; try rfl
        case z53 =>
        simp only [Act.put, List.setIfInBounds_toArray, List.set_cons_succ, List.set_cons_zero, List.getElem_toArray, List.getElem_cons_zero, List.getElem_cons_succ]
        refine hx_take ?v54 rfl (by kernel_rfl) ?y54 ?z54
        case y54 => intro W hW; obtain ⟨z0_, z1_, ⟨f0_, f1_, f2_, f3_, f4_, f5_⟩, h0_, h1_, h2_, h3_, h4_, h5_⟩ := hzz.out _ (show Sep _ _ from hW).tail.tail.tail.tail.tail.tail.gold; replace hW := Lib.hid hW; go_simp; try rfl
        case z54 =>
        simp only [Act.put, List.setIfInBounds_toArray, List.set_cons_succ, List.set_cons_zero, List.getElem_toArray, List.getElem_cons_zero, List.getElem_cons_succ]
        refine hx_take ?v55 rfl (by kernel_rfl) ?y55 ?z55
        case y55 => intro W hW; skip; replace hW := Lib.hid hW; go_simp; try rfl
        case z55 =>
        simp only [Act.put, List.setIfInBounds_toArray, List.set_cons_succ, List.set_cons_zero, List.getElem_toArray, List.getElem_cons_zero, List.getElem_cons_succ]
        refine hx_take ?v56 rfl (by kernel_rfl) ?y56 ?z56
        case y56 => intro W hW; obtain ⟨z0_, z1_, ⟨f0_, f1_, f2_, f3_, f4_, f5_⟩, h0_, h1_, h2_, h3_, h4_, h5_⟩ := hzz.out _ (show Sep _ _ from hW).tail.tail.tail.tail.tail.tail.gold; replace hW := Lib.hid hW; go_simp; try rfl
        case z56 =>
        simp only [Act.put, List.setIfInBounds_toArray, List.set_cons_succ, List.set_cons_zero, List.getElem_toArray, List.getElem_cons_zero, List.getElem_cons_succ]
        refine hx_one (by decide) rfl (by kernel_rfl) (fun K hK => ?_)
        go_simp
        go_at_call 13
        refine (HOp.out _).mono ?_
        rintro e w25 ⟨rfl, q⟩
        replace hS := Lib.hid (hS.out.below q)
        clear q HOp
        refine hK.out _ _ hS.out ?_
        clear hK K
        try simp only [Act.put, List.setIfInBounds_toArray, List.set_cons_succ, List.set_cons_zero, List.getElem_toArray, List.getElem_cons_zero, List.getElem_cons_succ]
        refine hx_take ?v57 rfl (by kernel_rfl) ?y57 ?z57
        case y57 => intro W hW; skip; replace hW := Lib.hid hW; go_simp; try rfl
        case z57 =>
        simp only [Act.put, List.setIfInBounds_toArray, List.set_cons_succ, List.set_cons_zero, List.getElem_toArray, List.getElem_cons_zero, List.getElem_cons_succ]
        refine hx_take ?v58 rfl (by kernel_rfl) ?y58 ?z58
        case y58 => intro W hW; skip; replace hW := Lib.hid hW; go_simp; try rfl
        case z58 =>
        simp only [Act.put, List.setIfInBounds_toArray, List.set_cons_succ, List.set_cons_zero, List.getElem_toArray, List.getElem_cons_zero, List.getElem_cons_succ]
        refine hx_last rfl (by kernel_rfl) (fun K hK => ?_)
        have hG := Lib.hid (Sep.graft (((((hS.out.bring 1 rfl).tail.bring 1 rfl).tail.bring 1 rfl).tail.bring 1 rfl).tail.bring 1 rfl).tail hA2.out)
        obtain ⟨_, x0, x1⟩ := (hG.out.bring 1 rfl).b1
        go_simp
        refine hK.out _ _ ?_
        clear hK K
        try simp only [Act.put, List.setIfInBounds_toArray, List.set_cons_succ, List.set_cons_zero, List.getElem_toArray, List.getElem_cons_zero, List.getElem_cons_succ]
        refine hx_done ?_
        clear x0 x1
        have h7 := (hG.out.bring 1 rfl).set 0 (.bool true)
        have hE := (h7.bring 1 rfl).ob_get
        have h8 := (h7.bring 1 rfl).ob_set (.deferred none)
        have R0 := (h8.bring 1 rfl).b1.2.1
        gi_wp2
        refine ⟨by simp, .inl ⟨_, _, rfl, run_takeDeferred hE, ?_⟩⟩
        refine ⟨.bool true, ?_, rfl, h8.tail.tail.gold⟩
        simp [results, Tryd.results7, go_sem, R0]
end Go.Proofs.YtdpolejbceoldaaDoor
