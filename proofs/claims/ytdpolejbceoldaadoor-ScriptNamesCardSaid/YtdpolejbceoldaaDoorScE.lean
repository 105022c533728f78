/-
  Each's iterator: a string's entries of eight bytes, one a round. No condition.
-/
import Derived.Test.YtdpolejbceoldaaDoorScO
import Derived.Test.YtdpolejbceoldaaDoorRSep
import Derived.Sort.LoopGhostIn
namespace Go.Proofs.YtdpolejbceoldaaDoor
set_option linter.unusedSimpArgs false
set_option linter.unusedVariables false
set_option linter.unnecessarySimpa false
open Go.RowKit Go.Shelf
attribute [local go_sem] Oper.semAt_some
abbrev eachfn : Nat := 47
abbrev bxR (Bx : Nat) (s : ByteArray) : Res := blk Bx 9 #[.string s]
set_option maxRecDepth 100000 in
set_option maxHeartbeats 4000000 in
theorem each1_in (N : Nat) (hN : 1 ≤ N) (l Bx : Nat) (b : ByteArray) (R : Nat → List Res)
    (hY : ∀ (k : Nat) (s x : ByteArray) (W : World), 8 * k + 8 ≤ b.size → x.size = 8 → (∀ j, j < 8 → bt x j = bt b (8 * k + j)) → Sep W (bxR Bx s :: R k) →
      YieldAt Fence.wide (N - 1) Tryd.prog l #[.string x] W fun e W' => e = .returned (.bool true) ∧ Sep W' (bxR Bx s :: R (k + 1)))
    (W : World) (h0 : Sep W (bxR Bx b :: R 0)) :
    CallsIn Fence.wide N Tryd.prog eachfn #[.func (.yield l) #[] #[], .pointer (some ⟨Bx, 0, none⟩)] W fun e W' => (∃ v, e = .returned v) ∧ ∃ s, Sep W' (bxR Bx s :: R (b.size / 8)) := by
  replace h0 := Lib.hid h0
  obtain ⟨M, hM⟩ : ∃ M, Hid (b.size / 8 = M) := ⟨_, Lib.hid rfl⟩
  rw [hM.out]
  refine callsIn_of_wp Tryd.func47 rfl trivial ?_ rfl
  simp only [Tryd.ntmps47, List.size_toArray, List.length_cons, List.length_nil, Nat.reduceAdd, Nat.reduceSub, Array.replicate_succ, Array.replicate_zero, List.push_toArray, List.append_toArray, List.nil_append, List.cons_append]
  gi_wp2
  gi_loopg [] M (fun g wr => ∃ (k : Nat) (s : ByteArray), k ≤ M ∧ g = M - k ∧ Hid (s.size = b.size - 8 * k) ∧ Hid (∀ j, bt s j = bt b (8 * k + j)) ∧ Hid (Sep wr (bxR Bx s :: R k)))
  case atStart => exact ⟨0, b, Nat.zero_le _, rfl, Lib.hid rfl, Lib.hid (fun j => by rw [Nat.mul_zero, Nat.zero_add]), h0⟩
  case round =>
    clear h0
    obtain ⟨k, s, hk, rfl, hs, hb, hS⟩ := hrel
    obtain ⟨_, c0, f0⟩ := hS.out.b1
    by_cases hlt : k < M
    · have i1 : (8 : Int) ≤ (s.size : Int) := by have := hs.out; have := hM.out; omega
      have i2 : 8 ≤ s.size := by omega
      have hY1 := hY k s (s.extract 0 8) wr (by have := hM.out; omega) (by rw [ByteArray.size_extract]; omega) (fun j hj => by rw [bt_extract _ _ _ _ (by omega), Nat.zero_add, hb.out]) hS.out
      obtain ⟨fn, tmps, assign, body, hy, hR⟩ := hY1
      gi_wp2
      refine hR.mono ?_
      rintro e W3 ⟨rfl, hS3⟩
      clear c0 f0
      obtain ⟨_, c0, f0⟩ := hS3.b1
      replace hS3 := Lib.hid hS3
      gi_wp2
      gi_roundg (M - (k + 1))
      case rel =>
        refine ⟨k + 1, s.extract 8 s.size, by omega, rfl, Lib.hid (by have := hs.out; rw [ByteArray.size_extract]; omega), Lib.hid (fun j => ?_), Lib.hid (hS3.out.set 0 (.string (s.extract 8 s.size)))⟩
        by_cases hj : 8 + j < s.size
        · rw [bt_extract _ _ _ _ hj, hb.out, show 8 * k + (8 + j) = 8 * (k + 1) + j by omega]
        · have e1 : bt (s.extract 8 s.size) j = 0 := by
            unfold bt
            rw [Array.getElem?_eq_none (by have : (s.extract 8 s.size).data.size = (s.extract 8 s.size).size := rfl; rw [this, ByteArray.size_extract]; omega)]
            rfl
          have e2 : bt b (8 * (k + 1) + j) = 0 := by
            have := hs.out
            unfold bt
            rw [Array.getElem?_eq_none (by have : b.data.size = b.size := rfl; rw [this]; omega)]
            rfl
          rw [e1, e2]
      case measure => omega
    · obtain rfl : k = M := by omega
      have i1 : ¬ (8 : Int) ≤ (s.size : Int) := by have := hs.out; have := hM.out; omega
      gi_wp2
      go_end0
      exact ⟨⟨_, rfl⟩, s, hS.out⟩
set_option maxHeartbeats 1000000 in
theorem each_any (b : ByteArray) (w : World) :
    Calls Tryd.prog 24 #[.string b] w fun e w' => e = .returned (.func (.func eachfn) #[] #[.pointer (some ⟨w.heap.size, 0, none⟩)]) ∧ w' = w.alloc (.cells #[.string b] 9) := by
  go_enter Tryd.func24, Tryd.ntmps24
  go_wp2_with fail
  go_ret
  exact ⟨rfl, rfl⟩
theorem readN_step (b x : ByteArray) (k : Nat) (h : ∀ j, j < 8 → bt x j = bt b (8 * k + j)) : readN (bt b) (k + 1) = stepS (readN (bt b) k) (bt x) := by
  rw [readN]
  exact step_congr _ (fun j hj => (h j hj).symm)
def sc00 : Sc := ⟨[], [], 4, 32, 64, 2⟩
theorem sc0_grow : ({ sc00 with ths := growL sc00.ths 1 } : Sc) = sc0 := by decide
theorem sc00_new {w : World} {rs : List Res} {p : Nat} (h : Sep w (blk p 30 #[.slice none 0 0, .slice none 0 0, .int .i64 4, .int .i64 32, .int .i64 64, .int .i64 2] :: rs)) : Sep w (scP p sc00 :: rs) :=
  scP_close (S := sc00) (tv := .slice none 0 0) (pv := .slice none 0 0) (vs := []) rfl ((((h.vec_nil 47 2).rowsG_nil (e := 36) (size := 6)).vec_nil 44 1).bring 3 rfl)
set_option maxRecDepth 100000 in
set_option maxHeartbeats 4000000 in
theorem read_any (b : ByteArray) (w : World) :
    Calls Tryd.prog 11 #[.string b] w fun e w' => ∃ tv pv, e = .returned (.agg #[tv, pv, .int .i64 (readB b).c0, .int .i64 (readB b).c1, .int .i64 (readB b).c2, .int .i64 (readB b).c3]) ∧ Sep w' [scV tv pv (readB b), old w] := by
  refine (callsIn_wide (n := 8)).1 ?_
  have k1 : 1 ≤ 8 := by omega
  refine callsIn_of_wp_marks Tryd.func11 rfl trivial ?_ rfl
  simp only [Tryd.ntmps11, List.size_toArray, List.length_cons, List.length_nil, Nat.reduceAdd, Nat.reduceSub, Array.replicate_succ, Array.replicate_zero, List.push_toArray, List.append_toArray, List.nil_append, List.cons_append]
  have hA := Lib.hid ((Sep.start w).alloc #[.slice none 0 0, .slice none 0 0, .int .i64 0, .int .i64 0, .int .i64 0, .int .i64 0] 30)
  gi_wp2_with (first
    | (refine ⟨trivial, ?_⟩; gi_at_call 25; refine (callsIn_wide.2 (capsV_any _)).mono ?_; rintro e w1 ⟨rfl, q1⟩; replace hA := Lib.hid (hA.out.below q1); clear q1)
    | (refine ⟨trivial, ?_⟩; gi_at_call 27; refine (callsIn_wide.2 (grow_any _ sc00 1 _ _ (by decide) (by decide) (sc00_new (hA.out.alloc _ _)))).mono ?_; rintro e w2 ⟨rfl, q2⟩; rw [sc0_grow] at q2; replace q2 := Lib.hid q2)
    | (refine ⟨trivial, ?_⟩; gi_at_call 24; refine (callsIn_wide.2 (each_any _ _)).mono ?_; rintro e w3 ⟨rfl, rfl⟩))
  generalize w1.heap.size = p at *
  clear hA
  have hB := Lib.hid (q2.out.alloc #[.string b] 9)
  generalize hA0 : w.heap.size = A at *
  generalize hBx : w2.heap.size = Bx at *
  generalize w2.alloc (.cells #[.string b] 9) = w3 at *
  clear q2 hBx
  refine range_sep rfl k1 (gf := eachfn) (lb := #[.pointer (some ⟨Bx, 0, none⟩)]) rfl trivial (enters_of Tryd.func47 (by kernel_rfl) rfl) (rs := bxR Bx b :: scP p sc0 :: blk A 30 #[.slice none 0 0, .slice none 0 0, .int .i64 0, .int .i64 0, .int .i64 0, .int .i64 0] :: old w :: []) (rs' := exi (bxR Bx) :: scP p (readB b) :: blk A 30 #[.slice none 0 0, .slice none 0 0, .int .i64 0, .int .i64 0, .int .i64 0, .int .i64 0] :: old w :: []) hB.out ?seq ?done
  case seq =>
    intro fn l D W hfn hW
    refine (each1_in (8 - 1) (by omega) l Bx b (fun k => ob l (.loop (recR fn _ _ _ _ D .ready)) :: ob D (.deferred (some [])) :: scP p (readN (bt b) k) :: blk A 30 #[.slice none 0 0, .slice none 0 0, .int .i64 0, .int .i64 0, .int .i64 0, .int .i64 0] :: old w :: []) ?_ W (hW.bring 2 rfl)).mono ?_
    case refine_2 =>
      rintro e W2 ⟨hv, s, h2⟩
      exact ⟨hv, (((Sep.exi_mk (f := bxR Bx) s h2).bring 1 rfl).bring 2 rfl).to1⟩
    rintro k s x W3 hk hx hbx hS3
    refine YieldAt.mono (round_sep hfn rfl (hS3.bring 1 rfl) (rs' := bxR Bx s :: ob D (.deferred (some [])) :: scP p (readN (bt b) (k + 1)) :: blk A 30 #[.slice none 0 0, .slice none 0 0, .int .i64 0, .int .i64 0, .int .i64 0, .int .i64 0] :: old w :: []) ?_) ?_
    case refine_2 =>
      rintro e W4 ⟨rfl, h4⟩
      exact ⟨rfl, h4.to1⟩
    rw [readN_step b x k hbx]
    clear hbx
    have hok := readN_ok (bt b) (fun j => (bt_bd b j).1) k
    generalize readN (bt b) k = T at *
    have hS4 := Lib.hid hS3.to1
    clear hS3 hW hB
    have hgt := bt_get x
    gi_wp2
    refine ⟨_, hS4.out, ?_⟩
    intro W5 hS5
    clear hS4
    replace hS5 := Lib.hid hS5
    by_cases h1 : bt x 0 = 1
    · have e1 : (bt x 0 == 1) = true := by rw [h1]; rfl
      gi_wp2_with (refine ⟨trivial, ?_⟩; gi_at_call 28; refine (callsIn_wide.2 (readCaps_any p T x hx hok.hi h1 _ _ (hS5.out.bring 3 rfl))).mono ?_; rintro e W6 ⟨rfl, q⟩; replace q := Lib.hid q)
      exact q.out.to3.to3.to3
    by_cases h2 : bt x 0 = 2
    · have e1 : (bt x 0 == 1) = false := by rw [h2]; rfl
      have e2 : (bt x 0 == 2) = true := by rw [h2]; rfl
      gi_wp2_with (refine ⟨trivial, ?_⟩; gi_at_call 29; refine (callsIn_wide.2 (readOp_any p T x hx hok.hi hok.ops h2 _ _ (hS5.out.bring 3 rfl))).mono ?_; rintro e W6 ⟨rfl, q⟩; replace q := Lib.hid q)
      exact q.out.to3.to3.to3
    by_cases h3 : bt x 0 = 3
    · have e1 : (bt x 0 == 1) = false := by rw [h3]; rfl
      have e2 : (bt x 0 == 2) = false := by rw [h3]; rfl
      have e3 : (bt x 0 == 3) = true := by rw [h3]; rfl
      gi_wp2_with (refine ⟨trivial, ?_⟩; gi_at_call 30; refine (callsIn_wide.2 (readPick_any p T x hx hok.pk2 h3 _ _ (hS5.out.bring 3 rfl))).mono ?_; rintro e W6 ⟨rfl, q⟩; replace q := Lib.hid q)
      exact q.out.to3.to3.to3
    have e1 : (bt x 0 == 1) = false := beq_eq_false_iff_ne.2 h1
    have e2 : (bt x 0 == 2) = false := beq_eq_false_iff_ne.2 h2
    have e3 : (bt x 0 == 3) = false := beq_eq_false_iff_ne.2 h3
    have eT : stepS T (bt x) = T := by unfold stepS; rw [if_neg h1, if_neg h2, if_neg h3]
    rw [eT]
    clear h1 h2 h3
    gi_wp2
    exact hS5.out
  case done =>
    intro D W hW
    obtain ⟨ta, tc, pa, pc, vs, hl, h2⟩ := scP_open (hW.bring 2 rfl)
    have hne := ((h2.bring 6 rfl).bring 1 rfl).blk_ne
    obtain ⟨_, c0, c1, c2, c3, c4, c5, _⟩ := h2.b6
    obtain ⟨_, d0, d1, d2, d3, d4, d5, f0, f1, f2, f3, f4, f5⟩ := (h2.bring 6 rfl).b6
    have hD := hW.ob_get
    replace h2 := Lib.hid h2
    clear hB hW
    gi_wp2
    have h7 := Sep.set (Sep.set (Sep.set (Sep.set (Sep.set (Sep.set (h2.out.bring 6 rfl) 0 (.slice ta (readB b).ths.length tc)) 1 (.slice pa (readB b).pks.length pc)) 2 (.int .i64 (readB b).c0)) 3 (.int .i64 (readB b).c1)) 4 (.int .i64 (readB b).c2)) 5 (.int .i64 (readB b).c3)
    have hE := (h7.bring 5 rfl).ob_get
    have h8 := (h7.bring 5 rfl).ob_set (.deferred none)
    obtain ⟨_, R0, R1, R2, R3, R4, R5, _⟩ := (h8.bring 1 rfl).b6
    refine ⟨by simp, .inl ⟨_, _, rfl, run_takeDeferred hE, ?_⟩⟩
    refine ⟨.agg #[.slice ta (readB b).ths.length tc, .slice pa (readB b).pks.length pc, .int .i64 (readB b).c0, .int .i64 (readB b).c1, .int .i64 (readB b).c2, .int .i64 (readB b).c3], ?_, .slice ta (readB b).ths.length tc, .slice pa (readB b).pks.length pc, rfl, ?_⟩
    · clear c0 c1 c2 c3 c4 c5 d0 d1 d2 d3 d4 d5 hE hD
      simp [results, Tryd.results11, go_sem, R0, R1, R2, R3, R4, R5]
    · exact scV_close hl ((h8.tail.tail.tail.bring 3 rfl).tail)
end Go.Proofs.YtdpolejbceoldaaDoor
