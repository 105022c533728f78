/-
  What a clock's Each tells, collected (timers). No condition beside a clock that New made.
-/
import Derived.Test.YtcbjgibcgalppaaTkV
namespace Go.Proofs.Ytcbjgibcgalppaa
open Go.RowKit Go.Shelf
attribute [local go_sem] Oper.semAt_some
abbrev eachfn : Nat := 39
set_option maxRecDepth 100000 in
set_option maxHeartbeats 4000000 in
theorem each1_in (N : Nat) (hN : 1 ≤ N) (l Bc p : Nat) (now : Int) (L : List Tm) (R : Nat → List Res) (hL : L.length ≤ 900)
    (hY : ∀ (X : Res) (k : Nat) (x : Tm) (W : World), L[k]? = some x → Sep W (X :: clockR p now L :: blk Bc 26 #[.pointer (some ⟨p, 0, none⟩)] :: R k) →
      YieldAt Fence.wide (N - 1) Try.prog l #[tV x] W fun e W' => e = .returned (.bool true) ∧ Sep W' (X :: clockR p now L :: blk Bc 26 #[.pointer (some ⟨p, 0, none⟩)] :: R (k + 1)))
    (W : World) (h0 : Sep W (clockR p now L :: blk Bc 26 #[.pointer (some ⟨p, 0, none⟩)] :: R 0)) :
    CallsIn Fence.wide N Try.prog eachfn #[.func (.yield l) #[] #[], .pointer (some ⟨Bc, 0, none⟩)] W fun e W' => (∃ v, e = .returned v) ∧ Sep W' (clockR p now L :: blk Bc 26 #[.pointer (some ⟨p, 0, none⟩)] :: R L.length) := by
  obtain ⟨_, e0, _⟩ := h0.to1.b1
  obtain ⟨fa, c, xs, hok, hl, hS⟩ := clock_open h0
  obtain ⟨_, c0, c1, _⟩ := hS.b2
  obtain ⟨n, hn⟩ : ∃ n, L.length = n := ⟨_, rfl⟩
  rw [hn] at hS hl c1 hL ⊢
  have hS1 := (hS.to1.alloc #[.slice fa n c] 56)
  have HSF := Lib.hid (sortedFunc_any W.heap.size n c fa xs L _ _ hl (by omega) hok.perm hok.srt hS1)
  replace hok := Lib.hid hok
  replace hn := Lib.hid hn
  clear h0 hS hS1
  refine callsIn_of_wp Try.func39 rfl trivial ?_ rfl
  simp only [Try.ntmps39, List.size_toArray, List.length_cons, List.length_nil, Nat.reduceAdd, Nat.reduceSub, Array.replicate_succ, Array.replicate_zero, List.push_toArray, List.append_toArray, List.nil_append, List.cons_append]
  gi_wp2_with (first
    | (refine ⟨trivial, ?_⟩; gi_at_call 41; refine (callsIn_wide.2 (values_any _ _ _ _)).mono ?_; rintro e w' ⟨rfl, rfl⟩)
    | (refine ⟨trivial, ?_⟩; gi_at_call 40; refine (callsIn_wide.2 HSF.out).mono ?_; rintro e w' ⟨sa, sc, rfl, hq⟩; replace hq := Lib.hid hq))
  have hS := Lib.hid (show Sep _ (tVec (.slice sa n sc) n L :: clockR p now L :: blk Bc 26 #[.pointer (some ⟨p, 0, none⟩)] :: R 0) from (clock_close (fa := fa) (c := c) hok.out (by rw [hn.out]; exact (((hq.out.bring 1 rfl).tail.bring 1 rfl).bring 2 rfl))).to1)
  clear hq HSF c0 c1 e0
  gi_loopw [14] (fun i wr => ∃ k : Nat, k ≤ n ∧ i = .int .i64 k ∧ Hid (Sep wr (tVec (.slice sa n sc) n L :: clockR p now L :: blk Bc 26 #[.pointer (some ⟨p, 0, none⟩)] :: R k))) (fun i _ => n - (intOf i).toNat)
  case atStart => exact ⟨0, Nat.zero_le _, rfl, hS⟩
  case round =>
    clear hS
    obtain ⟨k, hk, rfl, hS⟩ := hrel
    by_cases hlt : k < n
    · obtain ⟨g, rfl⟩ := vec_some hS.out (by omega)
      have hkl : k < L.length := by rw [hn.out]; exact hlt
      obtain ⟨⟨z0, z1, z2⟩, _, _⟩ := hS.out.tAt k hkl
      have hg : L[k]? = some (gt_ L k) := by simp [gt_, List.getD_eq_getElem?_getD, hkl]
      have hY1 := Lib.hid (hY _ k _ (wr.alloc (.cells #[.int .i64 (gt_ L k).1, .int .i64 (gt_ L k).2.1, .int .i64 (gt_ L k).2.2] 61)) hg (hS.out.allocG _))
      generalize gt_ L k = x at *
      obtain ⟨x0, x1, x2⟩ := x
      simp only [tV] at z0 z1 z2 hY1
      obtain ⟨fn, tmps, assign, body, hy, hR⟩ := hY1.out
      have i1 : (0 : Int) ≤ (k : Int) := by omega
      have i2 : (k : Int) < (n : Int) := by omega
      clear hY1 hg
      gi_wp2
      refine hR.mono ?_
      rintro e W3 ⟨rfl, hS3⟩
      replace hS3 := Lib.hid hS3
      gi_wp2
      go_roundw
      case rel => exact ⟨k + 1, by omega, by simp, hS3⟩
      case measure => simp [intOf]; omega
    · obtain rfl : k = n := by omega
      gi_wp2
      go_end0
      exact ⟨⟨_, rfl⟩, hS.out.tail⟩
set_option maxHeartbeats 1000000 in
theorem each_in (N p : Nat) (w : World) :
    CallsIn Fence.wide N Try.prog 30 #[.pointer (some ⟨p, 0, none⟩)] w fun e w' => e = .returned (.func (.func eachfn) #[] #[.pointer (some ⟨w.heap.size, 0, none⟩)]) ∧ w' = w.alloc (.cells #[.pointer (some ⟨p, 0, none⟩)] 26) := by
  refine callsIn_of_wp Try.func30 rfl trivial ?_ rfl
  simp only [Try.ntmps30, List.size_toArray, List.length_cons, List.length_nil, Nat.reduceAdd, Nat.reduceSub, Array.replicate_succ, Array.replicate_zero, List.push_toArray, List.append_toArray, List.nil_append, List.cons_append]
  gi_wp2
  go_ret
  exact ⟨rfl, rfl⟩
theorem func_nil (c : Value) (w : World) : (binOp .eql 64 (.func (.func eachfn) #[] #[c]) .nilFunc).run Try.prog w = .ok (.bool false) w := by kernel_rfl
set_option maxRecDepth 100000 in
set_option maxHeartbeats 4000000 in
theorem timers_any (p most : Nat) (now : Int) (L : List Tm) (w : World) (rs : List Res) (hS : Sep w (clockR p now L :: rs)) (hL : L.length ≤ most) (hm : most ≤ 900) :
    Calls Try.prog 17 #[.pointer (some ⟨p, 0, none⟩), .int .i64 most] w fun e w' => ∃ (a : Option Addr) (c : Nat), e = .returned (.tuple #[.slice a L.length c, .bool true]) ∧ Sep w' (vec 34 3 (.slice a L.length c) L.length (L.flatMap tC) :: clockR p now L :: rs) := by
  obtain ⟨i0, hi, hz0, hz1, hz2⟩ := info_parts info_at
  have hq := fun c W => func_nil c W
  have hA1 := (((hS.alloc #[.int .i64 most] 3).alloc #[.slice none 0 0] 36).alloc #[.bool false] 4).alloc #[.pointer (some ⟨p, 0, none⟩)] 26
  have hA := Lib.hid ((Sep.exi_mk (f := fun (x : Option Addr × Nat) => star (blk _ 36 #[.slice x.1 0 x.2]) (vec 34 3 (.slice x.1 0 x.2) 0 ((L.take 0).flatMap tC))) (none, 0) (Sep.gstar.2 ((hA1.alloc #[.slice none 0 0] 36).vec_nil 34 3).to1)))
  simp only [World.size_alloc] at hA
  have htk := Lib.hid (show L.take L.length = L from List.take_length)
  clear hS hA1
  refine (callsIn_wide (n := 8)).1 ?_
  have k1 : 1 ≤ 8 := by omega
  refine callsIn_of_wp_marks Try.func17 rfl trivial ?_ rfl
  simp only [Try.ntmps17, List.size_toArray, List.length_cons, List.length_nil, Nat.reduceAdd, Nat.reduceSub, Array.replicate_succ, Array.replicate_zero, List.push_toArray, List.append_toArray, List.nil_append, List.cons_append]
  gi_wp2_with (refine ⟨trivial, ?_⟩; gi_at_call 30; refine (each_in _ _ _).mono ?_; rintro e w' ⟨rfl, rfl⟩)
  obtain ⟨B0, hBe⟩ : ∃ B0, w.heap.size = B0 := ⟨_, rfl⟩
  rw [hBe] at hA ⊢
  have hA := Lib.hid (show Sep _ (clockR p now L :: blk (B0 + 1 + 1 + 1) 26 #[.pointer (some ⟨p, 0, none⟩)] :: outR (B0 + 1 + 1 + 1 + 1) 0 L :: blk (B0 + 1 + 1) 4 #[.bool false] :: blk (B0 + 1) 36 #[.slice none 0 0] :: blk B0 3 #[.int .i64 most] :: rs) from ((hA.out.bring 5 rfl).bring 2 rfl).bring 1 rfl)
  generalize World.alloc _ _ = w0 at hA ⊢
  clear hBe
  generalize hB1 : B0 + 1 = B1 at hA ⊢
  generalize hB2 : B1 + 1 = B2 at hA ⊢
  generalize hB3 : B2 + 1 = B3 at hA ⊢
  generalize hB4 : B3 + 1 = B4 at hA ⊢
  clear hB1 hB2 hB3 hB4
  refine range_sep rfl k1 (gf := eachfn) (lb := #[.pointer (some ⟨B3, 0, none⟩)]) rfl trivial (enters_of Try.func39 (by kernel_rfl) rfl) (rs := clockR p now L :: blk B3 26 #[.pointer (some ⟨p, 0, none⟩)] :: outR B4 0 L :: blk B2 4 #[.bool false] :: blk B1 36 #[.slice none 0 0] :: blk B0 3 #[.int .i64 most] :: rs) (rs' := clockR p now L :: blk B3 26 #[.pointer (some ⟨p, 0, none⟩)] :: outR B4 L.length L :: blk B2 4 #[.bool false] :: blk B1 36 #[.slice none 0 0] :: blk B0 3 #[.int .i64 most] :: rs) hA.out ?seq ?done
  case seq =>
    intro fn l D W hfn hW
    refine (each1_in (8 - 1) (by omega) l B3 p now L (fun k => ob l (.loop (recR fn _ _ _ _ D .ready)) :: ob D (.deferred (some [])) :: outR B4 k L :: blk B2 4 #[.bool false] :: blk B1 36 #[.slice none 0 0] :: blk B0 3 #[.int .i64 most] :: rs) (by omega) ?_ W (((hW.bring 2 rfl).bring 3 rfl).bring 1 rfl)).mono ?_
    case refine_2 =>
      rintro e W2 ⟨hv, h2⟩
      exact ⟨hv, ((h2.bring 3 rfl).bring 3 rfl)⟩
    rintro X k ⟨x0, x1, x2⟩ W3 hx hS3
    have hk : k < L.length := (List.getElem?_eq_some_iff.1 hx).1
    refine YieldAt.mono (round_sep hfn rfl (hS3.bring 3 rfl) (rs' := X :: clockR p now L :: blk B3 26 #[.pointer (some ⟨p, 0, none⟩)] :: ob D (.deferred (some [])) :: outR B4 (k + 1) L :: blk B2 4 #[.bool false] :: blk B1 36 #[.slice none 0 0] :: blk B0 3 #[.int .i64 most] :: rs) ?_) ?_
    case refine_2 =>
      rintro e W4 ⟨rfl, h4⟩
      exact ⟨rfl, ((h4.bring 3 rfl).bring 3 rfl).bring 3 rfl⟩
    have hS4 := Lib.hid (((hS3.bring 3 rfl).alloc #[.int .i64 x0, .int .i64 x1, .int .i64 x2] 34).to1)
    clear hS3 hW hA
    replace hx := Lib.hid hx
    unfold tV
    gi_wp2
    refine ⟨_, hS4.out, ?_⟩
    intro W5 hS5
    clear hS4
    generalize W3.heap.size = Y at hS5 ⊢
    obtain ⟨⟨va, vc⟩, hS6⟩ := (hS5.bring 6 rfl).gexi
    replace hS6 := Sep.gstar.1 hS6
    clear hS5
    obtain ⟨_, c0, f0⟩ := hS6.b1
    obtain ⟨_, y0, y1, y2, _⟩ := (hS6.bring 3 rfl).b3
    obtain ⟨_, m0, _⟩ := (hS6.bring 10 rfl).b1
    have i0_ : ¬ (most : Int) < (k : Int) := by omega
    have hV := hS6.to1
    have hml : k + 1 ≤ maxLen := by simp only [maxLen]; omega
    have hbt : (k + 1) * 24 ≤ 140737488355328 := by omega
    replace hS6 := Lib.hid hS6
    gi_wp2_with (gi_at_builtin; refine wpListIn_append_sep (hV.allocG _) rfl _ _ 36 rfl i0 (.agg #[.int .i64 0, .int .i64 0, .int .i64 0]) 24 Try.underlying36 hi hz0 hz1 hz2 rfl (by decide) rfl 1 [.int .i64 x0, .int .i64 x1, .int .i64 x2] (srcA_cells W5 #[.int .i64 x0, .int .i64 x1, .int .i64 x2] 34 1 3 rfl) (by simp [Value.oneCell']) hml hbt ?_; intro a' c' w1 hS7; obtain ⟨_, c1, f1⟩ := hS7.to1.b1; replace hS7 := Lib.hid hS7)
    have hcs := take_snoc L k (x0, x1, x2) hx.out
    have h8 := hS7.out.to1.set 0 (.slice a' (k + 1) c')
    rw [hcs] at h8
    have h9 := Sep.exi_mk (f := fun (x : Option Addr × Nat) => star (blk B4 36 #[.slice x.1 (k + 1) x.2]) (vec 34 3 (.slice x.1 (k + 1) x.2) (k + 1) ((L.take (k + 1)).flatMap tC))) (a', c') (Sep.gstar.2 h8)
    have h10 := (h9.bring 2 rfl).tail
    exact (((((h10.bring 5 rfl).bring 5 rfl).bring 5 rfl).bring 5 rfl).bring 5 rfl)
  case done =>
    rintro D W hW
    obtain ⟨⟨va, vc⟩, hS6⟩ := (hW.bring 3 rfl).gexi
    replace hS6 := Sep.gstar.1 hS6
    obtain ⟨_, c0, f0⟩ := hS6.b1
    obtain ⟨_, r0, rf0⟩ := (hS6.bring 6 rfl).b1
    obtain ⟨_, s0, sf0⟩ := (hS6.bring 5 rfl).b1
    have hne1 := ((hS6.bring 6 rfl).bring 6 rfl).blk_ne
    have hne2 := hne1.symm
    rw [htk.out] at hS6
    have hS7 := ((((hS6.bring 6 rfl).set 0 (.slice va L.length vc)).bring 6 rfl).set 0 (.bool true)).bring 4 rfl
    have hD := hS7.ob_get
    have hS8 := hS7.ob_set (.deferred none)
    obtain ⟨_, R0, _⟩ := (hS8.bring 2 rfl).b1
    obtain ⟨_, R1, _⟩ := (hS8.bring 1 rfl).b1
    have hS9 := Lib.hid hS8
    clear hW hS6 hA hS8 hS7
    gi_wp2
    refine ⟨by simp, .inl ⟨_, _, rfl, run_takeDeferred hD, ?_⟩⟩
    refine ⟨.tuple #[.slice va L.length vc, .bool true], ?_, va, vc, rfl, ?_⟩
    · simp [results, Try.results17, go_sem, R0, R1]
    · exact ((((hS9.out.tail.tail.tail.tail.bring 2 rfl).tail).bring 2 rfl).tail)
end Go.Proofs.Ytcbjgibcgalppaa
