/-
  Pass: ticks pass, and the timers whose time has come are told. No condition beside a clock that New made.
-/
import Derived.Test.YtcbjgibcgalppaaTkG
import Derived.Test.YtcbjgibcgalppaaHx
import Derived.IntWalk
namespace Go.Proofs.Ytcbjgibcgalppaa
open Go.RowKit Go.Shelf
attribute [local go_sem] Oper.semAt_some
/-- How many of them are due. -/
def dueN (now : Int) (L : List Tm) : Nat := (L.takeWhile fun t : Tm => decide (t.1 ≤ now)).length
theorem dueN_le (now : Int) (L : List Tm) : dueN now L ≤ L.length := (List.takeWhile_sublist _).length_le
/-- What time it is so many ticks later. -/
def later (now n : Int) : Int := now + min n (9223372036854775807 - now)
theorem info_at : (Try.prog.info? 34).map (fun i => (i.zero, i.size, i.bytes)) = some (some (.agg #[.int .i64 0, .int .i64 0, .int .i64 0]), 3, 24) := by kernel_rfl
theorem due_in (n p : Nat) (w : World) :
    CallsIn Fence.wide n Try.prog 29 #[.pointer (some ⟨p, 0, none⟩)] w fun e w' => e = .returned (.func (.func 37) #[] #[.pointer (some ⟨w.heap.size, 0, none⟩)]) ∧ w' = w.alloc (.cells #[.pointer (some ⟨p, 0, none⟩)] 26) := by
  refine callsIn_of_wp Try.func29 rfl trivial ?_ rfl
  simp only [Try.ntmps29, List.size_toArray, List.length_cons, List.length_nil, Nat.reduceAdd, Nat.reduceSub, Array.replicate_succ, Array.replicate_zero, List.push_toArray, List.append_toArray, List.nil_append, List.cons_append]
  gi_wp2
  go_ret
  exact ⟨rfl, rfl⟩
set_option maxHeartbeats 1000000 in
theorem pass_bad (p : Nat) (n : Int) (w : World) (hn : n < 0 ∨ 1000 < n) :
    Calls Try.prog 12 #[.pointer (some ⟨p, 0, none⟩), .int .i64 n] w fun e w' => e = .returned (.tuple #[.slice none 0 0, .int .i64 2]) ∧ w' = w := by
  by_cases h0 : n < 0
  · go_enter Try.func12, Try.ntmps12
    go_wp2_with fail
    go_ret2
    exact ⟨rfl, rfl⟩
  · have h1 : 1000 < n := by omega
    go_enter Try.func12, Try.ntmps12
    go_wp2_with fail
    go_ret2
    exact ⟨rfl, rfl⟩
/-- A piece of code that ends as it should, inside a fence. -/
theorem wpIn_only {n : Nat} {P : Program} {c : Code} {K : Act → World → Prop} {Q' : Exit → Act → World → Prop} {a : Act} {w : World} (h : c.wp P (Exit.then K (fun _ _ _ => False)) a w) : c.wpIn Fence.wide n P (Exit.then K Q') a w :=
  wpIn_mono (wpIn_wide.2 h) fun e a w h => by
    cases e with
    | normal => exact h
    | ret => exact h.elim
    | exit id => exact h.elim
    | goto t => exact h.elim
    | panic c => exact h.elim
    | outgrown => exact h.elim
theorem cells_new (w : World) (cs : Array Value) (t : TypeId) : ∀ j u, cs.toList[j]? = some u → (w.alloc (.cells cs t)).cell? ((⟨w.heap.size, 0, none⟩ : Addr).add j) = some u := by
  intro j u hu
  have h := ((Sep.start w).alloc cs t).gblk.cell j
  rw [Addr.add_lit, Nat.zero_add, h, ← hu]
  simp
theorem take_snoc (L : List Tm) (k : Nat) (x : Tm) (h : L[k]? = some x) : (L.take k).flatMap tC ++ [.int .i64 x.1, .int .i64 x.2.1, .int .i64 x.2.2] = (L.take (k + 1)).flatMap tC := by
  obtain ⟨h1, h2⟩ := List.getElem?_eq_some_iff.1 h
  rw [List.take_succ_eq_append_getElem h1, h2, List.flatMap_append]
  simp [tC]
/-- What the body of Pass's loop holds. -/
def outR (B : Nat) (k : Nat) (L : List Tm) : Res := exi fun (x : Option Addr × Nat) => star (blk B 36 #[.slice x.1 k x.2]) (vec 34 3 (.slice x.1 k x.2) k ((L.take k).flatMap tC))
set_option maxRecDepth 100000 in
set_option maxHeartbeats 4000000 in
theorem pass_ok (p : Nat) (now n : Int) (L : List Tm) (w : World) (rs : List Res) (hS : Sep w (clockR p now L :: rs)) (hL : L.length ≤ 900) (h0 : 0 ≤ n) (h1 : n ≤ 1000) (hw0 : 0 ≤ now) (hw1 : now ≤ 9223372036854775807) :
    Calls Try.prog 12 #[.pointer (some ⟨p, 0, none⟩), .int .i64 n] w fun e w' => ∃ (a : Option Addr) (c : Nat), e = .returned (.tuple #[.slice a (dueN (later now n) L) c, .int .i64 0]) ∧
      Sep w' (vec 34 3 (.slice a (dueN (later now n) L) c) (dueN (later now n) L) ((L.take (dueN (later now n) L)).flatMap tC) :: clockR p (later now n) (L.drop (dueN (later now n) L)) :: rs) := by
  obtain ⟨fa, c, xs, hok, hl, hS⟩ := clock_open hS
  obtain ⟨i0, hi, hz0, hz1, hz2⟩ := info_parts info_at
  have wr1 : IntKind.i64.wrap (9223372036854775807 - now) = 9223372036854775807 - now := IntWalk.i64_in _ (by omega)
  have hnow2 : later now n = now + min n (9223372036854775807 - now) := rfl
  have wr2 : IntKind.i64.wrap (now + min n (9223372036854775807 - now)) = later now n := by rw [hnow2]; exact IntWalk.i64_in _ (by omega)
  have hd := Lib.hid (dueN_le (later now n) L)
  have hdd := Lib.hid (show dueN (later now n) L = (L.takeWhile fun t : Tm => decide (t.1 ≤ later now n)).length from rfl)
  replace hnow2 := Lib.hid hnow2
  generalize dueN (later now n) L = m at *
  generalize later now n = now2 at *
  obtain ⟨N0, hN0⟩ : ∃ N0, L.length = N0 := ⟨_, rfl⟩
  rw [hN0] at hS hl
  replace hS := Lib.hid hS
  replace hok := Lib.hid hok
  replace hN0 := Lib.hid hN0
  refine (callsIn_wide (n := 8)).1 ?_
  have k1 : 1 ≤ 8 := by omega
  refine callsIn_of_wp_marks Try.func12 rfl trivial ?_ rfl
  simp only [Try.ntmps12, List.size_toArray, List.length_cons, List.length_nil, Nat.reduceAdd, Nat.reduceSub, Array.replicate_succ, Array.replicate_zero, List.push_toArray, List.append_toArray, List.nil_append, List.cons_append]
  gi_wp2
  refine wpIn_only ?_
  have hS := Lib.hid (show (fun V : World => Sep V (cBlk p now (.slice fa N0 c) :: tVec (.slice fa N0 c) N0 xs :: rs)) _ from hS.out.drew)
  refine hx_begin (fun V : World => Sep V (cBlk p now (.slice fa N0 c) :: tVec (.slice fa N0 c) N0 xs :: rs)) 14 [(0, true), (1, true), (2, true), (3, true), (4, true), (5, true), (6, true), (7, true), (8, true), (9, true), (10, true), (11, true), (12, true), (13, true), (14, false)] [(13, 14), (11, 14), (0, 14), (1, 14), (2, 14), (3, 14), (4, 14), (5, 14), (6, 14), (7, 14), (8, 14), (9, 14), (10, 14), (12, 13)] (by kernel_rfl) (by kernel_rfl) (by kernel_rfl) (by kernel_rfl) rfl (by kernel_rfl) (by kernel_rfl) (fun _ _ _ _ _ h => h) hS.out ?_
  change HX _ _ _ _ _ _ _ (World.drew _)
  generalize World.drew _ = wd at *
  refine hx_take ?v1 rfl (by kernel_rfl) ?y1 ?z1
  case y1 => intro W hW; have := wr1; have := wr2; replace hW := Lib.hid hW; go_simp; try rfl
  case z1 =>
  simp only [Act.put, List.setIfInBounds_toArray, List.set_cons_succ, List.set_cons_zero, List.getElem_toArray, List.getElem_cons_zero]
  refine hx_take ?v2 rfl (by kernel_rfl) ?y2 ?z2
  case y2 => intro W hW; have := wr1; have := wr2; replace hW := Lib.hid hW; go_simp; try rfl
  case z2 =>
  simp only [Act.put, List.setIfInBounds_toArray, List.set_cons_succ, List.set_cons_zero, List.getElem_toArray, List.getElem_cons_zero, List.getElem_cons_succ]
  refine hx_take ?v3 rfl (by kernel_rfl) ?y3 ?z3
  case y3 => intro W hW; have := wr1; have := wr2; replace hW := Lib.hid hW; go_simp; try rfl
  case z3 =>
  simp only [Act.put, List.setIfInBounds_toArray, List.set_cons_succ, List.set_cons_zero, List.getElem_toArray, List.getElem_cons_zero, List.getElem_cons_succ]
  refine hx_take ?v4 rfl (by kernel_rfl) ?y4 ?z4
  case y4 => intro W hW; obtain ⟨_, c0, c1, _⟩ := (show Sep _ _ from hW).b2; replace hW := Lib.hid hW; go_simp; try rfl
  case z4 =>
  simp only [Act.put, List.setIfInBounds_toArray, List.set_cons_succ, List.set_cons_zero, List.getElem_toArray, List.getElem_cons_zero, List.getElem_cons_succ]
  refine hx_take ?v5 rfl (by kernel_rfl) ?y5 ?z5
  case y5 => intro W hW; have := wr1; have := wr2; replace hW := Lib.hid hW; go_simp; try rfl
  case z5 =>
  simp only [Act.put, List.setIfInBounds_toArray, List.set_cons_succ, List.set_cons_zero, List.getElem_toArray, List.getElem_cons_zero, List.getElem_cons_succ]
  refine hx_take ?v6 rfl (by kernel_rfl) ?y6 ?z6
  case y6 => intro W hW; have := wr1; have := wr2; replace hW := Lib.hid hW; go_simp; try rfl
  case z6 =>
  simp only [Act.put, List.setIfInBounds_toArray, List.set_cons_succ, List.set_cons_zero, List.getElem_toArray, List.getElem_cons_zero, List.getElem_cons_succ]
  refine hx_take ?v7 rfl (by kernel_rfl) ?y7 ?z7
  case y7 => intro W hW; have := wr1; have := wr2; replace hW := Lib.hid hW; go_simp; try rfl
  case z7 =>
  simp only [Act.put, List.setIfInBounds_toArray, List.set_cons_succ, List.set_cons_zero, List.getElem_toArray, List.getElem_cons_zero, List.getElem_cons_succ]
  refine hx_take ?v8 rfl (by kernel_rfl) ?y8 ?z8
  case y8 => intro W hW; have := wr1; have := wr2; replace hW := Lib.hid hW; go_simp; try rfl
  case z8 =>
  simp only [Act.put, List.setIfInBounds_toArray, List.set_cons_succ, List.set_cons_zero, List.getElem_toArray, List.getElem_cons_zero, List.getElem_cons_succ]
  refine hx_take ?v9 rfl (by kernel_rfl) ?y9 ?z9
  case y9 => intro W hW; obtain ⟨_, c0, c1, _⟩ := (show Sep _ _ from hW).b2; replace hW := Lib.hid hW; go_simp; try rfl
  case z9 =>
  simp only [Act.put, List.setIfInBounds_toArray, List.set_cons_succ, List.set_cons_zero, List.getElem_toArray, List.getElem_cons_zero, List.getElem_cons_succ]
  refine hx_take ?v10 rfl (by kernel_rfl) ?y10 ?z10
  case y10 => intro W hW; have := wr1; have := wr2; replace hW := Lib.hid hW; go_simp; try rfl
  case z10 =>
  simp only [Act.put, List.setIfInBounds_toArray, List.set_cons_succ, List.set_cons_zero, List.getElem_toArray, List.getElem_cons_zero, List.getElem_cons_succ]
  refine hx_take ?v11 rfl (by kernel_rfl) ?y11 ?z11
  case y11 => intro W hW; have := wr1; have := wr2; replace hW := Lib.hid hW; go_simp; try rfl
  case z11 =>
  simp only [Act.put, List.setIfInBounds_toArray, List.set_cons_succ, List.set_cons_zero, List.getElem_toArray, List.getElem_cons_zero, List.getElem_cons_succ]
  refine hx_take ?v12 rfl (by kernel_rfl) ?y12 ?z12
  case y12 => intro W hW; have := wr1; have := wr2; replace hW := Lib.hid hW; go_simp; try rfl
  case z12 =>
  simp only [Act.put, List.setIfInBounds_toArray, List.set_cons_succ, List.set_cons_zero, List.getElem_toArray, List.getElem_cons_zero, List.getElem_cons_succ]
  refine hx_take ?v13 rfl (by kernel_rfl) ?y13 ?z13
  case y13 => intro W hW; have := wr1; have := wr2; replace hW := Lib.hid hW; go_simp; try rfl
  case z13 =>
  simp only [Act.put, List.setIfInBounds_toArray, List.set_cons_succ, List.set_cons_zero, List.getElem_toArray, List.getElem_cons_zero, List.getElem_cons_succ]
  refine hx_take ?v14 rfl (by kernel_rfl) ?y14 ?z14
  case y14 => intro W hW; have := wr1; have := wr2; replace hW := Lib.hid hW; go_simp; try rfl
  case z14 =>
  simp only [Act.put, List.setIfInBounds_toArray, List.set_cons_succ, List.set_cons_zero, List.getElem_toArray, List.getElem_cons_zero, List.getElem_cons_succ]
  refine hx_last rfl (by kernel_rfl) (fun K hK => ?_)
  go_simp
  obtain ⟨_, c0, c1, f0, f1⟩ := (show Sep _ _ from hS.out).b2
  go_simp
  have hS3 := Lib.hid ((show Sep _ _ from hS.out).set 0 (.int .i64 now2))
  clear c0 c1 f0 f1
  refine hK.out _ _ ?_
  clear hK K
  try simp only [Act.put, List.setIfInBounds_toArray, List.set_cons_succ, List.set_cons_zero, List.getElem_toArray, List.getElem_cons_zero, List.getElem_cons_succ]
  refine hx_done ?_
  have hz3 := Lib.hid (Nat.le_refl 0)
  clear hS hz3
  gi_wp2_with (refine ⟨trivial, ?_⟩; gi_at_call 29; refine (due_in _ _ _).mono ?_; rintro e w' ⟨rfl, rfl⟩)
  have hB := (show Sep _ (cBlk p now2 (.slice fa N0 c) :: tVec (.slice fa N0 c) N0 xs :: rs) from hS3.out)
  have hC := clock_close (L := L) (fa := fa) (c := c) hok.out (by rw [hN0.out]; exact hB)
  have hA1 := hC.alloc #[.slice none 0 0] 36
  have hA := Lib.hid (((Sep.exi_mk (f := fun (x : Option Addr × Nat) => star (blk _ 36 #[.slice x.1 0 x.2]) (vec 34 3 (.slice x.1 0 x.2) 0 ((L.take 0).flatMap tC))) (none, 0) (Sep.gstar.2 (hA1.vec_nil 34 3).to1)).alloc #[.pointer (some ⟨p, 0, none⟩)] 26).to2)
  simp only [World.size_alloc] at hA
  rw [show (wd.setCell ⟨p, 0, none⟩ (.int .i64 now2)).heap.size = wd.heap.size by simp [World.setCell]] at hA
  obtain ⟨B, hBe⟩ : ∃ B, wd.heap.size = B := ⟨_, rfl⟩
  rw [hBe] at hA ⊢
  obtain ⟨w0, hw0⟩ : ∃ w0, w0 = ((wd.setCell ⟨p, 0, none⟩ (.int .i64 now2)).alloc (.cells #[.slice none 0 0] 36)).alloc (.cells #[.pointer (some ⟨p, 0, none⟩)] 26) := ⟨_, rfl⟩
  rw [← hw0] at hA ⊢
  clear hw0 hBe hS3 hB hC hA1
  refine range_sep rfl k1 (gf := 37) (lb := #[.pointer (some ⟨B + 1, 0, none⟩)]) rfl trivial (enters_of Try.func37 (by kernel_rfl) rfl) (rs := clockR p now2 L :: blk (B + 1) 26 #[.pointer (some ⟨p, 0, none⟩)] :: outR B 0 L :: rs) (rs' := clockR p now2 (L.drop m) :: blk (B + 1) 26 #[.pointer (some ⟨p, 0, none⟩)] :: outR B m L :: rs) hA.out ?seq ?done
  case seq =>
    intro fn l D W hfn hW
    refine (due1_in (8 - 1) (by omega) l (B + 1) p now2 L (fun k => ob l (.loop (recR fn _ _ _ _ D .ready)) :: ob D (.deferred (some [])) :: outR B k L :: rs) hL ?_ W (((hW.bring 2 rfl).bring 3 rfl).bring 1 rfl)).mono ?_
    case refine_2 =>
      rintro e W2 ⟨hv, h2⟩
      rw [← hdd.out] at h2
      exact ⟨hv, ((h2.bring 3 rfl).bring 3 rfl)⟩
    rintro k ⟨x0, x1, x2⟩ W3 hk hx hS3
    rw [← hdd.out] at hk
    refine YieldAt.mono (round_sep hfn rfl (hS3.bring 2 rfl) (rs' := clockR p now2 (L.drop (k + 1)) :: blk (B + 1) 26 #[.pointer (some ⟨p, 0, none⟩)] :: ob D (.deferred (some [])) :: outR B (k + 1) L :: rs) ?_) ?_
    case refine_2 =>
      rintro e W4 ⟨rfl, h4⟩
      exact ⟨rfl, ((h4.bring 1 rfl).bring 2 rfl).bring 1 rfl⟩
    have hS4 := Lib.hid (((hS3.bring 2 rfl).alloc #[.int .i64 x0, .int .i64 x1, .int .i64 x2] 34).to1)
    clear hS3 hW hA
    replace hx := Lib.hid hx
    unfold tV
    gi_wp2
    refine ⟨_, hS4.out, ?_⟩
    intro W5 hS5
    clear hS4
    generalize W3.heap.size = X at hS5 ⊢
    obtain ⟨⟨va, vc⟩, hS6⟩ := (hS5.bring 5 rfl).gexi
    replace hS6 := Sep.gstar.1 hS6
    clear hS5
    obtain ⟨_, c0, f0⟩ := hS6.b1
    obtain ⟨_, y0, y1, y2, _⟩ := (hS6.bring 3 rfl).b3
    have hV := hS6.to1
    have hkL : k < 900 := by have := hd.out; omega
    have hml : k + 1 ≤ maxLen := by simp only [maxLen]; omega
    have hbt : (k + 1) * 24 ≤ 140737488355328 := by omega
    replace hS6 := Lib.hid hS6
    gi_wp2_with (gi_at_builtin; refine wpListIn_append_sep (hV.allocG _) rfl _ _ 36 rfl i0 (.agg #[.int .i64 0, .int .i64 0, .int .i64 0]) 24 Try.underlying36 hi hz0 hz1 hz2 rfl (by decide) rfl 1 [.int .i64 x0, .int .i64 x1, .int .i64 x2] (srcA_cells W5 #[.int .i64 x0, .int .i64 x1, .int .i64 x2] 34 1 3 rfl) (by simp [Value.oneCell']) hml hbt ?_; intro a' c' w1 hS7; obtain ⟨_, c1, f1⟩ := hS7.to1.b1; replace hS7 := Lib.hid hS7)
    have hcs := take_snoc L k (x0, x1, x2) hx.out
    have h8 := hS7.out.to1.set 0 (.slice a' (k + 1) c')
    rw [hcs] at h8
    have h9 := Sep.exi_mk (f := fun (x : Option Addr × Nat) => star (blk B 36 #[.slice x.1 (k + 1) x.2]) (vec 34 3 (.slice x.1 (k + 1) x.2) (k + 1) ((L.take (k + 1)).flatMap tC))) (a', c') (Sep.gstar.2 h8)
    exact (((((h9.bring 2 rfl).tail.bring 4 rfl).bring 4 rfl).bring 4 rfl).bring 4 rfl)
  case done =>
    rintro D W hW
    obtain ⟨⟨va, vc⟩, hS6⟩ := (hW.bring 3 rfl).gexi
    replace hS6 := Sep.gstar.1 hS6
    obtain ⟨_, c0, f0⟩ := hS6.b1
    have hD := hW.ob_get
    have hS7 := Lib.hid ((((hS6.bring 2 rfl).ob_set (.deferred none)).tail.tail.bring 2 rfl).tail)
    clear hW hS6 hA
    gi_wp2
    refine ⟨by simp, .inl ⟨_, _, rfl, run_takeDeferred hD, ?_⟩⟩
    refine ⟨_, results_tmp2 rfl _ _ _, va, vc, rfl, ?_⟩
    exact hS7.out
end Go.Proofs.Ytcbjgibcgalppaa
