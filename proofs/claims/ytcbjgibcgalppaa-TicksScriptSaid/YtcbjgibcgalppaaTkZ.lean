/-
  The document's clock: Pass, whatever the clock. No condition beside a clock that can be read.
-/
import Derived.Test.YtcbjgibcgalppaaTkY
import Derived.Test.YtcbjgibcgalppaaTkW
namespace Go.Proofs.Ytcbjgibcgalppaa
open Go.RowKit Go.Shelf
set_option maxRecDepth 100000 in
set_option maxHeartbeats 4000000 in
theorem rpass_nil (o : Nat) (T T2 t : Int) (w : World) (rs : List Res) (hS : Sep w (rBlk o T (.slice none 0 0) :: aVec (.slice none 0 0) 0 [] :: rs)) (h0 : 0 ≤ t) (h1 : t ≤ 1000) (hw0 : 0 ≤ T) (hw1 : T ≤ 9223372036854775807) (hT : later T t = T2) :
    Calls Try.prog 21 #[.pointer (some ⟨o, 0, none⟩), .int .i64 t] w fun e w' => ∃ (a : Option Addr) (c' : Nat), e = .returned (.tuple #[.slice a 0 c', .int .i64 0]) ∧ Sep w' (aVec (.slice a 0 c') 0 [] :: refR o T2 [] :: rs) := by
  obtain ⟨i0, hi0, hz0, hz1, hz2⟩ := info_parts info_at
  obtain ⟨_, d0, d1, df0, df1⟩ := hS.b2
  have i1 : ¬ t < 0 := by omega
  have i2 : ¬ 1000 < t := by omega
  have wr1 : IntKind.i64.wrap (9223372036854775807 - t) = 9223372036854775807 - t := IntWalk.i64_in _ (by omega)
  unfold later at hT
  by_cases hbig : 9223372036854775807 - t < T
  · have hT2 : T2 = 9223372036854775807 := by omega
    subst hT2
    have hS := Lib.hid (hS.set 0 (.int .i64 9223372036854775807))
    clear hT
    go_enter Try.func21, Try.ntmps21
    go_wp2_with fail
    clear d0 d1 df0 df1
    go_loopw [6] (fun s wr => s = .int .i64 0 ∧ Hid (Sep wr (rBlk o 9223372036854775807 (.slice none 0 0) :: aVec (.slice none 0 0) 0 [] :: rs))) (fun s _ => 0)
    case atStart => exact ⟨rfl, hS⟩
    case round =>
      clear hS
      obtain ⟨rfl, hS⟩ := hrel
      have g7 : decide ((0 : Int) < 0) = false := rfl
      go_wp2_with fail
      have hS := Lib.hid (show (fun V : World => Sep V (rBlk o 9223372036854775807 (.slice none 0 0) :: aVec (.slice none 0 0) 0 [] :: rs)) _ from hS.out.drew)
      refine hl_begin (fun V : World => Sep V (rBlk o 9223372036854775807 (.slice none 0 0) :: aVec (.slice none 0 0) 0 [] :: rs)) [(0, true), (1, true), (2, true), (3, true), (4, true), (5, true), (6, true), (7, true), (8, true), (9, true), (10, true), (11, true), (12, true), (13, true), (14, true), (15, true), (16, true), (17, true), (18, true), (19, true), (20, true), (21, true)] (by kernel_rfl) (by kernel_rfl) (by kernel_rfl) rfl (fun _ _ _ _ _ h => h) hS.out ?_
      change HL _ _ _ _ _ _ (World.drew _)
      generalize World.drew _ = wd at *
      refine hl_take ?v1 rfl (by kernel_rfl) ?y1 ?z1
      case y1 => intro W hW; have := g7; replace hW := Lib.hid hW; go_simp; try rfl
      case z1 =>
      simp only [Act.put, List.setIfInBounds_toArray, List.set_cons_succ, List.set_cons_zero, List.getElem_toArray, List.getElem_cons_zero]
      refine hl_take ?v2 rfl (by kernel_rfl) ?y2 ?z2
      case y2 => intro W hW; have := g7; replace hW := Lib.hid hW; go_simp; try rfl
      case z2 =>
      simp only [Act.put, List.setIfInBounds_toArray, List.set_cons_succ, List.set_cons_zero, List.getElem_toArray, List.getElem_cons_zero, List.getElem_cons_succ]
      refine hl_take ?v3 rfl (by kernel_rfl) ?y3 ?z3
      case y3 => intro W hW; have := g7; replace hW := Lib.hid hW; go_simp; try rfl
      case z3 =>
      simp only [Act.put, List.setIfInBounds_toArray, List.set_cons_succ, List.set_cons_zero, List.getElem_toArray, List.getElem_cons_zero, List.getElem_cons_succ]
      refine hl_take ?v4 rfl (by kernel_rfl) ?y4 ?z4
      case y4 => intro W hW; have := g7; replace hW := Lib.hid hW; go_simp; try rfl
      case z4 =>
      simp only [Act.put, List.setIfInBounds_toArray, List.set_cons_succ, List.set_cons_zero, List.getElem_toArray, List.getElem_cons_zero, List.getElem_cons_succ]
      refine hl_take ?v5 rfl (by kernel_rfl) ?y5 ?z5
      case y5 => intro W hW; obtain ⟨_, c0, c1, _⟩ := (show Sep _ _ from hW).b2; replace hW := Lib.hid hW; go_simp; try rfl
      case z5 =>
      simp only [Act.put, List.setIfInBounds_toArray, List.set_cons_succ, List.set_cons_zero, List.getElem_toArray, List.getElem_cons_zero, List.getElem_cons_succ]
      refine hl_take ?v6 rfl (by kernel_rfl) ?y6 ?z6
      case y6 => intro W hW; have := g7; replace hW := Lib.hid hW; go_simp; try rfl
      case z6 =>
      simp only [Act.put, List.setIfInBounds_toArray, List.set_cons_succ, List.set_cons_zero, List.getElem_toArray, List.getElem_cons_zero, List.getElem_cons_succ]
      refine hl_take ?v7 rfl (by kernel_rfl) ?y7 ?z7
      case y7 => intro W hW; have := g7; replace hW := Lib.hid hW; go_simp; try rfl
      case z7 =>
      simp only [Act.put, List.setIfInBounds_toArray, List.set_cons_succ, List.set_cons_zero, List.getElem_toArray, List.getElem_cons_zero, List.getElem_cons_succ]
      refine hl_take ?v8 rfl (by kernel_rfl) ?y8 ?z8
      case y8 => intro W hW; have := g7; replace hW := Lib.hid hW; go_simp; try rfl
      case z8 =>
      simp only [Act.put, List.setIfInBounds_toArray, List.set_cons_succ, List.set_cons_zero, List.getElem_toArray, List.getElem_cons_zero, List.getElem_cons_succ]
      refine hl_skip rfl (by kernel_rfl) ?_
      simp only [Act.put, List.setIfInBounds_toArray, List.set_cons_succ, List.set_cons_zero, List.getElem_toArray, List.getElem_cons_zero, List.getElem_cons_succ]
      refine hl_skip rfl (by kernel_rfl) ?_
      simp only [Act.put, List.setIfInBounds_toArray, List.set_cons_succ, List.set_cons_zero, List.getElem_toArray, List.getElem_cons_zero, List.getElem_cons_succ]
      refine hl_skip rfl (by kernel_rfl) ?_
      simp only [Act.put, List.setIfInBounds_toArray, List.set_cons_succ, List.set_cons_zero, List.getElem_toArray, List.getElem_cons_zero, List.getElem_cons_succ]
      refine hl_skip rfl (by kernel_rfl) ?_
      simp only [Act.put, List.setIfInBounds_toArray, List.set_cons_succ, List.set_cons_zero, List.getElem_toArray, List.getElem_cons_zero, List.getElem_cons_succ]
      refine hl_skip rfl (by kernel_rfl) ?_
      simp only [Act.put, List.setIfInBounds_toArray, List.set_cons_succ, List.set_cons_zero, List.getElem_toArray, List.getElem_cons_zero, List.getElem_cons_succ]
      refine hl_skip rfl (by kernel_rfl) ?_
      simp only [Act.put, List.setIfInBounds_toArray, List.set_cons_succ, List.set_cons_zero, List.getElem_toArray, List.getElem_cons_zero, List.getElem_cons_succ]
      refine hl_skip rfl (by kernel_rfl) ?_
      simp only [Act.put, List.setIfInBounds_toArray, List.set_cons_succ, List.set_cons_zero, List.getElem_toArray, List.getElem_cons_zero, List.getElem_cons_succ]
      refine hl_skip rfl (by kernel_rfl) ?_
      simp only [Act.put, List.setIfInBounds_toArray, List.set_cons_succ, List.set_cons_zero, List.getElem_toArray, List.getElem_cons_zero, List.getElem_cons_succ]
      refine hl_skip rfl (by kernel_rfl) ?_
      simp only [Act.put, List.setIfInBounds_toArray, List.set_cons_succ, List.set_cons_zero, List.getElem_toArray, List.getElem_cons_zero, List.getElem_cons_succ]
      refine hl_skip rfl (by kernel_rfl) ?_
      simp only [Act.put, List.setIfInBounds_toArray, List.set_cons_succ, List.set_cons_zero, List.getElem_toArray, List.getElem_cons_zero, List.getElem_cons_succ]
      refine hl_skip rfl (by kernel_rfl) ?_
      simp only [Act.put, List.setIfInBounds_toArray, List.set_cons_succ, List.set_cons_zero, List.getElem_toArray, List.getElem_cons_zero, List.getElem_cons_succ]
      refine hl_skip rfl (by kernel_rfl) ?_
      simp only [Act.put, List.setIfInBounds_toArray, List.set_cons_succ, List.set_cons_zero, List.getElem_toArray, List.getElem_cons_zero, List.getElem_cons_succ]
      refine hl_skip rfl (by kernel_rfl) ?_
      simp only [Act.put, List.setIfInBounds_toArray, List.set_cons_succ, List.set_cons_zero, List.getElem_toArray, List.getElem_cons_zero, List.getElem_cons_succ]
      refine hl_take ?v9 rfl (by kernel_rfl) ?y9 ?z9
      case y9 => intro W hW; have := g7; replace hW := Lib.hid hW; go_simp; try rfl
      case z9 =>
      simp only [Act.put, List.setIfInBounds_toArray, List.set_cons_succ, List.set_cons_zero, List.getElem_toArray, List.getElem_cons_zero, List.getElem_cons_succ]
      refine hl_done ?_
      have hE := Lib.hid ((fresh_at _).graft hS.out)
      obtain ⟨_, c0, c1, f0, f1⟩ := hE.out.to1.b2
      obtain ⟨_, e0, e1, _⟩ := hS.out.b2
      go_wp2_with (first
        | (at_builtin; refine wpList_append_sep ((fresh_at _).graft q5.out) rfl _ _ 36 rfl i0 (.agg #[.int .i64 0, .int .i64 0, .int .i64 0]) 24 Try.underlying36 hi0 hz0 hz1 hz2 rfl (by decide) rfl 0 [] (.inl ⟨rfl, rfl, rfl⟩) (by simp) (by simp only [maxLen]; omega) (by omega) ?_; intro a3 c3_ w7 q7; obtain ⟨_, p0, p1, pf0, pf1⟩ := (q7.bring 2 rfl).b2; replace q7 := Lib.hid q7; clear k0 k1 kf0 kf1)
        | (at_builtin; refine wpList_append_sep hE.out rfl _ _ 36 rfl i0 (.agg #[.int .i64 0, .int .i64 0, .int .i64 0]) 24 Try.underlying36 hi0 hz0 hz1 hz2 rfl (by decide) rfl 0 [] (.inl ⟨rfl, rfl, rfl⟩) (by simp) (by simp only [maxLen]; omega) (by omega) ?_; intro a1 c1_ w5 q5; obtain ⟨_, k0, k1, kf0, kf1⟩ := q5.to1.b2; replace q5 := Lib.hid q5; clear c0 c1 f0 f1))
      go_ret2
      have h7 := (((((q7.out.bring 2 rfl).set 1 (.slice a3 0 c3_)).bring 3 rfl).tail.bring 1 rfl).bring 1 rfl)
      exact ⟨a1, c1_, rfl, (ref_close (L := []) (n := 0) rfl h7).to1⟩
  · have hT2 : T2 = T + t := by omega
    subst hT2
    have wr2 : IntKind.i64.wrap (T + t) = T + t := IntWalk.i64_in _ (by omega)
    have hS := Lib.hid (hS.set 0 (.int .i64 (T + t)))
    clear hT
    go_enter Try.func21, Try.ntmps21
    go_wp2_with fail
    clear d0 d1 df0 df1
    go_loopw [6] (fun s wr => s = .int .i64 0 ∧ Hid (Sep wr (rBlk o (T + t) (.slice none 0 0) :: aVec (.slice none 0 0) 0 [] :: rs))) (fun s _ => 0)
    case atStart => exact ⟨rfl, hS⟩
    case round =>
      clear hS
      obtain ⟨rfl, hS⟩ := hrel
      have g7 : decide ((0 : Int) < 0) = false := rfl
      go_wp2_with fail
      have hS := Lib.hid (show (fun V : World => Sep V (rBlk o (T + t) (.slice none 0 0) :: aVec (.slice none 0 0) 0 [] :: rs)) _ from hS.out.drew)
      refine hl_begin (fun V : World => Sep V (rBlk o (T + t) (.slice none 0 0) :: aVec (.slice none 0 0) 0 [] :: rs)) [(0, true), (1, true), (2, true), (3, true), (4, true), (5, true), (6, true), (7, true), (8, true), (9, true), (10, true), (11, true), (12, true), (13, true), (14, true), (15, true), (16, true), (17, true), (18, true), (19, true), (20, true), (21, true)] (by kernel_rfl) (by kernel_rfl) (by kernel_rfl) rfl (fun _ _ _ _ _ h => h) hS.out ?_
      change HL _ _ _ _ _ _ (World.drew _)
      generalize World.drew _ = wd at *
      refine hl_take ?v10 rfl (by kernel_rfl) ?y10 ?z10
      case y10 => intro W hW; have := g7; replace hW := Lib.hid hW; go_simp; try rfl
      case z10 =>
      simp only [Act.put, List.setIfInBounds_toArray, List.set_cons_succ, List.set_cons_zero, List.getElem_toArray, List.getElem_cons_zero]
      refine hl_take ?v11 rfl (by kernel_rfl) ?y11 ?z11
      case y11 => intro W hW; have := g7; replace hW := Lib.hid hW; go_simp; try rfl
      case z11 =>
      simp only [Act.put, List.setIfInBounds_toArray, List.set_cons_succ, List.set_cons_zero, List.getElem_toArray, List.getElem_cons_zero, List.getElem_cons_succ]
      refine hl_take ?v12 rfl (by kernel_rfl) ?y12 ?z12
      case y12 => intro W hW; have := g7; replace hW := Lib.hid hW; go_simp; try rfl
      case z12 =>
      simp only [Act.put, List.setIfInBounds_toArray, List.set_cons_succ, List.set_cons_zero, List.getElem_toArray, List.getElem_cons_zero, List.getElem_cons_succ]
      refine hl_take ?v13 rfl (by kernel_rfl) ?y13 ?z13
      case y13 => intro W hW; have := g7; replace hW := Lib.hid hW; go_simp; try rfl
      case z13 =>
      simp only [Act.put, List.setIfInBounds_toArray, List.set_cons_succ, List.set_cons_zero, List.getElem_toArray, List.getElem_cons_zero, List.getElem_cons_succ]
      refine hl_take ?v14 rfl (by kernel_rfl) ?y14 ?z14
      case y14 => intro W hW; obtain ⟨_, c0, c1, _⟩ := (show Sep _ _ from hW).b2; replace hW := Lib.hid hW; go_simp; try rfl
      case z14 =>
      simp only [Act.put, List.setIfInBounds_toArray, List.set_cons_succ, List.set_cons_zero, List.getElem_toArray, List.getElem_cons_zero, List.getElem_cons_succ]
      refine hl_take ?v15 rfl (by kernel_rfl) ?y15 ?z15
      case y15 => intro W hW; have := g7; replace hW := Lib.hid hW; go_simp; try rfl
      case z15 =>
      simp only [Act.put, List.setIfInBounds_toArray, List.set_cons_succ, List.set_cons_zero, List.getElem_toArray, List.getElem_cons_zero, List.getElem_cons_succ]
      refine hl_take ?v16 rfl (by kernel_rfl) ?y16 ?z16
      case y16 => intro W hW; have := g7; replace hW := Lib.hid hW; go_simp; try rfl
      case z16 =>
      simp only [Act.put, List.setIfInBounds_toArray, List.set_cons_succ, List.set_cons_zero, List.getElem_toArray, List.getElem_cons_zero, List.getElem_cons_succ]
      refine hl_take ?v17 rfl (by kernel_rfl) ?y17 ?z17
      case y17 => intro W hW; have := g7; replace hW := Lib.hid hW; go_simp; try rfl
      case z17 =>
      simp only [Act.put, List.setIfInBounds_toArray, List.set_cons_succ, List.set_cons_zero, List.getElem_toArray, List.getElem_cons_zero, List.getElem_cons_succ]
      refine hl_skip rfl (by kernel_rfl) ?_
      simp only [Act.put, List.setIfInBounds_toArray, List.set_cons_succ, List.set_cons_zero, List.getElem_toArray, List.getElem_cons_zero, List.getElem_cons_succ]
      refine hl_skip rfl (by kernel_rfl) ?_
      simp only [Act.put, List.setIfInBounds_toArray, List.set_cons_succ, List.set_cons_zero, List.getElem_toArray, List.getElem_cons_zero, List.getElem_cons_succ]
      refine hl_skip rfl (by kernel_rfl) ?_
      simp only [Act.put, List.setIfInBounds_toArray, List.set_cons_succ, List.set_cons_zero, List.getElem_toArray, List.getElem_cons_zero, List.getElem_cons_succ]
      refine hl_skip rfl (by kernel_rfl) ?_
      simp only [Act.put, List.setIfInBounds_toArray, List.set_cons_succ, List.set_cons_zero, List.getElem_toArray, List.getElem_cons_zero, List.getElem_cons_succ]
      refine hl_skip rfl (by kernel_rfl) ?_
      simp only [Act.put, List.setIfInBounds_toArray, List.set_cons_succ, List.set_cons_zero, List.getElem_toArray, List.getElem_cons_zero, List.getElem_cons_succ]
      refine hl_skip rfl (by kernel_rfl) ?_
      simp only [Act.put, List.setIfInBounds_toArray, List.set_cons_succ, List.set_cons_zero, List.getElem_toArray, List.getElem_cons_zero, List.getElem_cons_succ]
      refine hl_skip rfl (by kernel_rfl) ?_
      simp only [Act.put, List.setIfInBounds_toArray, List.set_cons_succ, List.set_cons_zero, List.getElem_toArray, List.getElem_cons_zero, List.getElem_cons_succ]
      refine hl_skip rfl (by kernel_rfl) ?_
      simp only [Act.put, List.setIfInBounds_toArray, List.set_cons_succ, List.set_cons_zero, List.getElem_toArray, List.getElem_cons_zero, List.getElem_cons_succ]
      refine hl_skip rfl (by kernel_rfl) ?_
      simp only [Act.put, List.setIfInBounds_toArray, List.set_cons_succ, List.set_cons_zero, List.getElem_toArray, List.getElem_cons_zero, List.getElem_cons_succ]
      refine hl_skip rfl (by kernel_rfl) ?_
      simp only [Act.put, List.setIfInBounds_toArray, List.set_cons_succ, List.set_cons_zero, List.getElem_toArray, List.getElem_cons_zero, List.getElem_cons_succ]
      refine hl_skip rfl (by kernel_rfl) ?_
      simp only [Act.put, List.setIfInBounds_toArray, List.set_cons_succ, List.set_cons_zero, List.getElem_toArray, List.getElem_cons_zero, List.getElem_cons_succ]
      refine hl_skip rfl (by kernel_rfl) ?_
      simp only [Act.put, List.setIfInBounds_toArray, List.set_cons_succ, List.set_cons_zero, List.getElem_toArray, List.getElem_cons_zero, List.getElem_cons_succ]
      refine hl_skip rfl (by kernel_rfl) ?_
      simp only [Act.put, List.setIfInBounds_toArray, List.set_cons_succ, List.set_cons_zero, List.getElem_toArray, List.getElem_cons_zero, List.getElem_cons_succ]
      refine hl_take ?v18 rfl (by kernel_rfl) ?y18 ?z18
      case y18 => intro W hW; have := g7; replace hW := Lib.hid hW; go_simp; try rfl
      case z18 =>
      simp only [Act.put, List.setIfInBounds_toArray, List.set_cons_succ, List.set_cons_zero, List.getElem_toArray, List.getElem_cons_zero, List.getElem_cons_succ]
      refine hl_done ?_
      have hE := Lib.hid ((fresh_at _).graft hS.out)
      obtain ⟨_, c0, c1, f0, f1⟩ := hE.out.to1.b2
      obtain ⟨_, e0, e1, _⟩ := hS.out.b2
      go_wp2_with (first
        | (at_builtin; refine wpList_append_sep ((fresh_at _).graft q5.out) rfl _ _ 36 rfl i0 (.agg #[.int .i64 0, .int .i64 0, .int .i64 0]) 24 Try.underlying36 hi0 hz0 hz1 hz2 rfl (by decide) rfl 0 [] (.inl ⟨rfl, rfl, rfl⟩) (by simp) (by simp only [maxLen]; omega) (by omega) ?_; intro a3 c3_ w7 q7; obtain ⟨_, p0, p1, pf0, pf1⟩ := (q7.bring 2 rfl).b2; replace q7 := Lib.hid q7; clear k0 k1 kf0 kf1)
        | (at_builtin; refine wpList_append_sep hE.out rfl _ _ 36 rfl i0 (.agg #[.int .i64 0, .int .i64 0, .int .i64 0]) 24 Try.underlying36 hi0 hz0 hz1 hz2 rfl (by decide) rfl 0 [] (.inl ⟨rfl, rfl, rfl⟩) (by simp) (by simp only [maxLen]; omega) (by omega) ?_; intro a1 c1_ w5 q5; obtain ⟨_, k0, k1, kf0, kf1⟩ := q5.to1.b2; replace q5 := Lib.hid q5; clear c0 c1 f0 f1))
      go_ret2
      have h7 := (((((q7.out.bring 2 rfl).set 1 (.slice a3 0 c3_)).bring 3 rfl).tail.bring 1 rfl).bring 1 rfl)
      exact ⟨a1, c1_, rfl, (ref_close (L := []) (n := 0) rfl h7).to1⟩
theorem rpass_ok (o : Nat) (T t : Int) (L : List Tm) (w : World) (rs : List Res) (hS : Sep w (refR o T L :: rs)) (hL : L.length ≤ 900) (h0 : 0 ≤ t) (h1 : t ≤ 1000) (hw0 : 0 ≤ T) (hw1 : T ≤ 9223372036854775807) :
    Calls Try.prog 21 #[.pointer (some ⟨o, 0, none⟩), .int .i64 t] w fun e w' => ∃ (a : Option Addr) (c' : Nat), e = .returned (.tuple #[.slice a (dueN (later T t) L) c', .int .i64 0]) ∧ Sep w' (aVec (.slice a (dueN (later T t) L) c') (dueN (later T t) L) (L.take (dueN (later T t) L)) :: refR o (later T t) (L.drop (dueN (later T t) L)) :: rs) := by
  obtain ⟨a, c, hS1⟩ := ref_open hS
  rcases hS1.to1.gvec.2 with ⟨hv, h0'⟩ | ⟨g, cap, cur, hv, _⟩
  · have hL0 : L = [] := List.eq_nil_of_length_eq_zero h0'
    subst hL0
    injection hv with e1 _ e3
    subst e1 e3
    have hd : dueN (later T t) [] = 0 := rfl
    rw [hd]
    exact rpass_nil o T _ t w rs hS1 h0 h1 hw0 hw1 rfl
  · injection hv with e1 _ _
    subst e1
    exact rpass_cells o g L.length c _ T _ t L w rs hS1 rfl hL h0 h1 hw0 hw1 rfl rfl
end Go.Proofs.Ytcbjgibcgalppaa
