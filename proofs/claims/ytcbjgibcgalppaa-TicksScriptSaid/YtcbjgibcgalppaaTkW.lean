/-
  The document's clock: Set. No condition beside a clock that can be read.
-/
import Derived.Test.YtcbjgibcgalppaaTkU
namespace Go.Proofs.Ytcbjgibcgalppaa
open Go.RowKit Go.Shelf
theorem rset_early (o : Nat) (T : Int) (L : List Tm) (at_ who mark : Int) (w : World) (rs : List Res) (hS : Sep w (refR o T L :: rs)) (h : at_ ≤ T) : Calls Try.prog 19 #[.pointer (some ⟨o, 0, none⟩), .int .i64 at_, .int .i64 who, .int .i64 mark] w fun e w' => e = .returned (.int .i64 2) ∧ w' = w := by
  obtain ⟨a, c, hS1⟩ := ref_open hS
  obtain ⟨_, c0, c1, _⟩ := hS1.b2
  clear hS hS1
  go_enter Try.func19, Try.ntmps19
  go_wp2_with fail
  go_ret
  exact ⟨rfl, rfl⟩
theorem rset_twice (o : Nat) (T : Int) (L : List Tm) (at_ who mark : Int) (w : World) (rs : List Res) (hS : Sep w (refR o T L :: rs)) (h : T < at_) (hk : L.any (keyB who mark) = true) (hn : L.length ≤ 900) : Calls Try.prog 19 #[.pointer (some ⟨o, 0, none⟩), .int .i64 at_, .int .i64 who, .int .i64 mark] w fun e w' => e = .returned (.int .i64 4) ∧ w' = w := by
  have HP := Lib.hid (rat_any o T L who mark w rs hS hn)
  obtain ⟨a, c, hS1⟩ := ref_open hS
  obtain ⟨_, c0, c1, _⟩ := hS1.b2
  rcases idxF_bd (keyB who mark) L 0 with ⟨_, h2⟩ | ⟨j, h1, h2, _, _⟩
  · rw [h2] at hk; cases hk
  rw [h1, Nat.zero_add] at HP
  have i1 : (0 : Int) ≤ (j : Int) := by omega
  have i0 : ¬ at_ ≤ T := by omega
  clear hS hS1 hk h1 h2
  go_enter Try.func19, Try.ntmps19
  go_wp2_with fail
  refine HP.out.mono ?_
  rintro e w1 ⟨rfl, rfl⟩
  go_wp2_with fail
  go_ret
  exact ⟨rfl, rfl⟩
set_option maxRecDepth 100000 in
set_option maxHeartbeats 4000000 in
theorem rset_new (o : Nat) (T : Int) (L : List Tm) (x0 x1 x2 : Int) (w : World) (rs : List Res) (hS : Sep w (refR o T L :: rs)) (h : T < x0) (hk : L.any (keyB x1 x2) = false) (hn : L.length ≤ 900) : Calls Try.prog 19 #[.pointer (some ⟨o, 0, none⟩), .int .i64 x0, .int .i64 x1, .int .i64 x2] w fun e w' => e = .returned (.int .i64 0) ∧ Sep w' (refR o T (insT (x0, x1, x2) L) :: rs) := by
  have HP := Lib.hid (rat_any o T L x1 x2 w rs hS hn)
  have hq : idxF (keyB x1 x2) L 0 = -1 := by
    rcases idxF_bd (keyB x1 x2) L 0 with ⟨h1, _⟩ | ⟨j, _, _, _, h2⟩
    · exact h1
    · rw [h2] at hk; cases hk
  rw [hq] at HP
  clear hk hq
  have i0' : ¬ x0 ≤ T := by omega
  obtain ⟨i0, hi0, hz0, hz1, hz2⟩ := info_parts info_at
  have hins := Lib.hid (ins_tw (x0, x1, x2) L)
  have hspec := Lib.hid (tw_spec (fun y => ltT y (x0, x1, x2)) L)
  have hlenI := Lib.hid (show (insT (x0, x1, x2) L).length = L.length + 1 from (insT_perm _ L).length_eq)
  have hmL := Lib.hid (show (L.takeWhile fun y => ltT y (x0, x1, x2)).length ≤ L.length from (List.takeWhile_sublist _).length_le)
  generalize (L.takeWhile fun y => ltT y (x0, x1, x2)).length = m at *
  generalize insT (x0, x1, x2) L = I at *
  obtain ⟨a, c, hS1⟩ := ref_open hS
  obtain ⟨n, hl⟩ : ∃ n, L.length = n := ⟨_, rfl⟩
  rw [hl] at hS1 hn hlenI hmL
  replace hl := Lib.hid hl
  have hA := Lib.hid (((hS1.alloc #[.int .i64 x0, .int .i64 x1, .int .i64 x2] 34).bring 2 rfl).bring 2 rfl)
  obtain ⟨_, d0, d1, _⟩ := hS1.b2
  rcases hS1.to1.gvec.2 with ⟨hv, h0⟩ | ⟨g, cap, cur, hv, _⟩
  · injection hv with e1 e2 e3
    subst e1 e2 e3
    have hL0 : L = [] := List.eq_nil_of_length_eq_zero hl.out
    have hI : I = [(x0, x1, x2)] := by rw [hins.out, hL0]; simp
    rw [hI]
    clear hI hins hspec hlenI hmL hS hS1 h0
    go_enter Try.func19, Try.ntmps19
    go_wp2_with fail
    refine HP.out.mono ?_
    rintro e w1 ⟨rfl, rfl⟩
    clear HP
    go_wp2_with fail
    have hS := hA
    clear hA
    generalize w1.heap.size = X at hS ⊢
    go_loopw [10] (fun s wr => s = .int .i64 0 ∧ Hid (Sep wr (rBlk o T (.slice none 0 0) :: aVec (.slice none 0 0) 0 L :: blk X 34 #[.int .i64 x0, .int .i64 x1, .int .i64 x2] :: rs))) (fun s _ => 0)
    case atStart => exact ⟨rfl, hS⟩
    case round =>
      clear hS d0 d1
      obtain ⟨rfl, hS⟩ := hrel
      have g7 : decide ((0 : Int) < 0) = false := rfl
      go_wp2_with fail
      have hS := Lib.hid (show (fun V : World => Sep V (rBlk o T (.slice none 0 0) :: aVec (.slice none 0 0) 0 L :: blk X 34 #[.int .i64 x0, .int .i64 x1, .int .i64 x2] :: rs)) _ from hS.out.drew)
      refine hl_begin (fun V : World => Sep V (rBlk o T (.slice none 0 0) :: aVec (.slice none 0 0) 0 L :: blk X 34 #[.int .i64 x0, .int .i64 x1, .int .i64 x2] :: rs)) [(0, true), (1, true), (2, true), (3, true), (4, true), (5, true), (6, true), (7, true), (8, true), (9, true), (10, true), (11, true), (12, true), (13, true), (14, true), (15, true), (16, false), (17, true)] (by kernel_rfl) (by kernel_rfl) (by kernel_rfl) rfl (fun _ _ _ _ _ h => h) hS.out ?_
      change HL _ _ _ _ _ _ (World.drew _)
      generalize World.drew _ = wd at *
      refine hl_take ?v1 rfl (by kernel_rfl) ?y1 ?z1
      case y1 => intro W hW; have := g7; replace hW := Lib.hid hW; go_simp; try rfl
      case z1 =>
      simp only [Act.put, List.setIfInBounds_toArray, List.set_cons_succ, List.set_cons_zero, List.getElem_toArray, List.getElem_cons_zero]
      refine hl_take ?v2 rfl (by kernel_rfl) ?y2 ?z2
      case y2 => intro W hW; have := g7; replace hW := Lib.hid hW; go_simp; try rfl
      case z2 =>
      simp only [Act.put, List.setIfInBounds_toArray, List.set_cons_succ, List.set_cons_zero, List.getElem_toArray, List.getElem_cons_zero, List.getElem_cons_succ]
      refine hl_take ?v3 rfl (by kernel_rfl) ?y3 ?z3
      case y3 => intro W hW; have := g7; replace hW := Lib.hid hW; go_simp; try rfl
      case z3 =>
      simp only [Act.put, List.setIfInBounds_toArray, List.set_cons_succ, List.set_cons_zero, List.getElem_toArray, List.getElem_cons_zero, List.getElem_cons_succ]
      refine hl_take ?v4 rfl (by kernel_rfl) ?y4 ?z4
      case y4 => intro W hW; have := g7; replace hW := Lib.hid hW; go_simp; try rfl
      case z4 =>
      simp only [Act.put, List.setIfInBounds_toArray, List.set_cons_succ, List.set_cons_zero, List.getElem_toArray, List.getElem_cons_zero, List.getElem_cons_succ]
      refine hl_take ?v5 rfl (by kernel_rfl) ?y5 ?z5
      case y5 => intro W hW; obtain ⟨_, c0, c1, _⟩ := (show Sep _ _ from hW).b2; obtain ⟨_, e0, e1, e2, _⟩ := ((show Sep _ _ from hW).bring 2 rfl).b3; replace hW := Lib.hid hW; go_simp; try rfl
      case z5 =>
      simp only [Act.put, List.setIfInBounds_toArray, List.set_cons_succ, List.set_cons_zero, List.getElem_toArray, List.getElem_cons_zero, List.getElem_cons_succ]
      refine hl_take ?v6 rfl (by kernel_rfl) ?y6 ?z6
      case y6 => intro W hW; have := g7; replace hW := Lib.hid hW; go_simp; try rfl
      case z6 =>
      simp only [Act.put, List.setIfInBounds_toArray, List.set_cons_succ, List.set_cons_zero, List.getElem_toArray, List.getElem_cons_zero, List.getElem_cons_succ]
      refine hl_take ?v7 rfl (by kernel_rfl) ?y7 ?z7
      case y7 => intro W hW; have := g7; replace hW := Lib.hid hW; go_simp; try rfl
      case z7 =>
      simp only [Act.put, List.setIfInBounds_toArray, List.set_cons_succ, List.set_cons_zero, List.getElem_toArray, List.getElem_cons_zero, List.getElem_cons_succ]
      refine hl_take ?v8 rfl (by kernel_rfl) ?y8 ?z8
      case y8 => intro W hW; have := g7; replace hW := Lib.hid hW; go_simp; try rfl
      case z8 =>
      simp only [Act.put, List.setIfInBounds_toArray, List.set_cons_succ, List.set_cons_zero, List.getElem_toArray, List.getElem_cons_zero, List.getElem_cons_succ]
      refine hl_skip rfl (by kernel_rfl) ?_
      simp only [Act.put, List.setIfInBounds_toArray, List.set_cons_succ, List.set_cons_zero, List.getElem_toArray, List.getElem_cons_zero, List.getElem_cons_succ]
      refine hl_skip rfl (by kernel_rfl) ?_
      simp only [Act.put, List.setIfInBounds_toArray, List.set_cons_succ, List.set_cons_zero, List.getElem_toArray, List.getElem_cons_zero, List.getElem_cons_succ]
      refine hl_skip rfl (by kernel_rfl) ?_
      simp only [Act.put, List.setIfInBounds_toArray, List.set_cons_succ, List.set_cons_zero, List.getElem_toArray, List.getElem_cons_zero, List.getElem_cons_succ]
      refine hl_skip rfl (by kernel_rfl) ?_
      simp only [Act.put, List.setIfInBounds_toArray, List.set_cons_succ, List.set_cons_zero, List.getElem_toArray, List.getElem_cons_zero, List.getElem_cons_succ]
      refine hl_skip rfl (by kernel_rfl) ?_
      simp only [Act.put, List.setIfInBounds_toArray, List.set_cons_succ, List.set_cons_zero, List.getElem_toArray, List.getElem_cons_zero, List.getElem_cons_succ]
      refine hl_skip rfl (by kernel_rfl) ?_
      simp only [Act.put, List.setIfInBounds_toArray, List.set_cons_succ, List.set_cons_zero, List.getElem_toArray, List.getElem_cons_zero, List.getElem_cons_succ]
      refine hl_skip rfl (by kernel_rfl) ?_
      simp only [Act.put, List.setIfInBounds_toArray, List.set_cons_succ, List.set_cons_zero, List.getElem_toArray, List.getElem_cons_zero, List.getElem_cons_succ]
      refine hl_skip rfl (by kernel_rfl) ?_
      simp only [Act.put, List.setIfInBounds_toArray, List.set_cons_succ, List.set_cons_zero, List.getElem_toArray, List.getElem_cons_zero, List.getElem_cons_succ]
      refine hl_skip1 rfl (by kernel_rfl) ?_
      simp only [Act.put, List.setIfInBounds_toArray, List.set_cons_succ, List.set_cons_zero, List.getElem_toArray, List.getElem_cons_zero, List.getElem_cons_succ]
      refine hl_take ?v9 rfl (by kernel_rfl) ?y9 ?z9
      case y9 => intro W hW; have := g7; replace hW := Lib.hid hW; go_simp; try rfl
      case z9 =>
      simp only [Act.put, List.setIfInBounds_toArray, List.set_cons_succ, List.set_cons_zero, List.getElem_toArray, List.getElem_cons_zero, List.getElem_cons_succ]
      refine hl_done ?_
      have hE := Lib.hid ((fresh_at _).graft hS.out)
      obtain ⟨_, c0, c1, f0, f1⟩ := hE.out.to1.b2
      obtain ⟨_, e0, e1, _⟩ := hS.out.b2
      have one1 := Lib.hid (tms_one (L.take 0))
      have one2 := Lib.hid (tms_one (L.drop 0))
      go_wp2_with (first
        | (at_builtin; refine wpList_append_sep q6.out rfl _ _ 36 rfl i0 (.agg #[.int .i64 0, .int .i64 0, .int .i64 0]) 24 Try.underlying36 hi0 hz0 hz1 hz2 rfl (by decide) rfl 0 ((L.drop 0).flatMap tC) (by rw [hL0]; exact .inl ⟨rfl, rfl, rfl⟩) one2.out (by simp only [maxLen]; omega) (by omega) ?_; intro a3 c3_ w7 q7; obtain ⟨_, p0, p1, pf0, pf1⟩ := q7.to1.b2; replace q7 := Lib.hid q7; clear m0 m1 mf0 mf1)
        | (at_builtin; refine wpList_append_sep (q5.out.allocG _) rfl _ _ 36 rfl i0 (.agg #[.int .i64 0, .int .i64 0, .int .i64 0]) 24 Try.underlying36 hi0 hz0 hz1 hz2 rfl (by decide) rfl 1 [.int .i64 x0, .int .i64 x1, .int .i64 x2] (srcA_cells _ #[.int .i64 x0, .int .i64 x1, .int .i64 x2] 34 1 3 rfl) (by simp [Value.oneCell']) (by simp only [maxLen]; omega) (by omega) ?_; intro a2 c2_ w6 q6; obtain ⟨_, m0, m1, mf0, mf1⟩ := q6.to1.b2; replace q6 := Lib.hid q6; clear k0 k1 kf0 kf1 y0 y1 y2)
        | (at_builtin; refine wpList_append_sep hE.out rfl _ _ 36 rfl i0 (.agg #[.int .i64 0, .int .i64 0, .int .i64 0]) 24 Try.underlying36 hi0 hz0 hz1 hz2 rfl (by decide) rfl 0 ((L.take 0).flatMap tC) (by rw [hL0]; exact .inl ⟨rfl, rfl, rfl⟩) one1.out (by simp only [maxLen]; omega) (by omega) ?_; intro a1 c1_ w5 q5; rw [Nat.zero_add, List.nil_append] at q5; obtain ⟨_, k0, k1, kf0, kf1⟩ := q5.to1.b2; obtain ⟨_, y0, y1, y2, _⟩ := (q5.bring 3 rfl).b3; replace q5 := Lib.hid q5; clear c0 c1 f0 f1))
      go_ret
      have h7 := q7.out.to1.set 1 (.slice a3 1 c3_)
      refine ⟨rfl, ref_close (a := a3) (n := 1) (c := c3_) rfl ?_⟩
      have h8 := (((h7.bring 2 rfl).tail).bring 2 rfl).tail
      simp [hL0] at h8
      exact h8
  injection hv with e1 e2 e3
  subst e1
  clear e2 e3
  have hc : n ≤ c := by obtain ⟨_, _, h, _⟩ := hS1.to1.vec_blk; exact h
  clear hS hS1
  have HLs := Lib.hid (fun (y : Tm) W => rless_any y (x0, x1, x2) W)
  go_enter Try.func19, Try.ntmps19
  go_wp2_with fail
  refine HP.out.mono ?_
  rintro e w1 ⟨rfl, rfl⟩
  clear HP
  go_wp2_with fail
  have hS := hA
  clear hA
  generalize w1.heap.size = X at hS ⊢
  have hlN := hl
  go_loopw [10] (fun s wr => ∃ i : Nat, i ≤ m ∧ s = .int .i64 i ∧ Hid (Sep wr (rBlk o T (.slice (some ⟨g, 0, none⟩) n c) :: aVec (.slice (some ⟨g, 0, none⟩) n c) n L :: blk X 34 #[.int .i64 x0, .int .i64 x1, .int .i64 x2] :: rs))) (fun s _ => m - (intOf s).toNat)
  case atStart => exact ⟨0, Nat.zero_le _, rfl, hS⟩
  case round =>
    clear hS d0 d1
    obtain ⟨i, him, rfl, hS⟩ := hrel
    have hsp := hspec.out i him
    have l0 : (0 : Int) ≤ (i : Int) := by omega
    have l1 : ¬ (i : Int) < 0 := by omega
    have l5 : (n : Int) ≤ (c : Int) := by omega
    cases hM : L.drop i with
    | nil =>
      rw [hM] at hsp
      simp only at hsp
      have hin : i = n := by
        have := congrArg List.length hM
        rw [List.length_drop, hl.out] at this
        have := hmL.out
        simp at *
        omega
      have hfl := Lib.hid (show (L.take i).flatMap tC ++ [.int .i64 x0, .int .i64 x1, .int .i64 x2] ++ (L.drop i).flatMap tC = I.flatMap tC by rw [hins.out, ← hsp, List.flatMap_append, List.flatMap_cons, List.append_assoc]; rfl)
      have hlen := Lib.hid (show I.length = i + 1 + (n - i) by rw [hlenI.out]; omega)
      replace hM := Lib.hid hM
      clear him hspec
      replace hsp := Lib.hid hsp
      subst hin
      have g7 : decide (i < i) = false := by simp
      have l2 : ¬ (i : Int) < (i : Int) := by omega
      have hn0 := Lib.hid (show i - i = 0 by omega)
      have hd0 := hM
      go_wp2_with fail
      have hS := Lib.hid (show (fun V : World => Sep V (rBlk o T (.slice (some ⟨g, 0, none⟩) i c) :: aVec (.slice (some ⟨g, 0, none⟩) i c) i L :: blk X 34 #[.int .i64 x0, .int .i64 x1, .int .i64 x2] :: rs)) _ from hS.out.drew)
      refine hl_begin (fun V : World => Sep V (rBlk o T (.slice (some ⟨g, 0, none⟩) i c) :: aVec (.slice (some ⟨g, 0, none⟩) i c) i L :: blk X 34 #[.int .i64 x0, .int .i64 x1, .int .i64 x2] :: rs)) [(0, true), (1, true), (2, true), (3, true), (4, true), (5, true), (6, true), (7, true), (8, true), (9, true), (10, true), (11, true), (12, true), (13, true), (14, true), (15, true), (16, false), (17, true)] (by kernel_rfl) (by kernel_rfl) (by kernel_rfl) rfl (fun _ _ _ _ _ h => h) hS.out ?_
      change HL _ _ _ _ _ _ (World.drew _)
      generalize World.drew _ = wd at *
      refine hl_take ?v10 rfl (by kernel_rfl) ?y10 ?z10
      case y10 => intro W hW; have := g7; replace hW := Lib.hid hW; go_simp; try rfl
      case z10 =>
      simp only [Act.put, List.setIfInBounds_toArray, List.set_cons_succ, List.set_cons_zero, List.getElem_toArray, List.getElem_cons_zero]
      refine hl_take ?v11 rfl (by kernel_rfl) ?y11 ?z11
      case y11 => intro W hW; have := g7; replace hW := Lib.hid hW; go_simp; try rfl
      case z11 =>
      simp only [Act.put, List.setIfInBounds_toArray, List.set_cons_succ, List.set_cons_zero, List.getElem_toArray, List.getElem_cons_zero, List.getElem_cons_succ]
      refine hl_take ?v12 rfl (by kernel_rfl) ?y12 ?z12
      case y12 => intro W hW; have := g7; replace hW := Lib.hid hW; go_simp; try rfl
      case z12 =>
      simp only [Act.put, List.setIfInBounds_toArray, List.set_cons_succ, List.set_cons_zero, List.getElem_toArray, List.getElem_cons_zero, List.getElem_cons_succ]
      refine hl_take ?v13 rfl (by kernel_rfl) ?y13 ?z13
      case y13 => intro W hW; have := g7; replace hW := Lib.hid hW; go_simp; try rfl
      case z13 =>
      simp only [Act.put, List.setIfInBounds_toArray, List.set_cons_succ, List.set_cons_zero, List.getElem_toArray, List.getElem_cons_zero, List.getElem_cons_succ]
      refine hl_take ?v14 rfl (by kernel_rfl) ?y14 ?z14
      case y14 => intro W hW; obtain ⟨_, c0, c1, _⟩ := (show Sep _ _ from hW).b2; obtain ⟨_, e0, e1, e2, _⟩ := ((show Sep _ _ from hW).bring 2 rfl).b3; replace hW := Lib.hid hW; go_simp; try rfl
      case z14 =>
      simp only [Act.put, List.setIfInBounds_toArray, List.set_cons_succ, List.set_cons_zero, List.getElem_toArray, List.getElem_cons_zero, List.getElem_cons_succ]
      refine hl_take ?v15 rfl (by kernel_rfl) ?y15 ?z15
      case y15 => intro W hW; have := g7; replace hW := Lib.hid hW; go_simp; try rfl
      case z15 =>
      simp only [Act.put, List.setIfInBounds_toArray, List.set_cons_succ, List.set_cons_zero, List.getElem_toArray, List.getElem_cons_zero, List.getElem_cons_succ]
      refine hl_take ?v16 rfl (by kernel_rfl) ?y16 ?z16
      case y16 => intro W hW; have := g7; replace hW := Lib.hid hW; go_simp; try rfl
      case z16 =>
      simp only [Act.put, List.setIfInBounds_toArray, List.set_cons_succ, List.set_cons_zero, List.getElem_toArray, List.getElem_cons_zero, List.getElem_cons_succ]
      refine hl_take ?v17 rfl (by kernel_rfl) ?y17 ?z17
      case y17 => intro W hW; have := g7; replace hW := Lib.hid hW; go_simp; try rfl
      case z17 =>
      simp only [Act.put, List.setIfInBounds_toArray, List.set_cons_succ, List.set_cons_zero, List.getElem_toArray, List.getElem_cons_zero, List.getElem_cons_succ]
      refine hl_skip rfl (by kernel_rfl) ?_
      simp only [Act.put, List.setIfInBounds_toArray, List.set_cons_succ, List.set_cons_zero, List.getElem_toArray, List.getElem_cons_zero, List.getElem_cons_succ]
      refine hl_skip rfl (by kernel_rfl) ?_
      simp only [Act.put, List.setIfInBounds_toArray, List.set_cons_succ, List.set_cons_zero, List.getElem_toArray, List.getElem_cons_zero, List.getElem_cons_succ]
      refine hl_skip rfl (by kernel_rfl) ?_
      simp only [Act.put, List.setIfInBounds_toArray, List.set_cons_succ, List.set_cons_zero, List.getElem_toArray, List.getElem_cons_zero, List.getElem_cons_succ]
      refine hl_skip rfl (by kernel_rfl) ?_
      simp only [Act.put, List.setIfInBounds_toArray, List.set_cons_succ, List.set_cons_zero, List.getElem_toArray, List.getElem_cons_zero, List.getElem_cons_succ]
      refine hl_skip rfl (by kernel_rfl) ?_
      simp only [Act.put, List.setIfInBounds_toArray, List.set_cons_succ, List.set_cons_zero, List.getElem_toArray, List.getElem_cons_zero, List.getElem_cons_succ]
      refine hl_skip rfl (by kernel_rfl) ?_
      simp only [Act.put, List.setIfInBounds_toArray, List.set_cons_succ, List.set_cons_zero, List.getElem_toArray, List.getElem_cons_zero, List.getElem_cons_succ]
      refine hl_skip rfl (by kernel_rfl) ?_
      simp only [Act.put, List.setIfInBounds_toArray, List.set_cons_succ, List.set_cons_zero, List.getElem_toArray, List.getElem_cons_zero, List.getElem_cons_succ]
      refine hl_skip rfl (by kernel_rfl) ?_
      simp only [Act.put, List.setIfInBounds_toArray, List.set_cons_succ, List.set_cons_zero, List.getElem_toArray, List.getElem_cons_zero, List.getElem_cons_succ]
      refine hl_skip1 rfl (by kernel_rfl) ?_
      simp only [Act.put, List.setIfInBounds_toArray, List.set_cons_succ, List.set_cons_zero, List.getElem_toArray, List.getElem_cons_zero, List.getElem_cons_succ]
      refine hl_take ?v18 rfl (by kernel_rfl) ?y18 ?z18
      case y18 => intro W hW; have := g7; replace hW := Lib.hid hW; go_simp; try rfl
      case z18 =>
      simp only [Act.put, List.setIfInBounds_toArray, List.set_cons_succ, List.set_cons_zero, List.getElem_toArray, List.getElem_cons_zero, List.getElem_cons_succ]
      refine hl_done ?_
      by_cases hic : i = c
      · subst hic
        have hE := Lib.hid ((fresh_at _).graft hS.out)
        obtain ⟨_, c0, c1, f0, f1⟩ := hE.out.to1.b2
        obtain ⟨_, e0, e1, _⟩ := hS.out.b2
        have one1 := Lib.hid (tms_one (L.take i))
        have one2 := Lib.hid (tms_one (L.drop i))
        go_wp2_with (first
          | (at_builtin; refine wpList_append_sep q6.out rfl _ _ 36 rfl i0 (.agg #[.int .i64 0, .int .i64 0, .int .i64 0]) 24 Try.underlying36 hi0 hz0 hz1 hz2 rfl (by decide) rfl (i - i) ((L.drop i).flatMap tC) (by rw [hn0.out, hd0.out]; exact src_end) one2.out (by simp only [maxLen]; omega) (by omega) ?_; intro a3 c3_ w7 q7; obtain ⟨_, p0, p1, pf0, pf1⟩ := q7.to1.b2; replace q7 := Lib.hid q7; clear m0 m1 mf0 mf1)
          | (at_builtin; refine wpList_append_sep (q5.out.allocG _) rfl _ _ 36 rfl i0 (.agg #[.int .i64 0, .int .i64 0, .int .i64 0]) 24 Try.underlying36 hi0 hz0 hz1 hz2 rfl (by decide) rfl 1 [.int .i64 x0, .int .i64 x1, .int .i64 x2] (srcA_cells _ #[.int .i64 x0, .int .i64 x1, .int .i64 x2] 34 1 3 rfl) (by simp [Value.oneCell']) (by simp only [maxLen]; omega) (by omega) ?_; intro a2 c2_ w6 q6; obtain ⟨_, m0, m1, mf0, mf1⟩ := q6.to1.b2; replace q6 := Lib.hid q6; clear k0 k1 kf0 kf1 y0 y1 y2)
          | (at_builtin; refine wpList_append_sep hE.out rfl _ _ 36 rfl i0 (.agg #[.int .i64 0, .int .i64 0, .int .i64 0]) 24 Try.underlying36 hi0 hz0 hz1 hz2 rfl (by decide) rfl i ((L.take i).flatMap tC) (src_pre hE.out.to2 hl.out i _ (by omega)) one1.out (by simp only [maxLen]; omega) (by omega) ?_; intro a1 c1_ w5 q5; rw [Nat.zero_add, List.nil_append] at q5; obtain ⟨_, k0, k1, kf0, kf1⟩ := q5.to1.b2; obtain ⟨_, y0, y1, y2, _⟩ := (q5.bring 3 rfl).b3; replace q5 := Lib.hid q5; clear c0 c1 f0 f1))
        go_ret
        have h6 := q7.out
        rw [hn0.out, Nat.add_zero] at h6
        have h7 := h6.to1.set 1 (.slice a3 (i + 1) c3_)
        rw [hfl.out] at h7
        refine ⟨rfl, ref_close (by rw [hlen.out, hn0.out]) ((((h7.bring 2 rfl).tail).bring 2 rfl).tail)⟩
      · skip
        have hE := Lib.hid ((fresh_at _).graft hS.out)
        obtain ⟨_, c0, c1, f0, f1⟩ := hE.out.to1.b2
        obtain ⟨_, e0, e1, _⟩ := hS.out.b2
        have one1 := Lib.hid (tms_one (L.take i))
        have one2 := Lib.hid (tms_one (L.drop i))
        go_wp2_with (first
          | (at_builtin; refine wpList_append_sep q6.out rfl _ _ 36 rfl i0 (.agg #[.int .i64 0, .int .i64 0, .int .i64 0]) 24 Try.underlying36 hi0 hz0 hz1 hz2 rfl (by decide) rfl (i - i) ((L.drop i).flatMap tC) (by rw [hn0.out, hd0.out]; exact src_end) one2.out (by simp only [maxLen]; omega) (by omega) ?_; intro a3 c3_ w7 q7; obtain ⟨_, p0, p1, pf0, pf1⟩ := q7.to1.b2; replace q7 := Lib.hid q7; clear m0 m1 mf0 mf1)
          | (at_builtin; refine wpList_append_sep (q5.out.allocG _) rfl _ _ 36 rfl i0 (.agg #[.int .i64 0, .int .i64 0, .int .i64 0]) 24 Try.underlying36 hi0 hz0 hz1 hz2 rfl (by decide) rfl 1 [.int .i64 x0, .int .i64 x1, .int .i64 x2] (srcA_cells _ #[.int .i64 x0, .int .i64 x1, .int .i64 x2] 34 1 3 rfl) (by simp [Value.oneCell']) (by simp only [maxLen]; omega) (by omega) ?_; intro a2 c2_ w6 q6; obtain ⟨_, m0, m1, mf0, mf1⟩ := q6.to1.b2; replace q6 := Lib.hid q6; clear k0 k1 kf0 kf1 y0 y1 y2)
          | (at_builtin; refine wpList_append_sep hE.out rfl _ _ 36 rfl i0 (.agg #[.int .i64 0, .int .i64 0, .int .i64 0]) 24 Try.underlying36 hi0 hz0 hz1 hz2 rfl (by decide) rfl i ((L.take i).flatMap tC) (src_pre hE.out.to2 hl.out i _ (by omega)) one1.out (by simp only [maxLen]; omega) (by omega) ?_; intro a1 c1_ w5 q5; rw [Nat.zero_add, List.nil_append] at q5; obtain ⟨_, k0, k1, kf0, kf1⟩ := q5.to1.b2; obtain ⟨_, y0, y1, y2, _⟩ := (q5.bring 3 rfl).b3; replace q5 := Lib.hid q5; clear c0 c1 f0 f1))
        go_ret
        have h6 := q7.out
        rw [hn0.out, Nat.add_zero] at h6
        have h7 := h6.to1.set 1 (.slice a3 (i + 1) c3_)
        rw [hfl.out] at h7
        refine ⟨rfl, ref_close (by rw [hlen.out, hn0.out]) ((((h7.bring 2 rfl).tail).bring 2 rfl).tail)⟩
    | cons y M =>
      rw [hM] at hsp
      simp only at hsp
      have hiL0 : i < L.length := by
        rcases Nat.lt_or_ge i L.length with h | h
        · exact h
        · rw [List.drop_eq_nil_of_le h] at hM; cases hM
      have hgy0 : gt_ L i = y := by
        rw [List.drop_eq_getElem_cons hiL0] at hM
        injection hM with h1 _
        simp [gt_, List.getD_eq_getElem?_getD, hiL0, h1]
      have hin : i < n := by rw [← hl.out]; exact hiL0
      have hiL := Lib.hid hiL0
      have hgy := Lib.hid hgy0
      have g7 : decide (i < n) = true := decide_eq_true hin
      have l2 : (i : Int) < (n : Int) := by omega
      have l3 : (i : Int) ≤ (c : Int) := by omega
      have l4 : (i : Int) ≤ (n : Int) := by omega
      have hic : ¬ i = c := by omega
      have hlen := Lib.hid (show I.length = i + 1 + (n - i) by rw [hlenI.out]; omega)
      obtain ⟨y0_, y1_, y2_⟩ := y
      have HLs := Lib.hid (fun W => HLs.out (y0_, y1_, y2_) W)
      simp only [tV] at HLs
      clear hgy0 hiL0
      replace hM := Lib.hid hM
      cases hlt : ltT (y0_, y1_, y2_) (x0, x1, x2) with
      | true =>
        rw [hlt] at HLs hsp
        rw [if_pos rfl] at hsp
        clear hlt hspec
        go_wp2_with fail
        have hS := Lib.hid (show (fun V : World => Sep V (rBlk o T (.slice (some ⟨g, 0, none⟩) n c) :: aVec (.slice (some ⟨g, 0, none⟩) n c) n L :: blk X 34 #[.int .i64 x0, .int .i64 x1, .int .i64 x2] :: rs)) _ from hS.out.drew)
        refine hl_begin (fun V : World => Sep V (rBlk o T (.slice (some ⟨g, 0, none⟩) n c) :: aVec (.slice (some ⟨g, 0, none⟩) n c) n L :: blk X 34 #[.int .i64 x0, .int .i64 x1, .int .i64 x2] :: rs)) [(0, true), (1, true), (2, true), (3, true), (4, true), (5, true), (6, true), (7, true), (8, true), (9, true), (10, true), (11, true), (12, true), (13, true), (14, true), (15, true), (16, false), (17, true)] (by kernel_rfl) (by kernel_rfl) (by kernel_rfl) rfl (fun _ _ _ _ _ h => h) hS.out ?_
        change HL _ _ _ _ _ _ (World.drew _)
        generalize World.drew _ = wd at *
        refine hl_take ?v19 rfl (by kernel_rfl) ?y19 ?z19
        case y19 => intro W hW; have := g7; replace hW := Lib.hid hW; go_simp; try rfl
        case z19 =>
        simp only [Act.put, List.setIfInBounds_toArray, List.set_cons_succ, List.set_cons_zero, List.getElem_toArray, List.getElem_cons_zero]
        refine hl_take ?v20 rfl (by kernel_rfl) ?y20 ?z20
        case y20 => intro W hW; have := g7; replace hW := Lib.hid hW; go_simp; try rfl
        case z20 =>
        simp only [Act.put, List.setIfInBounds_toArray, List.set_cons_succ, List.set_cons_zero, List.getElem_toArray, List.getElem_cons_zero, List.getElem_cons_succ]
        refine hl_take ?v21 rfl (by kernel_rfl) ?y21 ?z21
        case y21 => intro W hW; have := g7; replace hW := Lib.hid hW; go_simp; try rfl
        case z21 =>
        simp only [Act.put, List.setIfInBounds_toArray, List.set_cons_succ, List.set_cons_zero, List.getElem_toArray, List.getElem_cons_zero, List.getElem_cons_succ]
        refine hl_take ?v22 rfl (by kernel_rfl) ?y22 ?z22
        case y22 => intro W hW; have := g7; replace hW := Lib.hid hW; go_simp; try rfl
        case z22 =>
        simp only [Act.put, List.setIfInBounds_toArray, List.set_cons_succ, List.set_cons_zero, List.getElem_toArray, List.getElem_cons_zero, List.getElem_cons_succ]
        refine hl_take ?v23 rfl (by kernel_rfl) ?y23 ?z23
        case y23 => intro W hW; obtain ⟨_, c0, c1, _⟩ := (show Sep _ _ from hW).b2; obtain ⟨_, e0, e1, e2, _⟩ := ((show Sep _ _ from hW).bring 2 rfl).b3; obtain ⟨⟨z0, z1, z2⟩, _⟩ := (show Sep _ _ from hW).to1.aAt i hiL.out; rw [hgy.out] at z0 z1 z2; simp only at z0 z1 z2; replace hW := Lib.hid hW; go_simp; try rfl
        case z23 =>
        simp only [Act.put, List.setIfInBounds_toArray, List.set_cons_succ, List.set_cons_zero, List.getElem_toArray, List.getElem_cons_zero, List.getElem_cons_succ]
        refine hl_take ?v24 rfl (by kernel_rfl) ?y24 ?z24
        case y24 => intro W hW; have := g7; replace hW := Lib.hid hW; go_simp; try rfl
        case z24 =>
        simp only [Act.put, List.setIfInBounds_toArray, List.set_cons_succ, List.set_cons_zero, List.getElem_toArray, List.getElem_cons_zero, List.getElem_cons_succ]
        refine hl_take ?v25 rfl (by kernel_rfl) ?y25 ?z25
        case y25 => intro W hW; have := g7; replace hW := Lib.hid hW; go_simp; try rfl
        case z25 =>
        simp only [Act.put, List.setIfInBounds_toArray, List.set_cons_succ, List.set_cons_zero, List.getElem_toArray, List.getElem_cons_zero, List.getElem_cons_succ]
        refine hl_take ?v26 rfl (by kernel_rfl) ?y26 ?z26
        case y26 => intro W hW; have := g7; replace hW := Lib.hid hW; go_simp; try rfl
        case z26 =>
        simp only [Act.put, List.setIfInBounds_toArray, List.set_cons_succ, List.set_cons_zero, List.getElem_toArray, List.getElem_cons_zero, List.getElem_cons_succ]
        refine hl_take ?v27 rfl (by kernel_rfl) ?y27 ?z27
        case y27 => intro W hW; have := g7; replace hW := Lib.hid hW; go_simp; try rfl
        case z27 =>
        simp only [Act.put, List.setIfInBounds_toArray, List.set_cons_succ, List.set_cons_zero, List.getElem_toArray, List.getElem_cons_zero, List.getElem_cons_succ]
        refine hl_take ?v28 rfl (by kernel_rfl) ?y28 ?z28
        case y28 => intro W hW; have := g7; replace hW := Lib.hid hW; go_simp; try rfl
        case z28 =>
        simp only [Act.put, List.setIfInBounds_toArray, List.set_cons_succ, List.set_cons_zero, List.getElem_toArray, List.getElem_cons_zero, List.getElem_cons_succ]
        refine hl_take ?v29 rfl (by kernel_rfl) ?y29 ?z29
        case y29 => intro W hW; have := g7; replace hW := Lib.hid hW; go_simp; try rfl
        case z29 =>
        simp only [Act.put, List.setIfInBounds_toArray, List.set_cons_succ, List.set_cons_zero, List.getElem_toArray, List.getElem_cons_zero, List.getElem_cons_succ]
        refine hl_take ?v30 rfl (by kernel_rfl) ?y30 ?z30
        case y30 => intro W hW; obtain ⟨_, c0, c1, _⟩ := (show Sep _ _ from hW).b2; obtain ⟨_, e0, e1, e2, _⟩ := ((show Sep _ _ from hW).bring 2 rfl).b3; obtain ⟨⟨z0, z1, z2⟩, _⟩ := (show Sep _ _ from hW).to1.aAt i hiL.out; rw [hgy.out] at z0 z1 z2; simp only at z0 z1 z2; replace hW := Lib.hid hW; go_simp; try rfl
        case z30 =>
        simp only [Act.put, List.setIfInBounds_toArray, List.set_cons_succ, List.set_cons_zero, List.getElem_toArray, List.getElem_cons_zero, List.getElem_cons_succ]
        refine hl_take ?v31 rfl (by kernel_rfl) ?y31 ?z31
        case y31 => intro W hW; have := g7; replace hW := Lib.hid hW; go_simp; try rfl
        case z31 =>
        simp only [Act.put, List.setIfInBounds_toArray, List.set_cons_succ, List.set_cons_zero, List.getElem_toArray, List.getElem_cons_zero, List.getElem_cons_succ]
        refine hl_take ?v32 rfl (by kernel_rfl) ?y32 ?z32
        case y32 => intro W hW; have := g7; replace hW := Lib.hid hW; go_simp; try rfl
        case z32 =>
        simp only [Act.put, List.setIfInBounds_toArray, List.set_cons_succ, List.set_cons_zero, List.getElem_toArray, List.getElem_cons_zero, List.getElem_cons_succ]
        refine hl_take ?v33 rfl (by kernel_rfl) ?y33 ?z33
        case y33 => intro W hW; obtain ⟨_, c0, c1, _⟩ := (show Sep _ _ from hW).b2; obtain ⟨_, e0, e1, e2, _⟩ := ((show Sep _ _ from hW).bring 2 rfl).b3; obtain ⟨⟨z0, z1, z2⟩, _⟩ := (show Sep _ _ from hW).to1.aAt i hiL.out; rw [hgy.out] at z0 z1 z2; simp only at z0 z1 z2; replace hW := Lib.hid hW; go_simp; try rfl
        case z33 =>
        simp only [Act.put, List.setIfInBounds_toArray, List.set_cons_succ, List.set_cons_zero, List.getElem_toArray, List.getElem_cons_zero, List.getElem_cons_succ]
        refine hl_take ?v34 rfl (by kernel_rfl) ?y34 ?z34
        case y34 => intro W hW; obtain ⟨_, c0, c1, _⟩ := (show Sep _ _ from hW).b2; obtain ⟨_, e0, e1, e2, _⟩ := ((show Sep _ _ from hW).bring 2 rfl).b3; obtain ⟨⟨z0, z1, z2⟩, _⟩ := (show Sep _ _ from hW).to1.aAt i hiL.out; rw [hgy.out] at z0 z1 z2; simp only at z0 z1 z2; replace hW := Lib.hid hW; go_simp; try rfl
        case z34 =>
        simp only [Act.put, List.setIfInBounds_toArray, List.set_cons_succ, List.set_cons_zero, List.getElem_toArray, List.getElem_cons_zero, List.getElem_cons_succ]
        refine hl_one rfl (by kernel_rfl) (fun K hK => ?_)
        go_simp
        refine (HLs.out _).mono ?_
        rintro e w5 ⟨rfl, b5⟩
        replace hS := Lib.hid ((show Sep _ _ from hS.out).below b5)
        clear b5
        refine hK.out _ _ hS.out ?_
        clear hK K
        try simp only [Act.put, List.setIfInBounds_toArray, List.set_cons_succ, List.set_cons_zero, List.getElem_toArray, List.getElem_cons_zero, List.getElem_cons_succ]
        refine hl_take ?v35 rfl (by kernel_rfl) ?y35 ?z35
        case y35 => intro W hW; have := g7; replace hW := Lib.hid hW; go_simp; try rfl
        case z35 =>
        simp only [Act.put, List.setIfInBounds_toArray, List.set_cons_succ, List.set_cons_zero, List.getElem_toArray, List.getElem_cons_zero, List.getElem_cons_succ]
        refine hl_done ?_
        go_wp2_with fail
        go_roundw
        case rel => exact ⟨i + 1, by omega, by go_num, hS⟩
        case measure => simp [intOf]; omega
      | false =>
        rw [hlt] at HLs hsp
        rw [if_neg (by simp)] at hsp
        have hfl := Lib.hid (show (L.take i).flatMap tC ++ [.int .i64 x0, .int .i64 x1, .int .i64 x2] ++ (L.drop i).flatMap tC = I.flatMap tC by rw [hins.out, ← hsp, List.flatMap_append, List.flatMap_cons, List.append_assoc]; rfl)
        replace hsp := Lib.hid hsp
        clear hlt hspec him
        go_wp2_with fail
        have hS := Lib.hid (show (fun V : World => Sep V (rBlk o T (.slice (some ⟨g, 0, none⟩) n c) :: aVec (.slice (some ⟨g, 0, none⟩) n c) n L :: blk X 34 #[.int .i64 x0, .int .i64 x1, .int .i64 x2] :: rs)) _ from hS.out.drew)
        refine hl_begin (fun V : World => Sep V (rBlk o T (.slice (some ⟨g, 0, none⟩) n c) :: aVec (.slice (some ⟨g, 0, none⟩) n c) n L :: blk X 34 #[.int .i64 x0, .int .i64 x1, .int .i64 x2] :: rs)) [(0, true), (1, true), (2, true), (3, true), (4, true), (5, true), (6, true), (7, true), (8, true), (9, true), (10, true), (11, true), (12, true), (13, true), (14, true), (15, true), (16, false), (17, true)] (by kernel_rfl) (by kernel_rfl) (by kernel_rfl) rfl (fun _ _ _ _ _ h => h) hS.out ?_
        change HL _ _ _ _ _ _ (World.drew _)
        generalize World.drew _ = wd at *
        refine hl_take ?v36 rfl (by kernel_rfl) ?y36 ?z36
        case y36 => intro W hW; have := g7; replace hW := Lib.hid hW; go_simp; try rfl
        case z36 =>
        simp only [Act.put, List.setIfInBounds_toArray, List.set_cons_succ, List.set_cons_zero, List.getElem_toArray, List.getElem_cons_zero]
        refine hl_take ?v37 rfl (by kernel_rfl) ?y37 ?z37
        case y37 => intro W hW; have := g7; replace hW := Lib.hid hW; go_simp; try rfl
        case z37 =>
        simp only [Act.put, List.setIfInBounds_toArray, List.set_cons_succ, List.set_cons_zero, List.getElem_toArray, List.getElem_cons_zero, List.getElem_cons_succ]
        refine hl_take ?v38 rfl (by kernel_rfl) ?y38 ?z38
        case y38 => intro W hW; have := g7; replace hW := Lib.hid hW; go_simp; try rfl
        case z38 =>
        simp only [Act.put, List.setIfInBounds_toArray, List.set_cons_succ, List.set_cons_zero, List.getElem_toArray, List.getElem_cons_zero, List.getElem_cons_succ]
        refine hl_take ?v39 rfl (by kernel_rfl) ?y39 ?z39
        case y39 => intro W hW; have := g7; replace hW := Lib.hid hW; go_simp; try rfl
        case z39 =>
        simp only [Act.put, List.setIfInBounds_toArray, List.set_cons_succ, List.set_cons_zero, List.getElem_toArray, List.getElem_cons_zero, List.getElem_cons_succ]
        refine hl_take ?v40 rfl (by kernel_rfl) ?y40 ?z40
        case y40 => intro W hW; obtain ⟨_, c0, c1, _⟩ := (show Sep _ _ from hW).b2; obtain ⟨_, e0, e1, e2, _⟩ := ((show Sep _ _ from hW).bring 2 rfl).b3; obtain ⟨⟨z0, z1, z2⟩, _⟩ := (show Sep _ _ from hW).to1.aAt i hiL.out; rw [hgy.out] at z0 z1 z2; simp only at z0 z1 z2; replace hW := Lib.hid hW; go_simp; try rfl
        case z40 =>
        simp only [Act.put, List.setIfInBounds_toArray, List.set_cons_succ, List.set_cons_zero, List.getElem_toArray, List.getElem_cons_zero, List.getElem_cons_succ]
        refine hl_take ?v41 rfl (by kernel_rfl) ?y41 ?z41
        case y41 => intro W hW; have := g7; replace hW := Lib.hid hW; go_simp; try rfl
        case z41 =>
        simp only [Act.put, List.setIfInBounds_toArray, List.set_cons_succ, List.set_cons_zero, List.getElem_toArray, List.getElem_cons_zero, List.getElem_cons_succ]
        refine hl_take ?v42 rfl (by kernel_rfl) ?y42 ?z42
        case y42 => intro W hW; have := g7; replace hW := Lib.hid hW; go_simp; try rfl
        case z42 =>
        simp only [Act.put, List.setIfInBounds_toArray, List.set_cons_succ, List.set_cons_zero, List.getElem_toArray, List.getElem_cons_zero, List.getElem_cons_succ]
        refine hl_take ?v43 rfl (by kernel_rfl) ?y43 ?z43
        case y43 => intro W hW; have := g7; replace hW := Lib.hid hW; go_simp; try rfl
        case z43 =>
        simp only [Act.put, List.setIfInBounds_toArray, List.set_cons_succ, List.set_cons_zero, List.getElem_toArray, List.getElem_cons_zero, List.getElem_cons_succ]
        refine hl_take ?v44 rfl (by kernel_rfl) ?y44 ?z44
        case y44 => intro W hW; have := g7; replace hW := Lib.hid hW; go_simp; try rfl
        case z44 =>
        simp only [Act.put, List.setIfInBounds_toArray, List.set_cons_succ, List.set_cons_zero, List.getElem_toArray, List.getElem_cons_zero, List.getElem_cons_succ]
        refine hl_take ?v45 rfl (by kernel_rfl) ?y45 ?z45
        case y45 => intro W hW; have := g7; replace hW := Lib.hid hW; go_simp; try rfl
        case z45 =>
        simp only [Act.put, List.setIfInBounds_toArray, List.set_cons_succ, List.set_cons_zero, List.getElem_toArray, List.getElem_cons_zero, List.getElem_cons_succ]
        refine hl_take ?v46 rfl (by kernel_rfl) ?y46 ?z46
        case y46 => intro W hW; have := g7; replace hW := Lib.hid hW; go_simp; try rfl
        case z46 =>
        simp only [Act.put, List.setIfInBounds_toArray, List.set_cons_succ, List.set_cons_zero, List.getElem_toArray, List.getElem_cons_zero, List.getElem_cons_succ]
        refine hl_take ?v47 rfl (by kernel_rfl) ?y47 ?z47
        case y47 => intro W hW; obtain ⟨_, c0, c1, _⟩ := (show Sep _ _ from hW).b2; obtain ⟨_, e0, e1, e2, _⟩ := ((show Sep _ _ from hW).bring 2 rfl).b3; obtain ⟨⟨z0, z1, z2⟩, _⟩ := (show Sep _ _ from hW).to1.aAt i hiL.out; rw [hgy.out] at z0 z1 z2; simp only at z0 z1 z2; replace hW := Lib.hid hW; go_simp; try rfl
        case z47 =>
        simp only [Act.put, List.setIfInBounds_toArray, List.set_cons_succ, List.set_cons_zero, List.getElem_toArray, List.getElem_cons_zero, List.getElem_cons_succ]
        refine hl_take ?v48 rfl (by kernel_rfl) ?y48 ?z48
        case y48 => intro W hW; have := g7; replace hW := Lib.hid hW; go_simp; try rfl
        case z48 =>
        simp only [Act.put, List.setIfInBounds_toArray, List.set_cons_succ, List.set_cons_zero, List.getElem_toArray, List.getElem_cons_zero, List.getElem_cons_succ]
        refine hl_take ?v49 rfl (by kernel_rfl) ?y49 ?z49
        case y49 => intro W hW; have := g7; replace hW := Lib.hid hW; go_simp; try rfl
        case z49 =>
        simp only [Act.put, List.setIfInBounds_toArray, List.set_cons_succ, List.set_cons_zero, List.getElem_toArray, List.getElem_cons_zero, List.getElem_cons_succ]
        refine hl_take ?v50 rfl (by kernel_rfl) ?y50 ?z50
        case y50 => intro W hW; obtain ⟨_, c0, c1, _⟩ := (show Sep _ _ from hW).b2; obtain ⟨_, e0, e1, e2, _⟩ := ((show Sep _ _ from hW).bring 2 rfl).b3; obtain ⟨⟨z0, z1, z2⟩, _⟩ := (show Sep _ _ from hW).to1.aAt i hiL.out; rw [hgy.out] at z0 z1 z2; simp only at z0 z1 z2; replace hW := Lib.hid hW; go_simp; try rfl
        case z50 =>
        simp only [Act.put, List.setIfInBounds_toArray, List.set_cons_succ, List.set_cons_zero, List.getElem_toArray, List.getElem_cons_zero, List.getElem_cons_succ]
        refine hl_take ?v51 rfl (by kernel_rfl) ?y51 ?z51
        case y51 => intro W hW; obtain ⟨_, c0, c1, _⟩ := (show Sep _ _ from hW).b2; obtain ⟨_, e0, e1, e2, _⟩ := ((show Sep _ _ from hW).bring 2 rfl).b3; obtain ⟨⟨z0, z1, z2⟩, _⟩ := (show Sep _ _ from hW).to1.aAt i hiL.out; rw [hgy.out] at z0 z1 z2; simp only at z0 z1 z2; replace hW := Lib.hid hW; go_simp; try rfl
        case z51 =>
        simp only [Act.put, List.setIfInBounds_toArray, List.set_cons_succ, List.set_cons_zero, List.getElem_toArray, List.getElem_cons_zero, List.getElem_cons_succ]
        refine hl_one rfl (by kernel_rfl) (fun K hK => ?_)
        go_simp
        refine (HLs.out _).mono ?_
        rintro e w5 ⟨rfl, b5⟩
        replace hS := Lib.hid ((show Sep _ _ from hS.out).below b5)
        clear b5
        refine hK.out _ _ hS.out ?_
        clear hK K
        try simp only [Act.put, List.setIfInBounds_toArray, List.set_cons_succ, List.set_cons_zero, List.getElem_toArray, List.getElem_cons_zero, List.getElem_cons_succ]
        refine hl_take ?v52 rfl (by kernel_rfl) ?y52 ?z52
        case y52 => intro W hW; have := g7; replace hW := Lib.hid hW; go_simp; try rfl
        case z52 =>
        simp only [Act.put, List.setIfInBounds_toArray, List.set_cons_succ, List.set_cons_zero, List.getElem_toArray, List.getElem_cons_zero, List.getElem_cons_succ]
        refine hl_done ?_
        have hE := Lib.hid ((fresh_at _).graft hS.out)
        obtain ⟨_, c0, c1, f0, f1⟩ := hE.out.to1.b2
        obtain ⟨_, e0, e1, _⟩ := hS.out.b2
        have one1 := Lib.hid (tms_one (L.take i))
        have one2 := Lib.hid (tms_one (L.drop i))
        go_wp2_with (first
          | (at_builtin; refine wpList_append_sep q6.out rfl _ _ 36 rfl i0 (.agg #[.int .i64 0, .int .i64 0, .int .i64 0]) 24 Try.underlying36 hi0 hz0 hz1 hz2 rfl (by decide) rfl (n - i) ((L.drop i).flatMap tC) (src_suf q6.out.to2 hl.out i _ (by omega)) one2.out (by simp only [maxLen]; omega) (by omega) ?_; intro a3 c3_ w7 q7; obtain ⟨_, p0, p1, pf0, pf1⟩ := q7.to1.b2; replace q7 := Lib.hid q7; clear m0 m1 mf0 mf1)
          | (at_builtin; refine wpList_append_sep (q5.out.allocG _) rfl _ _ 36 rfl i0 (.agg #[.int .i64 0, .int .i64 0, .int .i64 0]) 24 Try.underlying36 hi0 hz0 hz1 hz2 rfl (by decide) rfl 1 [.int .i64 x0, .int .i64 x1, .int .i64 x2] (srcA_cells _ #[.int .i64 x0, .int .i64 x1, .int .i64 x2] 34 1 3 rfl) (by simp [Value.oneCell']) (by simp only [maxLen]; omega) (by omega) ?_; intro a2 c2_ w6 q6; obtain ⟨_, m0, m1, mf0, mf1⟩ := q6.to1.b2; replace q6 := Lib.hid q6; clear k0 k1 kf0 kf1 y0 y1 y2)
          | (at_builtin; refine wpList_append_sep hE.out rfl _ _ 36 rfl i0 (.agg #[.int .i64 0, .int .i64 0, .int .i64 0]) 24 Try.underlying36 hi0 hz0 hz1 hz2 rfl (by decide) rfl i ((L.take i).flatMap tC) (src_pre hE.out.to2 hl.out i _ (by omega)) one1.out (by simp only [maxLen]; omega) (by omega) ?_; intro a1 c1_ w5 q5; rw [Nat.zero_add, List.nil_append] at q5; obtain ⟨_, k0, k1, kf0, kf1⟩ := q5.to1.b2; obtain ⟨_, y0, y1, y2, _⟩ := (q5.bring 3 rfl).b3; replace q5 := Lib.hid q5; clear c0 c1 f0 f1))
        go_ret
        have h7 := q7.out.to1.set 1 (.slice a3 (i + 1 + (n - i)) c3_)
        rw [hfl.out] at h7
        refine ⟨rfl, ref_close hlen.out ((((h7.bring 2 rfl).tail).bring 2 rfl).tail)⟩
end Go.Proofs.Ytcbjgibcgalppaa
