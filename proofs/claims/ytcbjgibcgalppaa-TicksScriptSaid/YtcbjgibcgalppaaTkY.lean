/-
  The document's clock: Pass. No condition beside a clock that can be read.
-/
import Derived.Test.YtcbjgibcgalppaaTkU
namespace Go.Proofs.Ytcbjgibcgalppaa
open Go.RowKit Go.Shelf
set_option maxHeartbeats 1000000 in
theorem rpass_bad (o : Nat) (n : Int) (w : World) (hn : n < 0 ∨ 1000 < n) :
    Calls Try.prog 21 #[.pointer (some ⟨o, 0, none⟩), .int .i64 n] w fun e w' => e = .returned (.tuple #[.slice none 0 0, .int .i64 2]) ∧ w' = w := by
  by_cases h0 : n < 0
  · go_enter Try.func21, Try.ntmps21
    go_wp2_with fail
    go_ret2
    exact ⟨rfl, rfl⟩
  · have h1 : 1000 < n := by omega
    go_enter Try.func21, Try.ntmps21
    go_wp2_with fail
    go_ret2
    exact ⟨rfl, rfl⟩
set_option maxRecDepth 100000 in
set_option maxHeartbeats 4000000 in
theorem rpass_cells (o g n c m : Nat) (T T2 t : Int) (L : List Tm) (w : World) (rs : List Res) (hS : Sep w (rBlk o T (.slice (some ⟨g, 0, none⟩) n c) :: aVec (.slice (some ⟨g, 0, none⟩) n c) n L :: rs)) (hl : L.length = n) (hn : n ≤ 900) (h0 : 0 ≤ t) (h1 : t ≤ 1000) (hw0 : 0 ≤ T) (hw1 : T ≤ 9223372036854775807) (hT : later T t = T2) (hm : dueN T2 L = m) :
    Calls Try.prog 21 #[.pointer (some ⟨o, 0, none⟩), .int .i64 t] w fun e w' => ∃ (a : Option Addr) (c' : Nat), e = .returned (.tuple #[.slice a m c', .int .i64 0]) ∧ Sep w' (aVec (.slice a m c') m (L.take m) :: refR o T2 (L.drop m) :: rs) := by
  obtain ⟨i0, hi0, hz0, hz1, hz2⟩ := info_parts info_at
  have hspec := Lib.hid (tw_spec (fun u : Tm => decide (u.1 ≤ T2)) L)
  have hmL := Lib.hid (dueN_le T2 L)
  unfold dueN at hm hmL
  rw [hm] at hspec hmL
  rw [hl] at hmL
  clear hm
  have hc : n ≤ c := by obtain ⟨_, _, h, _⟩ := hS.to1.vec_blk; exact h
  replace hl := Lib.hid hl
  obtain ⟨_, d0, d1, df0, df1⟩ := hS.b2
  have i1 : ¬ t < 0 := by omega
  have i2 : ¬ 1000 < t := by omega
  have wr1 : IntKind.i64.wrap (9223372036854775807 - t) = 9223372036854775807 - t := IntWalk.i64_in _ (by omega)
  unfold later at hT
  by_cases hbig : 9223372036854775807 - t < T
  · have hT2 : T2 = 9223372036854775807 := by omega
    subst hT2
    have hS := Lib.hid (hS.set 0 (.int .i64 9223372036854775807))
    clear hT
    go_enter Try.func21, Try.ntmps21
    go_wp2_with fail
    clear d0 d1 df0 df1
    go_loopw [6] (fun s wr => ∃ i : Nat, i ≤ m ∧ s = .int .i64 i ∧ Hid (Sep wr (rBlk o 9223372036854775807 (.slice (some ⟨g, 0, none⟩) n c) :: aVec (.slice (some ⟨g, 0, none⟩) n c) n L :: rs))) (fun s _ => m - (intOf s).toNat)
    case atStart => exact ⟨0, Nat.zero_le _, rfl, hS⟩
    case round =>
      clear hS
      obtain ⟨i, him, rfl, hS⟩ := hrel
      have hsp := hspec.out i him
      have l0 : (0 : Int) ≤ (i : Int) := by omega
      have l1 : ¬ (i : Int) < 0 := by omega
      have l5 : (n : Int) ≤ (c : Int) := by omega
      cases hM : L.drop i with
      | nil =>
        rw [hM] at hsp
        simp only at hsp
        have hin : i = n := by
          have := congrArg List.length hM
          rw [List.length_drop, hl.out] at this
          have := hmL.out
          simp at *
          omega
        have hlD := Lib.hid (show (L.drop i).length = n - i by rw [List.length_drop, hl.out])
        replace hM := Lib.hid hM
        clear him hspec
        subst hsp
        subst hin
        have g7 : decide (i < i) = false := by simp
        have l2 : ¬ (i : Int) < (i : Int) := by omega
        have hn0 := Lib.hid (show i - i = 0 by omega)
        have hd0 := hM
        go_wp2_with fail
        have hS := Lib.hid (show (fun V : World => Sep V (rBlk o 9223372036854775807 (.slice (some ⟨g, 0, none⟩) i c) :: aVec (.slice (some ⟨g, 0, none⟩) i c) i L :: rs)) _ from hS.out.drew)
        refine hl_begin (fun V : World => Sep V (rBlk o 9223372036854775807 (.slice (some ⟨g, 0, none⟩) i c) :: aVec (.slice (some ⟨g, 0, none⟩) i c) i L :: rs)) [(0, true), (1, true), (2, true), (3, true), (4, true), (5, true), (6, true), (7, true), (8, true), (9, true), (10, true), (11, true), (12, true), (13, true), (14, true), (15, true), (16, true), (17, true), (18, true), (19, true), (20, true), (21, true)] (by kernel_rfl) (by kernel_rfl) (by kernel_rfl) rfl (fun _ _ _ _ _ h => h) hS.out ?_
        change HL _ _ _ _ _ _ (World.drew _)
        generalize World.drew _ = wd at *
        refine hl_take ?v1 rfl (by kernel_rfl) ?y1 ?z1
        case y1 => intro W hW; have := g7; replace hW := Lib.hid hW; go_simp; try rfl
        case z1 =>
        simp only [Act.put, List.setIfInBounds_toArray, List.set_cons_succ, List.set_cons_zero, List.getElem_toArray, List.getElem_cons_zero]
        refine hl_take ?v2 rfl (by kernel_rfl) ?y2 ?z2
        case y2 => intro W hW; have := g7; replace hW := Lib.hid hW; go_simp; try rfl
        case z2 =>
        simp only [Act.put, List.setIfInBounds_toArray, List.set_cons_succ, List.set_cons_zero, List.getElem_toArray, List.getElem_cons_zero, List.getElem_cons_succ]
        refine hl_take ?v3 rfl (by kernel_rfl) ?y3 ?z3
        case y3 => intro W hW; have := g7; replace hW := Lib.hid hW; go_simp; try rfl
        case z3 =>
        simp only [Act.put, List.setIfInBounds_toArray, List.set_cons_succ, List.set_cons_zero, List.getElem_toArray, List.getElem_cons_zero, List.getElem_cons_succ]
        refine hl_take ?v4 rfl (by kernel_rfl) ?y4 ?z4
        case y4 => intro W hW; have := g7; replace hW := Lib.hid hW; go_simp; try rfl
        case z4 =>
        simp only [Act.put, List.setIfInBounds_toArray, List.set_cons_succ, List.set_cons_zero, List.getElem_toArray, List.getElem_cons_zero, List.getElem_cons_succ]
        refine hl_take ?v5 rfl (by kernel_rfl) ?y5 ?z5
        case y5 => intro W hW; obtain ⟨_, c0, c1, _⟩ := (show Sep _ _ from hW).b2; replace hW := Lib.hid hW; go_simp; try rfl
        case z5 =>
        simp only [Act.put, List.setIfInBounds_toArray, List.set_cons_succ, List.set_cons_zero, List.getElem_toArray, List.getElem_cons_zero, List.getElem_cons_succ]
        refine hl_take ?v6 rfl (by kernel_rfl) ?y6 ?z6
        case y6 => intro W hW; have := g7; replace hW := Lib.hid hW; go_simp; try rfl
        case z6 =>
        simp only [Act.put, List.setIfInBounds_toArray, List.set_cons_succ, List.set_cons_zero, List.getElem_toArray, List.getElem_cons_zero, List.getElem_cons_succ]
        refine hl_take ?v7 rfl (by kernel_rfl) ?y7 ?z7
        case y7 => intro W hW; have := g7; replace hW := Lib.hid hW; go_simp; try rfl
        case z7 =>
        simp only [Act.put, List.setIfInBounds_toArray, List.set_cons_succ, List.set_cons_zero, List.getElem_toArray, List.getElem_cons_zero, List.getElem_cons_succ]
        refine hl_take ?v8 rfl (by kernel_rfl) ?y8 ?z8
        case y8 => intro W hW; have := g7; replace hW := Lib.hid hW; go_simp; try rfl
        case z8 =>
        simp only [Act.put, List.setIfInBounds_toArray, List.set_cons_succ, List.set_cons_zero, List.getElem_toArray, List.getElem_cons_zero, List.getElem_cons_succ]
        refine hl_skip rfl (by kernel_rfl) ?_
        simp only [Act.put, List.setIfInBounds_toArray, List.set_cons_succ, List.set_cons_zero, List.getElem_toArray, List.getElem_cons_zero, List.getElem_cons_succ]
        refine hl_skip rfl (by kernel_rfl) ?_
        simp only [Act.put, List.setIfInBounds_toArray, List.set_cons_succ, List.set_cons_zero, List.getElem_toArray, List.getElem_cons_zero, List.getElem_cons_succ]
        refine hl_skip rfl (by kernel_rfl) ?_
        simp only [Act.put, List.setIfInBounds_toArray, List.set_cons_succ, List.set_cons_zero, List.getElem_toArray, List.getElem_cons_zero, List.getElem_cons_succ]
        refine hl_skip rfl (by kernel_rfl) ?_
        simp only [Act.put, List.setIfInBounds_toArray, List.set_cons_succ, List.set_cons_zero, List.getElem_toArray, List.getElem_cons_zero, List.getElem_cons_succ]
        refine hl_skip rfl (by kernel_rfl) ?_
        simp only [Act.put, List.setIfInBounds_toArray, List.set_cons_succ, List.set_cons_zero, List.getElem_toArray, List.getElem_cons_zero, List.getElem_cons_succ]
        refine hl_skip rfl (by kernel_rfl) ?_
        simp only [Act.put, List.setIfInBounds_toArray, List.set_cons_succ, List.set_cons_zero, List.getElem_toArray, List.getElem_cons_zero, List.getElem_cons_succ]
        refine hl_skip rfl (by kernel_rfl) ?_
        simp only [Act.put, List.setIfInBounds_toArray, List.set_cons_succ, List.set_cons_zero, List.getElem_toArray, List.getElem_cons_zero, List.getElem_cons_succ]
        refine hl_skip rfl (by kernel_rfl) ?_
        simp only [Act.put, List.setIfInBounds_toArray, List.set_cons_succ, List.set_cons_zero, List.getElem_toArray, List.getElem_cons_zero, List.getElem_cons_succ]
        refine hl_skip rfl (by kernel_rfl) ?_
        simp only [Act.put, List.setIfInBounds_toArray, List.set_cons_succ, List.set_cons_zero, List.getElem_toArray, List.getElem_cons_zero, List.getElem_cons_succ]
        refine hl_skip rfl (by kernel_rfl) ?_
        simp only [Act.put, List.setIfInBounds_toArray, List.set_cons_succ, List.set_cons_zero, List.getElem_toArray, List.getElem_cons_zero, List.getElem_cons_succ]
        refine hl_skip rfl (by kernel_rfl) ?_
        simp only [Act.put, List.setIfInBounds_toArray, List.set_cons_succ, List.set_cons_zero, List.getElem_toArray, List.getElem_cons_zero, List.getElem_cons_succ]
        refine hl_skip rfl (by kernel_rfl) ?_
        simp only [Act.put, List.setIfInBounds_toArray, List.set_cons_succ, List.set_cons_zero, List.getElem_toArray, List.getElem_cons_zero, List.getElem_cons_succ]
        refine hl_skip rfl (by kernel_rfl) ?_
        simp only [Act.put, List.setIfInBounds_toArray, List.set_cons_succ, List.set_cons_zero, List.getElem_toArray, List.getElem_cons_zero, List.getElem_cons_succ]
        refine hl_take ?v9 rfl (by kernel_rfl) ?y9 ?z9
        case y9 => intro W hW; have := g7; replace hW := Lib.hid hW; go_simp; try rfl
        case z9 =>
        simp only [Act.put, List.setIfInBounds_toArray, List.set_cons_succ, List.set_cons_zero, List.getElem_toArray, List.getElem_cons_zero, List.getElem_cons_succ]
        refine hl_done ?_
        by_cases hic : i = c
        · subst hic
          have hE := Lib.hid ((fresh_at _).graft hS.out)
          obtain ⟨_, c0, c1, f0, f1⟩ := hE.out.to1.b2
          obtain ⟨_, e0, e1, _⟩ := hS.out.b2
          have one1 := Lib.hid (tms_one (L.take i))
          have one2 := Lib.hid (tms_one (L.drop i))
          go_wp2_with (first
            | (at_builtin; refine wpList_append_sep ((fresh_at _).graft q5.out) rfl _ _ 36 rfl i0 (.agg #[.int .i64 0, .int .i64 0, .int .i64 0]) 24 Try.underlying36 hi0 hz0 hz1 hz2 rfl (by decide) rfl (i - i) ((L.drop i).flatMap tC) (by rw [hn0.out, hd0.out]; exact src_end) one2.out (by simp only [maxLen]; omega) (by omega) ?_; intro a3 c3_ w7 q7; rw [Nat.zero_add, List.nil_append] at q7; obtain ⟨_, p0, p1, pf0, pf1⟩ := (q7.bring 2 rfl).b2; replace q7 := Lib.hid q7; clear k0 k1 kf0 kf1)
            | (at_builtin; refine wpList_append_sep hE.out rfl _ _ 36 rfl i0 (.agg #[.int .i64 0, .int .i64 0, .int .i64 0]) 24 Try.underlying36 hi0 hz0 hz1 hz2 rfl (by decide) rfl i ((L.take i).flatMap tC) (src_pre hE.out.to2 hl.out i _ (by omega)) one1.out (by simp only [maxLen]; omega) (by omega) ?_; intro a1 c1_ w5 q5; rw [Nat.zero_add, List.nil_append] at q5; obtain ⟨_, k0, k1, kf0, kf1⟩ := q5.to1.b2; replace q5 := Lib.hid q5; clear c0 c1 f0 f1))
          go_ret2
          have h6 := q7.out
          rw [hn0.out] at h6
          have h7 := (((((h6.bring 2 rfl).set 1 (.slice a3 0 c3_)).bring 3 rfl).tail.bring 1 rfl).bring 1 rfl)
          exact ⟨a1, c1_, rfl, (ref_close (by rw [hlD.out, hn0.out]) h7).to1⟩
        · skip
          have hE := Lib.hid ((fresh_at _).graft hS.out)
          obtain ⟨_, c0, c1, f0, f1⟩ := hE.out.to1.b2
          obtain ⟨_, e0, e1, _⟩ := hS.out.b2
          have one1 := Lib.hid (tms_one (L.take i))
          have one2 := Lib.hid (tms_one (L.drop i))
          go_wp2_with (first
            | (at_builtin; refine wpList_append_sep ((fresh_at _).graft q5.out) rfl _ _ 36 rfl i0 (.agg #[.int .i64 0, .int .i64 0, .int .i64 0]) 24 Try.underlying36 hi0 hz0 hz1 hz2 rfl (by decide) rfl (i - i) ((L.drop i).flatMap tC) (by rw [hn0.out, hd0.out]; exact src_end) one2.out (by simp only [maxLen]; omega) (by omega) ?_; intro a3 c3_ w7 q7; rw [Nat.zero_add, List.nil_append] at q7; obtain ⟨_, p0, p1, pf0, pf1⟩ := (q7.bring 2 rfl).b2; replace q7 := Lib.hid q7; clear k0 k1 kf0 kf1)
            | (at_builtin; refine wpList_append_sep hE.out rfl _ _ 36 rfl i0 (.agg #[.int .i64 0, .int .i64 0, .int .i64 0]) 24 Try.underlying36 hi0 hz0 hz1 hz2 rfl (by decide) rfl i ((L.take i).flatMap tC) (src_pre hE.out.to2 hl.out i _ (by omega)) one1.out (by simp only [maxLen]; omega) (by omega) ?_; intro a1 c1_ w5 q5; rw [Nat.zero_add, List.nil_append] at q5; obtain ⟨_, k0, k1, kf0, kf1⟩ := q5.to1.b2; replace q5 := Lib.hid q5; clear c0 c1 f0 f1))
          go_ret2
          have h6 := q7.out
          rw [hn0.out] at h6
          have h7 := (((((h6.bring 2 rfl).set 1 (.slice a3 0 c3_)).bring 3 rfl).tail.bring 1 rfl).bring 1 rfl)
          exact ⟨a1, c1_, rfl, (ref_close (by rw [hlD.out, hn0.out]) h7).to1⟩
      | cons y M =>
        rw [hM] at hsp
        simp only at hsp
        have hiL0 : i < L.length := by
          rcases Nat.lt_or_ge i L.length with h | h
          · exact h
          · rw [List.drop_eq_nil_of_le h] at hM; cases hM
        have hgy0 : gt_ L i = y := by
          rw [List.drop_eq_getElem_cons hiL0] at hM
          injection hM with h1 _
          simp [gt_, List.getD_eq_getElem?_getD, hiL0, h1]
        have hin : i < n := by rw [← hl.out]; exact hiL0
        have hiL := Lib.hid hiL0
        have hgy := Lib.hid hgy0
        have g7 : decide (i < n) = true := decide_eq_true hin
        have l2 : (i : Int) < (n : Int) := by omega
        have l3 : (i : Int) ≤ (c : Int) := by omega
        have l4 : (i : Int) ≤ (n : Int) := by omega
        have hic : ¬ i = c := by omega
        have hlD := Lib.hid (show (L.drop i).length = n - i by rw [List.length_drop, hl.out])
        obtain ⟨y0_, y1_, y2_⟩ := y
        clear hgy0 hiL0
        replace hM := Lib.hid hM
        by_cases hle : y0_ ≤ 9223372036854775807
        · rw [decide_eq_true hle, if_pos rfl] at hsp
          clear hspec
          go_wp2_with fail
          have hS := Lib.hid (show (fun V : World => Sep V (rBlk o 9223372036854775807 (.slice (some ⟨g, 0, none⟩) n c) :: aVec (.slice (some ⟨g, 0, none⟩) n c) n L :: rs)) _ from hS.out.drew)
          refine hl_begin (fun V : World => Sep V (rBlk o 9223372036854775807 (.slice (some ⟨g, 0, none⟩) n c) :: aVec (.slice (some ⟨g, 0, none⟩) n c) n L :: rs)) [(0, true), (1, true), (2, true), (3, true), (4, true), (5, true), (6, true), (7, true), (8, true), (9, true), (10, true), (11, true), (12, true), (13, true), (14, true), (15, true), (16, true), (17, true), (18, true), (19, true), (20, true), (21, true)] (by kernel_rfl) (by kernel_rfl) (by kernel_rfl) rfl (fun _ _ _ _ _ h => h) hS.out ?_
          change HL _ _ _ _ _ _ (World.drew _)
          generalize World.drew _ = wd at *
          refine hl_take ?v10 rfl (by kernel_rfl) ?y10 ?z10
          case y10 => intro W hW; have := g7; replace hW := Lib.hid hW; go_simp; try rfl
          case z10 =>
          simp only [Act.put, List.setIfInBounds_toArray, List.set_cons_succ, List.set_cons_zero, List.getElem_toArray, List.getElem_cons_zero]
          refine hl_take ?v11 rfl (by kernel_rfl) ?y11 ?z11
          case y11 => intro W hW; have := g7; replace hW := Lib.hid hW; go_simp; try rfl
          case z11 =>
          simp only [Act.put, List.setIfInBounds_toArray, List.set_cons_succ, List.set_cons_zero, List.getElem_toArray, List.getElem_cons_zero, List.getElem_cons_succ]
          refine hl_take ?v12 rfl (by kernel_rfl) ?y12 ?z12
          case y12 => intro W hW; have := g7; replace hW := Lib.hid hW; go_simp; try rfl
          case z12 =>
          simp only [Act.put, List.setIfInBounds_toArray, List.set_cons_succ, List.set_cons_zero, List.getElem_toArray, List.getElem_cons_zero, List.getElem_cons_succ]
          refine hl_take ?v13 rfl (by kernel_rfl) ?y13 ?z13
          case y13 => intro W hW; have := g7; replace hW := Lib.hid hW; go_simp; try rfl
          case z13 =>
          simp only [Act.put, List.setIfInBounds_toArray, List.set_cons_succ, List.set_cons_zero, List.getElem_toArray, List.getElem_cons_zero, List.getElem_cons_succ]
          refine hl_take ?v14 rfl (by kernel_rfl) ?y14 ?z14
          case y14 => intro W hW; obtain ⟨_, c0, c1, _⟩ := (show Sep _ _ from hW).b2; obtain ⟨⟨z0, z1, z2⟩, _⟩ := (show Sep _ _ from hW).to1.aAt i hiL.out; rw [hgy.out] at z0 z1 z2; simp only at z0 z1 z2; replace hW := Lib.hid hW; go_simp; try rfl
          case z14 =>
          simp only [Act.put, List.setIfInBounds_toArray, List.set_cons_succ, List.set_cons_zero, List.getElem_toArray, List.getElem_cons_zero, List.getElem_cons_succ]
          refine hl_take ?v15 rfl (by kernel_rfl) ?y15 ?z15
          case y15 => intro W hW; have := g7; replace hW := Lib.hid hW; go_simp; try rfl
          case z15 =>
          simp only [Act.put, List.setIfInBounds_toArray, List.set_cons_succ, List.set_cons_zero, List.getElem_toArray, List.getElem_cons_zero, List.getElem_cons_succ]
          refine hl_take ?v16 rfl (by kernel_rfl) ?y16 ?z16
          case y16 => intro W hW; have := g7; replace hW := Lib.hid hW; go_simp; try rfl
          case z16 =>
          simp only [Act.put, List.setIfInBounds_toArray, List.set_cons_succ, List.set_cons_zero, List.getElem_toArray, List.getElem_cons_zero, List.getElem_cons_succ]
          refine hl_take ?v17 rfl (by kernel_rfl) ?y17 ?z17
          case y17 => intro W hW; have := g7; replace hW := Lib.hid hW; go_simp; try rfl
          case z17 =>
          simp only [Act.put, List.setIfInBounds_toArray, List.set_cons_succ, List.set_cons_zero, List.getElem_toArray, List.getElem_cons_zero, List.getElem_cons_succ]
          refine hl_take ?v18 rfl (by kernel_rfl) ?y18 ?z18
          case y18 => intro W hW; have := g7; replace hW := Lib.hid hW; go_simp; try rfl
          case z18 =>
          simp only [Act.put, List.setIfInBounds_toArray, List.set_cons_succ, List.set_cons_zero, List.getElem_toArray, List.getElem_cons_zero, List.getElem_cons_succ]
          refine hl_take ?v19 rfl (by kernel_rfl) ?y19 ?z19
          case y19 => intro W hW; have := g7; replace hW := Lib.hid hW; go_simp; try rfl
          case z19 =>
          simp only [Act.put, List.setIfInBounds_toArray, List.set_cons_succ, List.set_cons_zero, List.getElem_toArray, List.getElem_cons_zero, List.getElem_cons_succ]
          refine hl_take ?v20 rfl (by kernel_rfl) ?y20 ?z20
          case y20 => intro W hW; have := g7; replace hW := Lib.hid hW; go_simp; try rfl
          case z20 =>
          simp only [Act.put, List.setIfInBounds_toArray, List.set_cons_succ, List.set_cons_zero, List.getElem_toArray, List.getElem_cons_zero, List.getElem_cons_succ]
          refine hl_take ?v21 rfl (by kernel_rfl) ?y21 ?z21
          case y21 => intro W hW; obtain ⟨_, c0, c1, _⟩ := (show Sep _ _ from hW).b2; obtain ⟨⟨z0, z1, z2⟩, _⟩ := (show Sep _ _ from hW).to1.aAt i hiL.out; rw [hgy.out] at z0 z1 z2; simp only at z0 z1 z2; replace hW := Lib.hid hW; go_simp; try rfl
          case z21 =>
          simp only [Act.put, List.setIfInBounds_toArray, List.set_cons_succ, List.set_cons_zero, List.getElem_toArray, List.getElem_cons_zero, List.getElem_cons_succ]
          refine hl_take ?v22 rfl (by kernel_rfl) ?y22 ?z22
          case y22 => intro W hW; have := g7; replace hW := Lib.hid hW; go_simp; try rfl
          case z22 =>
          simp only [Act.put, List.setIfInBounds_toArray, List.set_cons_succ, List.set_cons_zero, List.getElem_toArray, List.getElem_cons_zero, List.getElem_cons_succ]
          refine hl_take ?v23 rfl (by kernel_rfl) ?y23 ?z23
          case y23 => intro W hW; have := g7; replace hW := Lib.hid hW; go_simp; try rfl
          case z23 =>
          simp only [Act.put, List.setIfInBounds_toArray, List.set_cons_succ, List.set_cons_zero, List.getElem_toArray, List.getElem_cons_zero, List.getElem_cons_succ]
          refine hl_take ?v24 rfl (by kernel_rfl) ?y24 ?z24
          case y24 => intro W hW; have := g7; replace hW := Lib.hid hW; go_simp; try rfl
          case z24 =>
          simp only [Act.put, List.setIfInBounds_toArray, List.set_cons_succ, List.set_cons_zero, List.getElem_toArray, List.getElem_cons_zero, List.getElem_cons_succ]
          refine hl_take ?v25 rfl (by kernel_rfl) ?y25 ?z25
          case y25 => intro W hW; obtain ⟨_, c0, c1, _⟩ := (show Sep _ _ from hW).b2; obtain ⟨⟨z0, z1, z2⟩, _⟩ := (show Sep _ _ from hW).to1.aAt i hiL.out; rw [hgy.out] at z0 z1 z2; simp only at z0 z1 z2; replace hW := Lib.hid hW; go_simp; try rfl
          case z25 =>
          simp only [Act.put, List.setIfInBounds_toArray, List.set_cons_succ, List.set_cons_zero, List.getElem_toArray, List.getElem_cons_zero, List.getElem_cons_succ]
          refine hl_take ?v26 rfl (by kernel_rfl) ?y26 ?z26
          case y26 => intro W hW; have := g7; replace hW := Lib.hid hW; go_simp; try rfl
          case z26 =>
          simp only [Act.put, List.setIfInBounds_toArray, List.set_cons_succ, List.set_cons_zero, List.getElem_toArray, List.getElem_cons_zero, List.getElem_cons_succ]
          refine hl_take ?v27 rfl (by kernel_rfl) ?y27 ?z27
          case y27 => intro W hW; have := g7; replace hW := Lib.hid hW; go_simp; try rfl
          case z27 =>
          simp only [Act.put, List.setIfInBounds_toArray, List.set_cons_succ, List.set_cons_zero, List.getElem_toArray, List.getElem_cons_zero, List.getElem_cons_succ]
          refine hl_take ?v28 rfl (by kernel_rfl) ?y28 ?z28
          case y28 => intro W hW; have := g7; replace hW := Lib.hid hW; go_simp; try rfl
          case z28 =>
          simp only [Act.put, List.setIfInBounds_toArray, List.set_cons_succ, List.set_cons_zero, List.getElem_toArray, List.getElem_cons_zero, List.getElem_cons_succ]
          refine hl_take ?v29 rfl (by kernel_rfl) ?y29 ?z29
          case y29 => intro W hW; obtain ⟨_, c0, c1, _⟩ := (show Sep _ _ from hW).b2; obtain ⟨⟨z0, z1, z2⟩, _⟩ := (show Sep _ _ from hW).to1.aAt i hiL.out; rw [hgy.out] at z0 z1 z2; simp only at z0 z1 z2; replace hW := Lib.hid hW; go_simp; try rfl
          case z29 =>
          simp only [Act.put, List.setIfInBounds_toArray, List.set_cons_succ, List.set_cons_zero, List.getElem_toArray, List.getElem_cons_zero, List.getElem_cons_succ]
          refine hl_take ?v30 rfl (by kernel_rfl) ?y30 ?z30
          case y30 => intro W hW; have := g7; replace hW := Lib.hid hW; go_simp; try rfl
          case z30 =>
          simp only [Act.put, List.setIfInBounds_toArray, List.set_cons_succ, List.set_cons_zero, List.getElem_toArray, List.getElem_cons_zero, List.getElem_cons_succ]
          refine hl_take ?v31 rfl (by kernel_rfl) ?y31 ?z31
          case y31 => intro W hW; have := g7; replace hW := Lib.hid hW; go_simp; try rfl
          case z31 =>
          simp only [Act.put, List.setIfInBounds_toArray, List.set_cons_succ, List.set_cons_zero, List.getElem_toArray, List.getElem_cons_zero, List.getElem_cons_succ]
          refine hl_done ?_
          go_wp2_with fail
          go_roundw
          case rel => exact ⟨i + 1, by omega, by go_num, hS⟩
          case measure => simp [intOf]; omega
        · rw [decide_eq_false hle, if_neg (by simp)] at hsp
          subst hsp
          clear hspec him
          go_wp2_with fail
          have hS := Lib.hid (show (fun V : World => Sep V (rBlk o 9223372036854775807 (.slice (some ⟨g, 0, none⟩) n c) :: aVec (.slice (some ⟨g, 0, none⟩) n c) n L :: rs)) _ from hS.out.drew)
          refine hl_begin (fun V : World => Sep V (rBlk o 9223372036854775807 (.slice (some ⟨g, 0, none⟩) n c) :: aVec (.slice (some ⟨g, 0, none⟩) n c) n L :: rs)) [(0, true), (1, true), (2, true), (3, true), (4, true), (5, true), (6, true), (7, true), (8, true), (9, true), (10, true), (11, true), (12, true), (13, true), (14, true), (15, true), (16, true), (17, true), (18, true), (19, true), (20, true), (21, true)] (by kernel_rfl) (by kernel_rfl) (by kernel_rfl) rfl (fun _ _ _ _ _ h => h) hS.out ?_
          change HL _ _ _ _ _ _ (World.drew _)
          generalize World.drew _ = wd at *
          refine hl_take ?v32 rfl (by kernel_rfl) ?y32 ?z32
          case y32 => intro W hW; have := g7; replace hW := Lib.hid hW; go_simp; try rfl
          case z32 =>
          simp only [Act.put, List.setIfInBounds_toArray, List.set_cons_succ, List.set_cons_zero, List.getElem_toArray, List.getElem_cons_zero]
          refine hl_take ?v33 rfl (by kernel_rfl) ?y33 ?z33
          case y33 => intro W hW; have := g7; replace hW := Lib.hid hW; go_simp; try rfl
          case z33 =>
          simp only [Act.put, List.setIfInBounds_toArray, List.set_cons_succ, List.set_cons_zero, List.getElem_toArray, List.getElem_cons_zero, List.getElem_cons_succ]
          refine hl_take ?v34 rfl (by kernel_rfl) ?y34 ?z34
          case y34 => intro W hW; have := g7; replace hW := Lib.hid hW; go_simp; try rfl
          case z34 =>
          simp only [Act.put, List.setIfInBounds_toArray, List.set_cons_succ, List.set_cons_zero, List.getElem_toArray, List.getElem_cons_zero, List.getElem_cons_succ]
          refine hl_take ?v35 rfl (by kernel_rfl) ?y35 ?z35
          case y35 => intro W hW; have := g7; replace hW := Lib.hid hW; go_simp; try rfl
          case z35 =>
          simp only [Act.put, List.setIfInBounds_toArray, List.set_cons_succ, List.set_cons_zero, List.getElem_toArray, List.getElem_cons_zero, List.getElem_cons_succ]
          refine hl_take ?v36 rfl (by kernel_rfl) ?y36 ?z36
          case y36 => intro W hW; obtain ⟨_, c0, c1, _⟩ := (show Sep _ _ from hW).b2; obtain ⟨⟨z0, z1, z2⟩, _⟩ := (show Sep _ _ from hW).to1.aAt i hiL.out; rw [hgy.out] at z0 z1 z2; simp only at z0 z1 z2; replace hW := Lib.hid hW; go_simp; try rfl
          case z36 =>
          simp only [Act.put, List.setIfInBounds_toArray, List.set_cons_succ, List.set_cons_zero, List.getElem_toArray, List.getElem_cons_zero, List.getElem_cons_succ]
          refine hl_take ?v37 rfl (by kernel_rfl) ?y37 ?z37
          case y37 => intro W hW; have := g7; replace hW := Lib.hid hW; go_simp; try rfl
          case z37 =>
          simp only [Act.put, List.setIfInBounds_toArray, List.set_cons_succ, List.set_cons_zero, List.getElem_toArray, List.getElem_cons_zero, List.getElem_cons_succ]
          refine hl_take ?v38 rfl (by kernel_rfl) ?y38 ?z38
          case y38 => intro W hW; have := g7; replace hW := Lib.hid hW; go_simp; try rfl
          case z38 =>
          simp only [Act.put, List.setIfInBounds_toArray, List.set_cons_succ, List.set_cons_zero, List.getElem_toArray, List.getElem_cons_zero, List.getElem_cons_succ]
          refine hl_take ?v39 rfl (by kernel_rfl) ?y39 ?z39
          case y39 => intro W hW; have := g7; replace hW := Lib.hid hW; go_simp; try rfl
          case z39 =>
          simp only [Act.put, List.setIfInBounds_toArray, List.set_cons_succ, List.set_cons_zero, List.getElem_toArray, List.getElem_cons_zero, List.getElem_cons_succ]
          refine hl_take ?v40 rfl (by kernel_rfl) ?y40 ?z40
          case y40 => intro W hW; have := g7; replace hW := Lib.hid hW; go_simp; try rfl
          case z40 =>
          simp only [Act.put, List.setIfInBounds_toArray, List.set_cons_succ, List.set_cons_zero, List.getElem_toArray, List.getElem_cons_zero, List.getElem_cons_succ]
          refine hl_take ?v41 rfl (by kernel_rfl) ?y41 ?z41
          case y41 => intro W hW; have := g7; replace hW := Lib.hid hW; go_simp; try rfl
          case z41 =>
          simp only [Act.put, List.setIfInBounds_toArray, List.set_cons_succ, List.set_cons_zero, List.getElem_toArray, List.getElem_cons_zero, List.getElem_cons_succ]
          refine hl_take ?v42 rfl (by kernel_rfl) ?y42 ?z42
          case y42 => intro W hW; have := g7; replace hW := Lib.hid hW; go_simp; try rfl
          case z42 =>
          simp only [Act.put, List.setIfInBounds_toArray, List.set_cons_succ, List.set_cons_zero, List.getElem_toArray, List.getElem_cons_zero, List.getElem_cons_succ]
          refine hl_take ?v43 rfl (by kernel_rfl) ?y43 ?z43
          case y43 => intro W hW; obtain ⟨_, c0, c1, _⟩ := (show Sep _ _ from hW).b2; obtain ⟨⟨z0, z1, z2⟩, _⟩ := (show Sep _ _ from hW).to1.aAt i hiL.out; rw [hgy.out] at z0 z1 z2; simp only at z0 z1 z2; replace hW := Lib.hid hW; go_simp; try rfl
          case z43 =>
          simp only [Act.put, List.setIfInBounds_toArray, List.set_cons_succ, List.set_cons_zero, List.getElem_toArray, List.getElem_cons_zero, List.getElem_cons_succ]
          refine hl_take ?v44 rfl (by kernel_rfl) ?y44 ?z44
          case y44 => intro W hW; have := g7; replace hW := Lib.hid hW; go_simp; try rfl
          case z44 =>
          simp only [Act.put, List.setIfInBounds_toArray, List.set_cons_succ, List.set_cons_zero, List.getElem_toArray, List.getElem_cons_zero, List.getElem_cons_succ]
          refine hl_take ?v45 rfl (by kernel_rfl) ?y45 ?z45
          case y45 => intro W hW; have := g7; replace hW := Lib.hid hW; go_simp; try rfl
          case z45 =>
          simp only [Act.put, List.setIfInBounds_toArray, List.set_cons_succ, List.set_cons_zero, List.getElem_toArray, List.getElem_cons_zero, List.getElem_cons_succ]
          refine hl_take ?v46 rfl (by kernel_rfl) ?y46 ?z46
          case y46 => intro W hW; have := g7; replace hW := Lib.hid hW; go_simp; try rfl
          case z46 =>
          simp only [Act.put, List.setIfInBounds_toArray, List.set_cons_succ, List.set_cons_zero, List.getElem_toArray, List.getElem_cons_zero, List.getElem_cons_succ]
          refine hl_take ?v47 rfl (by kernel_rfl) ?y47 ?z47
          case y47 => intro W hW; obtain ⟨_, c0, c1, _⟩ := (show Sep _ _ from hW).b2; obtain ⟨⟨z0, z1, z2⟩, _⟩ := (show Sep _ _ from hW).to1.aAt i hiL.out; rw [hgy.out] at z0 z1 z2; simp only at z0 z1 z2; replace hW := Lib.hid hW; go_simp; try rfl
          case z47 =>
          simp only [Act.put, List.setIfInBounds_toArray, List.set_cons_succ, List.set_cons_zero, List.getElem_toArray, List.getElem_cons_zero, List.getElem_cons_succ]
          refine hl_take ?v48 rfl (by kernel_rfl) ?y48 ?z48
          case y48 => intro W hW; have := g7; replace hW := Lib.hid hW; go_simp; try rfl
          case z48 =>
          simp only [Act.put, List.setIfInBounds_toArray, List.set_cons_succ, List.set_cons_zero, List.getElem_toArray, List.getElem_cons_zero, List.getElem_cons_succ]
          refine hl_take ?v49 rfl (by kernel_rfl) ?y49 ?z49
          case y49 => intro W hW; have := g7; replace hW := Lib.hid hW; go_simp; try rfl
          case z49 =>
          simp only [Act.put, List.setIfInBounds_toArray, List.set_cons_succ, List.set_cons_zero, List.getElem_toArray, List.getElem_cons_zero, List.getElem_cons_succ]
          refine hl_take ?v50 rfl (by kernel_rfl) ?y50 ?z50
          case y50 => intro W hW; have := g7; replace hW := Lib.hid hW; go_simp; try rfl
          case z50 =>
          simp only [Act.put, List.setIfInBounds_toArray, List.set_cons_succ, List.set_cons_zero, List.getElem_toArray, List.getElem_cons_zero, List.getElem_cons_succ]
          refine hl_take ?v51 rfl (by kernel_rfl) ?y51 ?z51
          case y51 => intro W hW; obtain ⟨_, c0, c1, _⟩ := (show Sep _ _ from hW).b2; obtain ⟨⟨z0, z1, z2⟩, _⟩ := (show Sep _ _ from hW).to1.aAt i hiL.out; rw [hgy.out] at z0 z1 z2; simp only at z0 z1 z2; replace hW := Lib.hid hW; go_simp; try rfl
          case z51 =>
          simp only [Act.put, List.setIfInBounds_toArray, List.set_cons_succ, List.set_cons_zero, List.getElem_toArray, List.getElem_cons_zero, List.getElem_cons_succ]
          refine hl_take ?v52 rfl (by kernel_rfl) ?y52 ?z52
          case y52 => intro W hW; have := g7; replace hW := Lib.hid hW; go_simp; try rfl
          case z52 =>
          simp only [Act.put, List.setIfInBounds_toArray, List.set_cons_succ, List.set_cons_zero, List.getElem_toArray, List.getElem_cons_zero, List.getElem_cons_succ]
          refine hl_take ?v53 rfl (by kernel_rfl) ?y53 ?z53
          case y53 => intro W hW; have := g7; replace hW := Lib.hid hW; go_simp; try rfl
          case z53 =>
          simp only [Act.put, List.setIfInBounds_toArray, List.set_cons_succ, List.set_cons_zero, List.getElem_toArray, List.getElem_cons_zero, List.getElem_cons_succ]
          refine hl_done ?_
          have hE := Lib.hid ((fresh_at _).graft hS.out)
          obtain ⟨_, c0, c1, f0, f1⟩ := hE.out.to1.b2
          obtain ⟨_, e0, e1, _⟩ := hS.out.b2
          have one1 := Lib.hid (tms_one (L.take i))
          have one2 := Lib.hid (tms_one (L.drop i))
          go_wp2_with (first
            | (at_builtin; refine wpList_append_sep ((fresh_at _).graft q5.out) rfl _ _ 36 rfl i0 (.agg #[.int .i64 0, .int .i64 0, .int .i64 0]) 24 Try.underlying36 hi0 hz0 hz1 hz2 rfl (by decide) rfl (n - i) ((L.drop i).flatMap tC) (src_suf (((fresh_at _).graft q5.out).bring 3 rfl) hl.out i _ (by omega)) one2.out (by simp only [maxLen]; omega) (by omega) ?_; intro a3 c3_ w7 q7; rw [Nat.zero_add, List.nil_append] at q7; obtain ⟨_, p0, p1, pf0, pf1⟩ := (q7.bring 2 rfl).b2; replace q7 := Lib.hid q7; clear k0 k1 kf0 kf1)
            | (at_builtin; refine wpList_append_sep hE.out rfl _ _ 36 rfl i0 (.agg #[.int .i64 0, .int .i64 0, .int .i64 0]) 24 Try.underlying36 hi0 hz0 hz1 hz2 rfl (by decide) rfl i ((L.take i).flatMap tC) (src_pre hE.out.to2 hl.out i _ (by omega)) one1.out (by simp only [maxLen]; omega) (by omega) ?_; intro a1 c1_ w5 q5; rw [Nat.zero_add, List.nil_append] at q5; obtain ⟨_, k0, k1, kf0, kf1⟩ := q5.to1.b2; replace q5 := Lib.hid q5; clear c0 c1 f0 f1))
          go_ret2
          have h7 := (((((q7.out.bring 2 rfl).set 1 (.slice a3 (n - i) c3_)).bring 3 rfl).tail.bring 1 rfl).bring 1 rfl)
          exact ⟨a1, c1_, rfl, (ref_close hlD.out h7).to1⟩
  · have hT2 : T2 = T + t := by omega
    subst hT2
    have wr2 : IntKind.i64.wrap (T + t) = T + t := IntWalk.i64_in _ (by omega)
    have hS := Lib.hid (hS.set 0 (.int .i64 (T + t)))
    clear hT
    go_enter Try.func21, Try.ntmps21
    go_wp2_with fail
    clear d0 d1 df0 df1
    go_loopw [6] (fun s wr => ∃ i : Nat, i ≤ m ∧ s = .int .i64 i ∧ Hid (Sep wr (rBlk o (T + t) (.slice (some ⟨g, 0, none⟩) n c) :: aVec (.slice (some ⟨g, 0, none⟩) n c) n L :: rs))) (fun s _ => m - (intOf s).toNat)
    case atStart => exact ⟨0, Nat.zero_le _, rfl, hS⟩
    case round =>
      clear hS
      obtain ⟨i, him, rfl, hS⟩ := hrel
      have hsp := hspec.out i him
      have l0 : (0 : Int) ≤ (i : Int) := by omega
      have l1 : ¬ (i : Int) < 0 := by omega
      have l5 : (n : Int) ≤ (c : Int) := by omega
      cases hM : L.drop i with
      | nil =>
        rw [hM] at hsp
        simp only at hsp
        have hin : i = n := by
          have := congrArg List.length hM
          rw [List.length_drop, hl.out] at this
          have := hmL.out
          simp at *
          omega
        have hlD := Lib.hid (show (L.drop i).length = n - i by rw [List.length_drop, hl.out])
        replace hM := Lib.hid hM
        clear him hspec
        subst hsp
        subst hin
        have g7 : decide (i < i) = false := by simp
        have l2 : ¬ (i : Int) < (i : Int) := by omega
        have hn0 := Lib.hid (show i - i = 0 by omega)
        have hd0 := hM
        go_wp2_with fail
        have hS := Lib.hid (show (fun V : World => Sep V (rBlk o (T + t) (.slice (some ⟨g, 0, none⟩) i c) :: aVec (.slice (some ⟨g, 0, none⟩) i c) i L :: rs)) _ from hS.out.drew)
        refine hl_begin (fun V : World => Sep V (rBlk o (T + t) (.slice (some ⟨g, 0, none⟩) i c) :: aVec (.slice (some ⟨g, 0, none⟩) i c) i L :: rs)) [(0, true), (1, true), (2, true), (3, true), (4, true), (5, true), (6, true), (7, true), (8, true), (9, true), (10, true), (11, true), (12, true), (13, true), (14, true), (15, true), (16, true), (17, true), (18, true), (19, true), (20, true), (21, true)] (by kernel_rfl) (by kernel_rfl) (by kernel_rfl) rfl (fun _ _ _ _ _ h => h) hS.out ?_
        change HL _ _ _ _ _ _ (World.drew _)
        generalize World.drew _ = wd at *
        refine hl_take ?v54 rfl (by kernel_rfl) ?y54 ?z54
        case y54 => intro W hW; have := g7; replace hW := Lib.hid hW; go_simp; try rfl
        case z54 =>
        simp only [Act.put, List.setIfInBounds_toArray, List.set_cons_succ, List.set_cons_zero, List.getElem_toArray, List.getElem_cons_zero]
        refine hl_take ?v55 rfl (by kernel_rfl) ?y55 ?z55
        case y55 => intro W hW; have := g7; replace hW := Lib.hid hW; go_simp; try rfl
        case z55 =>
        simp only [Act.put, List.setIfInBounds_toArray, List.set_cons_succ, List.set_cons_zero, List.getElem_toArray, List.getElem_cons_zero, List.getElem_cons_succ]
        refine hl_take ?v56 rfl (by kernel_rfl) ?y56 ?z56
        case y56 => intro W hW; have := g7; replace hW := Lib.hid hW; go_simp; try rfl
        case z56 =>
        simp only [Act.put, List.setIfInBounds_toArray, List.set_cons_succ, List.set_cons_zero, List.getElem_toArray, List.getElem_cons_zero, List.getElem_cons_succ]
        refine hl_take ?v57 rfl (by kernel_rfl) ?y57 ?z57
        case y57 => intro W hW; have := g7; replace hW := Lib.hid hW; go_simp; try rfl
        case z57 =>
        simp only [Act.put, List.setIfInBounds_toArray, List.set_cons_succ, List.set_cons_zero, List.getElem_toArray, List.getElem_cons_zero, List.getElem_cons_succ]
        refine hl_take ?v58 rfl (by kernel_rfl) ?y58 ?z58
        case y58 => intro W hW; obtain ⟨_, c0, c1, _⟩ := (show Sep _ _ from hW).b2; replace hW := Lib.hid hW; go_simp; try rfl
        case z58 =>
        simp only [Act.put, List.setIfInBounds_toArray, List.set_cons_succ, List.set_cons_zero, List.getElem_toArray, List.getElem_cons_zero, List.getElem_cons_succ]
        refine hl_take ?v59 rfl (by kernel_rfl) ?y59 ?z59
        case y59 => intro W hW; have := g7; replace hW := Lib.hid hW; go_simp; try rfl
        case z59 =>
        simp only [Act.put, List.setIfInBounds_toArray, List.set_cons_succ, List.set_cons_zero, List.getElem_toArray, List.getElem_cons_zero, List.getElem_cons_succ]
        refine hl_take ?v60 rfl (by kernel_rfl) ?y60 ?z60
        case y60 => intro W hW; have := g7; replace hW := Lib.hid hW; go_simp; try rfl
        case z60 =>
        simp only [Act.put, List.setIfInBounds_toArray, List.set_cons_succ, List.set_cons_zero, List.getElem_toArray, List.getElem_cons_zero, List.getElem_cons_succ]
        refine hl_take ?v61 rfl (by kernel_rfl) ?y61 ?z61
        case y61 => intro W hW; have := g7; replace hW := Lib.hid hW; go_simp; try rfl
        case z61 =>
        simp only [Act.put, List.setIfInBounds_toArray, List.set_cons_succ, List.set_cons_zero, List.getElem_toArray, List.getElem_cons_zero, List.getElem_cons_succ]
        refine hl_skip rfl (by kernel_rfl) ?_
        simp only [Act.put, List.setIfInBounds_toArray, List.set_cons_succ, List.set_cons_zero, List.getElem_toArray, List.getElem_cons_zero, List.getElem_cons_succ]
        refine hl_skip rfl (by kernel_rfl) ?_
        simp only [Act.put, List.setIfInBounds_toArray, List.set_cons_succ, List.set_cons_zero, List.getElem_toArray, List.getElem_cons_zero, List.getElem_cons_succ]
        refine hl_skip rfl (by kernel_rfl) ?_
        simp only [Act.put, List.setIfInBounds_toArray, List.set_cons_succ, List.set_cons_zero, List.getElem_toArray, List.getElem_cons_zero, List.getElem_cons_succ]
        refine hl_skip rfl (by kernel_rfl) ?_
        simp only [Act.put, List.setIfInBounds_toArray, List.set_cons_succ, List.set_cons_zero, List.getElem_toArray, List.getElem_cons_zero, List.getElem_cons_succ]
        refine hl_skip rfl (by kernel_rfl) ?_
        simp only [Act.put, List.setIfInBounds_toArray, List.set_cons_succ, List.set_cons_zero, List.getElem_toArray, List.getElem_cons_zero, List.getElem_cons_succ]
        refine hl_skip rfl (by kernel_rfl) ?_
        simp only [Act.put, List.setIfInBounds_toArray, List.set_cons_succ, List.set_cons_zero, List.getElem_toArray, List.getElem_cons_zero, List.getElem_cons_succ]
        refine hl_skip rfl (by kernel_rfl) ?_
        simp only [Act.put, List.setIfInBounds_toArray, List.set_cons_succ, List.set_cons_zero, List.getElem_toArray, List.getElem_cons_zero, List.getElem_cons_succ]
        refine hl_skip rfl (by kernel_rfl) ?_
        simp only [Act.put, List.setIfInBounds_toArray, List.set_cons_succ, List.set_cons_zero, List.getElem_toArray, List.getElem_cons_zero, List.getElem_cons_succ]
        refine hl_skip rfl (by kernel_rfl) ?_
        simp only [Act.put, List.setIfInBounds_toArray, List.set_cons_succ, List.set_cons_zero, List.getElem_toArray, List.getElem_cons_zero, List.getElem_cons_succ]
        refine hl_skip rfl (by kernel_rfl) ?_
        simp only [Act.put, List.setIfInBounds_toArray, List.set_cons_succ, List.set_cons_zero, List.getElem_toArray, List.getElem_cons_zero, List.getElem_cons_succ]
        refine hl_skip rfl (by kernel_rfl) ?_
        simp only [Act.put, List.setIfInBounds_toArray, List.set_cons_succ, List.set_cons_zero, List.getElem_toArray, List.getElem_cons_zero, List.getElem_cons_succ]
        refine hl_skip rfl (by kernel_rfl) ?_
        simp only [Act.put, List.setIfInBounds_toArray, List.set_cons_succ, List.set_cons_zero, List.getElem_toArray, List.getElem_cons_zero, List.getElem_cons_succ]
        refine hl_skip rfl (by kernel_rfl) ?_
        simp only [Act.put, List.setIfInBounds_toArray, List.set_cons_succ, List.set_cons_zero, List.getElem_toArray, List.getElem_cons_zero, List.getElem_cons_succ]
        refine hl_take ?v62 rfl (by kernel_rfl) ?y62 ?z62
        case y62 => intro W hW; have := g7; replace hW := Lib.hid hW; go_simp; try rfl
        case z62 =>
        simp only [Act.put, List.setIfInBounds_toArray, List.set_cons_succ, List.set_cons_zero, List.getElem_toArray, List.getElem_cons_zero, List.getElem_cons_succ]
        refine hl_done ?_
        by_cases hic : i = c
        · subst hic
          have hE := Lib.hid ((fresh_at _).graft hS.out)
          obtain ⟨_, c0, c1, f0, f1⟩ := hE.out.to1.b2
          obtain ⟨_, e0, e1, _⟩ := hS.out.b2
          have one1 := Lib.hid (tms_one (L.take i))
          have one2 := Lib.hid (tms_one (L.drop i))
          go_wp2_with (first
            | (at_builtin; refine wpList_append_sep ((fresh_at _).graft q5.out) rfl _ _ 36 rfl i0 (.agg #[.int .i64 0, .int .i64 0, .int .i64 0]) 24 Try.underlying36 hi0 hz0 hz1 hz2 rfl (by decide) rfl (i - i) ((L.drop i).flatMap tC) (by rw [hn0.out, hd0.out]; exact src_end) one2.out (by simp only [maxLen]; omega) (by omega) ?_; intro a3 c3_ w7 q7; rw [Nat.zero_add, List.nil_append] at q7; obtain ⟨_, p0, p1, pf0, pf1⟩ := (q7.bring 2 rfl).b2; replace q7 := Lib.hid q7; clear k0 k1 kf0 kf1)
            | (at_builtin; refine wpList_append_sep hE.out rfl _ _ 36 rfl i0 (.agg #[.int .i64 0, .int .i64 0, .int .i64 0]) 24 Try.underlying36 hi0 hz0 hz1 hz2 rfl (by decide) rfl i ((L.take i).flatMap tC) (src_pre hE.out.to2 hl.out i _ (by omega)) one1.out (by simp only [maxLen]; omega) (by omega) ?_; intro a1 c1_ w5 q5; rw [Nat.zero_add, List.nil_append] at q5; obtain ⟨_, k0, k1, kf0, kf1⟩ := q5.to1.b2; replace q5 := Lib.hid q5; clear c0 c1 f0 f1))
          go_ret2
          have h6 := q7.out
          rw [hn0.out] at h6
          have h7 := (((((h6.bring 2 rfl).set 1 (.slice a3 0 c3_)).bring 3 rfl).tail.bring 1 rfl).bring 1 rfl)
          exact ⟨a1, c1_, rfl, (ref_close (by rw [hlD.out, hn0.out]) h7).to1⟩
        · skip
          have hE := Lib.hid ((fresh_at _).graft hS.out)
          obtain ⟨_, c0, c1, f0, f1⟩ := hE.out.to1.b2
          obtain ⟨_, e0, e1, _⟩ := hS.out.b2
          have one1 := Lib.hid (tms_one (L.take i))
          have one2 := Lib.hid (tms_one (L.drop i))
          go_wp2_with (first
            | (at_builtin; refine wpList_append_sep ((fresh_at _).graft q5.out) rfl _ _ 36 rfl i0 (.agg #[.int .i64 0, .int .i64 0, .int .i64 0]) 24 Try.underlying36 hi0 hz0 hz1 hz2 rfl (by decide) rfl (i - i) ((L.drop i).flatMap tC) (by rw [hn0.out, hd0.out]; exact src_end) one2.out (by simp only [maxLen]; omega) (by omega) ?_; intro a3 c3_ w7 q7; rw [Nat.zero_add, List.nil_append] at q7; obtain ⟨_, p0, p1, pf0, pf1⟩ := (q7.bring 2 rfl).b2; replace q7 := Lib.hid q7; clear k0 k1 kf0 kf1)
            | (at_builtin; refine wpList_append_sep hE.out rfl _ _ 36 rfl i0 (.agg #[.int .i64 0, .int .i64 0, .int .i64 0]) 24 Try.underlying36 hi0 hz0 hz1 hz2 rfl (by decide) rfl i ((L.take i).flatMap tC) (src_pre hE.out.to2 hl.out i _ (by omega)) one1.out (by simp only [maxLen]; omega) (by omega) ?_; intro a1 c1_ w5 q5; rw [Nat.zero_add, List.nil_append] at q5; obtain ⟨_, k0, k1, kf0, kf1⟩ := q5.to1.b2; replace q5 := Lib.hid q5; clear c0 c1 f0 f1))
          go_ret2
          have h6 := q7.out
          rw [hn0.out] at h6
          have h7 := (((((h6.bring 2 rfl).set 1 (.slice a3 0 c3_)).bring 3 rfl).tail.bring 1 rfl).bring 1 rfl)
          exact ⟨a1, c1_, rfl, (ref_close (by rw [hlD.out, hn0.out]) h7).to1⟩
      | cons y M =>
        rw [hM] at hsp
        simp only at hsp
        have hiL0 : i < L.length := by
          rcases Nat.lt_or_ge i L.length with h | h
          · exact h
          · rw [List.drop_eq_nil_of_le h] at hM; cases hM
        have hgy0 : gt_ L i = y := by
          rw [List.drop_eq_getElem_cons hiL0] at hM
          injection hM with h1 _
          simp [gt_, List.getD_eq_getElem?_getD, hiL0, h1]
        have hin : i < n := by rw [← hl.out]; exact hiL0
        have hiL := Lib.hid hiL0
        have hgy := Lib.hid hgy0
        have g7 : decide (i < n) = true := decide_eq_true hin
        have l2 : (i : Int) < (n : Int) := by omega
        have l3 : (i : Int) ≤ (c : Int) := by omega
        have l4 : (i : Int) ≤ (n : Int) := by omega
        have hic : ¬ i = c := by omega
        have hlD := Lib.hid (show (L.drop i).length = n - i by rw [List.length_drop, hl.out])
        obtain ⟨y0_, y1_, y2_⟩ := y
        clear hgy0 hiL0
        replace hM := Lib.hid hM
        by_cases hle : y0_ ≤ (T + t)
        · rw [decide_eq_true hle, if_pos rfl] at hsp
          clear hspec
          go_wp2_with fail
          have hS := Lib.hid (show (fun V : World => Sep V (rBlk o (T + t) (.slice (some ⟨g, 0, none⟩) n c) :: aVec (.slice (some ⟨g, 0, none⟩) n c) n L :: rs)) _ from hS.out.drew)
          refine hl_begin (fun V : World => Sep V (rBlk o (T + t) (.slice (some ⟨g, 0, none⟩) n c) :: aVec (.slice (some ⟨g, 0, none⟩) n c) n L :: rs)) [(0, true), (1, true), (2, true), (3, true), (4, true), (5, true), (6, true), (7, true), (8, true), (9, true), (10, true), (11, true), (12, true), (13, true), (14, true), (15, true), (16, true), (17, true), (18, true), (19, true), (20, true), (21, true)] (by kernel_rfl) (by kernel_rfl) (by kernel_rfl) rfl (fun _ _ _ _ _ h => h) hS.out ?_
          change HL _ _ _ _ _ _ (World.drew _)
          generalize World.drew _ = wd at *
          refine hl_take ?v63 rfl (by kernel_rfl) ?y63 ?z63
          case y63 => intro W hW; have := g7; replace hW := Lib.hid hW; go_simp; try rfl
          case z63 =>
          simp only [Act.put, List.setIfInBounds_toArray, List.set_cons_succ, List.set_cons_zero, List.getElem_toArray, List.getElem_cons_zero]
          refine hl_take ?v64 rfl (by kernel_rfl) ?y64 ?z64
          case y64 => intro W hW; have := g7; replace hW := Lib.hid hW; go_simp; try rfl
          case z64 =>
          simp only [Act.put, List.setIfInBounds_toArray, List.set_cons_succ, List.set_cons_zero, List.getElem_toArray, List.getElem_cons_zero, List.getElem_cons_succ]
          refine hl_take ?v65 rfl (by kernel_rfl) ?y65 ?z65
          case y65 => intro W hW; have := g7; replace hW := Lib.hid hW; go_simp; try rfl
          case z65 =>
          simp only [Act.put, List.setIfInBounds_toArray, List.set_cons_succ, List.set_cons_zero, List.getElem_toArray, List.getElem_cons_zero, List.getElem_cons_succ]
          refine hl_take ?v66 rfl (by kernel_rfl) ?y66 ?z66
          case y66 => intro W hW; have := g7; replace hW := Lib.hid hW; go_simp; try rfl
          case z66 =>
          simp only [Act.put, List.setIfInBounds_toArray, List.set_cons_succ, List.set_cons_zero, List.getElem_toArray, List.getElem_cons_zero, List.getElem_cons_succ]
          refine hl_take ?v67 rfl (by kernel_rfl) ?y67 ?z67
          case y67 => intro W hW; obtain ⟨_, c0, c1, _⟩ := (show Sep _ _ from hW).b2; obtain ⟨⟨z0, z1, z2⟩, _⟩ := (show Sep _ _ from hW).to1.aAt i hiL.out; rw [hgy.out] at z0 z1 z2; simp only at z0 z1 z2; replace hW := Lib.hid hW; go_simp; try rfl
          case z67 =>
          simp only [Act.put, List.setIfInBounds_toArray, List.set_cons_succ, List.set_cons_zero, List.getElem_toArray, List.getElem_cons_zero, List.getElem_cons_succ]
          refine hl_take ?v68 rfl (by kernel_rfl) ?y68 ?z68
          case y68 => intro W hW; have := g7; replace hW := Lib.hid hW; go_simp; try rfl
          case z68 =>
          simp only [Act.put, List.setIfInBounds_toArray, List.set_cons_succ, List.set_cons_zero, List.getElem_toArray, List.getElem_cons_zero, List.getElem_cons_succ]
          refine hl_take ?v69 rfl (by kernel_rfl) ?y69 ?z69
          case y69 => intro W hW; have := g7; replace hW := Lib.hid hW; go_simp; try rfl
          case z69 =>
          simp only [Act.put, List.setIfInBounds_toArray, List.set_cons_succ, List.set_cons_zero, List.getElem_toArray, List.getElem_cons_zero, List.getElem_cons_succ]
          refine hl_take ?v70 rfl (by kernel_rfl) ?y70 ?z70
          case y70 => intro W hW; have := g7; replace hW := Lib.hid hW; go_simp; try rfl
          case z70 =>
          simp only [Act.put, List.setIfInBounds_toArray, List.set_cons_succ, List.set_cons_zero, List.getElem_toArray, List.getElem_cons_zero, List.getElem_cons_succ]
          refine hl_take ?v71 rfl (by kernel_rfl) ?y71 ?z71
          case y71 => intro W hW; have := g7; replace hW := Lib.hid hW; go_simp; try rfl
          case z71 =>
          simp only [Act.put, List.setIfInBounds_toArray, List.set_cons_succ, List.set_cons_zero, List.getElem_toArray, List.getElem_cons_zero, List.getElem_cons_succ]
          refine hl_take ?v72 rfl (by kernel_rfl) ?y72 ?z72
          case y72 => intro W hW; have := g7; replace hW := Lib.hid hW; go_simp; try rfl
          case z72 =>
          simp only [Act.put, List.setIfInBounds_toArray, List.set_cons_succ, List.set_cons_zero, List.getElem_toArray, List.getElem_cons_zero, List.getElem_cons_succ]
          refine hl_take ?v73 rfl (by kernel_rfl) ?y73 ?z73
          case y73 => intro W hW; have := g7; replace hW := Lib.hid hW; go_simp; try rfl
          case z73 =>
          simp only [Act.put, List.setIfInBounds_toArray, List.set_cons_succ, List.set_cons_zero, List.getElem_toArray, List.getElem_cons_zero, List.getElem_cons_succ]
          refine hl_take ?v74 rfl (by kernel_rfl) ?y74 ?z74
          case y74 => intro W hW; obtain ⟨_, c0, c1, _⟩ := (show Sep _ _ from hW).b2; obtain ⟨⟨z0, z1, z2⟩, _⟩ := (show Sep _ _ from hW).to1.aAt i hiL.out; rw [hgy.out] at z0 z1 z2; simp only at z0 z1 z2; replace hW := Lib.hid hW; go_simp; try rfl
          case z74 =>
          simp only [Act.put, List.setIfInBounds_toArray, List.set_cons_succ, List.set_cons_zero, List.getElem_toArray, List.getElem_cons_zero, List.getElem_cons_succ]
          refine hl_take ?v75 rfl (by kernel_rfl) ?y75 ?z75
          case y75 => intro W hW; have := g7; replace hW := Lib.hid hW; go_simp; try rfl
          case z75 =>
          simp only [Act.put, List.setIfInBounds_toArray, List.set_cons_succ, List.set_cons_zero, List.getElem_toArray, List.getElem_cons_zero, List.getElem_cons_succ]
          refine hl_take ?v76 rfl (by kernel_rfl) ?y76 ?z76
          case y76 => intro W hW; have := g7; replace hW := Lib.hid hW; go_simp; try rfl
          case z76 =>
          simp only [Act.put, List.setIfInBounds_toArray, List.set_cons_succ, List.set_cons_zero, List.getElem_toArray, List.getElem_cons_zero, List.getElem_cons_succ]
          refine hl_take ?v77 rfl (by kernel_rfl) ?y77 ?z77
          case y77 => intro W hW; have := g7; replace hW := Lib.hid hW; go_simp; try rfl
          case z77 =>
          simp only [Act.put, List.setIfInBounds_toArray, List.set_cons_succ, List.set_cons_zero, List.getElem_toArray, List.getElem_cons_zero, List.getElem_cons_succ]
          refine hl_take ?v78 rfl (by kernel_rfl) ?y78 ?z78
          case y78 => intro W hW; obtain ⟨_, c0, c1, _⟩ := (show Sep _ _ from hW).b2; obtain ⟨⟨z0, z1, z2⟩, _⟩ := (show Sep _ _ from hW).to1.aAt i hiL.out; rw [hgy.out] at z0 z1 z2; simp only at z0 z1 z2; replace hW := Lib.hid hW; go_simp; try rfl
          case z78 =>
          simp only [Act.put, List.setIfInBounds_toArray, List.set_cons_succ, List.set_cons_zero, List.getElem_toArray, List.getElem_cons_zero, List.getElem_cons_succ]
          refine hl_take ?v79 rfl (by kernel_rfl) ?y79 ?z79
          case y79 => intro W hW; have := g7; replace hW := Lib.hid hW; go_simp; try rfl
          case z79 =>
          simp only [Act.put, List.setIfInBounds_toArray, List.set_cons_succ, List.set_cons_zero, List.getElem_toArray, List.getElem_cons_zero, List.getElem_cons_succ]
          refine hl_take ?v80 rfl (by kernel_rfl) ?y80 ?z80
          case y80 => intro W hW; have := g7; replace hW := Lib.hid hW; go_simp; try rfl
          case z80 =>
          simp only [Act.put, List.setIfInBounds_toArray, List.set_cons_succ, List.set_cons_zero, List.getElem_toArray, List.getElem_cons_zero, List.getElem_cons_succ]
          refine hl_take ?v81 rfl (by kernel_rfl) ?y81 ?z81
          case y81 => intro W hW; have := g7; replace hW := Lib.hid hW; go_simp; try rfl
          case z81 =>
          simp only [Act.put, List.setIfInBounds_toArray, List.set_cons_succ, List.set_cons_zero, List.getElem_toArray, List.getElem_cons_zero, List.getElem_cons_succ]
          refine hl_take ?v82 rfl (by kernel_rfl) ?y82 ?z82
          case y82 => intro W hW; obtain ⟨_, c0, c1, _⟩ := (show Sep _ _ from hW).b2; obtain ⟨⟨z0, z1, z2⟩, _⟩ := (show Sep _ _ from hW).to1.aAt i hiL.out; rw [hgy.out] at z0 z1 z2; simp only at z0 z1 z2; replace hW := Lib.hid hW; go_simp; try rfl
          case z82 =>
          simp only [Act.put, List.setIfInBounds_toArray, List.set_cons_succ, List.set_cons_zero, List.getElem_toArray, List.getElem_cons_zero, List.getElem_cons_succ]
          refine hl_take ?v83 rfl (by kernel_rfl) ?y83 ?z83
          case y83 => intro W hW; have := g7; replace hW := Lib.hid hW; go_simp; try rfl
          case z83 =>
          simp only [Act.put, List.setIfInBounds_toArray, List.set_cons_succ, List.set_cons_zero, List.getElem_toArray, List.getElem_cons_zero, List.getElem_cons_succ]
          refine hl_take ?v84 rfl (by kernel_rfl) ?y84 ?z84
          case y84 => intro W hW; have := g7; replace hW := Lib.hid hW; go_simp; try rfl
          case z84 =>
          simp only [Act.put, List.setIfInBounds_toArray, List.set_cons_succ, List.set_cons_zero, List.getElem_toArray, List.getElem_cons_zero, List.getElem_cons_succ]
          refine hl_done ?_
          go_wp2_with fail
          go_roundw
          case rel => exact ⟨i + 1, by omega, by go_num, hS⟩
          case measure => simp [intOf]; omega
        · rw [decide_eq_false hle, if_neg (by simp)] at hsp
          subst hsp
          clear hspec him
          go_wp2_with fail
          have hS := Lib.hid (show (fun V : World => Sep V (rBlk o (T + t) (.slice (some ⟨g, 0, none⟩) n c) :: aVec (.slice (some ⟨g, 0, none⟩) n c) n L :: rs)) _ from hS.out.drew)
          refine hl_begin (fun V : World => Sep V (rBlk o (T + t) (.slice (some ⟨g, 0, none⟩) n c) :: aVec (.slice (some ⟨g, 0, none⟩) n c) n L :: rs)) [(0, true), (1, true), (2, true), (3, true), (4, true), (5, true), (6, true), (7, true), (8, true), (9, true), (10, true), (11, true), (12, true), (13, true), (14, true), (15, true), (16, true), (17, true), (18, true), (19, true), (20, true), (21, true)] (by kernel_rfl) (by kernel_rfl) (by kernel_rfl) rfl (fun _ _ _ _ _ h => h) hS.out ?_
          change HL _ _ _ _ _ _ (World.drew _)
          generalize World.drew _ = wd at *
          refine hl_take ?v85 rfl (by kernel_rfl) ?y85 ?z85
          case y85 => intro W hW; have := g7; replace hW := Lib.hid hW; go_simp; try rfl
          case z85 =>
          simp only [Act.put, List.setIfInBounds_toArray, List.set_cons_succ, List.set_cons_zero, List.getElem_toArray, List.getElem_cons_zero]
          refine hl_take ?v86 rfl (by kernel_rfl) ?y86 ?z86
          case y86 => intro W hW; have := g7; replace hW := Lib.hid hW; go_simp; try rfl
          case z86 =>
          simp only [Act.put, List.setIfInBounds_toArray, List.set_cons_succ, List.set_cons_zero, List.getElem_toArray, List.getElem_cons_zero, List.getElem_cons_succ]
          refine hl_take ?v87 rfl (by kernel_rfl) ?y87 ?z87
          case y87 => intro W hW; have := g7; replace hW := Lib.hid hW; go_simp; try rfl
          case z87 =>
          simp only [Act.put, List.setIfInBounds_toArray, List.set_cons_succ, List.set_cons_zero, List.getElem_toArray, List.getElem_cons_zero, List.getElem_cons_succ]
          refine hl_take ?v88 rfl (by kernel_rfl) ?y88 ?z88
          case y88 => intro W hW; have := g7; replace hW := Lib.hid hW; go_simp; try rfl
          case z88 =>
          simp only [Act.put, List.setIfInBounds_toArray, List.set_cons_succ, List.set_cons_zero, List.getElem_toArray, List.getElem_cons_zero, List.getElem_cons_succ]
          refine hl_take ?v89 rfl (by kernel_rfl) ?y89 ?z89
          case y89 => intro W hW; obtain ⟨_, c0, c1, _⟩ := (show Sep _ _ from hW).b2; obtain ⟨⟨z0, z1, z2⟩, _⟩ := (show Sep _ _ from hW).to1.aAt i hiL.out; rw [hgy.out] at z0 z1 z2; simp only at z0 z1 z2; replace hW := Lib.hid hW; go_simp; try rfl
          case z89 =>
          simp only [Act.put, List.setIfInBounds_toArray, List.set_cons_succ, List.set_cons_zero, List.getElem_toArray, List.getElem_cons_zero, List.getElem_cons_succ]
          refine hl_take ?v90 rfl (by kernel_rfl) ?y90 ?z90
          case y90 => intro W hW; have := g7; replace hW := Lib.hid hW; go_simp; try rfl
          case z90 =>
          simp only [Act.put, List.setIfInBounds_toArray, List.set_cons_succ, List.set_cons_zero, List.getElem_toArray, List.getElem_cons_zero, List.getElem_cons_succ]
          refine hl_take ?v91 rfl (by kernel_rfl) ?y91 ?z91
          case y91 => intro W hW; have := g7; replace hW := Lib.hid hW; go_simp; try rfl
          case z91 =>
          simp only [Act.put, List.setIfInBounds_toArray, List.set_cons_succ, List.set_cons_zero, List.getElem_toArray, List.getElem_cons_zero, List.getElem_cons_succ]
          refine hl_take ?v92 rfl (by kernel_rfl) ?y92 ?z92
          case y92 => intro W hW; have := g7; replace hW := Lib.hid hW; go_simp; try rfl
          case z92 =>
          simp only [Act.put, List.setIfInBounds_toArray, List.set_cons_succ, List.set_cons_zero, List.getElem_toArray, List.getElem_cons_zero, List.getElem_cons_succ]
          refine hl_take ?v93 rfl (by kernel_rfl) ?y93 ?z93
          case y93 => intro W hW; have := g7; replace hW := Lib.hid hW; go_simp; try rfl
          case z93 =>
          simp only [Act.put, List.setIfInBounds_toArray, List.set_cons_succ, List.set_cons_zero, List.getElem_toArray, List.getElem_cons_zero, List.getElem_cons_succ]
          refine hl_take ?v94 rfl (by kernel_rfl) ?y94 ?z94
          case y94 => intro W hW; have := g7; replace hW := Lib.hid hW; go_simp; try rfl
          case z94 =>
          simp only [Act.put, List.setIfInBounds_toArray, List.set_cons_succ, List.set_cons_zero, List.getElem_toArray, List.getElem_cons_zero, List.getElem_cons_succ]
          refine hl_take ?v95 rfl (by kernel_rfl) ?y95 ?z95
          case y95 => intro W hW; have := g7; replace hW := Lib.hid hW; go_simp; try rfl
          case z95 =>
          simp only [Act.put, List.setIfInBounds_toArray, List.set_cons_succ, List.set_cons_zero, List.getElem_toArray, List.getElem_cons_zero, List.getElem_cons_succ]
          refine hl_take ?v96 rfl (by kernel_rfl) ?y96 ?z96
          case y96 => intro W hW; obtain ⟨_, c0, c1, _⟩ := (show Sep _ _ from hW).b2; obtain ⟨⟨z0, z1, z2⟩, _⟩ := (show Sep _ _ from hW).to1.aAt i hiL.out; rw [hgy.out] at z0 z1 z2; simp only at z0 z1 z2; replace hW := Lib.hid hW; go_simp; try rfl
          case z96 =>
          simp only [Act.put, List.setIfInBounds_toArray, List.set_cons_succ, List.set_cons_zero, List.getElem_toArray, List.getElem_cons_zero, List.getElem_cons_succ]
          refine hl_take ?v97 rfl (by kernel_rfl) ?y97 ?z97
          case y97 => intro W hW; have := g7; replace hW := Lib.hid hW; go_simp; try rfl
          case z97 =>
          simp only [Act.put, List.setIfInBounds_toArray, List.set_cons_succ, List.set_cons_zero, List.getElem_toArray, List.getElem_cons_zero, List.getElem_cons_succ]
          refine hl_take ?v98 rfl (by kernel_rfl) ?y98 ?z98
          case y98 => intro W hW; have := g7; replace hW := Lib.hid hW; go_simp; try rfl
          case z98 =>
          simp only [Act.put, List.setIfInBounds_toArray, List.set_cons_succ, List.set_cons_zero, List.getElem_toArray, List.getElem_cons_zero, List.getElem_cons_succ]
          refine hl_take ?v99 rfl (by kernel_rfl) ?y99 ?z99
          case y99 => intro W hW; have := g7; replace hW := Lib.hid hW; go_simp; try rfl
          case z99 =>
          simp only [Act.put, List.setIfInBounds_toArray, List.set_cons_succ, List.set_cons_zero, List.getElem_toArray, List.getElem_cons_zero, List.getElem_cons_succ]
          refine hl_take ?v100 rfl (by kernel_rfl) ?y100 ?z100
          case y100 => intro W hW; obtain ⟨_, c0, c1, _⟩ := (show Sep _ _ from hW).b2; obtain ⟨⟨z0, z1, z2⟩, _⟩ := (show Sep _ _ from hW).to1.aAt i hiL.out; rw [hgy.out] at z0 z1 z2; simp only at z0 z1 z2; replace hW := Lib.hid hW; go_simp; try rfl
          case z100 =>
          simp only [Act.put, List.setIfInBounds_toArray, List.set_cons_succ, List.set_cons_zero, List.getElem_toArray, List.getElem_cons_zero, List.getElem_cons_succ]
          refine hl_take ?v101 rfl (by kernel_rfl) ?y101 ?z101
          case y101 => intro W hW; have := g7; replace hW := Lib.hid hW; go_simp; try rfl
          case z101 =>
          simp only [Act.put, List.setIfInBounds_toArray, List.set_cons_succ, List.set_cons_zero, List.getElem_toArray, List.getElem_cons_zero, List.getElem_cons_succ]
          refine hl_take ?v102 rfl (by kernel_rfl) ?y102 ?z102
          case y102 => intro W hW; have := g7; replace hW := Lib.hid hW; go_simp; try rfl
          case z102 =>
          simp only [Act.put, List.setIfInBounds_toArray, List.set_cons_succ, List.set_cons_zero, List.getElem_toArray, List.getElem_cons_zero, List.getElem_cons_succ]
          refine hl_take ?v103 rfl (by kernel_rfl) ?y103 ?z103
          case y103 => intro W hW; have := g7; replace hW := Lib.hid hW; go_simp; try rfl
          case z103 =>
          simp only [Act.put, List.setIfInBounds_toArray, List.set_cons_succ, List.set_cons_zero, List.getElem_toArray, List.getElem_cons_zero, List.getElem_cons_succ]
          refine hl_take ?v104 rfl (by kernel_rfl) ?y104 ?z104
          case y104 => intro W hW; obtain ⟨_, c0, c1, _⟩ := (show Sep _ _ from hW).b2; obtain ⟨⟨z0, z1, z2⟩, _⟩ := (show Sep _ _ from hW).to1.aAt i hiL.out; rw [hgy.out] at z0 z1 z2; simp only at z0 z1 z2; replace hW := Lib.hid hW; go_simp; try rfl
          case z104 =>
          simp only [Act.put, List.setIfInBounds_toArray, List.set_cons_succ, List.set_cons_zero, List.getElem_toArray, List.getElem_cons_zero, List.getElem_cons_succ]
          refine hl_take ?v105 rfl (by kernel_rfl) ?y105 ?z105
          case y105 => intro W hW; have := g7; replace hW := Lib.hid hW; go_simp; try rfl
          case z105 =>
          simp only [Act.put, List.setIfInBounds_toArray, List.set_cons_succ, List.set_cons_zero, List.getElem_toArray, List.getElem_cons_zero, List.getElem_cons_succ]
          refine hl_take ?v106 rfl (by kernel_rfl) ?y106 ?z106
          case y106 => intro W hW; have := g7; replace hW := Lib.hid hW; go_simp; try rfl
          case z106 =>
          simp only [Act.put, List.setIfInBounds_toArray, List.set_cons_succ, List.set_cons_zero, List.getElem_toArray, List.getElem_cons_zero, List.getElem_cons_succ]
          refine hl_done ?_
          have hE := Lib.hid ((fresh_at _).graft hS.out)
          obtain ⟨_, c0, c1, f0, f1⟩ := hE.out.to1.b2
          obtain ⟨_, e0, e1, _⟩ := hS.out.b2
          have one1 := Lib.hid (tms_one (L.take i))
          have one2 := Lib.hid (tms_one (L.drop i))
          go_wp2_with (first
            | (at_builtin; refine wpList_append_sep ((fresh_at _).graft q5.out) rfl _ _ 36 rfl i0 (.agg #[.int .i64 0, .int .i64 0, .int .i64 0]) 24 Try.underlying36 hi0 hz0 hz1 hz2 rfl (by decide) rfl (n - i) ((L.drop i).flatMap tC) (src_suf (((fresh_at _).graft q5.out).bring 3 rfl) hl.out i _ (by omega)) one2.out (by simp only [maxLen]; omega) (by omega) ?_; intro a3 c3_ w7 q7; rw [Nat.zero_add, List.nil_append] at q7; obtain ⟨_, p0, p1, pf0, pf1⟩ := (q7.bring 2 rfl).b2; replace q7 := Lib.hid q7; clear k0 k1 kf0 kf1)
            | (at_builtin; refine wpList_append_sep hE.out rfl _ _ 36 rfl i0 (.agg #[.int .i64 0, .int .i64 0, .int .i64 0]) 24 Try.underlying36 hi0 hz0 hz1 hz2 rfl (by decide) rfl i ((L.take i).flatMap tC) (src_pre hE.out.to2 hl.out i _ (by omega)) one1.out (by simp only [maxLen]; omega) (by omega) ?_; intro a1 c1_ w5 q5; rw [Nat.zero_add, List.nil_append] at q5; obtain ⟨_, k0, k1, kf0, kf1⟩ := q5.to1.b2; replace q5 := Lib.hid q5; clear c0 c1 f0 f1))
          go_ret2
          have h7 := (((((q7.out.bring 2 rfl).set 1 (.slice a3 (n - i) c3_)).bring 3 rfl).tail.bring 1 rfl).bring 1 rfl)
          exact ⟨a1, c1_, rfl, (ref_close hlD.out h7).to1⟩
end Go.Proofs.Ytcbjgibcgalppaa
