/-
  The walk of HistoryRespects. No condition beside arguments that can be read.
-/
import Derived.Test.YtechagciefhpbaaHLaw
namespace Go.Proofs.Ytechagciefhpbaa
open Go.RowKit
theorem sp10 {S : List Sp} {q : Nat} {s : Sp} (h : S[q]? = some s) : (scells S)[q * 10]? = some (.int .i64 s.call) ∧ (scells S)[q * 10 + 1]? = some (.int .i64 s.thread) ∧ (scells S)[q * 10 + 2]? = some (.int .i64 s.from_) ∧ (scells S)[q * 10 + 3]? = some (.int .i64 s.to) ∧ (scells S)[q * 10 + 4]? = some (.int .i64 s.act.kind) ∧ (scells S)[q * 10 + 5]? = some (.int .i64 s.act.txn) ∧ (scells S)[q * 10 + 6]? = some (.int .i64 s.act.t) ∧ (scells S)[q * 10 + 7]? = some (.int .i64 s.act.r) ∧ (scells S)[q * 10 + 8]? = some (.int .i64 s.act.mode) ∧ (scells S)[q * 10 + 9]? = some (.int .i64 s.act.code) :=
  ⟨(scells_at h 0 (by omega)), (scells_at h 1 (by omega)), (scells_at h 2 (by omega)), (scells_at h 3 (by omega)), (scells_at h 4 (by omega)), (scells_at h 5 (by omega)), (scells_at h 6 (by omega)), (scells_at h 7 (by omega)), (scells_at h 8 (by omega)), (scells_at h 9 (by omega))⟩
theorem upc_cells (n : Nat) : (upN n).flatMap icell = (upN n).map (Value.int .i64) := by
  generalize upN n = l
  induction l with
  | nil => rfl
  | cons x l ih => rw [List.flatMap_cons, List.map_cons, ih]; rfl
theorem ints_flat : ∀ l : List Int, l.flatMap icell = l.map (Value.int .i64)
  | [] => rfl
  | x :: l => by rw [List.flatMap_cons, List.map_cons, ints_flat l]; rfl
theorem wp_call2 {P : Program} {o : Oper} {a : Act} {K : Act → World → Prop} {Q : Exit → Act → World → Prop} {w w' : World} {s x : Operand} {t : TypeId} {u v r : Value} (ho : o.op = .call { callee := .builtin .append, args := #[s, x], argTypes := #[t, t] })
    (hs : a.eval s = u) (hx : a.eval x = v) (hr : (Builtin.append_ #[t, t] o.type #[u, v]).run P w = .ok r w') (h : K (a.put o.dst r) w') : o.wp P a w K Q := by
  unfold Oper.wp execOp
  simp only [ho, resolve, invoke, builtin, Sem.run_bind, Sem.run_pure, Result.andThen_ok, List.map_toArray, List.map_cons, List.map_nil, hs, hx, hr]
  exact h
theorem rl_of_blk {w : World} {g sz n : Nat} {t : TypeId} {cs : Array Value} {rs : List Res} (h : Sep w (blk g t cs :: rs)) (hn : cs.size = n * sz) (hm : n ≤ maxLen) : RL w (.slice (some ⟨g, 0, none⟩) n n) sz n cs.toList :=
  (h.blk_vec (size := sz) (n := n) (c := n) (xs := cs.toList) (by simpa using hn) (Nat.le_refl _) hm hn (by rw [List.take_of_length_le (by simp [hn])])).vec_rl
theorem rl_pair {w : World} {g : Nat} {t : TypeId} {a b : Sp} {rs : List Res} (h : Sep w (blk g t (a.cells ++ b.cells).toArray :: rs)) : RL w (.slice (some ⟨g, 0, none⟩) 2 2) 10 [a, b].length (scells [a, b]) := by
  have h1 := rl_of_blk (sz := 10) (n := 2) h rfl (by simp only [maxLen]; omega)
  have e : scells [a, b] = a.cells ++ b.cells := by unfold scells; rw [List.flatMap_cons, List.flatMap_cons, List.flatMap_nil, List.append_nil]
  rw [e]
  exact h1
theorem rl_two {w : World} {g : Nat} {t : TypeId} {x y : Int} {rs : List Res} (h : Sep w (blk g t #[.int .i64 x, .int .i64 y] :: rs)) : RL w (.slice (some ⟨g, 0, none⟩) 2 2) 1 [x, y].length ([x, y].flatMap icell) := by
  have h1 := rl_of_blk (sz := 1) (n := 2) h rfl (by simp only [maxLen]; omega)
  exact h1
set_option maxHeartbeats 8000000 in
set_option maxRecDepth 100000 in
theorem respects_tail (i k : Int) (a : Option Addr) (len cap : Nat) (l : List Ev) (w : World) (hv : RL w (.slice a len cap) 9 len (ecells l)) (hn : l.length = len) :
    Calls Try.prog 3 #[.slice a len cap, .int .i64 i, .int .i64 k] w fun e w' => e = .returned (.bool true) ∧ Below w.heap.size w w' := by
  by_cases h60 : len ≤ 60
  · have i60 : ¬ ((len : Int) > 60) := by omega
    have hlen : l.length ≤ 1000 := by omega
    have hv2 := Lib.hid hv
    clear hv
    obtain ⟨kf, hkf, hF⟩ := Fine.walk l 0 [] Fine.nil
    have hSl := walkS_len l 0 []
    have H := Lib.hid (fun W hb => spans_any (.slice a len cap) l W (by rw [hn]; exact hv2.out.below hb) hlen)
    obtain ⟨S, hS0⟩ : ∃ S, (walkS l 0 []).1 = S := ⟨_, rfl⟩
    rw [hS0] at hF hSl
    simp only [hS0] at H
    clear hS0
    obtain ⟨n, hnS⟩ : ∃ n, Hid (S.length = n) := ⟨_, rfl⟩
    rw [hnS.out] at hSl
    simp only [hnS.out] at H
    replace H := Lib.hid H.out
    replace hF := Lib.hid hF
    have hn60 : n ≤ 60 := by simp at hSl; omega
    have hup := Lib.hid (resp_up hF.out)
    obtain ⟨i0, hi0, hz0, hz1, hz2⟩ := info_parts info_int
    clear hSl hkf hv2 h60
    replace hn := Lib.hid hn
    go_enter Try.func3, Try.ntmps3
    go_wp2_with fail
    refine (lives_any _).mono ?_
    rintro e w1 ⟨rfl, q⟩
    have hB := Lib.hid ((Sep.start w).below q)
    have hb1 := Lib.hid q
    clear q
    go_wp2_with fail
    refine (H.out _ hb1.out).mono ?_
    rintro e w2 ⟨sa, sc, rfl, q⟩
    have hV0 := Lib.hid ((q.graft hB.out).vec_nil 3 1)
    clear q H hb1 hB
    go_wp2_with fail
    go_loopw [8, 9] (fun v x wr => ∃ (j : Nat) (oa : Option Addr) (oc : Nat), j ≤ n ∧ v = .slice oa j oc ∧ x = .int .i64 j ∧ Hid (Sep wr [vec 3 1 (.slice oa j oc) j ((upN j).map (Value.int .i64)), vec 36 10 (.slice sa n sc) n (scells S), old w])) (fun _ x _ => n - (intOf x).toNat)
    case atStart => exact ⟨0, none, 0, Nat.zero_le _, rfl, rfl, hV0⟩
    case round =>
      clear hV0
      obtain ⟨j, oa, oc, hj, rfl, rfl, hV⟩ := hrel
      by_cases hlt : j < n
      · have h1c : Hid (∀ u ∈ ([.int .i64 (j : Int)] : List Value), u.oneCell' = true) := Lib.hid (by simp [Value.oneCell'])
        go_wp2_with (at_builtin; refine wpList_append_sep (hV.out.allocG _) rfl _ _ 26 rfl i0 _ 8 Try.underlying26 hi0 hz0 hz1 hz2 rfl (by decide) rfl 1 [.int .i64 (j : Int)] (SrcA.one _ _ _ _) h1c.out ?c3 ?c4 ?_)
        case c3 => simp only [maxLen]; omega
        case c4 => omega
        intro oa' oc' w3 q
        replace q := Lib.hid q
        go_wp2_with fail
        go_roundw
        case rel => exact ⟨j + 1, oa', oc', by omega, rfl, by go_num, Lib.hid (by have := q.out; rw [upN_succ, List.map_append]; exact this)⟩
        case measure => simp [intOf]; omega
      · have hjn : j = n := by omega
        obtain rfl : n = j := hjn.symm
        clear hlt hj
        have hR := Lib.hid (fun W (hW : Sep W [vec 3 1 (.slice oa n oc) n ((upN n).map (Value.int .i64)), vec 36 10 (.slice sa n sc) n (scells S), old w]) => respects_any (.slice sa n sc) (.slice oa n oc) S (upN n) W (by rw [hnS.out]; exact hW.to1.vec_rl) (by rw [upN_len, ints_flat]; exact hW.vec_rl) (by rw [hnS.out]; omega) (by rw [upN_len]; omega))
        rw [hnS.out] at hup
        simp only [hup.out] at hR
        replace hR := Lib.hid hR.out
        go_wp2_with fail
        refine (hR.out _ hV.out).mono ?_
        rintro e w3 ⟨rfl, q⟩
        replace hV := Lib.hid (hV.out.below q)
        clear q
        by_cases h2 : 2 ≤ n
        · have hnS' := hnS
          obtain ⟨g, rfl⟩ : ∃ g, sa = some ⟨g, 0, none⟩ := by
            rcases hV.out.to1.gvec.2 with ⟨_, h1⟩ | ⟨g, cap, cur, hv, _⟩
            · omega
            · injection hv with e1 _ _
              exact ⟨g, e1⟩
          obtain ⟨og, rfl, hnoc⟩ : ∃ og, oa = some ⟨og, 0, none⟩ ∧ n ≤ oc := by
            rcases hV.out.gvec.2 with ⟨_, h1⟩ | ⟨g, cap, cur, hv, _, _, hnc, _⟩
            · omega
            · injection hv with e1 _ e3
              exact ⟨g, e1, by omega⟩
          have i2 : ¬ (n : Int) < 2 := by omega
          obtain ⟨q, hq0⟩ := Int.eq_ofNat_of_zero_le (Int.emod_nonneg i (by omega : (n : Int) ≠ 0))
          obtain ⟨j, hj0⟩ := Int.eq_ofNat_of_zero_le (Int.emod_nonneg k (by omega : (n : Int) ≠ 0))
          have hqn : q < n := by have := Int.emod_lt_of_pos i (show (0 : Int) < n by omega); omega
          have hjn2 : j < n := by have := Int.emod_lt_of_pos k (show (0 : Int) < n by omega); omega
          have HPi := Lib.hid (fun W => pick_any i n (by omega) (by omega) W)
          have HPk := Lib.hid (fun W => pick_any k n (by omega) (by omega) W)
          rw [hq0] at HPi
          rw [hj0] at HPk
          obtain ⟨s, hs⟩ : ∃ s, S[q]? = some s := ⟨S[q]'(by rw [hnS.out]; exact hqn), List.getElem?_eq_getElem _⟩
          obtain ⟨t, ht⟩ : ∃ t, S[j]? = some t := ⟨S[j]'(by rw [hnS.out]; exact hjn2), List.getElem?_eq_getElem _⟩
          have es : S.getD q default = s := by rw [List.getD_eq_getElem?_getD, hs]; rfl
          have et : S.getD j default = t := by rw [List.getD_eq_getElem?_getD, ht]; rfl
          have hb0 := befB_both hF.out (i := q) (j := j) (by rw [hnS.out]; exact hqn) (by rw [hnS.out]; exact hjn2)
          have hb3 := befB_up hF.out (i := q) (j := q) (by rw [hnS.out]; exact hqn) (Nat.le_refl _)
          rw [es, et] at hb0
          rw [es] at hb3
          clear es et hq0 hj0
          have i3 : (0 : Int) ≤ (q : Int) := by omega
          have i4 : (q : Int) < (n : Int) := by omega
          have i5 : (0 : Int) ≤ (j : Int) := by omega
          have i6 : (j : Int) < (n : Int) := by omega
          replace hb3 := Lib.hid hb3
          have hB := hV
          clear hV
          have hqj : q = j → s = t := fun h => by rw [h, ht] at hs; injection hs with hs; exact hs.symm
          have hq := Lib.hid hs
          have hj := Lib.hid ht
          clear hs ht
          go_wp2_with fail
          refine (HPi.out _).mono ?_
          rintro e w4 ⟨rfl, rfl⟩
          go_wp2_with fail
          refine (HPk.out _).mono ?_
          rintro e w5 ⟨rfl, rfl⟩
          go_wp2_with fail
          clear HPi HPk
          by_cases hik : q = j
          · have hst := hqj hik
            subst hik
            subst hst
            clear hb0 hqj hj i5 i6 hjn2
            have hS := Lib.hid (show (fun W : World => Sep W [vec 3 1 (.slice (some ⟨og, 0, none⟩) n oc) n ((upN n).map (Value.int .i64)), vec 36 10 (.slice (some ⟨g, 0, none⟩) n sc) n (scells S), old w]) _ from hB.out.drew)
            refine hl_begin (fun W : World => Sep W [vec 3 1 (.slice (some ⟨og, 0, none⟩) n oc) n ((upN n).map (Value.int .i64)), vec 36 10 (.slice (some ⟨g, 0, none⟩) n sc) n (scells S), old w]) [(0, true), (1, true), (2, true), (3, true), (4, true), (5, true), (6, true), (7, true), (8, false), (9, true), (10, true), (11, true), (12, true), (13, true), (14, true), (15, true), (16, true), (17, true), (18, false), (19, true), (20, true), (21, true), (22, true), (23, true), (24, true), (25, true), (26, true), (27, true), (28, true), (29, false), (30, true)] (by kernel_rfl) (by kernel_rfl) (by kernel_rfl) rfl (fun _ _ _ _ _ h => h) hS.out ?_
            change HL _ _ _ _ _ _ (World.drew _)
            generalize World.drew _ = wd at *
            refine hl_take ?v1 rfl (by kernel_rfl) ?y1 ?z1
            case y1 => intro W hW; skip; replace hW := Lib.hid hW; go_simp; try rfl
            case z1 =>
            simp only [Act.put, List.setIfInBounds_toArray, List.set_cons_succ, List.set_cons_zero, List.getElem_toArray, List.getElem_cons_zero, List.getElem_cons_succ]
            refine hl_take ?v2 rfl (by kernel_rfl) ?y2 ?z2
            case y2 => intro W hW; skip; replace hW := Lib.hid hW; go_simp; try rfl
            case z2 =>
            simp only [Act.put, List.setIfInBounds_toArray, List.set_cons_succ, List.set_cons_zero, List.getElem_toArray, List.getElem_cons_zero, List.getElem_cons_succ]
            refine hl_take ?v3 rfl (by kernel_rfl) ?y3 ?z3
            case y3 => intro W hW; skip; replace hW := Lib.hid hW; go_simp; try rfl
            case z3 =>
            simp only [Act.put, List.setIfInBounds_toArray, List.set_cons_succ, List.set_cons_zero, List.getElem_toArray, List.getElem_cons_zero, List.getElem_cons_succ]
            refine hl_take ?v4 rfl (by kernel_rfl) ?y4 ?z4
            case y4 => intro W hW; change Sep W _ at hW; obtain ⟨y0, y1, y2, y3, y4, y5, y6, y7, y8, y9⟩ := sp10 hq.out; replace y0 := (hW.to1.vec_cell y0).1; replace y1 := (hW.to1.vec_cell y1).1; replace y2 := (hW.to1.vec_cell y2).1; replace y3 := (hW.to1.vec_cell y3).1; replace y4 := (hW.to1.vec_cell y4).1; replace y5 := (hW.to1.vec_cell y5).1; replace y6 := (hW.to1.vec_cell y6).1; replace y7 := (hW.to1.vec_cell y7).1; replace y8 := (hW.to1.vec_cell y8).1; replace y9 := (hW.to1.vec_cell y9).1; replace hW := Lib.hid hW; go_simp; try rfl
            case z4 =>
            simp only [Act.put, List.setIfInBounds_toArray, List.set_cons_succ, List.set_cons_zero, List.getElem_toArray, List.getElem_cons_zero, List.getElem_cons_succ]
            refine hl_take ?v5 rfl (by kernel_rfl) ?y5 ?z5
            case y5 => intro W hW; skip; replace hW := Lib.hid hW; go_simp; try rfl
            case z5 =>
            simp only [Act.put, List.setIfInBounds_toArray, List.set_cons_succ, List.set_cons_zero, List.getElem_toArray, List.getElem_cons_zero, List.getElem_cons_succ]
            refine hl_take ?v6 rfl (by kernel_rfl) ?y6 ?z6
            case y6 => intro W hW; skip; replace hW := Lib.hid hW; go_simp; try rfl
            case z6 =>
            simp only [Act.put, List.setIfInBounds_toArray, List.set_cons_succ, List.set_cons_zero, List.getElem_toArray, List.getElem_cons_zero, List.getElem_cons_succ]
            refine hl_take ?v7 rfl (by kernel_rfl) ?y7 ?z7
            case y7 => intro W hW; skip; replace hW := Lib.hid hW; go_simp; try rfl
            case z7 =>
            simp only [Act.put, List.setIfInBounds_toArray, List.set_cons_succ, List.set_cons_zero, List.getElem_toArray, List.getElem_cons_zero, List.getElem_cons_succ]
            refine hl_take ?v8 rfl (by kernel_rfl) ?y8 ?z8
            case y8 => intro W hW; change Sep W _ at hW; obtain ⟨y0, y1, y2, y3, y4, y5, y6, y7, y8, y9⟩ := sp10 hq.out; replace y0 := (hW.to1.vec_cell y0).1; replace y1 := (hW.to1.vec_cell y1).1; replace y2 := (hW.to1.vec_cell y2).1; replace y3 := (hW.to1.vec_cell y3).1; replace y4 := (hW.to1.vec_cell y4).1; replace y5 := (hW.to1.vec_cell y5).1; replace y6 := (hW.to1.vec_cell y6).1; replace y7 := (hW.to1.vec_cell y7).1; replace y8 := (hW.to1.vec_cell y8).1; replace y9 := (hW.to1.vec_cell y9).1; replace hW := Lib.hid hW; go_simp; try rfl
            case z8 =>
            simp only [Act.put, List.setIfInBounds_toArray, List.set_cons_succ, List.set_cons_zero, List.getElem_toArray, List.getElem_cons_zero, List.getElem_cons_succ]
            refine hl_one rfl (by kernel_rfl) (fun K hK => ?_)
            go_simp
            refine (before_any s s _).mono ?_
            rintro e w1 ⟨rfl, q1⟩
            replace hS := Lib.hid (hS.out.below q1)
            clear q1
            rw [hb3.out]
            refine hK.out _ _ hS.out ?_
            clear hK K
            try simp only [Act.put, List.setIfInBounds_toArray, List.set_cons_succ, List.set_cons_zero, List.getElem_toArray, List.getElem_cons_zero, List.getElem_cons_succ]
            refine hl_take ?v9 rfl (by kernel_rfl) ?y9 ?z9
            case y9 => intro W hW; skip; replace hW := Lib.hid hW; go_simp; try rfl
            case z9 =>
            simp only [Act.put, List.setIfInBounds_toArray, List.set_cons_succ, List.set_cons_zero, List.getElem_toArray, List.getElem_cons_zero, List.getElem_cons_succ]
            refine hl_skip rfl (by kernel_rfl) ?_
            simp only [Act.put, List.setIfInBounds_toArray, List.set_cons_succ, List.set_cons_zero, List.getElem_toArray, List.getElem_cons_zero, List.getElem_cons_succ]
            refine hl_skip rfl (by kernel_rfl) ?_
            simp only [Act.put, List.setIfInBounds_toArray, List.set_cons_succ, List.set_cons_zero, List.getElem_toArray, List.getElem_cons_zero, List.getElem_cons_succ]
            refine hl_skip rfl (by kernel_rfl) ?_
            simp only [Act.put, List.setIfInBounds_toArray, List.set_cons_succ, List.set_cons_zero, List.getElem_toArray, List.getElem_cons_zero, List.getElem_cons_succ]
            refine hl_skip rfl (by kernel_rfl) ?_
            simp only [Act.put, List.setIfInBounds_toArray, List.set_cons_succ, List.set_cons_zero, List.getElem_toArray, List.getElem_cons_zero, List.getElem_cons_succ]
            refine hl_skip rfl (by kernel_rfl) ?_
            simp only [Act.put, List.setIfInBounds_toArray, List.set_cons_succ, List.set_cons_zero, List.getElem_toArray, List.getElem_cons_zero, List.getElem_cons_succ]
            refine hl_skip rfl (by kernel_rfl) ?_
            simp only [Act.put, List.setIfInBounds_toArray, List.set_cons_succ, List.set_cons_zero, List.getElem_toArray, List.getElem_cons_zero, List.getElem_cons_succ]
            refine hl_skip rfl (by kernel_rfl) ?_
            simp only [Act.put, List.setIfInBounds_toArray, List.set_cons_succ, List.set_cons_zero, List.getElem_toArray, List.getElem_cons_zero, List.getElem_cons_succ]
            refine hl_skip rfl (by kernel_rfl) ?_
            simp only [Act.put, List.setIfInBounds_toArray, List.set_cons_succ, List.set_cons_zero, List.getElem_toArray, List.getElem_cons_zero, List.getElem_cons_succ]
            refine hl_skip1 rfl (by kernel_rfl) ?_
            simp only [Act.put, List.setIfInBounds_toArray, List.set_cons_succ, List.set_cons_zero, List.getElem_toArray, List.getElem_cons_zero, List.getElem_cons_succ]
            refine hl_take ?v10 rfl (by kernel_rfl) ?y10 ?z10
            case y10 => intro W hW; skip; replace hW := Lib.hid hW; go_simp; try rfl
            case z10 =>
            simp only [Act.put, List.setIfInBounds_toArray, List.set_cons_succ, List.set_cons_zero, List.getElem_toArray, List.getElem_cons_zero, List.getElem_cons_succ]
            refine hl_take ?v11 rfl (by kernel_rfl) ?y11 ?z11
            case y11 => intro W hW; skip; replace hW := Lib.hid hW; go_simp; try rfl
            case z11 =>
            simp only [Act.put, List.setIfInBounds_toArray, List.set_cons_succ, List.set_cons_zero, List.getElem_toArray, List.getElem_cons_zero, List.getElem_cons_succ]
            refine hl_take ?v12 rfl (by kernel_rfl) ?y12 ?z12
            case y12 => intro W hW; skip; replace hW := Lib.hid hW; go_simp; try rfl
            case z12 =>
            simp only [Act.put, List.setIfInBounds_toArray, List.set_cons_succ, List.set_cons_zero, List.getElem_toArray, List.getElem_cons_zero, List.getElem_cons_succ]
            refine hl_take ?v13 rfl (by kernel_rfl) ?y13 ?z13
            case y13 => intro W hW; skip; replace hW := Lib.hid hW; go_simp; try rfl
            case z13 =>
            simp only [Act.put, List.setIfInBounds_toArray, List.set_cons_succ, List.set_cons_zero, List.getElem_toArray, List.getElem_cons_zero, List.getElem_cons_succ]
            refine hl_take ?v14 rfl (by kernel_rfl) ?y14 ?z14
            case y14 => intro W hW; skip; replace hW := Lib.hid hW; go_simp; try rfl
            case z14 =>
            simp only [Act.put, List.setIfInBounds_toArray, List.set_cons_succ, List.set_cons_zero, List.getElem_toArray, List.getElem_cons_zero, List.getElem_cons_succ]
            refine hl_take ?v15 rfl (by kernel_rfl) ?y15 ?z15
            case y15 => intro W hW; change Sep W _ at hW; obtain ⟨y0, y1, y2, y3, y4, y5, y6, y7, y8, y9⟩ := sp10 hq.out; replace y0 := (hW.to1.vec_cell y0).1; replace y1 := (hW.to1.vec_cell y1).1; replace y2 := (hW.to1.vec_cell y2).1; replace y3 := (hW.to1.vec_cell y3).1; replace y4 := (hW.to1.vec_cell y4).1; replace y5 := (hW.to1.vec_cell y5).1; replace y6 := (hW.to1.vec_cell y6).1; replace y7 := (hW.to1.vec_cell y7).1; replace y8 := (hW.to1.vec_cell y8).1; replace y9 := (hW.to1.vec_cell y9).1; replace hW := Lib.hid hW; go_simp; try rfl
            case z15 =>
            simp only [Act.put, List.setIfInBounds_toArray, List.set_cons_succ, List.set_cons_zero, List.getElem_toArray, List.getElem_cons_zero, List.getElem_cons_succ]
            refine hl_take ?v16 rfl (by kernel_rfl) ?y16 ?z16
            case y16 => intro W hW; skip; replace hW := Lib.hid hW; go_simp; try rfl
            case z16 =>
            simp only [Act.put, List.setIfInBounds_toArray, List.set_cons_succ, List.set_cons_zero, List.getElem_toArray, List.getElem_cons_zero, List.getElem_cons_succ]
            refine hl_take ?v17 rfl (by kernel_rfl) ?y17 ?z17
            case y17 => intro W hW; skip; replace hW := Lib.hid hW; go_simp; try rfl
            case z17 =>
            simp only [Act.put, List.setIfInBounds_toArray, List.set_cons_succ, List.set_cons_zero, List.getElem_toArray, List.getElem_cons_zero, List.getElem_cons_succ]
            refine hl_take ?v18 rfl (by kernel_rfl) ?y18 ?z18
            case y18 => intro W hW; skip; replace hW := Lib.hid hW; go_simp; try rfl
            case z18 =>
            simp only [Act.put, List.setIfInBounds_toArray, List.set_cons_succ, List.set_cons_zero, List.getElem_toArray, List.getElem_cons_zero, List.getElem_cons_succ]
            refine hl_take ?v19 rfl (by kernel_rfl) ?y19 ?z19
            case y19 => intro W hW; change Sep W _ at hW; obtain ⟨y0, y1, y2, y3, y4, y5, y6, y7, y8, y9⟩ := sp10 hq.out; replace y0 := (hW.to1.vec_cell y0).1; replace y1 := (hW.to1.vec_cell y1).1; replace y2 := (hW.to1.vec_cell y2).1; replace y3 := (hW.to1.vec_cell y3).1; replace y4 := (hW.to1.vec_cell y4).1; replace y5 := (hW.to1.vec_cell y5).1; replace y6 := (hW.to1.vec_cell y6).1; replace y7 := (hW.to1.vec_cell y7).1; replace y8 := (hW.to1.vec_cell y8).1; replace y9 := (hW.to1.vec_cell y9).1; replace hW := Lib.hid hW; go_simp; try rfl
            case z19 =>
            simp only [Act.put, List.setIfInBounds_toArray, List.set_cons_succ, List.set_cons_zero, List.getElem_toArray, List.getElem_cons_zero, List.getElem_cons_succ]
            refine hl_one rfl (by kernel_rfl) (fun K hK => ?_)
            go_simp
            refine (before_any s s _).mono ?_
            rintro e w1 ⟨rfl, q1⟩
            replace hS := Lib.hid (hS.out.below q1)
            clear q1
            rw [hb3.out]
            refine hK.out _ _ hS.out ?_
            clear hK K
            try simp only [Act.put, List.setIfInBounds_toArray, List.set_cons_succ, List.set_cons_zero, List.getElem_toArray, List.getElem_cons_zero, List.getElem_cons_succ]
            refine hl_take ?v20 rfl (by kernel_rfl) ?y20 ?z20
            case y20 => intro W hW; skip; replace hW := Lib.hid hW; go_simp; try rfl
            case z20 =>
            simp only [Act.put, List.setIfInBounds_toArray, List.set_cons_succ, List.set_cons_zero, List.getElem_toArray, List.getElem_cons_zero, List.getElem_cons_succ]
            refine hl_done ?_
            clear hB
            replace hB := hS
            clear hS
            go_wp2_with fail
            have hS := Lib.hid (show (fun W : World => Sep W [vec 3 1 (.slice (some ⟨og, 0, none⟩) n oc) n ((upN n).map (Value.int .i64)), vec 36 10 (.slice (some ⟨g, 0, none⟩) n sc) n (scells S), old w]) _ from hB.out.drew)
            refine hl_begin (fun W : World => Sep W [vec 3 1 (.slice (some ⟨og, 0, none⟩) n oc) n ((upN n).map (Value.int .i64)), vec 36 10 (.slice (some ⟨g, 0, none⟩) n sc) n (scells S), old w]) [(0, true), (1, true), (2, true), (3, true), (4, true), (5, true), (6, true), (7, true), (8, false), (9, true)] (by kernel_rfl) (by kernel_rfl) (by kernel_rfl) rfl (fun _ _ _ _ _ h => h) hS.out ?_
            change HL _ _ _ _ _ _ (World.drew _)
            generalize World.drew _ = wd at *
            refine hl_take ?v21 rfl (by kernel_rfl) ?y21 ?z21
            case y21 => intro W hW; skip; replace hW := Lib.hid hW; go_simp; try rfl
            case z21 =>
            simp only [Act.put, List.setIfInBounds_toArray, List.set_cons_succ, List.set_cons_zero, List.getElem_toArray, List.getElem_cons_zero, List.getElem_cons_succ]
            refine hl_take ?v22 rfl (by kernel_rfl) ?y22 ?z22
            case y22 => intro W hW; skip; replace hW := Lib.hid hW; go_simp; try rfl
            case z22 =>
            simp only [Act.put, List.setIfInBounds_toArray, List.set_cons_succ, List.set_cons_zero, List.getElem_toArray, List.getElem_cons_zero, List.getElem_cons_succ]
            refine hl_take ?v23 rfl (by kernel_rfl) ?y23 ?z23
            case y23 => intro W hW; skip; replace hW := Lib.hid hW; go_simp; try rfl
            case z23 =>
            simp only [Act.put, List.setIfInBounds_toArray, List.set_cons_succ, List.set_cons_zero, List.getElem_toArray, List.getElem_cons_zero, List.getElem_cons_succ]
            refine hl_take ?v24 rfl (by kernel_rfl) ?y24 ?z24
            case y24 => intro W hW; change Sep W _ at hW; obtain ⟨y0, y1, y2, y3, y4, y5, y6, y7, y8, y9⟩ := sp10 hq.out; replace y0 := (hW.to1.vec_cell y0).1; replace y1 := (hW.to1.vec_cell y1).1; replace y2 := (hW.to1.vec_cell y2).1; replace y3 := (hW.to1.vec_cell y3).1; replace y4 := (hW.to1.vec_cell y4).1; replace y5 := (hW.to1.vec_cell y5).1; replace y6 := (hW.to1.vec_cell y6).1; replace y7 := (hW.to1.vec_cell y7).1; replace y8 := (hW.to1.vec_cell y8).1; replace y9 := (hW.to1.vec_cell y9).1; replace hW := Lib.hid hW; go_simp; try rfl
            case z24 =>
            simp only [Act.put, List.setIfInBounds_toArray, List.set_cons_succ, List.set_cons_zero, List.getElem_toArray, List.getElem_cons_zero, List.getElem_cons_succ]
            refine hl_take ?v25 rfl (by kernel_rfl) ?y25 ?z25
            case y25 => intro W hW; skip; replace hW := Lib.hid hW; go_simp; try rfl
            case z25 =>
            simp only [Act.put, List.setIfInBounds_toArray, List.set_cons_succ, List.set_cons_zero, List.getElem_toArray, List.getElem_cons_zero, List.getElem_cons_succ]
            refine hl_take ?v26 rfl (by kernel_rfl) ?y26 ?z26
            case y26 => intro W hW; skip; replace hW := Lib.hid hW; go_simp; try rfl
            case z26 =>
            simp only [Act.put, List.setIfInBounds_toArray, List.set_cons_succ, List.set_cons_zero, List.getElem_toArray, List.getElem_cons_zero, List.getElem_cons_succ]
            refine hl_take ?v27 rfl (by kernel_rfl) ?y27 ?z27
            case y27 => intro W hW; skip; replace hW := Lib.hid hW; go_simp; try rfl
            case z27 =>
            simp only [Act.put, List.setIfInBounds_toArray, List.set_cons_succ, List.set_cons_zero, List.getElem_toArray, List.getElem_cons_zero, List.getElem_cons_succ]
            refine hl_take ?v28 rfl (by kernel_rfl) ?y28 ?z28
            case y28 => intro W hW; change Sep W _ at hW; obtain ⟨y0, y1, y2, y3, y4, y5, y6, y7, y8, y9⟩ := sp10 hq.out; replace y0 := (hW.to1.vec_cell y0).1; replace y1 := (hW.to1.vec_cell y1).1; replace y2 := (hW.to1.vec_cell y2).1; replace y3 := (hW.to1.vec_cell y3).1; replace y4 := (hW.to1.vec_cell y4).1; replace y5 := (hW.to1.vec_cell y5).1; replace y6 := (hW.to1.vec_cell y6).1; replace y7 := (hW.to1.vec_cell y7).1; replace y8 := (hW.to1.vec_cell y8).1; replace y9 := (hW.to1.vec_cell y9).1; replace hW := Lib.hid hW; go_simp; try rfl
            case z28 =>
            simp only [Act.put, List.setIfInBounds_toArray, List.set_cons_succ, List.set_cons_zero, List.getElem_toArray, List.getElem_cons_zero, List.getElem_cons_succ]
            refine hl_one rfl (by kernel_rfl) (fun K hK => ?_)
            go_simp
            have hT := Lib.hid (hS.out.allocG (.cells #[.int .i64 s.call, .int .i64 s.thread, .int .i64 s.from_, .int .i64 s.to, .int .i64 s.act.kind, .int .i64 s.act.txn, .int .i64 s.act.t, .int .i64 s.act.r, .int .i64 s.act.mode, .int .i64 s.act.code, .int .i64 s.call, .int .i64 s.thread, .int .i64 s.from_, .int .i64 s.to, .int .i64 s.act.kind, .int .i64 s.act.txn, .int .i64 s.act.t, .int .i64 s.act.r, .int .i64 s.act.mode, .int .i64 s.act.code] 36))
            replace hS := Lib.hid (show Sep _ _ from hT.out)
            refine hK.out _ _ hS.out ?_
            clear hK K
            try simp only [Act.put, List.setIfInBounds_toArray, List.set_cons_succ, List.set_cons_zero, List.getElem_toArray, List.getElem_cons_zero, List.getElem_cons_succ]
            refine hl_take ?v29 rfl (by kernel_rfl) ?y29 ?z29
            case y29 => intro W hW; skip; replace hW := Lib.hid hW; go_simp; try rfl
            case z29 =>
            simp only [Act.put, List.setIfInBounds_toArray, List.set_cons_succ, List.set_cons_zero, List.getElem_toArray, List.getElem_cons_zero, List.getElem_cons_succ]
            refine hl_done ?_
            clear hB
            replace hB := hT
            clear hS hT
            go_wp2_with fail
            have htw := Lib.hid (resp_twice (S := S) (by rw [hnS.out]; exact h2))
            rw [hnS.out] at htw
            have hg1 : Hid (((upN n).map (Value.int .i64))[1]? = some (.int .i64 1)) := Lib.hid (by rw [List.getElem?_map, upN_get (by omega)]; rfl)
            have j1 : (1 : Int) ≤ (n : Int) := by omega
            have j2 : (1 : Int) < (n : Int) := by omega
            have j3 : (n : Int) ≤ (oc : Int) := by omega
            have j4 : (1 : Int) < (oc : Int) := by omega
            have j5 : 1 < oc := by omega
            have j6 : ¬ oc = 1 := by omega
            have hT := Lib.hid hB.out.drew
            have hS := Lib.hid (show (fun W : World => Sep W [vec 36 10 (.slice (some ⟨g, 0, none⟩) n sc) n (scells S), old w] ∧ W.cell? ⟨og, 1, none⟩ = some (.int .i64 1)) _ from ⟨hT.out.tail, (hT.out.vec_cell hg1.out).1⟩)
            refine hl_begin (fun W : World => Sep W [vec 36 10 (.slice (some ⟨g, 0, none⟩) n sc) n (scells S), old w] ∧ W.cell? ⟨og, 1, none⟩ = some (.int .i64 1)) [(0, true), (1, true), (2, true), (3, true), (4, true), (5, true), (6, false), (7, false), (8, false), (9, true), (10, true)] (by kernel_rfl) (by kernel_rfl) (by kernel_rfl) rfl (fun _ _ _ _ _ h => h) hS.out ?_
            change HL _ _ _ _ _ _ (World.drew _)
            generalize World.drew _ = wd at *
            refine hl_take ?v30 rfl (by kernel_rfl) ?y30 ?z30
            case y30 => intro W hW; skip; replace hW := Lib.hid hW; go_simp; try rfl
            case z30 =>
            simp only [Act.put, List.setIfInBounds_toArray, List.set_cons_succ, List.set_cons_zero, List.getElem_toArray, List.getElem_cons_zero, List.getElem_cons_succ]
            refine hl_take ?v31 rfl (by kernel_rfl) ?y31 ?z31
            case y31 => intro W hW; skip; replace hW := Lib.hid hW; go_simp; try rfl
            case z31 =>
            simp only [Act.put, List.setIfInBounds_toArray, List.set_cons_succ, List.set_cons_zero, List.getElem_toArray, List.getElem_cons_zero, List.getElem_cons_succ]
            refine hl_take ?v32 rfl (by kernel_rfl) ?y32 ?z32
            case y32 => intro W hW; skip; replace hW := Lib.hid hW; go_simp; try rfl
            case z32 =>
            simp only [Act.put, List.setIfInBounds_toArray, List.set_cons_succ, List.set_cons_zero, List.getElem_toArray, List.getElem_cons_zero, List.getElem_cons_succ]
            refine hl_take ?v33 rfl (by kernel_rfl) ?y33 ?z33
            case y33 => intro W hW; skip; replace hW := Lib.hid hW; go_simp; try rfl
            case z33 =>
            simp only [Act.put, List.setIfInBounds_toArray, List.set_cons_succ, List.set_cons_zero, List.getElem_toArray, List.getElem_cons_zero, List.getElem_cons_succ]
            refine hl_take ?v34 rfl (by kernel_rfl) ?y34 ?z34
            case y34 => intro W hW; skip; replace hW := Lib.hid hW; go_simp; try rfl
            case z34 =>
            simp only [Act.put, List.setIfInBounds_toArray, List.set_cons_succ, List.set_cons_zero, List.getElem_toArray, List.getElem_cons_zero, List.getElem_cons_succ]
            refine hl_take ?v35 rfl (by kernel_rfl) ?y35 ?z35
            case y35 => intro W hW; have c1 := hW.2; replace hW := Lib.hid hW; go_simp; try rfl
            case z35 =>
            simp only [Act.put, List.setIfInBounds_toArray, List.set_cons_succ, List.set_cons_zero, List.getElem_toArray, List.getElem_cons_zero, List.getElem_cons_succ]
            refine hl_one rfl (by kernel_rfl) (fun K hK => ?_)
            go_simp
            replace hT := Lib.hid (hT.out.allocG (.cells #[.int .i64 1] 3))
            have hx1 := Lib.hid (show (wd.alloc (.cells #[.int .i64 1] 3)).cell? ⟨wd.heap.size, 0, none⟩ = some (.int .i64 1) from (Blk.new wd 3 #[.int .i64 1]).cell 0)
            replace hS := Lib.hid (show (fun W : World => Sep W [vec 36 10 (.slice (some ⟨g, 0, none⟩) n sc) n (scells S), old w] ∧ W.cell? ⟨og, 1, none⟩ = some (.int .i64 1)) _ from ⟨hT.out.tail, (hT.out.vec_cell hg1.out).1⟩)
            refine hK.out _ _ hS.out ?_
            clear hK K
            try simp only [Act.put, List.setIfInBounds_toArray, List.set_cons_succ, List.set_cons_zero, List.getElem_toArray, List.getElem_cons_zero, List.getElem_cons_succ]
            refine hl_one rfl (by kernel_rfl) (fun K hK => ?_)
            obtain ⟨v', w', hrun, hS', hRl, hcell⟩ := run_append_mid hT.out (k := 1) (by omega) 26 26 i0 _ 8 Try.underlying26 hi0 hz0 hz1 hz2 rfl _ 1 _ hx1.out rfl (by simp only [maxLen]; omega) (by omega)
            refine wp_call2 rfl (by rfl) (by rfl) hrun ?_
            replace hS := Lib.hid (show (fun W : World => Sep W [vec 36 10 (.slice (some ⟨g, 0, none⟩) n sc) n (scells S), old w] ∧ W.cell? ⟨og, 1, none⟩ = some (.int .i64 1)) _ from ⟨hS', (hcell 1 (by omega)).trans (hT.out.vec_cell hg1.out).1⟩)
            replace hRl := Lib.hid hRl
            clear hrun hcell hT hx1
            refine hK.out _ _ hS.out ?_
            clear hK K
            try simp only [Act.put, List.setIfInBounds_toArray, List.set_cons_succ, List.set_cons_zero, List.getElem_toArray, List.getElem_cons_zero, List.getElem_cons_succ]
            refine hl_one rfl (by kernel_rfl) (fun K hK => ?_)
            go_simp
            refine (respects_any _ _ S ((upN n).drop 1 ++ [1]) _ (by rw [hnS.out]; exact hS.out.1.vec_rl) (by rw [ints_flat, List.map_append, List.map_drop]; have e1 : ((upN n).drop 1 ++ [(1 : Int)]).length = n - 1 + 1 := (by simp [upN_len]); rw [e1]; exact hRl.out) (by rw [hnS.out]; omega) (by simp [upN_len]; omega)).mono ?_
            rintro e w6 ⟨rfl, q1⟩
            replace hS := Lib.hid (show (fun W : World => Sep W [vec 36 10 (.slice (some ⟨g, 0, none⟩) n sc) n (scells S), old w] ∧ W.cell? ⟨og, 1, none⟩ = some (.int .i64 1)) _ from ⟨hS.out.1.below q1, (q1.cell (p := ⟨og, 1, none⟩) (World.block_lt_of_cell? _ _ hS.out.2)).trans hS.out.2⟩)
            clear q1 hRl
            rw [htw.out]
            refine hK.out _ _ hS.out ?_
            clear hK K
            try simp only [Act.put, List.setIfInBounds_toArray, List.set_cons_succ, List.set_cons_zero, List.getElem_toArray, List.getElem_cons_zero, List.getElem_cons_succ]
            refine hl_take ?v36 rfl (by kernel_rfl) ?y36 ?z36
            case y36 => intro W hW; skip; replace hW := Lib.hid hW; go_simp; try rfl
            case z36 =>
            simp only [Act.put, List.setIfInBounds_toArray, List.set_cons_succ, List.set_cons_zero, List.getElem_toArray, List.getElem_cons_zero, List.getElem_cons_succ]
            refine hl_take ?v37 rfl (by kernel_rfl) ?y37 ?z37
            case y37 => intro W hW; skip; replace hW := Lib.hid hW; go_simp; try rfl
            case z37 =>
            simp only [Act.put, List.setIfInBounds_toArray, List.set_cons_succ, List.set_cons_zero, List.getElem_toArray, List.getElem_cons_zero, List.getElem_cons_succ]
            refine hl_done ?_
            skip
            go_wp2_with fail
            go_ret
            exact ⟨rfl, hS.out.1.tail.gold⟩
          · have i7 : ((q : Int) == (j : Int)) = false := beq_eq_false_iff_ne.2 (by omega)
            replace hik := Lib.hid hik
            clear hqj
            obtain ⟨b1, hb1⟩ : ∃ b, befB s t = b := ⟨_, rfl⟩
            obtain ⟨b2, hb2⟩ : ∃ b, befB t s = b := ⟨_, rfl⟩
            rw [hb1, hb2] at hb0
            replace hb1 := Lib.hid hb1
            replace hb2 := Lib.hid hb2
            cases b1 with
            | false =>
              clear hb0
              have hS := Lib.hid (show (fun W : World => Sep W [vec 3 1 (.slice (some ⟨og, 0, none⟩) n oc) n ((upN n).map (Value.int .i64)), vec 36 10 (.slice (some ⟨g, 0, none⟩) n sc) n (scells S), old w]) _ from hB.out.drew)
              refine hl_begin (fun W : World => Sep W [vec 3 1 (.slice (some ⟨og, 0, none⟩) n oc) n ((upN n).map (Value.int .i64)), vec 36 10 (.slice (some ⟨g, 0, none⟩) n sc) n (scells S), old w]) [(0, true), (1, true), (2, true), (3, true), (4, true), (5, true), (6, true), (7, true), (8, false), (9, true), (10, true), (11, true), (12, true), (13, true), (14, true), (15, true), (16, true), (17, true), (18, false), (19, true), (20, true), (21, true), (22, true), (23, true), (24, true), (25, true), (26, true), (27, true), (28, true), (29, false), (30, true)] (by kernel_rfl) (by kernel_rfl) (by kernel_rfl) rfl (fun _ _ _ _ _ h => h) hS.out ?_
              change HL _ _ _ _ _ _ (World.drew _)
              generalize World.drew _ = wd at *
              refine hl_take ?v38 rfl (by kernel_rfl) ?y38 ?z38
              case y38 => intro W hW; skip; replace hW := Lib.hid hW; go_simp; try rfl
              case z38 =>
              simp only [Act.put, List.setIfInBounds_toArray, List.set_cons_succ, List.set_cons_zero, List.getElem_toArray, List.getElem_cons_zero, List.getElem_cons_succ]
              refine hl_take ?v39 rfl (by kernel_rfl) ?y39 ?z39
              case y39 => intro W hW; skip; replace hW := Lib.hid hW; go_simp; try rfl
              case z39 =>
              simp only [Act.put, List.setIfInBounds_toArray, List.set_cons_succ, List.set_cons_zero, List.getElem_toArray, List.getElem_cons_zero, List.getElem_cons_succ]
              refine hl_take ?v40 rfl (by kernel_rfl) ?y40 ?z40
              case y40 => intro W hW; skip; replace hW := Lib.hid hW; go_simp; try rfl
              case z40 =>
              simp only [Act.put, List.setIfInBounds_toArray, List.set_cons_succ, List.set_cons_zero, List.getElem_toArray, List.getElem_cons_zero, List.getElem_cons_succ]
              refine hl_take ?v41 rfl (by kernel_rfl) ?y41 ?z41
              case y41 => intro W hW; change Sep W _ at hW; obtain ⟨y0, y1, y2, y3, y4, y5, y6, y7, y8, y9⟩ := sp10 hq.out; replace y0 := (hW.to1.vec_cell y0).1; replace y1 := (hW.to1.vec_cell y1).1; replace y2 := (hW.to1.vec_cell y2).1; replace y3 := (hW.to1.vec_cell y3).1; replace y4 := (hW.to1.vec_cell y4).1; replace y5 := (hW.to1.vec_cell y5).1; replace y6 := (hW.to1.vec_cell y6).1; replace y7 := (hW.to1.vec_cell y7).1; replace y8 := (hW.to1.vec_cell y8).1; replace y9 := (hW.to1.vec_cell y9).1; replace hW := Lib.hid hW; go_simp; try rfl
              case z41 =>
              simp only [Act.put, List.setIfInBounds_toArray, List.set_cons_succ, List.set_cons_zero, List.getElem_toArray, List.getElem_cons_zero, List.getElem_cons_succ]
              refine hl_take ?v42 rfl (by kernel_rfl) ?y42 ?z42
              case y42 => intro W hW; skip; replace hW := Lib.hid hW; go_simp; try rfl
              case z42 =>
              simp only [Act.put, List.setIfInBounds_toArray, List.set_cons_succ, List.set_cons_zero, List.getElem_toArray, List.getElem_cons_zero, List.getElem_cons_succ]
              refine hl_take ?v43 rfl (by kernel_rfl) ?y43 ?z43
              case y43 => intro W hW; skip; replace hW := Lib.hid hW; go_simp; try rfl
              case z43 =>
              simp only [Act.put, List.setIfInBounds_toArray, List.set_cons_succ, List.set_cons_zero, List.getElem_toArray, List.getElem_cons_zero, List.getElem_cons_succ]
              refine hl_take ?v44 rfl (by kernel_rfl) ?y44 ?z44
              case y44 => intro W hW; skip; replace hW := Lib.hid hW; go_simp; try rfl
              case z44 =>
              simp only [Act.put, List.setIfInBounds_toArray, List.set_cons_succ, List.set_cons_zero, List.getElem_toArray, List.getElem_cons_zero, List.getElem_cons_succ]
              refine hl_take ?v45 rfl (by kernel_rfl) ?y45 ?z45
              case y45 => intro W hW; change Sep W _ at hW; obtain ⟨y0, y1, y2, y3, y4, y5, y6, y7, y8, y9⟩ := sp10 hj.out; replace y0 := (hW.to1.vec_cell y0).1; replace y1 := (hW.to1.vec_cell y1).1; replace y2 := (hW.to1.vec_cell y2).1; replace y3 := (hW.to1.vec_cell y3).1; replace y4 := (hW.to1.vec_cell y4).1; replace y5 := (hW.to1.vec_cell y5).1; replace y6 := (hW.to1.vec_cell y6).1; replace y7 := (hW.to1.vec_cell y7).1; replace y8 := (hW.to1.vec_cell y8).1; replace y9 := (hW.to1.vec_cell y9).1; replace hW := Lib.hid hW; go_simp; try rfl
              case z45 =>
              simp only [Act.put, List.setIfInBounds_toArray, List.set_cons_succ, List.set_cons_zero, List.getElem_toArray, List.getElem_cons_zero, List.getElem_cons_succ]
              refine hl_one rfl (by kernel_rfl) (fun K hK => ?_)
              go_simp
              refine (before_any s t _).mono ?_
              rintro e w1 ⟨rfl, q1⟩
              replace hS := Lib.hid (hS.out.below q1)
              clear q1
              rw [hb1.out]
              refine hK.out _ _ hS.out ?_
              clear hK K
              try simp only [Act.put, List.setIfInBounds_toArray, List.set_cons_succ, List.set_cons_zero, List.getElem_toArray, List.getElem_cons_zero, List.getElem_cons_succ]
              refine hl_take ?v46 rfl (by kernel_rfl) ?y46 ?z46
              case y46 => intro W hW; skip; replace hW := Lib.hid hW; go_simp; try rfl
              case z46 =>
              simp only [Act.put, List.setIfInBounds_toArray, List.set_cons_succ, List.set_cons_zero, List.getElem_toArray, List.getElem_cons_zero, List.getElem_cons_succ]
              refine hl_skip rfl (by kernel_rfl) ?_
              simp only [Act.put, List.setIfInBounds_toArray, List.set_cons_succ, List.set_cons_zero, List.getElem_toArray, List.getElem_cons_zero, List.getElem_cons_succ]
              refine hl_skip rfl (by kernel_rfl) ?_
              simp only [Act.put, List.setIfInBounds_toArray, List.set_cons_succ, List.set_cons_zero, List.getElem_toArray, List.getElem_cons_zero, List.getElem_cons_succ]
              refine hl_skip rfl (by kernel_rfl) ?_
              simp only [Act.put, List.setIfInBounds_toArray, List.set_cons_succ, List.set_cons_zero, List.getElem_toArray, List.getElem_cons_zero, List.getElem_cons_succ]
              refine hl_skip rfl (by kernel_rfl) ?_
              simp only [Act.put, List.setIfInBounds_toArray, List.set_cons_succ, List.set_cons_zero, List.getElem_toArray, List.getElem_cons_zero, List.getElem_cons_succ]
              refine hl_skip rfl (by kernel_rfl) ?_
              simp only [Act.put, List.setIfInBounds_toArray, List.set_cons_succ, List.set_cons_zero, List.getElem_toArray, List.getElem_cons_zero, List.getElem_cons_succ]
              refine hl_skip rfl (by kernel_rfl) ?_
              simp only [Act.put, List.setIfInBounds_toArray, List.set_cons_succ, List.set_cons_zero, List.getElem_toArray, List.getElem_cons_zero, List.getElem_cons_succ]
              refine hl_skip rfl (by kernel_rfl) ?_
              simp only [Act.put, List.setIfInBounds_toArray, List.set_cons_succ, List.set_cons_zero, List.getElem_toArray, List.getElem_cons_zero, List.getElem_cons_succ]
              refine hl_skip rfl (by kernel_rfl) ?_
              simp only [Act.put, List.setIfInBounds_toArray, List.set_cons_succ, List.set_cons_zero, List.getElem_toArray, List.getElem_cons_zero, List.getElem_cons_succ]
              refine hl_skip1 rfl (by kernel_rfl) ?_
              simp only [Act.put, List.setIfInBounds_toArray, List.set_cons_succ, List.set_cons_zero, List.getElem_toArray, List.getElem_cons_zero, List.getElem_cons_succ]
              refine hl_take ?v47 rfl (by kernel_rfl) ?y47 ?z47
              case y47 => intro W hW; skip; replace hW := Lib.hid hW; go_simp; try rfl
              case z47 =>
              simp only [Act.put, List.setIfInBounds_toArray, List.set_cons_succ, List.set_cons_zero, List.getElem_toArray, List.getElem_cons_zero, List.getElem_cons_succ]
              refine hl_take ?v48 rfl (by kernel_rfl) ?y48 ?z48
              case y48 => intro W hW; skip; replace hW := Lib.hid hW; go_simp; try rfl
              case z48 =>
              simp only [Act.put, List.setIfInBounds_toArray, List.set_cons_succ, List.set_cons_zero, List.getElem_toArray, List.getElem_cons_zero, List.getElem_cons_succ]
              refine hl_take ?v49 rfl (by kernel_rfl) ?y49 ?z49
              case y49 => intro W hW; skip; replace hW := Lib.hid hW; go_simp; try rfl
              case z49 =>
              simp only [Act.put, List.setIfInBounds_toArray, List.set_cons_succ, List.set_cons_zero, List.getElem_toArray, List.getElem_cons_zero, List.getElem_cons_succ]
              refine hl_take ?v50 rfl (by kernel_rfl) ?y50 ?z50
              case y50 => intro W hW; skip; replace hW := Lib.hid hW; go_simp; try rfl
              case z50 =>
              simp only [Act.put, List.setIfInBounds_toArray, List.set_cons_succ, List.set_cons_zero, List.getElem_toArray, List.getElem_cons_zero, List.getElem_cons_succ]
              refine hl_take ?v51 rfl (by kernel_rfl) ?y51 ?z51
              case y51 => intro W hW; skip; replace hW := Lib.hid hW; go_simp; try rfl
              case z51 =>
              simp only [Act.put, List.setIfInBounds_toArray, List.set_cons_succ, List.set_cons_zero, List.getElem_toArray, List.getElem_cons_zero, List.getElem_cons_succ]
              refine hl_take ?v52 rfl (by kernel_rfl) ?y52 ?z52
              case y52 => intro W hW; change Sep W _ at hW; obtain ⟨y0, y1, y2, y3, y4, y5, y6, y7, y8, y9⟩ := sp10 hq.out; replace y0 := (hW.to1.vec_cell y0).1; replace y1 := (hW.to1.vec_cell y1).1; replace y2 := (hW.to1.vec_cell y2).1; replace y3 := (hW.to1.vec_cell y3).1; replace y4 := (hW.to1.vec_cell y4).1; replace y5 := (hW.to1.vec_cell y5).1; replace y6 := (hW.to1.vec_cell y6).1; replace y7 := (hW.to1.vec_cell y7).1; replace y8 := (hW.to1.vec_cell y8).1; replace y9 := (hW.to1.vec_cell y9).1; replace hW := Lib.hid hW; go_simp; try rfl
              case z52 =>
              simp only [Act.put, List.setIfInBounds_toArray, List.set_cons_succ, List.set_cons_zero, List.getElem_toArray, List.getElem_cons_zero, List.getElem_cons_succ]
              refine hl_take ?v53 rfl (by kernel_rfl) ?y53 ?z53
              case y53 => intro W hW; skip; replace hW := Lib.hid hW; go_simp; try rfl
              case z53 =>
              simp only [Act.put, List.setIfInBounds_toArray, List.set_cons_succ, List.set_cons_zero, List.getElem_toArray, List.getElem_cons_zero, List.getElem_cons_succ]
              refine hl_take ?v54 rfl (by kernel_rfl) ?y54 ?z54
              case y54 => intro W hW; skip; replace hW := Lib.hid hW; go_simp; try rfl
              case z54 =>
              simp only [Act.put, List.setIfInBounds_toArray, List.set_cons_succ, List.set_cons_zero, List.getElem_toArray, List.getElem_cons_zero, List.getElem_cons_succ]
              refine hl_take ?v55 rfl (by kernel_rfl) ?y55 ?z55
              case y55 => intro W hW; skip; replace hW := Lib.hid hW; go_simp; try rfl
              case z55 =>
              simp only [Act.put, List.setIfInBounds_toArray, List.set_cons_succ, List.set_cons_zero, List.getElem_toArray, List.getElem_cons_zero, List.getElem_cons_succ]
              refine hl_take ?v56 rfl (by kernel_rfl) ?y56 ?z56
              case y56 => intro W hW; change Sep W _ at hW; obtain ⟨y0, y1, y2, y3, y4, y5, y6, y7, y8, y9⟩ := sp10 hq.out; replace y0 := (hW.to1.vec_cell y0).1; replace y1 := (hW.to1.vec_cell y1).1; replace y2 := (hW.to1.vec_cell y2).1; replace y3 := (hW.to1.vec_cell y3).1; replace y4 := (hW.to1.vec_cell y4).1; replace y5 := (hW.to1.vec_cell y5).1; replace y6 := (hW.to1.vec_cell y6).1; replace y7 := (hW.to1.vec_cell y7).1; replace y8 := (hW.to1.vec_cell y8).1; replace y9 := (hW.to1.vec_cell y9).1; replace hW := Lib.hid hW; go_simp; try rfl
              case z56 =>
              simp only [Act.put, List.setIfInBounds_toArray, List.set_cons_succ, List.set_cons_zero, List.getElem_toArray, List.getElem_cons_zero, List.getElem_cons_succ]
              refine hl_one rfl (by kernel_rfl) (fun K hK => ?_)
              go_simp
              refine (before_any s s _).mono ?_
              rintro e w1 ⟨rfl, q1⟩
              replace hS := Lib.hid (hS.out.below q1)
              clear q1
              rw [hb3.out]
              refine hK.out _ _ hS.out ?_
              clear hK K
              try simp only [Act.put, List.setIfInBounds_toArray, List.set_cons_succ, List.set_cons_zero, List.getElem_toArray, List.getElem_cons_zero, List.getElem_cons_succ]
              refine hl_take ?v57 rfl (by kernel_rfl) ?y57 ?z57
              case y57 => intro W hW; skip; replace hW := Lib.hid hW; go_simp; try rfl
              case z57 =>
              simp only [Act.put, List.setIfInBounds_toArray, List.set_cons_succ, List.set_cons_zero, List.getElem_toArray, List.getElem_cons_zero, List.getElem_cons_succ]
              refine hl_done ?_
              clear hB
              replace hB := hS
              clear hS
              go_wp2_with fail
              have hS := Lib.hid (show (fun W : World => Sep W [vec 3 1 (.slice (some ⟨og, 0, none⟩) n oc) n ((upN n).map (Value.int .i64)), vec 36 10 (.slice (some ⟨g, 0, none⟩) n sc) n (scells S), old w]) _ from hB.out.drew)
              refine hl_begin (fun W : World => Sep W [vec 3 1 (.slice (some ⟨og, 0, none⟩) n oc) n ((upN n).map (Value.int .i64)), vec 36 10 (.slice (some ⟨g, 0, none⟩) n sc) n (scells S), old w]) [(0, true), (1, true), (2, true), (3, true), (4, true), (5, true), (6, true), (7, true), (8, false), (9, true)] (by kernel_rfl) (by kernel_rfl) (by kernel_rfl) rfl (fun _ _ _ _ _ h => h) hS.out ?_
              change HL _ _ _ _ _ _ (World.drew _)
              generalize World.drew _ = wd at *
              refine hl_take ?v58 rfl (by kernel_rfl) ?y58 ?z58
              case y58 => intro W hW; skip; replace hW := Lib.hid hW; go_simp; try rfl
              case z58 =>
              simp only [Act.put, List.setIfInBounds_toArray, List.set_cons_succ, List.set_cons_zero, List.getElem_toArray, List.getElem_cons_zero, List.getElem_cons_succ]
              refine hl_take ?v59 rfl (by kernel_rfl) ?y59 ?z59
              case y59 => intro W hW; skip; replace hW := Lib.hid hW; go_simp; try rfl
              case z59 =>
              simp only [Act.put, List.setIfInBounds_toArray, List.set_cons_succ, List.set_cons_zero, List.getElem_toArray, List.getElem_cons_zero, List.getElem_cons_succ]
              refine hl_take ?v60 rfl (by kernel_rfl) ?y60 ?z60
              case y60 => intro W hW; skip; replace hW := Lib.hid hW; go_simp; try rfl
              case z60 =>
              simp only [Act.put, List.setIfInBounds_toArray, List.set_cons_succ, List.set_cons_zero, List.getElem_toArray, List.getElem_cons_zero, List.getElem_cons_succ]
              refine hl_take ?v61 rfl (by kernel_rfl) ?y61 ?z61
              case y61 => intro W hW; change Sep W _ at hW; obtain ⟨y0, y1, y2, y3, y4, y5, y6, y7, y8, y9⟩ := sp10 hq.out; replace y0 := (hW.to1.vec_cell y0).1; replace y1 := (hW.to1.vec_cell y1).1; replace y2 := (hW.to1.vec_cell y2).1; replace y3 := (hW.to1.vec_cell y3).1; replace y4 := (hW.to1.vec_cell y4).1; replace y5 := (hW.to1.vec_cell y5).1; replace y6 := (hW.to1.vec_cell y6).1; replace y7 := (hW.to1.vec_cell y7).1; replace y8 := (hW.to1.vec_cell y8).1; replace y9 := (hW.to1.vec_cell y9).1; replace hW := Lib.hid hW; go_simp; try rfl
              case z61 =>
              simp only [Act.put, List.setIfInBounds_toArray, List.set_cons_succ, List.set_cons_zero, List.getElem_toArray, List.getElem_cons_zero, List.getElem_cons_succ]
              refine hl_take ?v62 rfl (by kernel_rfl) ?y62 ?z62
              case y62 => intro W hW; skip; replace hW := Lib.hid hW; go_simp; try rfl
              case z62 =>
              simp only [Act.put, List.setIfInBounds_toArray, List.set_cons_succ, List.set_cons_zero, List.getElem_toArray, List.getElem_cons_zero, List.getElem_cons_succ]
              refine hl_take ?v63 rfl (by kernel_rfl) ?y63 ?z63
              case y63 => intro W hW; skip; replace hW := Lib.hid hW; go_simp; try rfl
              case z63 =>
              simp only [Act.put, List.setIfInBounds_toArray, List.set_cons_succ, List.set_cons_zero, List.getElem_toArray, List.getElem_cons_zero, List.getElem_cons_succ]
              refine hl_take ?v64 rfl (by kernel_rfl) ?y64 ?z64
              case y64 => intro W hW; skip; replace hW := Lib.hid hW; go_simp; try rfl
              case z64 =>
              simp only [Act.put, List.setIfInBounds_toArray, List.set_cons_succ, List.set_cons_zero, List.getElem_toArray, List.getElem_cons_zero, List.getElem_cons_succ]
              refine hl_take ?v65 rfl (by kernel_rfl) ?y65 ?z65
              case y65 => intro W hW; change Sep W _ at hW; obtain ⟨y0, y1, y2, y3, y4, y5, y6, y7, y8, y9⟩ := sp10 hj.out; replace y0 := (hW.to1.vec_cell y0).1; replace y1 := (hW.to1.vec_cell y1).1; replace y2 := (hW.to1.vec_cell y2).1; replace y3 := (hW.to1.vec_cell y3).1; replace y4 := (hW.to1.vec_cell y4).1; replace y5 := (hW.to1.vec_cell y5).1; replace y6 := (hW.to1.vec_cell y6).1; replace y7 := (hW.to1.vec_cell y7).1; replace y8 := (hW.to1.vec_cell y8).1; replace y9 := (hW.to1.vec_cell y9).1; replace hW := Lib.hid hW; go_simp; try rfl
              case z65 =>
              simp only [Act.put, List.setIfInBounds_toArray, List.set_cons_succ, List.set_cons_zero, List.getElem_toArray, List.getElem_cons_zero, List.getElem_cons_succ]
              refine hl_one rfl (by kernel_rfl) (fun K hK => ?_)
              go_simp
              have hT := Lib.hid (show Sep (wd.alloc (.cells #[.int .i64 s.call, .int .i64 s.thread, .int .i64 s.from_, .int .i64 s.to, .int .i64 s.act.kind, .int .i64 s.act.txn, .int .i64 s.act.t, .int .i64 s.act.r, .int .i64 s.act.mode, .int .i64 s.act.code, .int .i64 t.call, .int .i64 t.thread, .int .i64 t.from_, .int .i64 t.to, .int .i64 t.act.kind, .int .i64 t.act.txn, .int .i64 t.act.t, .int .i64 t.act.r, .int .i64 t.act.mode, .int .i64 t.act.code] 36)) (blk wd.heap.size 36 (s.cells ++ t.cells).toArray :: _) from hS.out.alloc _ _)
              replace hS := Lib.hid (show Sep _ _ from hT.out.tail)
              refine hK.out _ _ hS.out ?_
              clear hK K
              try simp only [Act.put, List.setIfInBounds_toArray, List.set_cons_succ, List.set_cons_zero, List.getElem_toArray, List.getElem_cons_zero, List.getElem_cons_succ]
              refine hl_take ?v66 rfl (by kernel_rfl) ?y66 ?z66
              case y66 => intro W hW; skip; replace hW := Lib.hid hW; go_simp; try rfl
              case z66 =>
              simp only [Act.put, List.setIfInBounds_toArray, List.set_cons_succ, List.set_cons_zero, List.getElem_toArray, List.getElem_cons_zero, List.getElem_cons_succ]
              refine hl_done ?_
              clear hB
              replace hB := hT
              clear hS hT
              generalize wd.heap.size = pb at *
              go_wp2_with fail
              have hS := Lib.hid (show (fun W : World => Sep W [blk pb 36 (s.cells ++ t.cells).toArray, vec 3 1 (.slice (some ⟨og, 0, none⟩) n oc) n ((upN n).map (Value.int .i64)), vec 36 10 (.slice (some ⟨g, 0, none⟩) n sc) n (scells S), old w]) _ from hB.out.drew)
              refine hl_begin (fun W : World => Sep W [blk pb 36 (s.cells ++ t.cells).toArray, vec 3 1 (.slice (some ⟨og, 0, none⟩) n oc) n ((upN n).map (Value.int .i64)), vec 36 10 (.slice (some ⟨g, 0, none⟩) n sc) n (scells S), old w]) [(0, true), (3, true), (4, true), (5, true), (6, true), (7, true), (8, true), (9, true), (10, true), (1, false), (2, false), (11, false), (12, true), (13, true), (14, true), (15, true), (18, true), (19, true), (20, true), (21, true), (22, true), (23, true), (24, true), (25, true), (16, false), (17, false), (26, false), (27, true), (28, true), (29, true), (30, true)] (by kernel_rfl) (by kernel_rfl) (by kernel_rfl) rfl (fun _ _ _ _ _ h => h) hS.out ?_
              change HL _ _ _ _ _ _ (World.drew _)
              generalize World.drew _ = wd at *
              refine hl_take ?v67 rfl (by kernel_rfl) ?y67 ?z67
              case y67 => intro W hW; skip; replace hW := Lib.hid hW; go_simp; try rfl
              case z67 =>
              simp only [Act.put, List.setIfInBounds_toArray, List.set_cons_succ, List.set_cons_zero, List.getElem_toArray, List.getElem_cons_zero, List.getElem_cons_succ]
              refine hl_take ?v68 rfl (by kernel_rfl) ?y68 ?z68
              case y68 => intro W hW; skip; replace hW := Lib.hid hW; go_simp; try rfl
              case z68 =>
              simp only [Act.put, List.setIfInBounds_toArray, List.set_cons_succ, List.set_cons_zero, List.getElem_toArray, List.getElem_cons_zero, List.getElem_cons_succ]
              refine hl_take ?v69 rfl (by kernel_rfl) ?y69 ?z69
              case y69 => intro W hW; skip; replace hW := Lib.hid hW; go_simp; try rfl
              case z69 =>
              simp only [Act.put, List.setIfInBounds_toArray, List.set_cons_succ, List.set_cons_zero, List.getElem_toArray, List.getElem_cons_zero, List.getElem_cons_succ]
              refine hl_take ?v70 rfl (by kernel_rfl) ?y70 ?z70
              case y70 => intro W hW; skip; replace hW := Lib.hid hW; go_simp; try rfl
              case z70 =>
              simp only [Act.put, List.setIfInBounds_toArray, List.set_cons_succ, List.set_cons_zero, List.getElem_toArray, List.getElem_cons_zero, List.getElem_cons_succ]
              refine hl_take ?v71 rfl (by kernel_rfl) ?y71 ?z71
              case y71 => intro W hW; change Sep W _ at hW; obtain ⟨y0, y1, y2, y3, y4, y5, y6, y7, y8, y9⟩ := sp10 hj.out; replace y0 := (hW.to2.vec_cell y0).1; replace y1 := (hW.to2.vec_cell y1).1; replace y2 := (hW.to2.vec_cell y2).1; replace y3 := (hW.to2.vec_cell y3).1; replace y4 := (hW.to2.vec_cell y4).1; replace y5 := (hW.to2.vec_cell y5).1; replace y6 := (hW.to2.vec_cell y6).1; replace y7 := (hW.to2.vec_cell y7).1; replace y8 := (hW.to2.vec_cell y8).1; replace y9 := (hW.to2.vec_cell y9).1; replace hW := Lib.hid hW; go_simp; try rfl
              case z71 =>
              simp only [Act.put, List.setIfInBounds_toArray, List.set_cons_succ, List.set_cons_zero, List.getElem_toArray, List.getElem_cons_zero, List.getElem_cons_succ]
              refine hl_take ?v72 rfl (by kernel_rfl) ?y72 ?z72
              case y72 => intro W hW; skip; replace hW := Lib.hid hW; go_simp; try rfl
              case z72 =>
              simp only [Act.put, List.setIfInBounds_toArray, List.set_cons_succ, List.set_cons_zero, List.getElem_toArray, List.getElem_cons_zero, List.getElem_cons_succ]
              refine hl_take ?v73 rfl (by kernel_rfl) ?y73 ?z73
              case y73 => intro W hW; skip; replace hW := Lib.hid hW; go_simp; try rfl
              case z73 =>
              simp only [Act.put, List.setIfInBounds_toArray, List.set_cons_succ, List.set_cons_zero, List.getElem_toArray, List.getElem_cons_zero, List.getElem_cons_succ]
              refine hl_take ?v74 rfl (by kernel_rfl) ?y74 ?z74
              case y74 => intro W hW; skip; replace hW := Lib.hid hW; go_simp; try rfl
              case z74 =>
              simp only [Act.put, List.setIfInBounds_toArray, List.set_cons_succ, List.set_cons_zero, List.getElem_toArray, List.getElem_cons_zero, List.getElem_cons_succ]
              refine hl_take ?v75 rfl (by kernel_rfl) ?y75 ?z75
              case y75 => intro W hW; change Sep W _ at hW; obtain ⟨y0, y1, y2, y3, y4, y5, y6, y7, y8, y9⟩ := sp10 hq.out; replace y0 := (hW.to2.vec_cell y0).1; replace y1 := (hW.to2.vec_cell y1).1; replace y2 := (hW.to2.vec_cell y2).1; replace y3 := (hW.to2.vec_cell y3).1; replace y4 := (hW.to2.vec_cell y4).1; replace y5 := (hW.to2.vec_cell y5).1; replace y6 := (hW.to2.vec_cell y6).1; replace y7 := (hW.to2.vec_cell y7).1; replace y8 := (hW.to2.vec_cell y8).1; replace y9 := (hW.to2.vec_cell y9).1; replace hW := Lib.hid hW; go_simp; try rfl
              case z75 =>
              simp only [Act.put, List.setIfInBounds_toArray, List.set_cons_succ, List.set_cons_zero, List.getElem_toArray, List.getElem_cons_zero, List.getElem_cons_succ]
              refine hl_one rfl (by kernel_rfl) (fun K hK => ?_)
              go_simp
              have hT := Lib.hid (hS.out.alloc #[.int .i64 0, .int .i64 1] 3)
              replace hS := Lib.hid (show Sep _ _ from hT.out.tail)
              refine hK.out _ _ hS.out ?_
              clear hK K
              try simp only [Act.put, List.setIfInBounds_toArray, List.set_cons_succ, List.set_cons_zero, List.getElem_toArray, List.getElem_cons_zero, List.getElem_cons_succ]
              refine hl_one rfl (by kernel_rfl) (fun K hK => ?_)
              go_simp
              refine (respects_any _ _ [s, t] [0, 1] _ (rl_pair hT.out.to1) (rl_two hT.out) (by simp) (by simp)).mono ?_
              rintro e w1 ⟨rfl, q1⟩
              replace hS := Lib.hid (hS.out.below q1)
              clear q1 hT
              rw [resp_01, hb2.out]
              refine hK.out _ _ hS.out ?_
              clear hK K
              try simp only [Act.put, List.setIfInBounds_toArray, List.set_cons_succ, List.set_cons_zero, List.getElem_toArray, List.getElem_cons_zero, List.getElem_cons_succ]
              refine hl_one rfl (by kernel_rfl) (fun K hK => ?_)
              go_simp
              refine (before_any t s _).mono ?_
              rintro e w1 ⟨rfl, q1⟩
              replace hS := Lib.hid (hS.out.below q1)
              clear q1
              rw [hb2.out]
              refine hK.out _ _ hS.out ?_
              clear hK K
              try simp only [Act.put, List.setIfInBounds_toArray, List.set_cons_succ, List.set_cons_zero, List.getElem_toArray, List.getElem_cons_zero, List.getElem_cons_succ]
              refine hl_take ?v76 rfl (by kernel_rfl) ?y76 ?z76
              case y76 => intro W hW; skip; replace hW := Lib.hid hW; go_simp; try rfl
              case z76 =>
              simp only [Act.put, List.setIfInBounds_toArray, List.set_cons_succ, List.set_cons_zero, List.getElem_toArray, List.getElem_cons_zero, List.getElem_cons_succ]
              refine hl_take ?v77 rfl (by kernel_rfl) ?y77 ?z77
              case y77 => intro W hW; skip; replace hW := Lib.hid hW; go_simp; try rfl
              case z77 =>
              simp only [Act.put, List.setIfInBounds_toArray, List.set_cons_succ, List.set_cons_zero, List.getElem_toArray, List.getElem_cons_zero, List.getElem_cons_succ]
              refine hl_take ?v78 rfl (by kernel_rfl) ?y78 ?z78
              case y78 => intro W hW; skip; replace hW := Lib.hid hW; go_simp; try rfl
              case z78 =>
              simp only [Act.put, List.setIfInBounds_toArray, List.set_cons_succ, List.set_cons_zero, List.getElem_toArray, List.getElem_cons_zero, List.getElem_cons_succ]
              refine hl_take ?v79 rfl (by kernel_rfl) ?y79 ?z79
              case y79 => intro W hW; skip; replace hW := Lib.hid hW; go_simp; try rfl
              case z79 =>
              simp only [Act.put, List.setIfInBounds_toArray, List.set_cons_succ, List.set_cons_zero, List.getElem_toArray, List.getElem_cons_zero, List.getElem_cons_succ]
              refine hl_take ?v80 rfl (by kernel_rfl) ?y80 ?z80
              case y80 => intro W hW; skip; replace hW := Lib.hid hW; go_simp; try rfl
              case z80 =>
              simp only [Act.put, List.setIfInBounds_toArray, List.set_cons_succ, List.set_cons_zero, List.getElem_toArray, List.getElem_cons_zero, List.getElem_cons_succ]
              refine hl_take ?v81 rfl (by kernel_rfl) ?y81 ?z81
              case y81 => intro W hW; skip; replace hW := Lib.hid hW; go_simp; try rfl
              case z81 =>
              simp only [Act.put, List.setIfInBounds_toArray, List.set_cons_succ, List.set_cons_zero, List.getElem_toArray, List.getElem_cons_zero, List.getElem_cons_succ]
              refine hl_take ?v82 rfl (by kernel_rfl) ?y82 ?z82
              case y82 => intro W hW; skip; replace hW := Lib.hid hW; go_simp; try rfl
              case z82 =>
              simp only [Act.put, List.setIfInBounds_toArray, List.set_cons_succ, List.set_cons_zero, List.getElem_toArray, List.getElem_cons_zero, List.getElem_cons_succ]
              refine hl_take ?v83 rfl (by kernel_rfl) ?y83 ?z83
              case y83 => intro W hW; change Sep W _ at hW; obtain ⟨y0, y1, y2, y3, y4, y5, y6, y7, y8, y9⟩ := sp10 hq.out; replace y0 := (hW.to2.vec_cell y0).1; replace y1 := (hW.to2.vec_cell y1).1; replace y2 := (hW.to2.vec_cell y2).1; replace y3 := (hW.to2.vec_cell y3).1; replace y4 := (hW.to2.vec_cell y4).1; replace y5 := (hW.to2.vec_cell y5).1; replace y6 := (hW.to2.vec_cell y6).1; replace y7 := (hW.to2.vec_cell y7).1; replace y8 := (hW.to2.vec_cell y8).1; replace y9 := (hW.to2.vec_cell y9).1; replace hW := Lib.hid hW; go_simp; try rfl
              case z83 =>
              simp only [Act.put, List.setIfInBounds_toArray, List.set_cons_succ, List.set_cons_zero, List.getElem_toArray, List.getElem_cons_zero, List.getElem_cons_succ]
              refine hl_take ?v84 rfl (by kernel_rfl) ?y84 ?z84
              case y84 => intro W hW; skip; replace hW := Lib.hid hW; go_simp; try rfl
              case z84 =>
              simp only [Act.put, List.setIfInBounds_toArray, List.set_cons_succ, List.set_cons_zero, List.getElem_toArray, List.getElem_cons_zero, List.getElem_cons_succ]
              refine hl_take ?v85 rfl (by kernel_rfl) ?y85 ?z85
              case y85 => intro W hW; skip; replace hW := Lib.hid hW; go_simp; try rfl
              case z85 =>
              simp only [Act.put, List.setIfInBounds_toArray, List.set_cons_succ, List.set_cons_zero, List.getElem_toArray, List.getElem_cons_zero, List.getElem_cons_succ]
              refine hl_take ?v86 rfl (by kernel_rfl) ?y86 ?z86
              case y86 => intro W hW; skip; replace hW := Lib.hid hW; go_simp; try rfl
              case z86 =>
              simp only [Act.put, List.setIfInBounds_toArray, List.set_cons_succ, List.set_cons_zero, List.getElem_toArray, List.getElem_cons_zero, List.getElem_cons_succ]
              refine hl_take ?v87 rfl (by kernel_rfl) ?y87 ?z87
              case y87 => intro W hW; change Sep W _ at hW; obtain ⟨y0, y1, y2, y3, y4, y5, y6, y7, y8, y9⟩ := sp10 hj.out; replace y0 := (hW.to2.vec_cell y0).1; replace y1 := (hW.to2.vec_cell y1).1; replace y2 := (hW.to2.vec_cell y2).1; replace y3 := (hW.to2.vec_cell y3).1; replace y4 := (hW.to2.vec_cell y4).1; replace y5 := (hW.to2.vec_cell y5).1; replace y6 := (hW.to2.vec_cell y6).1; replace y7 := (hW.to2.vec_cell y7).1; replace y8 := (hW.to2.vec_cell y8).1; replace y9 := (hW.to2.vec_cell y9).1; replace hW := Lib.hid hW; go_simp; try rfl
              case z87 =>
              simp only [Act.put, List.setIfInBounds_toArray, List.set_cons_succ, List.set_cons_zero, List.getElem_toArray, List.getElem_cons_zero, List.getElem_cons_succ]
              refine hl_one rfl (by kernel_rfl) (fun K hK => ?_)
              go_simp
              have hT := Lib.hid (hS.out.alloc #[.int .i64 1, .int .i64 0] 3)
              replace hS := Lib.hid (show Sep _ _ from hT.out.tail)
              refine hK.out _ _ hS.out ?_
              clear hK K
              try simp only [Act.put, List.setIfInBounds_toArray, List.set_cons_succ, List.set_cons_zero, List.getElem_toArray, List.getElem_cons_zero, List.getElem_cons_succ]
              refine hl_one rfl (by kernel_rfl) (fun K hK => ?_)
              go_simp
              refine (respects_any _ _ [s, t] [1, 0] _ (rl_pair hT.out.to1) (rl_two hT.out) (by simp) (by simp)).mono ?_
              rintro e w1 ⟨rfl, q1⟩
              replace hS := Lib.hid (hS.out.below q1)
              clear q1 hT
              rw [resp_10, hb1.out]
              refine hK.out _ _ hS.out ?_
              clear hK K
              try simp only [Act.put, List.setIfInBounds_toArray, List.set_cons_succ, List.set_cons_zero, List.getElem_toArray, List.getElem_cons_zero, List.getElem_cons_succ]
              refine hl_one rfl (by kernel_rfl) (fun K hK => ?_)
              go_simp
              refine (before_any s t _).mono ?_
              rintro e w1 ⟨rfl, q1⟩
              replace hS := Lib.hid (hS.out.below q1)
              clear q1
              rw [hb1.out]
              refine hK.out _ _ hS.out ?_
              clear hK K
              try simp only [Act.put, List.setIfInBounds_toArray, List.set_cons_succ, List.set_cons_zero, List.getElem_toArray, List.getElem_cons_zero, List.getElem_cons_succ]
              refine hl_take ?v88 rfl (by kernel_rfl) ?y88 ?z88
              case y88 => intro W hW; skip; replace hW := Lib.hid hW; go_simp; try rfl
              case z88 =>
              simp only [Act.put, List.setIfInBounds_toArray, List.set_cons_succ, List.set_cons_zero, List.getElem_toArray, List.getElem_cons_zero, List.getElem_cons_succ]
              refine hl_take ?v89 rfl (by kernel_rfl) ?y89 ?z89
              case y89 => intro W hW; skip; replace hW := Lib.hid hW; go_simp; try rfl
              case z89 =>
              simp only [Act.put, List.setIfInBounds_toArray, List.set_cons_succ, List.set_cons_zero, List.getElem_toArray, List.getElem_cons_zero, List.getElem_cons_succ]
              refine hl_take ?v90 rfl (by kernel_rfl) ?y90 ?z90
              case y90 => intro W hW; skip; replace hW := Lib.hid hW; go_simp; try rfl
              case z90 =>
              simp only [Act.put, List.setIfInBounds_toArray, List.set_cons_succ, List.set_cons_zero, List.getElem_toArray, List.getElem_cons_zero, List.getElem_cons_succ]
              refine hl_take ?v91 rfl (by kernel_rfl) ?y91 ?z91
              case y91 => intro W hW; skip; replace hW := Lib.hid hW; go_simp; try rfl
              case z91 =>
              simp only [Act.put, List.setIfInBounds_toArray, List.set_cons_succ, List.set_cons_zero, List.getElem_toArray, List.getElem_cons_zero, List.getElem_cons_succ]
              refine hl_done ?_
              skip
              go_wp2_with fail
              go_ret
              exact ⟨rfl, hS.out.tail.tail.tail.gold⟩
            | true =>
              obtain rfl : b2 = false := by simpa using hb0
              clear hb0
              have hS := Lib.hid (show (fun W : World => Sep W [vec 3 1 (.slice (some ⟨og, 0, none⟩) n oc) n ((upN n).map (Value.int .i64)), vec 36 10 (.slice (some ⟨g, 0, none⟩) n sc) n (scells S), old w]) _ from hB.out.drew)
              refine hl_begin (fun W : World => Sep W [vec 3 1 (.slice (some ⟨og, 0, none⟩) n oc) n ((upN n).map (Value.int .i64)), vec 36 10 (.slice (some ⟨g, 0, none⟩) n sc) n (scells S), old w]) [(0, true), (1, true), (2, true), (3, true), (4, true), (5, true), (6, true), (7, true), (8, false), (9, true), (10, true), (11, true), (12, true), (13, true), (14, true), (15, true), (16, true), (17, true), (18, false), (19, true), (20, true), (21, true), (22, true), (23, true), (24, true), (25, true), (26, true), (27, true), (28, true), (29, false), (30, true)] (by kernel_rfl) (by kernel_rfl) (by kernel_rfl) rfl (fun _ _ _ _ _ h => h) hS.out ?_
              change HL _ _ _ _ _ _ (World.drew _)
              generalize World.drew _ = wd at *
              refine hl_take ?v92 rfl (by kernel_rfl) ?y92 ?z92
              case y92 => intro W hW; skip; replace hW := Lib.hid hW; go_simp; try rfl
              case z92 =>
              simp only [Act.put, List.setIfInBounds_toArray, List.set_cons_succ, List.set_cons_zero, List.getElem_toArray, List.getElem_cons_zero, List.getElem_cons_succ]
              refine hl_take ?v93 rfl (by kernel_rfl) ?y93 ?z93
              case y93 => intro W hW; skip; replace hW := Lib.hid hW; go_simp; try rfl
              case z93 =>
              simp only [Act.put, List.setIfInBounds_toArray, List.set_cons_succ, List.set_cons_zero, List.getElem_toArray, List.getElem_cons_zero, List.getElem_cons_succ]
              refine hl_take ?v94 rfl (by kernel_rfl) ?y94 ?z94
              case y94 => intro W hW; skip; replace hW := Lib.hid hW; go_simp; try rfl
              case z94 =>
              simp only [Act.put, List.setIfInBounds_toArray, List.set_cons_succ, List.set_cons_zero, List.getElem_toArray, List.getElem_cons_zero, List.getElem_cons_succ]
              refine hl_take ?v95 rfl (by kernel_rfl) ?y95 ?z95
              case y95 => intro W hW; change Sep W _ at hW; obtain ⟨y0, y1, y2, y3, y4, y5, y6, y7, y8, y9⟩ := sp10 hq.out; replace y0 := (hW.to1.vec_cell y0).1; replace y1 := (hW.to1.vec_cell y1).1; replace y2 := (hW.to1.vec_cell y2).1; replace y3 := (hW.to1.vec_cell y3).1; replace y4 := (hW.to1.vec_cell y4).1; replace y5 := (hW.to1.vec_cell y5).1; replace y6 := (hW.to1.vec_cell y6).1; replace y7 := (hW.to1.vec_cell y7).1; replace y8 := (hW.to1.vec_cell y8).1; replace y9 := (hW.to1.vec_cell y9).1; replace hW := Lib.hid hW; go_simp; try rfl
              case z95 =>
              simp only [Act.put, List.setIfInBounds_toArray, List.set_cons_succ, List.set_cons_zero, List.getElem_toArray, List.getElem_cons_zero, List.getElem_cons_succ]
              refine hl_take ?v96 rfl (by kernel_rfl) ?y96 ?z96
              case y96 => intro W hW; skip; replace hW := Lib.hid hW; go_simp; try rfl
              case z96 =>
              simp only [Act.put, List.setIfInBounds_toArray, List.set_cons_succ, List.set_cons_zero, List.getElem_toArray, List.getElem_cons_zero, List.getElem_cons_succ]
              refine hl_take ?v97 rfl (by kernel_rfl) ?y97 ?z97
              case y97 => intro W hW; skip; replace hW := Lib.hid hW; go_simp; try rfl
              case z97 =>
              simp only [Act.put, List.setIfInBounds_toArray, List.set_cons_succ, List.set_cons_zero, List.getElem_toArray, List.getElem_cons_zero, List.getElem_cons_succ]
              refine hl_take ?v98 rfl (by kernel_rfl) ?y98 ?z98
              case y98 => intro W hW; skip; replace hW := Lib.hid hW; go_simp; try rfl
              case z98 =>
              simp only [Act.put, List.setIfInBounds_toArray, List.set_cons_succ, List.set_cons_zero, List.getElem_toArray, List.getElem_cons_zero, List.getElem_cons_succ]
              refine hl_take ?v99 rfl (by kernel_rfl) ?y99 ?z99
              case y99 => intro W hW; change Sep W _ at hW; obtain ⟨y0, y1, y2, y3, y4, y5, y6, y7, y8, y9⟩ := sp10 hj.out; replace y0 := (hW.to1.vec_cell y0).1; replace y1 := (hW.to1.vec_cell y1).1; replace y2 := (hW.to1.vec_cell y2).1; replace y3 := (hW.to1.vec_cell y3).1; replace y4 := (hW.to1.vec_cell y4).1; replace y5 := (hW.to1.vec_cell y5).1; replace y6 := (hW.to1.vec_cell y6).1; replace y7 := (hW.to1.vec_cell y7).1; replace y8 := (hW.to1.vec_cell y8).1; replace y9 := (hW.to1.vec_cell y9).1; replace hW := Lib.hid hW; go_simp; try rfl
              case z99 =>
              simp only [Act.put, List.setIfInBounds_toArray, List.set_cons_succ, List.set_cons_zero, List.getElem_toArray, List.getElem_cons_zero, List.getElem_cons_succ]
              refine hl_one rfl (by kernel_rfl) (fun K hK => ?_)
              go_simp
              refine (before_any s t _).mono ?_
              rintro e w1 ⟨rfl, q1⟩
              replace hS := Lib.hid (hS.out.below q1)
              clear q1
              rw [hb1.out]
              refine hK.out _ _ hS.out ?_
              clear hK K
              try simp only [Act.put, List.setIfInBounds_toArray, List.set_cons_succ, List.set_cons_zero, List.getElem_toArray, List.getElem_cons_zero, List.getElem_cons_succ]
              refine hl_take ?v100 rfl (by kernel_rfl) ?y100 ?z100
              case y100 => intro W hW; skip; replace hW := Lib.hid hW; go_simp; try rfl
              case z100 =>
              simp only [Act.put, List.setIfInBounds_toArray, List.set_cons_succ, List.set_cons_zero, List.getElem_toArray, List.getElem_cons_zero, List.getElem_cons_succ]
              refine hl_take ?v101 rfl (by kernel_rfl) ?y101 ?z101
              case y101 => intro W hW; skip; replace hW := Lib.hid hW; go_simp; try rfl
              case z101 =>
              simp only [Act.put, List.setIfInBounds_toArray, List.set_cons_succ, List.set_cons_zero, List.getElem_toArray, List.getElem_cons_zero, List.getElem_cons_succ]
              refine hl_take ?v102 rfl (by kernel_rfl) ?y102 ?z102
              case y102 => intro W hW; skip; replace hW := Lib.hid hW; go_simp; try rfl
              case z102 =>
              simp only [Act.put, List.setIfInBounds_toArray, List.set_cons_succ, List.set_cons_zero, List.getElem_toArray, List.getElem_cons_zero, List.getElem_cons_succ]
              refine hl_take ?v103 rfl (by kernel_rfl) ?y103 ?z103
              case y103 => intro W hW; skip; replace hW := Lib.hid hW; go_simp; try rfl
              case z103 =>
              simp only [Act.put, List.setIfInBounds_toArray, List.set_cons_succ, List.set_cons_zero, List.getElem_toArray, List.getElem_cons_zero, List.getElem_cons_succ]
              refine hl_take ?v104 rfl (by kernel_rfl) ?y104 ?z104
              case y104 => intro W hW; change Sep W _ at hW; obtain ⟨y0, y1, y2, y3, y4, y5, y6, y7, y8, y9⟩ := sp10 hj.out; replace y0 := (hW.to1.vec_cell y0).1; replace y1 := (hW.to1.vec_cell y1).1; replace y2 := (hW.to1.vec_cell y2).1; replace y3 := (hW.to1.vec_cell y3).1; replace y4 := (hW.to1.vec_cell y4).1; replace y5 := (hW.to1.vec_cell y5).1; replace y6 := (hW.to1.vec_cell y6).1; replace y7 := (hW.to1.vec_cell y7).1; replace y8 := (hW.to1.vec_cell y8).1; replace y9 := (hW.to1.vec_cell y9).1; replace hW := Lib.hid hW; go_simp; try rfl
              case z104 =>
              simp only [Act.put, List.setIfInBounds_toArray, List.set_cons_succ, List.set_cons_zero, List.getElem_toArray, List.getElem_cons_zero, List.getElem_cons_succ]
              refine hl_take ?v105 rfl (by kernel_rfl) ?y105 ?z105
              case y105 => intro W hW; skip; replace hW := Lib.hid hW; go_simp; try rfl
              case z105 =>
              simp only [Act.put, List.setIfInBounds_toArray, List.set_cons_succ, List.set_cons_zero, List.getElem_toArray, List.getElem_cons_zero, List.getElem_cons_succ]
              refine hl_take ?v106 rfl (by kernel_rfl) ?y106 ?z106
              case y106 => intro W hW; skip; replace hW := Lib.hid hW; go_simp; try rfl
              case z106 =>
              simp only [Act.put, List.setIfInBounds_toArray, List.set_cons_succ, List.set_cons_zero, List.getElem_toArray, List.getElem_cons_zero, List.getElem_cons_succ]
              refine hl_take ?v107 rfl (by kernel_rfl) ?y107 ?z107
              case y107 => intro W hW; skip; replace hW := Lib.hid hW; go_simp; try rfl
              case z107 =>
              simp only [Act.put, List.setIfInBounds_toArray, List.set_cons_succ, List.set_cons_zero, List.getElem_toArray, List.getElem_cons_zero, List.getElem_cons_succ]
              refine hl_take ?v108 rfl (by kernel_rfl) ?y108 ?z108
              case y108 => intro W hW; change Sep W _ at hW; obtain ⟨y0, y1, y2, y3, y4, y5, y6, y7, y8, y9⟩ := sp10 hq.out; replace y0 := (hW.to1.vec_cell y0).1; replace y1 := (hW.to1.vec_cell y1).1; replace y2 := (hW.to1.vec_cell y2).1; replace y3 := (hW.to1.vec_cell y3).1; replace y4 := (hW.to1.vec_cell y4).1; replace y5 := (hW.to1.vec_cell y5).1; replace y6 := (hW.to1.vec_cell y6).1; replace y7 := (hW.to1.vec_cell y7).1; replace y8 := (hW.to1.vec_cell y8).1; replace y9 := (hW.to1.vec_cell y9).1; replace hW := Lib.hid hW; go_simp; try rfl
              case z108 =>
              simp only [Act.put, List.setIfInBounds_toArray, List.set_cons_succ, List.set_cons_zero, List.getElem_toArray, List.getElem_cons_zero, List.getElem_cons_succ]
              refine hl_one rfl (by kernel_rfl) (fun K hK => ?_)
              go_simp
              refine (before_any t s _).mono ?_
              rintro e w1 ⟨rfl, q1⟩
              replace hS := Lib.hid (hS.out.below q1)
              clear q1
              rw [hb2.out]
              refine hK.out _ _ hS.out ?_
              clear hK K
              try simp only [Act.put, List.setIfInBounds_toArray, List.set_cons_succ, List.set_cons_zero, List.getElem_toArray, List.getElem_cons_zero, List.getElem_cons_succ]
              refine hl_take ?v109 rfl (by kernel_rfl) ?y109 ?z109
              case y109 => intro W hW; skip; replace hW := Lib.hid hW; go_simp; try rfl
              case z109 =>
              simp only [Act.put, List.setIfInBounds_toArray, List.set_cons_succ, List.set_cons_zero, List.getElem_toArray, List.getElem_cons_zero, List.getElem_cons_succ]
              refine hl_take ?v110 rfl (by kernel_rfl) ?y110 ?z110
              case y110 => intro W hW; skip; replace hW := Lib.hid hW; go_simp; try rfl
              case z110 =>
              simp only [Act.put, List.setIfInBounds_toArray, List.set_cons_succ, List.set_cons_zero, List.getElem_toArray, List.getElem_cons_zero, List.getElem_cons_succ]
              refine hl_take ?v111 rfl (by kernel_rfl) ?y111 ?z111
              case y111 => intro W hW; skip; replace hW := Lib.hid hW; go_simp; try rfl
              case z111 =>
              simp only [Act.put, List.setIfInBounds_toArray, List.set_cons_succ, List.set_cons_zero, List.getElem_toArray, List.getElem_cons_zero, List.getElem_cons_succ]
              refine hl_take ?v112 rfl (by kernel_rfl) ?y112 ?z112
              case y112 => intro W hW; skip; replace hW := Lib.hid hW; go_simp; try rfl
              case z112 =>
              simp only [Act.put, List.setIfInBounds_toArray, List.set_cons_succ, List.set_cons_zero, List.getElem_toArray, List.getElem_cons_zero, List.getElem_cons_succ]
              refine hl_take ?v113 rfl (by kernel_rfl) ?y113 ?z113
              case y113 => intro W hW; skip; replace hW := Lib.hid hW; go_simp; try rfl
              case z113 =>
              simp only [Act.put, List.setIfInBounds_toArray, List.set_cons_succ, List.set_cons_zero, List.getElem_toArray, List.getElem_cons_zero, List.getElem_cons_succ]
              refine hl_take ?v114 rfl (by kernel_rfl) ?y114 ?z114
              case y114 => intro W hW; change Sep W _ at hW; obtain ⟨y0, y1, y2, y3, y4, y5, y6, y7, y8, y9⟩ := sp10 hq.out; replace y0 := (hW.to1.vec_cell y0).1; replace y1 := (hW.to1.vec_cell y1).1; replace y2 := (hW.to1.vec_cell y2).1; replace y3 := (hW.to1.vec_cell y3).1; replace y4 := (hW.to1.vec_cell y4).1; replace y5 := (hW.to1.vec_cell y5).1; replace y6 := (hW.to1.vec_cell y6).1; replace y7 := (hW.to1.vec_cell y7).1; replace y8 := (hW.to1.vec_cell y8).1; replace y9 := (hW.to1.vec_cell y9).1; replace hW := Lib.hid hW; go_simp; try rfl
              case z114 =>
              simp only [Act.put, List.setIfInBounds_toArray, List.set_cons_succ, List.set_cons_zero, List.getElem_toArray, List.getElem_cons_zero, List.getElem_cons_succ]
              refine hl_take ?v115 rfl (by kernel_rfl) ?y115 ?z115
              case y115 => intro W hW; skip; replace hW := Lib.hid hW; go_simp; try rfl
              case z115 =>
              simp only [Act.put, List.setIfInBounds_toArray, List.set_cons_succ, List.set_cons_zero, List.getElem_toArray, List.getElem_cons_zero, List.getElem_cons_succ]
              refine hl_take ?v116 rfl (by kernel_rfl) ?y116 ?z116
              case y116 => intro W hW; skip; replace hW := Lib.hid hW; go_simp; try rfl
              case z116 =>
              simp only [Act.put, List.setIfInBounds_toArray, List.set_cons_succ, List.set_cons_zero, List.getElem_toArray, List.getElem_cons_zero, List.getElem_cons_succ]
              refine hl_take ?v117 rfl (by kernel_rfl) ?y117 ?z117
              case y117 => intro W hW; skip; replace hW := Lib.hid hW; go_simp; try rfl
              case z117 =>
              simp only [Act.put, List.setIfInBounds_toArray, List.set_cons_succ, List.set_cons_zero, List.getElem_toArray, List.getElem_cons_zero, List.getElem_cons_succ]
              refine hl_take ?v118 rfl (by kernel_rfl) ?y118 ?z118
              case y118 => intro W hW; change Sep W _ at hW; obtain ⟨y0, y1, y2, y3, y4, y5, y6, y7, y8, y9⟩ := sp10 hq.out; replace y0 := (hW.to1.vec_cell y0).1; replace y1 := (hW.to1.vec_cell y1).1; replace y2 := (hW.to1.vec_cell y2).1; replace y3 := (hW.to1.vec_cell y3).1; replace y4 := (hW.to1.vec_cell y4).1; replace y5 := (hW.to1.vec_cell y5).1; replace y6 := (hW.to1.vec_cell y6).1; replace y7 := (hW.to1.vec_cell y7).1; replace y8 := (hW.to1.vec_cell y8).1; replace y9 := (hW.to1.vec_cell y9).1; replace hW := Lib.hid hW; go_simp; try rfl
              case z118 =>
              simp only [Act.put, List.setIfInBounds_toArray, List.set_cons_succ, List.set_cons_zero, List.getElem_toArray, List.getElem_cons_zero, List.getElem_cons_succ]
              refine hl_one rfl (by kernel_rfl) (fun K hK => ?_)
              go_simp
              refine (before_any s s _).mono ?_
              rintro e w1 ⟨rfl, q1⟩
              replace hS := Lib.hid (hS.out.below q1)
              clear q1
              rw [hb3.out]
              refine hK.out _ _ hS.out ?_
              clear hK K
              try simp only [Act.put, List.setIfInBounds_toArray, List.set_cons_succ, List.set_cons_zero, List.getElem_toArray, List.getElem_cons_zero, List.getElem_cons_succ]
              refine hl_take ?v119 rfl (by kernel_rfl) ?y119 ?z119
              case y119 => intro W hW; skip; replace hW := Lib.hid hW; go_simp; try rfl
              case z119 =>
              simp only [Act.put, List.setIfInBounds_toArray, List.set_cons_succ, List.set_cons_zero, List.getElem_toArray, List.getElem_cons_zero, List.getElem_cons_succ]
              refine hl_done ?_
              clear hB
              replace hB := hS
              clear hS
              go_wp2_with fail
              have hS := Lib.hid (show (fun W : World => Sep W [vec 3 1 (.slice (some ⟨og, 0, none⟩) n oc) n ((upN n).map (Value.int .i64)), vec 36 10 (.slice (some ⟨g, 0, none⟩) n sc) n (scells S), old w]) _ from hB.out.drew)
              refine hl_begin (fun W : World => Sep W [vec 3 1 (.slice (some ⟨og, 0, none⟩) n oc) n ((upN n).map (Value.int .i64)), vec 36 10 (.slice (some ⟨g, 0, none⟩) n sc) n (scells S), old w]) [(0, true), (1, true), (2, true), (3, true), (4, true), (5, true), (6, true), (7, true), (8, false), (9, true)] (by kernel_rfl) (by kernel_rfl) (by kernel_rfl) rfl (fun _ _ _ _ _ h => h) hS.out ?_
              change HL _ _ _ _ _ _ (World.drew _)
              generalize World.drew _ = wd at *
              refine hl_take ?v120 rfl (by kernel_rfl) ?y120 ?z120
              case y120 => intro W hW; skip; replace hW := Lib.hid hW; go_simp; try rfl
              case z120 =>
              simp only [Act.put, List.setIfInBounds_toArray, List.set_cons_succ, List.set_cons_zero, List.getElem_toArray, List.getElem_cons_zero, List.getElem_cons_succ]
              refine hl_take ?v121 rfl (by kernel_rfl) ?y121 ?z121
              case y121 => intro W hW; skip; replace hW := Lib.hid hW; go_simp; try rfl
              case z121 =>
              simp only [Act.put, List.setIfInBounds_toArray, List.set_cons_succ, List.set_cons_zero, List.getElem_toArray, List.getElem_cons_zero, List.getElem_cons_succ]
              refine hl_take ?v122 rfl (by kernel_rfl) ?y122 ?z122
              case y122 => intro W hW; skip; replace hW := Lib.hid hW; go_simp; try rfl
              case z122 =>
              simp only [Act.put, List.setIfInBounds_toArray, List.set_cons_succ, List.set_cons_zero, List.getElem_toArray, List.getElem_cons_zero, List.getElem_cons_succ]
              refine hl_take ?v123 rfl (by kernel_rfl) ?y123 ?z123
              case y123 => intro W hW; change Sep W _ at hW; obtain ⟨y0, y1, y2, y3, y4, y5, y6, y7, y8, y9⟩ := sp10 hq.out; replace y0 := (hW.to1.vec_cell y0).1; replace y1 := (hW.to1.vec_cell y1).1; replace y2 := (hW.to1.vec_cell y2).1; replace y3 := (hW.to1.vec_cell y3).1; replace y4 := (hW.to1.vec_cell y4).1; replace y5 := (hW.to1.vec_cell y5).1; replace y6 := (hW.to1.vec_cell y6).1; replace y7 := (hW.to1.vec_cell y7).1; replace y8 := (hW.to1.vec_cell y8).1; replace y9 := (hW.to1.vec_cell y9).1; replace hW := Lib.hid hW; go_simp; try rfl
              case z123 =>
              simp only [Act.put, List.setIfInBounds_toArray, List.set_cons_succ, List.set_cons_zero, List.getElem_toArray, List.getElem_cons_zero, List.getElem_cons_succ]
              refine hl_take ?v124 rfl (by kernel_rfl) ?y124 ?z124
              case y124 => intro W hW; skip; replace hW := Lib.hid hW; go_simp; try rfl
              case z124 =>
              simp only [Act.put, List.setIfInBounds_toArray, List.set_cons_succ, List.set_cons_zero, List.getElem_toArray, List.getElem_cons_zero, List.getElem_cons_succ]
              refine hl_take ?v125 rfl (by kernel_rfl) ?y125 ?z125
              case y125 => intro W hW; skip; replace hW := Lib.hid hW; go_simp; try rfl
              case z125 =>
              simp only [Act.put, List.setIfInBounds_toArray, List.set_cons_succ, List.set_cons_zero, List.getElem_toArray, List.getElem_cons_zero, List.getElem_cons_succ]
              refine hl_take ?v126 rfl (by kernel_rfl) ?y126 ?z126
              case y126 => intro W hW; skip; replace hW := Lib.hid hW; go_simp; try rfl
              case z126 =>
              simp only [Act.put, List.setIfInBounds_toArray, List.set_cons_succ, List.set_cons_zero, List.getElem_toArray, List.getElem_cons_zero, List.getElem_cons_succ]
              refine hl_take ?v127 rfl (by kernel_rfl) ?y127 ?z127
              case y127 => intro W hW; change Sep W _ at hW; obtain ⟨y0, y1, y2, y3, y4, y5, y6, y7, y8, y9⟩ := sp10 hj.out; replace y0 := (hW.to1.vec_cell y0).1; replace y1 := (hW.to1.vec_cell y1).1; replace y2 := (hW.to1.vec_cell y2).1; replace y3 := (hW.to1.vec_cell y3).1; replace y4 := (hW.to1.vec_cell y4).1; replace y5 := (hW.to1.vec_cell y5).1; replace y6 := (hW.to1.vec_cell y6).1; replace y7 := (hW.to1.vec_cell y7).1; replace y8 := (hW.to1.vec_cell y8).1; replace y9 := (hW.to1.vec_cell y9).1; replace hW := Lib.hid hW; go_simp; try rfl
              case z127 =>
              simp only [Act.put, List.setIfInBounds_toArray, List.set_cons_succ, List.set_cons_zero, List.getElem_toArray, List.getElem_cons_zero, List.getElem_cons_succ]
              refine hl_one rfl (by kernel_rfl) (fun K hK => ?_)
              go_simp
              have hT := Lib.hid (show Sep (wd.alloc (.cells #[.int .i64 s.call, .int .i64 s.thread, .int .i64 s.from_, .int .i64 s.to, .int .i64 s.act.kind, .int .i64 s.act.txn, .int .i64 s.act.t, .int .i64 s.act.r, .int .i64 s.act.mode, .int .i64 s.act.code, .int .i64 t.call, .int .i64 t.thread, .int .i64 t.from_, .int .i64 t.to, .int .i64 t.act.kind, .int .i64 t.act.txn, .int .i64 t.act.t, .int .i64 t.act.r, .int .i64 t.act.mode, .int .i64 t.act.code] 36)) (blk wd.heap.size 36 (s.cells ++ t.cells).toArray :: _) from hS.out.alloc _ _)
              replace hS := Lib.hid (show Sep _ _ from hT.out.tail)
              refine hK.out _ _ hS.out ?_
              clear hK K
              try simp only [Act.put, List.setIfInBounds_toArray, List.set_cons_succ, List.set_cons_zero, List.getElem_toArray, List.getElem_cons_zero, List.getElem_cons_succ]
              refine hl_take ?v128 rfl (by kernel_rfl) ?y128 ?z128
              case y128 => intro W hW; skip; replace hW := Lib.hid hW; go_simp; try rfl
              case z128 =>
              simp only [Act.put, List.setIfInBounds_toArray, List.set_cons_succ, List.set_cons_zero, List.getElem_toArray, List.getElem_cons_zero, List.getElem_cons_succ]
              refine hl_done ?_
              clear hB
              replace hB := hT
              clear hS hT
              generalize wd.heap.size = pb at *
              go_wp2_with fail
              have hS := Lib.hid (show (fun W : World => Sep W [blk pb 36 (s.cells ++ t.cells).toArray, vec 3 1 (.slice (some ⟨og, 0, none⟩) n oc) n ((upN n).map (Value.int .i64)), vec 36 10 (.slice (some ⟨g, 0, none⟩) n sc) n (scells S), old w]) _ from hB.out.drew)
              refine hl_begin (fun W : World => Sep W [blk pb 36 (s.cells ++ t.cells).toArray, vec 3 1 (.slice (some ⟨og, 0, none⟩) n oc) n ((upN n).map (Value.int .i64)), vec 36 10 (.slice (some ⟨g, 0, none⟩) n sc) n (scells S), old w]) [(0, true), (3, true), (4, true), (5, true), (6, true), (7, true), (8, true), (9, true), (10, true), (1, false), (2, false), (11, false), (12, true), (13, true), (14, true), (15, true), (18, true), (19, true), (20, true), (21, true), (22, true), (23, true), (24, true), (25, true), (16, false), (17, false), (26, false), (27, true), (28, true), (29, true), (30, true)] (by kernel_rfl) (by kernel_rfl) (by kernel_rfl) rfl (fun _ _ _ _ _ h => h) hS.out ?_
              change HL _ _ _ _ _ _ (World.drew _)
              generalize World.drew _ = wd at *
              refine hl_take ?v129 rfl (by kernel_rfl) ?y129 ?z129
              case y129 => intro W hW; skip; replace hW := Lib.hid hW; go_simp; try rfl
              case z129 =>
              simp only [Act.put, List.setIfInBounds_toArray, List.set_cons_succ, List.set_cons_zero, List.getElem_toArray, List.getElem_cons_zero, List.getElem_cons_succ]
              refine hl_take ?v130 rfl (by kernel_rfl) ?y130 ?z130
              case y130 => intro W hW; skip; replace hW := Lib.hid hW; go_simp; try rfl
              case z130 =>
              simp only [Act.put, List.setIfInBounds_toArray, List.set_cons_succ, List.set_cons_zero, List.getElem_toArray, List.getElem_cons_zero, List.getElem_cons_succ]
              refine hl_take ?v131 rfl (by kernel_rfl) ?y131 ?z131
              case y131 => intro W hW; skip; replace hW := Lib.hid hW; go_simp; try rfl
              case z131 =>
              simp only [Act.put, List.setIfInBounds_toArray, List.set_cons_succ, List.set_cons_zero, List.getElem_toArray, List.getElem_cons_zero, List.getElem_cons_succ]
              refine hl_take ?v132 rfl (by kernel_rfl) ?y132 ?z132
              case y132 => intro W hW; skip; replace hW := Lib.hid hW; go_simp; try rfl
              case z132 =>
              simp only [Act.put, List.setIfInBounds_toArray, List.set_cons_succ, List.set_cons_zero, List.getElem_toArray, List.getElem_cons_zero, List.getElem_cons_succ]
              refine hl_take ?v133 rfl (by kernel_rfl) ?y133 ?z133
              case y133 => intro W hW; change Sep W _ at hW; obtain ⟨y0, y1, y2, y3, y4, y5, y6, y7, y8, y9⟩ := sp10 hj.out; replace y0 := (hW.to2.vec_cell y0).1; replace y1 := (hW.to2.vec_cell y1).1; replace y2 := (hW.to2.vec_cell y2).1; replace y3 := (hW.to2.vec_cell y3).1; replace y4 := (hW.to2.vec_cell y4).1; replace y5 := (hW.to2.vec_cell y5).1; replace y6 := (hW.to2.vec_cell y6).1; replace y7 := (hW.to2.vec_cell y7).1; replace y8 := (hW.to2.vec_cell y8).1; replace y9 := (hW.to2.vec_cell y9).1; replace hW := Lib.hid hW; go_simp; try rfl
              case z133 =>
              simp only [Act.put, List.setIfInBounds_toArray, List.set_cons_succ, List.set_cons_zero, List.getElem_toArray, List.getElem_cons_zero, List.getElem_cons_succ]
              refine hl_take ?v134 rfl (by kernel_rfl) ?y134 ?z134
              case y134 => intro W hW; skip; replace hW := Lib.hid hW; go_simp; try rfl
              case z134 =>
              simp only [Act.put, List.setIfInBounds_toArray, List.set_cons_succ, List.set_cons_zero, List.getElem_toArray, List.getElem_cons_zero, List.getElem_cons_succ]
              refine hl_take ?v135 rfl (by kernel_rfl) ?y135 ?z135
              case y135 => intro W hW; skip; replace hW := Lib.hid hW; go_simp; try rfl
              case z135 =>
              simp only [Act.put, List.setIfInBounds_toArray, List.set_cons_succ, List.set_cons_zero, List.getElem_toArray, List.getElem_cons_zero, List.getElem_cons_succ]
              refine hl_take ?v136 rfl (by kernel_rfl) ?y136 ?z136
              case y136 => intro W hW; skip; replace hW := Lib.hid hW; go_simp; try rfl
              case z136 =>
              simp only [Act.put, List.setIfInBounds_toArray, List.set_cons_succ, List.set_cons_zero, List.getElem_toArray, List.getElem_cons_zero, List.getElem_cons_succ]
              refine hl_take ?v137 rfl (by kernel_rfl) ?y137 ?z137
              case y137 => intro W hW; change Sep W _ at hW; obtain ⟨y0, y1, y2, y3, y4, y5, y6, y7, y8, y9⟩ := sp10 hq.out; replace y0 := (hW.to2.vec_cell y0).1; replace y1 := (hW.to2.vec_cell y1).1; replace y2 := (hW.to2.vec_cell y2).1; replace y3 := (hW.to2.vec_cell y3).1; replace y4 := (hW.to2.vec_cell y4).1; replace y5 := (hW.to2.vec_cell y5).1; replace y6 := (hW.to2.vec_cell y6).1; replace y7 := (hW.to2.vec_cell y7).1; replace y8 := (hW.to2.vec_cell y8).1; replace y9 := (hW.to2.vec_cell y9).1; replace hW := Lib.hid hW; go_simp; try rfl
              case z137 =>
              simp only [Act.put, List.setIfInBounds_toArray, List.set_cons_succ, List.set_cons_zero, List.getElem_toArray, List.getElem_cons_zero, List.getElem_cons_succ]
              refine hl_one rfl (by kernel_rfl) (fun K hK => ?_)
              go_simp
              have hT := Lib.hid (hS.out.alloc #[.int .i64 0, .int .i64 1] 3)
              replace hS := Lib.hid (show Sep _ _ from hT.out.tail)
              refine hK.out _ _ hS.out ?_
              clear hK K
              try simp only [Act.put, List.setIfInBounds_toArray, List.set_cons_succ, List.set_cons_zero, List.getElem_toArray, List.getElem_cons_zero, List.getElem_cons_succ]
              refine hl_one rfl (by kernel_rfl) (fun K hK => ?_)
              go_simp
              refine (respects_any _ _ [s, t] [0, 1] _ (rl_pair hT.out.to1) (rl_two hT.out) (by simp) (by simp)).mono ?_
              rintro e w1 ⟨rfl, q1⟩
              replace hS := Lib.hid (hS.out.below q1)
              clear q1 hT
              rw [resp_01, hb2.out]
              refine hK.out _ _ hS.out ?_
              clear hK K
              try simp only [Act.put, List.setIfInBounds_toArray, List.set_cons_succ, List.set_cons_zero, List.getElem_toArray, List.getElem_cons_zero, List.getElem_cons_succ]
              refine hl_one rfl (by kernel_rfl) (fun K hK => ?_)
              go_simp
              refine (before_any t s _).mono ?_
              rintro e w1 ⟨rfl, q1⟩
              replace hS := Lib.hid (hS.out.below q1)
              clear q1
              rw [hb2.out]
              refine hK.out _ _ hS.out ?_
              clear hK K
              try simp only [Act.put, List.setIfInBounds_toArray, List.set_cons_succ, List.set_cons_zero, List.getElem_toArray, List.getElem_cons_zero, List.getElem_cons_succ]
              refine hl_take ?v138 rfl (by kernel_rfl) ?y138 ?z138
              case y138 => intro W hW; skip; replace hW := Lib.hid hW; go_simp; try rfl
              case z138 =>
              simp only [Act.put, List.setIfInBounds_toArray, List.set_cons_succ, List.set_cons_zero, List.getElem_toArray, List.getElem_cons_zero, List.getElem_cons_succ]
              refine hl_take ?v139 rfl (by kernel_rfl) ?y139 ?z139
              case y139 => intro W hW; skip; replace hW := Lib.hid hW; go_simp; try rfl
              case z139 =>
              simp only [Act.put, List.setIfInBounds_toArray, List.set_cons_succ, List.set_cons_zero, List.getElem_toArray, List.getElem_cons_zero, List.getElem_cons_succ]
              refine hl_take ?v140 rfl (by kernel_rfl) ?y140 ?z140
              case y140 => intro W hW; skip; replace hW := Lib.hid hW; go_simp; try rfl
              case z140 =>
              simp only [Act.put, List.setIfInBounds_toArray, List.set_cons_succ, List.set_cons_zero, List.getElem_toArray, List.getElem_cons_zero, List.getElem_cons_succ]
              refine hl_take ?v141 rfl (by kernel_rfl) ?y141 ?z141
              case y141 => intro W hW; skip; replace hW := Lib.hid hW; go_simp; try rfl
              case z141 =>
              simp only [Act.put, List.setIfInBounds_toArray, List.set_cons_succ, List.set_cons_zero, List.getElem_toArray, List.getElem_cons_zero, List.getElem_cons_succ]
              refine hl_take ?v142 rfl (by kernel_rfl) ?y142 ?z142
              case y142 => intro W hW; skip; replace hW := Lib.hid hW; go_simp; try rfl
              case z142 =>
              simp only [Act.put, List.setIfInBounds_toArray, List.set_cons_succ, List.set_cons_zero, List.getElem_toArray, List.getElem_cons_zero, List.getElem_cons_succ]
              refine hl_take ?v143 rfl (by kernel_rfl) ?y143 ?z143
              case y143 => intro W hW; skip; replace hW := Lib.hid hW; go_simp; try rfl
              case z143 =>
              simp only [Act.put, List.setIfInBounds_toArray, List.set_cons_succ, List.set_cons_zero, List.getElem_toArray, List.getElem_cons_zero, List.getElem_cons_succ]
              refine hl_take ?v144 rfl (by kernel_rfl) ?y144 ?z144
              case y144 => intro W hW; skip; replace hW := Lib.hid hW; go_simp; try rfl
              case z144 =>
              simp only [Act.put, List.setIfInBounds_toArray, List.set_cons_succ, List.set_cons_zero, List.getElem_toArray, List.getElem_cons_zero, List.getElem_cons_succ]
              refine hl_take ?v145 rfl (by kernel_rfl) ?y145 ?z145
              case y145 => intro W hW; change Sep W _ at hW; obtain ⟨y0, y1, y2, y3, y4, y5, y6, y7, y8, y9⟩ := sp10 hq.out; replace y0 := (hW.to2.vec_cell y0).1; replace y1 := (hW.to2.vec_cell y1).1; replace y2 := (hW.to2.vec_cell y2).1; replace y3 := (hW.to2.vec_cell y3).1; replace y4 := (hW.to2.vec_cell y4).1; replace y5 := (hW.to2.vec_cell y5).1; replace y6 := (hW.to2.vec_cell y6).1; replace y7 := (hW.to2.vec_cell y7).1; replace y8 := (hW.to2.vec_cell y8).1; replace y9 := (hW.to2.vec_cell y9).1; replace hW := Lib.hid hW; go_simp; try rfl
              case z145 =>
              simp only [Act.put, List.setIfInBounds_toArray, List.set_cons_succ, List.set_cons_zero, List.getElem_toArray, List.getElem_cons_zero, List.getElem_cons_succ]
              refine hl_take ?v146 rfl (by kernel_rfl) ?y146 ?z146
              case y146 => intro W hW; skip; replace hW := Lib.hid hW; go_simp; try rfl
              case z146 =>
              simp only [Act.put, List.setIfInBounds_toArray, List.set_cons_succ, List.set_cons_zero, List.getElem_toArray, List.getElem_cons_zero, List.getElem_cons_succ]
              refine hl_take ?v147 rfl (by kernel_rfl) ?y147 ?z147
              case y147 => intro W hW; skip; replace hW := Lib.hid hW; go_simp; try rfl
              case z147 =>
              simp only [Act.put, List.setIfInBounds_toArray, List.set_cons_succ, List.set_cons_zero, List.getElem_toArray, List.getElem_cons_zero, List.getElem_cons_succ]
              refine hl_take ?v148 rfl (by kernel_rfl) ?y148 ?z148
              case y148 => intro W hW; skip; replace hW := Lib.hid hW; go_simp; try rfl
              case z148 =>
              simp only [Act.put, List.setIfInBounds_toArray, List.set_cons_succ, List.set_cons_zero, List.getElem_toArray, List.getElem_cons_zero, List.getElem_cons_succ]
              refine hl_take ?v149 rfl (by kernel_rfl) ?y149 ?z149
              case y149 => intro W hW; change Sep W _ at hW; obtain ⟨y0, y1, y2, y3, y4, y5, y6, y7, y8, y9⟩ := sp10 hj.out; replace y0 := (hW.to2.vec_cell y0).1; replace y1 := (hW.to2.vec_cell y1).1; replace y2 := (hW.to2.vec_cell y2).1; replace y3 := (hW.to2.vec_cell y3).1; replace y4 := (hW.to2.vec_cell y4).1; replace y5 := (hW.to2.vec_cell y5).1; replace y6 := (hW.to2.vec_cell y6).1; replace y7 := (hW.to2.vec_cell y7).1; replace y8 := (hW.to2.vec_cell y8).1; replace y9 := (hW.to2.vec_cell y9).1; replace hW := Lib.hid hW; go_simp; try rfl
              case z149 =>
              simp only [Act.put, List.setIfInBounds_toArray, List.set_cons_succ, List.set_cons_zero, List.getElem_toArray, List.getElem_cons_zero, List.getElem_cons_succ]
              refine hl_one rfl (by kernel_rfl) (fun K hK => ?_)
              go_simp
              have hT := Lib.hid (hS.out.alloc #[.int .i64 1, .int .i64 0] 3)
              replace hS := Lib.hid (show Sep _ _ from hT.out.tail)
              refine hK.out _ _ hS.out ?_
              clear hK K
              try simp only [Act.put, List.setIfInBounds_toArray, List.set_cons_succ, List.set_cons_zero, List.getElem_toArray, List.getElem_cons_zero, List.getElem_cons_succ]
              refine hl_one rfl (by kernel_rfl) (fun K hK => ?_)
              go_simp
              refine (respects_any _ _ [s, t] [1, 0] _ (rl_pair hT.out.to1) (rl_two hT.out) (by simp) (by simp)).mono ?_
              rintro e w1 ⟨rfl, q1⟩
              replace hS := Lib.hid (hS.out.below q1)
              clear q1 hT
              rw [resp_10, hb1.out]
              refine hK.out _ _ hS.out ?_
              clear hK K
              try simp only [Act.put, List.setIfInBounds_toArray, List.set_cons_succ, List.set_cons_zero, List.getElem_toArray, List.getElem_cons_zero, List.getElem_cons_succ]
              refine hl_one rfl (by kernel_rfl) (fun K hK => ?_)
              go_simp
              refine (before_any s t _).mono ?_
              rintro e w1 ⟨rfl, q1⟩
              replace hS := Lib.hid (hS.out.below q1)
              clear q1
              rw [hb1.out]
              refine hK.out _ _ hS.out ?_
              clear hK K
              try simp only [Act.put, List.setIfInBounds_toArray, List.set_cons_succ, List.set_cons_zero, List.getElem_toArray, List.getElem_cons_zero, List.getElem_cons_succ]
              refine hl_take ?v150 rfl (by kernel_rfl) ?y150 ?z150
              case y150 => intro W hW; skip; replace hW := Lib.hid hW; go_simp; try rfl
              case z150 =>
              simp only [Act.put, List.setIfInBounds_toArray, List.set_cons_succ, List.set_cons_zero, List.getElem_toArray, List.getElem_cons_zero, List.getElem_cons_succ]
              refine hl_take ?v151 rfl (by kernel_rfl) ?y151 ?z151
              case y151 => intro W hW; skip; replace hW := Lib.hid hW; go_simp; try rfl
              case z151 =>
              simp only [Act.put, List.setIfInBounds_toArray, List.set_cons_succ, List.set_cons_zero, List.getElem_toArray, List.getElem_cons_zero, List.getElem_cons_succ]
              refine hl_take ?v152 rfl (by kernel_rfl) ?y152 ?z152
              case y152 => intro W hW; skip; replace hW := Lib.hid hW; go_simp; try rfl
              case z152 =>
              simp only [Act.put, List.setIfInBounds_toArray, List.set_cons_succ, List.set_cons_zero, List.getElem_toArray, List.getElem_cons_zero, List.getElem_cons_succ]
              refine hl_take ?v153 rfl (by kernel_rfl) ?y153 ?z153
              case y153 => intro W hW; skip; replace hW := Lib.hid hW; go_simp; try rfl
              case z153 =>
              simp only [Act.put, List.setIfInBounds_toArray, List.set_cons_succ, List.set_cons_zero, List.getElem_toArray, List.getElem_cons_zero, List.getElem_cons_succ]
              refine hl_done ?_
              skip
              go_wp2_with fail
              go_ret
              exact ⟨rfl, hS.out.tail.tail.tail.gold⟩
        · have i2 : (n : Int) < 2 := by omega
          go_wp2_with fail
          refine (hR.out _ hV.out).mono ?_
          rintro e w4 ⟨rfl, q⟩
          replace hV := Lib.hid (hV.out.below q)
          clear q
          go_wp2_with fail
          go_ret
          exact ⟨rfl, hV.out.tail.tail.gold⟩
  · have i60 : (len : Int) > 60 := by omega
    go_enter Try.func3, Try.ntmps3
    go_wp2_with fail
    refine (lives_any _).mono ?_
    rintro e w1 ⟨rfl, q⟩
    replace q := Lib.hid q
    go_wp2_with fail
    go_ret
    exact ⟨rfl, q.out⟩
theorem resp_walk (a : Option Addr) (len cap : Nat) (l : List Ev) (i k : Int) (w : World) (hv : RL w (.slice a len cap) 9 len (ecells l)) (hn : l.length = len) :
    Calls Try.prog 3 #[.slice a len cap, .int .i64 i, .int .i64 k] w fun e w' => e = .returned (.bool true) ∧ Below w.heap.size w w' := respects_tail i k a len cap l w hv hn
end Go.Proofs.Ytechagciefhpbaa
