/-
  Contracts and plain laws that the walk leans on, part 17. No condition.
-/
import Derived.Test.YtcnkmhfcgkbhbaaGreatZCl16
namespace Go.Proofs.YtcnkmhfcgkbhbaaGreat
open Go.RowKit
theorem blockers_any (t r n : Int) (v : Value) (l : List Rq) (id0 : Int) (w : World) (hv : RQ w v l) (hl : l.length ≤ 1000) :
    Calls Tryz.prog 37 #[hval t r v n, .int .i64 id0] w fun e w' => ∃ a c, e = .returned (.slice a (blkV l id0).length c) ∧ Sep w' [vec 3 1 (.slice a (blkV l id0).length c) (blkV l id0).length ((blkV l id0).map (Value.int .i64)), old w] := by
  have nil : ∀ w', Below w.heap.size w w' → Sep w' [vec 3 1 (.slice none 0 0) 0 [], old w] := fun w' hb => ((Sep.start w).below hb).vec_nil _ _
  by_cases hn : plc l id0 < 0
  · have e0 : blkV l id0 = [] := by unfold blkV; rw [if_pos hn]
    rw [e0]
    refine (blockers_none t r n v l id0 w hv hl (plc_neg hn)).mono ?_
    rintro e w' ⟨rfl, hb⟩
    exact ⟨none, 0, rfl, nil w' hb⟩
  · obtain ⟨i, hi, hil, _⟩ := plc_spec l id0 hn
    by_cases hs : 0 < (l.getD i default).since
    · have e0 : blkV l id0 = nrm (blkL l (l.getD i default)) := by unfold blkV; rw [if_neg hn, hi, Int.toNat_natCast, if_pos hs]
      rw [e0]
      exact blockers_some t r n v l id0 w hv hl i hi hil (decide_eq_true hs)
    · have e0 : blkV l id0 = [] := by unfold blkV; rw [if_neg hn, hi, Int.toNat_natCast, if_neg hs]
      rw [e0]
      refine (blockers_calm t r n v l id0 w hv hl i hi hil (decide_eq_false hs)).mono ?_
      rintro e w' ⟨rfl, hb⟩
      exact ⟨none, 0, rfl, nil w' hb⟩
theorem take_snocG {α : Type} [Inhabited α] (l : List α) (k : Nat) (h : k < l.length) : l.take (k + 1) = l.take k ++ [l.getD k default] := by
  rw [List.take_succ_eq_append_getElem h]
  simp [List.getD, h]
theorem hdsE_snoc (hs : List Hv) (k : Nat) (h : k < hs.length) : hdsE (hs.take (k + 1)) = hdsE (hs.take k) ++ quE (hs.getD k default).l := by
  unfold hdsE
  rw [take_snocG hs k h, List.flatMap_append]
  simp
theorem quE_snoc (l : List Rq) (k : Nat) (h : k < l.length) : (l.take (k + 1)).flatMap (rqE l) = (l.take k).flatMap (rqE l) ++ rqE l (l.getD k default) := by
  rw [take_snocG l k h, List.flatMap_append]
  simp
def mkE (f : Int) (xs : List Int) : List Ed := xs.map fun b => ⟨f, b⟩
theorem mkE_snoc (f : Int) (xs : List Int) (k : Nat) (h : k < xs.length) : mkE f (xs.take (k + 1)) = mkE f (xs.take k) ++ [⟨f, xs.getD k 0⟩] := by
  unfold mkE
  rw [List.take_succ_eq_append_getElem h, List.map_append]
  simp [List.getD, h]
theorem hdsE_take_len (hs : List Hv) (h12 : ∀ x ∈ hs, x.l.length ≤ 12) (k : Nat) (h : k ≤ 8) : (hdsE (hs.take k)).length ≤ 1152 := by
  have h1 := hdsE_len (hs.take k) fun x hx => h12 x (List.mem_of_mem_take hx)
  have h2 : (hs.take k).length ≤ 8 := by rw [List.length_take]; omega
  have : (hs.take k).length * 144 ≤ 8 * 144 := Nat.mul_le_mul_right _ h2
  omega
set_option maxHeartbeats 8000000 in
set_option maxRecDepth 100000 in
theorem edges_any (u : Value) (hs : List Hv) (w : World) (hv : HD w u hs) (hl : hs.length ≤ 8) (h12 : ∀ x ∈ hs, x.l.length ≤ 12) :
    Calls Tryz.prog 19 #[u] w fun e w' => ∃ a c, e = .returned (.slice a (sdE (hdsE hs)).length c) ∧ Sep w' [vec 30 2 (.slice a (sdE (hdsE hs)).length c) (sdE (hdsE hs)).length ((sdE (hdsE hs)).flatMap Ed.cells), old w] := by
  obtain ⟨ua, uc, rfl, hr, hq⟩ := hv
  obtain ⟨n0, hn0⟩ : ∃ n0, hs.length = n0 := ⟨_, rfl⟩
  rw [hn0] at hr hq hl ⊢
  have HS := Lib.hid (fun v W (h : RL W v 2 (hdsE hs).length ((hdsE hs).flatMap Ed.cells)) => sorted_any v (hdsE hs) W h (by
    have := hdsE_take_len hs h12 n0 hl
    rw [← hn0, List.take_length] at this
    omega))
  replace hr := Lib.hid hr
  replace hq := Lib.hid hq
  have hlen := Lib.hid (fun k h => hdsE_take_len hs h12 k h)
  have hsnoc := Lib.hid (hdsE_snoc hs)
  have hmem := Lib.hid (fun i (hi : i < n0) => h12 (hs.getD i default) (by
    have : i < hs.length := by omega
    have e : hs.getD i default = hs[i] := by simp [List.getD, this]
    rw [e]
    exact List.getElem_mem this))
  replace hn0 := Lib.hid hn0
  obtain ⟨i0, hi0, hz0, hz1, hz2⟩ := info_parts info_ed
  have h1c : Hid (∀ x y, ∀ u ∈ ([.int .i64 x, .int .i64 y] : List Value), u.oneCell' = true) := Lib.hid (by simp [Value.oneCell'])
  have hV0 := Lib.hid ((Sep.start w).vec_nil 30 2)
  clear h12
  go_enter Tryz.func19, Tryz.ntmps19
  go_wp2_with fail
  go_loopg [3, 12] n0 (fun gm s3 s12 W => ∃ (i : Nat) (O : List Ed) (ao : Option Addr) (co n : Nat), i ≤ n0 ∧ gm = n0 - i ∧ s3 = .slice ao n co ∧ s12 = .int .i64 i ∧ Hid (O = hdsE (hs.take i)) ∧ Hid (O.length = n) ∧ Hid (Sep W [vec 30 2 (.slice ao n co) n (O.flatMap Ed.cells), old w]))
  case atStart => exact ⟨0, [], none, 0, 0, Nat.zero_le _, rfl, rfl, rfl, Lib.hid rfl, Lib.hid rfl, hV0⟩
  case round =>
    clear hV0
    obtain ⟨i, O, ao, co, n, hi, hgm, rfl, rfl, hO, hOn, hV⟩ := hrel
    by_cases hlt : i < n0
    · obtain ⟨b, off, rfl, hb, hz⟩ := hr.out (by omega)
      obtain ⟨z0, z1, z2, z3⟩ := hz i hlt
      have kk : ∀ o, wr.cell? ⟨b, o, none⟩ = w.cell? ⟨b, o, none⟩ := fun o => hV.out.tail.gold.cell (p := ⟨b, o, none⟩) hb
      rw [← kk] at z0 z1 z2 z3
      have hRQ := hq.out i hlt
      have hx12 := hmem.out i hlt
      have hsn := hsnoc.out i (by rw [hn0.out]; exact hlt)
      rw [← hO.out] at hsn
      have hOl : O.length ≤ 1152 := by rw [hO.out]; exact hlen.out i (by omega)
      clear kk hz
      generalize hs.getD i default = x at *
      obtain ⟨t, r, nw, v, l⟩ := x
      simp only at z0 z1 z2 z3 hRQ hx12 hsn
      have HB := Lib.hid (fun id W (hb : Below w.heap.size w W) => blockers_any t r nw v l id W (hRQ.below hb) (by omega))
      have hbl := Lib.hid (blkV_len l)
      have hqs := Lib.hid (quE_snoc l)
      have hql := Lib.hid (fun k => quE_len1 l k hx12)
      replace hsn := Lib.hid hsn
      obtain ⟨qa, qc, rfl, hlq, _, hqr⟩ := hRQ
      replace hqr := Lib.hid hqr
      obtain ⟨m, hm⟩ : ∃ m, l.length = m := ⟨_, rfl⟩
      rw [hm] at hqr hlq hx12 z2 hbl
      simp only [hm] at HB
      replace HB := Lib.hid HB.out
      replace hm := Lib.hid hm
      have i1 : (0 : Int) ≤ (i : Int) := by omega
      have i2 : (i : Int) < (n0 : Int) := by omega
      have hV1 := Lib.hid ((hV.out.alloc #[.int .i64 t, .int .i64 r, .slice qa m qc, .int .i64 nw] 61).to1)
      obtain ⟨_, d0, d1, d2, d3, _⟩ := hV1.out.to1.b4
      have hms := Lib.hid (show n0 - (i + 1) < n0 - i by omega)
      unfold hval at HB
      go_wp2_with fail
      generalize hG : wr.heap.size = gh at *
      clear hV d0 d1 d2 d3 z0 z1 z2 z3 hG
      go_loopg [3, 19] m (fun gm s3 s19 W => ∃ (k : Nat) (P : List Ed) (ap : Option Addr) (cp np : Nat), k ≤ m ∧ gm = m - k ∧ s3 = .slice ap np cp ∧ s19 = .int .i64 k ∧ Hid (P = O ++ (l.take k).flatMap (rqE l)) ∧ Hid (P.length = np) ∧ Hid (Sep W [vec 30 2 (.slice ap np cp) np (P.flatMap Ed.cells), blk gh 61 #[.int .i64 t, .int .i64 r, .slice qa m qc, .int .i64 nw], old w]))
      case atStart => exact ⟨0, O, ao, co, n, Nat.zero_le _, rfl, rfl, rfl, Lib.hid (by simp), hOn, hV1⟩
      case round =>
        clear hV1
        obtain ⟨k, P, ap, cp, np, hk, hgm2, rfl, rfl, hP, hPn, hV⟩ := hrel
        by_cases hlt2 : k < m
        · obtain ⟨qb, qo, rfl, hqb, hqz⟩ := hqr.out (by omega)
          obtain ⟨y0, y1, y2, y3, y4⟩ := hqz k hlt2
          have kk : ∀ o, wr.cell? ⟨qb, o, none⟩ = w.cell? ⟨qb, o, none⟩ := fun o => hV.out.to2.gold.cell (p := ⟨qb, o, none⟩) hqb
          rw [← kk] at y0 y1 y2 y3 y4
          have hqn := hqs.out k (by rw [hm.out]; exact hlt2)
          have hPl : P.length ≤ 1296 := by
            have h1 := hql.out k
            rw [hP.out, List.length_append]
            omega
          clear kk hqz
          generalize l.getD k default = q at *
          replace hqn := Lib.hid (show O ++ (l.take (k + 1)).flatMap (rqE l) = P ++ mkE q.txn (blkV l q.id) by rw [hqn, ← List.append_assoc, ← hP.out]; rfl)
          have HB1 := Lib.hid (fun W hb => HB.out q.id W hb)
          have hbl1 := hbl.out q.id
          obtain ⟨id, txn, mode, want, since⟩ := q
          simp only at y0 y1 y2 y3 y4 hqn HB1 hbl1
          generalize blkV l id = bs at *
          obtain ⟨nb, hnb⟩ : ∃ nb, bs.length = nb := ⟨_, rfl⟩
          rw [hnb] at hbl1
          simp only [hnb] at HB1
          replace HB1 := Lib.hid HB1.out
          replace hnb := Lib.hid hnb
          have i1 : (0 : Int) ≤ (k : Int) := by omega
          have i2 : (k : Int) < (m : Int) := by omega
          have hV1 := Lib.hid (show Sep _ [blk wr.heap.size 64 #[.int .i64 id, .int .i64 txn, .int .i64 mode, .int .i64 want, .int .i64 since], _, _, _] from hV.out.alloc #[.int .i64 id, .int .i64 txn, .int .i64 mode, .int .i64 want, .int .i64 since] 64)
          obtain ⟨_, p0, p1, p2, p3, p4, _⟩ := hV1.out.b5
          obtain ⟨_, d0, d1, d2, d3, _⟩ := hV1.out.to2.b4
          have hms2 := Lib.hid (show m - (k + 1) < m - k by omega)
          go_wp2_with fail
          refine (HB1.out _ (hV1.out.to3.gold)).mono ?_
          rintro e w2 ⟨ba, bc, rfl, qq⟩
          replace hV1 := Lib.hid (qq.graft (show Sep _ [blk wr.heap.size 64 #[.int .i64 id, .int .i64 txn, .int .i64 mode, .int .i64 want, .int .i64 since], vec 30 2 (.slice ap np cp) np (P.flatMap Ed.cells), blk gh 61 #[.int .i64 t, .int .i64 r, .slice (some ⟨qb, qo, none⟩) m qc, .int .i64 nw], old w] from hV1.out))
          clear qq HB1 p0 p1 p2 p3 p4 d0 d1 d2 d3 hV y0 y1 y2 y3 y4
          generalize hG : wr.heap.size = gr at *
          clear hG
          go_wp2_with fail
          go_loopg [3, 28] nb (fun gm s3 s28 W => ∃ (j : Nat) (S : List Ed) (sa : Option Addr) (sc ns : Nat), j ≤ nb ∧ gm = nb - j ∧ s3 = .slice sa ns sc ∧ s28 = .int .i64 j ∧ Hid (S = P ++ mkE txn (bs.take j)) ∧ Hid (S.length = ns) ∧ Hid (Sep W [vec 30 2 (.slice sa ns sc) ns (S.flatMap Ed.cells), vec 3 1 (.slice ba nb bc) nb (bs.map (Value.int .i64)), blk gr 64 #[.int .i64 id, .int .i64 txn, .int .i64 mode, .int .i64 want, .int .i64 since], blk gh 61 #[.int .i64 t, .int .i64 r, .slice (some ⟨qb, qo, none⟩) m qc, .int .i64 nw], old w]))
          case atStart => exact ⟨0, P, ap, cp, np, Nat.zero_le _, rfl, rfl, rfl, Lib.hid (by simp [mkE]), hPn, Lib.hid (by have h := hV1.out.to2; exact h)⟩
          case round =>
            clear hV1
            obtain ⟨j, S, sa, sc, ns, hj, hgm3, rfl, rfl, hS, hSn, hV⟩ := hrel
            by_cases hlt3 : j < nb
            · obtain ⟨a', c', ev, hcell⟩ := hV.out.to1.vec_ri
              injection ev with ea el ec
              clear el ec
              obtain ⟨rb, ro, hba, _, hc⟩ := hcell (by rw [hnb.out]; omega)
              rw [hba] at ea
              subst ea
              have c0 := hc j (by rw [hnb.out]; exact hlt3)
              obtain ⟨_, p0, p1, p2, p3, p4, _⟩ := hV.out.to2.b5
              have hsn3 := mkE_snoc txn bs j (by rw [hnb.out]; exact hlt3)
              have hSl : ns ≤ 1400 := by
                have h1 := hSn.out
                rw [hS.out, List.length_append] at h1
                have h2 : (mkE txn (bs.take j)).length ≤ nb := by simp [mkE]; omega
                omega
              generalize bs.getD j 0 = bj at *
              replace hsn3 := Lib.hid (show P ++ mkE txn (bs.take (j + 1)) = S ++ [⟨txn, bj⟩] by rw [hsn3, ← List.append_assoc, ← hS.out])
              clear hc hcell hba
              have i1 : (0 : Int) ≤ (j : Int) := by omega
              have i2 : (j : Int) < (nb : Int) := by omega
              have hms3 := Lib.hid (show nb - (j + 1) < nb - j by omega)
              go_wp2_with (at_builtin; (refine wpList_append_sep (hV.out.allocG _) rfl _ _ 23 rfl i0 _ 16 Tryz.underlying23 hi0 hz0 hz1 hz2 rfl (by decide) rfl 1 [.int .i64 txn, .int .i64 bj] (srcA_cells _ _ _ _ 2 rfl) (h1c.out _ _) (by simp only [maxLen]; omega) (by omega) ?_; intro oa' oc' w5 q2; replace q2 := Lib.hid q2))
              go_roundg (nb - (j + 1))
              case measure => rw [hgm3]; exact hms3.out
              case rel => exact ⟨j + 1, S ++ [⟨txn, bj⟩], oa', oc', ns + 1, by omega, rfl, rfl, by go_num, Lib.hid hsn3.out.symm, Lib.hid (by simp [hSn.out]), Lib.hid (by rw [List.flatMap_append]; exact q2.out)⟩
            · obtain rfl : j = nb := by omega
              have hS2 := Lib.hid (show S = O ++ (l.take (k + 1)).flatMap (rqE l) by rw [hS.out, ← hnb.out, List.take_length]; exact hqn.out.symm)
              clear hS
              go_wp2_with fail
              go_roundg (m - (k + 1))
              case measure => rw [hgm2]; exact hms2.out
              case rel => exact ⟨k + 1, S, sa, sc, ns, by omega, rfl, rfl, by go_num, hS2, hSn, Lib.hid hV.out.drop1.drop1⟩
        · obtain rfl : k = m := by omega
          have hP2 := Lib.hid (show P = hdsE (hs.take (i + 1)) by rw [hP.out, ← hm.out, List.take_length]; exact hsn.out.symm)
          clear hP
          go_wp2_with fail
          go_roundg (n0 - (i + 1))
          case measure => rw [hgm]; exact hms.out
          case rel => exact ⟨i + 1, P, ap, cp, np, by omega, rfl, rfl, by go_num, hP2, hPn, Lib.hid hV.out.drop1⟩
    · obtain rfl : i = n0 := by omega
      have hfn : O = hdsE hs := by rw [hO.out, ← hn0.out, List.take_length]
      subst hfn
      have hOn2 := hOn.out
      subst hOn2
      have HS1 := Lib.hid (HS.out _ _ hV.out.vec_rl)
      clear HS hO hlen hsnoc hmem
      have i2 : ¬ (i : Int) < (i : Int) := by omega
      go_wp2_with fail
      refine HS1.out.mono ?_
      rintro e w3 ⟨ra, rc, rfl, qq⟩
      replace qq := Lib.hid (qq.graft hV.out)
      clear HS1
      go_wp2_with fail
      go_ret
      exact ⟨ra, rc, rfl, qq.out.drop1⟩
end Go.Proofs.YtcnkmhfcgkbhbaaGreat
namespace Go.Proofs.YtcnkmhfcgkbhbaaGreat
open Go.RowKit
/-- All that is come to from those of a list, one after the other. -/
def RQl (N : Rw) (Q : List Int) : Bk := Q.foldl (fun bk a => nbr a (rowL N a) bk) []
theorem RQl_snoc (N : Rw) (Q : List Int) (a : Int) : RQl N (Q ++ [a]) = nbr a (rowL N a) (RQl N Q) := by
  unfold RQl
  rw [List.foldl_append]
  rfl
theorem Bfs.closed {N : Rw} {fr : Int} {bk r : Bk} {td : List Int} (h : Bfs N bk td r) : ∀ pr, pr ++ td = fr :: bk.map (·.1) → bk = RQl N pr → r = RQl N (fr :: r.map (·.1)) := by
  induction h with
  | nil =>
    intro pr h1 h2
    rw [List.append_nil] at h1
    rw [← h1]
    exact h2
  | @step bk a td r _ ih =>
    intro pr h1 h2
    refine ih (pr ++ [a]) ?_ (by rw [RQl_snoc, ← h2])
    obtain ⟨ex, he⟩ := nbr_keys a (rowL N a) bk
    rw [he, List.drop_left, List.map_append, ← List.cons_append, ← h1]
    simp
theorem wyN_closed (N : Rw) (fr : Int) : wyN N fr = RQl N (fr :: (wyN N fr).map (·.1)) := (wyN_steps N fr).closed [] rfl rfl
/-- Who is the first with an edge to one. -/
def fI (N : Rw) (Q : List Int) (x : Int) : Nat := Q.findIdx fun y => decide (x ∈ rowL N y)
theorem fI_snoc (N : Rw) (Q : List Int) (a x : Int) (h : fI N Q x < Q.length) : fI N (Q ++ [a]) x = fI N Q x := by
  unfold fI at *
  rw [List.findIdx_append, if_pos h]
theorem fI_lt {N : Rw} {Q : List Int} {x : Int} : fI N Q x < Q.length ↔ ∃ y ∈ Q, x ∈ rowL N y := by
  unfold fI
  rw [List.findIdx_lt_length]
  simp
theorem fI_new (N : Rw) (Q : List Int) (a x : Int) (h : ¬ fI N Q x < Q.length) (hx : x ∈ rowL N a) : fI N (Q ++ [a]) x = Q.length := by
  unfold fI at *
  rw [List.findIdx_append, if_neg h]
  simp [List.findIdx_cons, hx]
/-- Neighbours of one, in order. -/
theorem nbr_filter (a : Int) : ∀ (ts : List Int) (bk : Bk), ts.Nodup → nbr a ts bk = bk ++ (ts.filter fun t => !hasL bk t).map fun t => (t, a)
  | [], bk, _ => by simp [nbr]
  | t :: ts, bk, hn => by
    rw [List.nodup_cons] at hn
    have e : nbr a (t :: ts) bk = nbr a ts (if hasL bk t then bk else bk ++ [(t, a)]) := rfl
    rw [e, nbr_filter a ts _ hn.2]
    cases hh : hasL bk t with
    | true => simp [hh]
    | false =>
      rw [if_neg (by simp), List.filter_cons_of_pos (by simp [hh]), List.append_assoc]
      congr 1
      rw [List.map_cons, List.singleton_append]
      congr 2
      refine List.filter_congr fun x hx => ?_
      have hne : x ≠ t := fun e => hn.1 (e ▸ hx)
      have : hasL (bk ++ [(t, a)]) x = hasL bk x := by
        unfold hasL
        rw [List.any_append]
        simp [Ne.symm hne]
      rw [this]
/-- What is come to: whom, in which order, from whom. -/
structure InQ (N : Rw) (Q : List Int) : Prop where
  mem : ∀ x, x ∈ (RQl N Q).map (·.1) ↔ fI N Q x < Q.length
  par : ∀ p ∈ RQl N Q, Q[fI N Q p.1]? = some p.2
  pw : (RQl N Q).Pairwise fun p q => fI N Q p.1 < fI N Q q.1 ∨ fI N Q p.1 = fI N Q q.1 ∧ p.1 < q.1
theorem inQ (N : Rw) (hs : ∀ a, (rowL N a).Pairwise (· < ·)) (Q : List Int) : InQ N Q := by
  have key : ∀ R : List Int, InQ N R.reverse := by
    intro R
    induction R with
    | nil => exact ⟨by simp [RQl, fI], by simp [RQl], by simp [RQl]⟩
    | cons a R ih =>
      rw [List.reverse_cons]
      generalize R.reverse = Q at *
      obtain ⟨h1, h2, h3⟩ := ih
      have hnd : (rowL N a).Nodup := (hs a).imp fun h => by omega
      have e := nbr_filter a (rowL N a) (RQl N Q) hnd
      have hnew : ∀ t, (!hasL (RQl N Q) t) = true → ¬ fI N Q t < Q.length := by
        intro t ht hl
        rw [← h1, ← hasL_iff] at hl
        rw [hl] at ht
        cases ht
      have hold : ∀ p ∈ RQl N Q, fI N (Q ++ [a]) p.1 = fI N Q p.1 ∧ fI N Q p.1 < Q.length := by
        intro p hp
        have hl := (h1 p.1).1 (List.mem_map.2 ⟨p, hp, rfl⟩)
        exact ⟨fI_snoc N Q a p.1 hl, hl⟩
      refine ⟨fun x => ?_, fun p hp => ?_, ?_⟩
      · rw [RQl_snoc, nbr_mem, h1, fI_lt, fI_lt]
        constructor
        · rintro (⟨y, hy, hx⟩ | hx)
          · exact ⟨y, List.mem_append_left _ hy, hx⟩
          · exact ⟨a, by simp, hx⟩
        · rintro ⟨y, hy, hx⟩
          rcases List.mem_append.1 hy with hy | hy
          · exact .inl ⟨y, hy, hx⟩
          · simp only [List.mem_singleton] at hy
            subst hy
            exact .inr hx
      · rw [RQl_snoc, e] at hp
        rcases List.mem_append.1 hp with hp | hp
        · obtain ⟨h4, h5⟩ := hold p hp
          rw [h4, List.getElem?_append_left h5]
          exact h2 p hp
        · obtain ⟨t, ht, rfl⟩ := List.mem_map.1 hp
          rw [List.mem_filter] at ht
          simp only
          rw [fI_new N Q a t (hnew t ht.2) ht.1, List.getElem?_append_right (Nat.le_refl _)]
          simp
      · rw [RQl_snoc, e, List.pairwise_append]
        refine ⟨?_, ?_, fun p hp q hq => ?_⟩
        · refine List.Pairwise.imp_of_mem (fun {p q} hp hq h => ?_) h3
          rw [(hold p hp).1, (hold q hq).1]
          exact h
        · rw [List.pairwise_map]
          refine List.Pairwise.imp_of_mem (fun {p q} hp hq h => ?_) ((hs a).filter _)
          rw [List.mem_filter] at hp hq
          simp only
          rw [fI_new N Q a p (hnew p hp.2) hp.1, fI_new N Q a q (hnew q hq.2) hq.1]
          exact .inr ⟨rfl, h⟩
        · obtain ⟨t, ht, rfl⟩ := List.mem_map.1 hq
          rw [List.mem_filter] at ht
          obtain ⟨h4, h5⟩ := hold p hp
          simp only
          rw [h4, fI_new N Q a t (hnew t ht.2) ht.1]
          exact .inl h5
  have := key Q.reverse
  rwa [List.reverse_reverse] at this
end Go.Proofs.YtcnkmhfcgkbhbaaGreat
namespace Go.Proofs.YtcnkmhfcgkbhbaaGreat
open Go.RowKit
/-- A walk of so many edges. -/
inductive Wk (N : Rw) : Nat → Int → Int → Prop
  | one {a b : Int} : b ∈ rowL N a → Wk N 1 a b
  | more {n : Nat} {a t b : Int} : t ∈ rowL N a → Wk N n t b → Wk N (n + 1) a b
theorem Wk.pos {N : Rw} {n : Nat} {a b : Int} (h : Wk N n a b) : 0 < n := by
  cases h <;> omega
theorem Wk.snoc {N : Rw} {n : Nat} {a b c : Int} (h : Wk N n a b) (hc : c ∈ rowL N b) : Wk N (n + 1) a c := by
  induction h with
  | one hb => exact .more hb (.one hc)
  | more ht _ ih => exact .more ht (ih hc)
theorem Wk.app {N : Rw} {n k : Nat} {a b c : Int} (h : Wk N n a b) (h2 : Wk N k b c) : Wk N (n + k) a c := by
  induction h with
  | one hb => rw [Nat.add_comm]; exact .more hb h2
  | more ht _ ih =>
    rename_i n _ _ _ _
    rw [show n + 1 + k = n + k + 1 by omega]
    exact .more ht (ih h2)
theorem Wk.rd {N : Rw} {n : Nat} {a b : Int} (h : Wk N n a b) : Rd N a b := by
  induction h with
  | one hb => exact .one hb
  | more ht _ ih => exact (Rd.one ht).trans ih
/-- The last edge of a walk. -/
theorem Wk.last {N : Rw} {n : Nat} {a b : Int} (h : Wk N n a b) : (n = 1 ∧ b ∈ rowL N a) ∨ ∃ y, 1 < n ∧ Wk N (n - 1) a y ∧ b ∈ rowL N y := by
  induction h with
  | one hb => exact .inl ⟨rfl, hb⟩
  | @more n a t b ht h ih =>
    right
    rcases ih with ⟨rfl, hb⟩ | ⟨y, h1, h2, h3⟩
    · exact ⟨t, by omega, .one ht, hb⟩
    · refine ⟨y, by omega, ?_, h3⟩
      rw [show n + 1 - 1 = n - 1 + 1 by omega]
      exact .more ht h2
theorem rs_facts (N : Rw) (fr : Int) (hr : Rd N fr fr) : 0 < (rsC N fr).1.length ∧ (rsC N fr).1.getD 0 0 = fr ∧ (∀ j, j + 1 < (rsC N fr).1.length → ((rsC N fr).1.getD (j + 1) 0, (rsC N fr).1.getD j 0) ∈ wyN N fr) ∧
    (fr, (rsC N fr).1.getD ((rsC N fr).1.length - 1) 0) ∈ wyN N fr ∧ ∀ j, 0 < j → j < (rsC N fr).1.length → (rsC N fr).1.getD j 0 ≠ fr := by
  have hk := (wyN_iff N fr fr).2 hr
  obtain ⟨h1, h2, h3, _⟩ := path_facts (wyN_nodup N fr) (wyN_tr N fr) _ _ (onB_start hk)
  have hst := stepB_mem (wyN_nodup N fr) hk
  unfold rsC
  simp only
  generalize hP : pathB (wyN N fr) fr (wyN N fr).length (stepB (wyN N fr) fr) = P at *
  have hlen : (P ++ [fr]).reverse.length = P.length + 1 := by simp
  have hg : ∀ j, j < P.length + 1 → (P ++ [fr]).reverse.getD j 0 = (P ++ [fr]).getD (P.length - j) 0 := by
    intro j hj
    rw [List.getD_eq_getElem?_getD, List.getD_eq_getElem?_getD, List.getElem?_reverse (by simp; omega)]
    congr 2
    simp
  have hs : ∀ j, j < P.length + 1 → (P ++ [fr])[j]? = some ((P ++ [fr]).getD j 0) := by
    intro j hj
    rw [List.getD_eq_getElem?_getD, List.getElem?_eq_getElem (by simp; omega)]
    rfl
  rw [hlen]
  refine ⟨by omega, by rw [hg 0 (by omega)]; simp, fun j hj => ?_, ?_, fun j h0 hj => ?_⟩
  · rw [hg (j + 1) hj, hg j (by omega)]
    exact h1 (P.length - (j + 1)) _ _ (hs _ (by omega)) (by rw [show P.length - (j + 1) + 1 = P.length - j by omega]; exact hs _ (by omega))
  · rw [hg _ (by omega), show P.length - (P.length + 1 - 1) = 0 by omega]
    have : (P ++ [fr]).getD 0 0 = stepB (wyN N fr) fr := by rw [List.getD_eq_getElem?_getD, h2]; rfl
    rw [this]
    exact hst
  · rw [hg j hj]
    have hm : (P ++ [fr]).getD (P.length - j) 0 ∈ P := by
      rw [List.getD_eq_getElem?_getD, List.getElem?_append_left (by omega), List.getElem?_eq_getElem (by omega)]
      exact List.getElem_mem _
    exact (h3 _ hm).1
/-- When one is looked at. -/
def qI (bk : Bk) (fr x : Int) : Nat := if x = fr then 0 else posB bk x + 1
section
variable {N : Rw} (hs : ∀ a, (rowL N a).Pairwise (· < ·)) {fr : Int}
theorem posB_at {bk : Bk} {x : Int} (hx : x ∈ bk.map (·.1)) : ∃ p, bk[posB bk x]? = some (x, p) := by
  have hl := posB_lt hx
  have h := List.findIdx_getElem (w := hl)
  simp only [decide_eq_true_eq] at h
  refine ⟨(bk[posB bk x]).2, ?_⟩
  rw [List.getElem?_eq_getElem hl]
  congr 1
  exact Prod.ext h rfl
theorem qI_at {x : Int} (hx : x = fr ∨ x ∈ (wyN N fr).map (·.1)) : (fr :: (wyN N fr).map (·.1))[qI (wyN N fr) fr x]? = some x := by
  unfold qI
  by_cases h : x = fr
  · rw [if_pos h, h]; rfl
  · rw [if_neg h, List.getElem?_cons_succ, List.getElem?_map]
    obtain ⟨p, hp⟩ := posB_at (hx.resolve_left h)
    rw [hp]
    rfl
/-- Whoever has an edge to one is not looked at before the first such. -/
theorem fI_le {x y : Int} (hy : y = fr ∨ y ∈ (wyN N fr).map (·.1)) (h : x ∈ rowL N y) : fI N (fr :: (wyN N fr).map (·.1)) x ≤ qI (wyN N fr) fr y := by
  refine Nat.le_of_not_lt fun hlt => ?_
  have ha := qI_at hy
  obtain ⟨h1, h2⟩ := List.getElem?_eq_some_iff.1 ha
  have h3 := List.not_of_lt_findIdx hlt
  rw [h2] at h3
  rw [decide_eq_true h] at h3
  cases h3
include hs in
theorem fI_par {x p : Int} (h : (x, p) ∈ wyN N fr) : fI N (fr :: (wyN N fr).map (·.1)) x = qI (wyN N fr) fr p := by
  have K := inQ N hs (fr :: (wyN N fr).map (·.1))
  have hr := K.par (x, p) (by rw [← wyN_closed]; exact h)
  simp only at hr
  have hpm : p = fr ∨ p ∈ (wyN N fr).map (·.1) := by
    have := List.mem_of_getElem? hr
    exact List.mem_cons.1 this
  refine Nat.le_antisymm (fI_le hpm (wyN_par N fr (x, p) h)) ?_
  unfold qI
  by_cases hp : p = fr
  · rw [if_pos hp]; exact Nat.zero_le _
  · rw [if_neg hp]
    cases hf : fI N (fr :: (wyN N fr).map (·.1)) x with
    | zero =>
      rw [hf] at hr
      simp only [List.getElem?_cons_zero, Option.some.injEq] at hr
      exact absurd hr.symm hp
    | succ k =>
      rw [hf, List.getElem?_cons_succ, List.getElem?_map] at hr
      obtain ⟨e, he, hek⟩ := Option.map_eq_some_iff.1 hr
      refine Nat.succ_le_succ (Nat.le_of_not_lt fun hlt => ?_)
      have h3 := List.not_of_lt_findIdx hlt
      obtain ⟨h4, h5⟩ := List.getElem?_eq_some_iff.1 he
      rw [h5] at h3
      rw [decide_eq_true hek] at h3
      cases h3
include hs in
/-- Whose first one is earlier is come to earlier. -/
theorem qI_lt {x y : Int} (hx : x ∈ (wyN N fr).map (·.1)) (hy : y ∈ (wyN N fr).map (·.1)) (hyf : y ≠ fr)
    (h : fI N (fr :: (wyN N fr).map (·.1)) x < fI N (fr :: (wyN N fr).map (·.1)) y ∨ fI N (fr :: (wyN N fr).map (·.1)) x = fI N (fr :: (wyN N fr).map (·.1)) y ∧ x < y) : qI (wyN N fr) fr x < qI (wyN N fr) fr y := by
  have K := (inQ N hs (fr :: (wyN N fr).map (·.1))).pw
  rw [← wyN_closed, List.pairwise_iff_getElem] at K
  obtain ⟨p, hp⟩ := posB_at hx
  obtain ⟨p', hp'⟩ := posB_at hy
  obtain ⟨h1, h2⟩ := List.getElem?_eq_some_iff.1 hp
  obtain ⟨h3, h4⟩ := List.getElem?_eq_some_iff.1 hp'
  have hlt : posB (wyN N fr) x < posB (wyN N fr) y := by
    refine Nat.lt_of_not_le fun hle => ?_
    rcases Nat.lt_or_eq_of_le hle with hlt | heq
    · have := K _ _ h3 h1 hlt
      rw [h2, h4] at this
      simp only at this
      omega
    · have e : (x, p) = (y, p') := by rw [← h2, ← h4]; congr 1; exact heq.symm
      injection e with e1 e2
      subst e1
      omega
  unfold qI
  rw [if_neg hyf]
  split
  · omega
  · omega
/-- The cycle's own order. -/
theorem cy_mono (hr : Rd N fr fr) : ∀ k j, j + k < (rsC N fr).1.length → qI (wyN N fr) fr ((rsC N fr).1.getD j 0) ≤ qI (wyN N fr) fr ((rsC N fr).1.getD (j + k) 0)
  | 0, j, _ => Nat.le_refl _
  | k + 1, j, h => by
    obtain ⟨_, _, h3, _, h5⟩ := rs_facts N fr hr
    refine Nat.le_trans (cy_mono hr k j (by omega)) ?_
    have he := h3 (j + k) (by omega)
    have hf := h5 (j + k + 1) (by omega) (by omega)
    have hk : (rsC N fr).1.getD (j + k + 1) 0 ∈ (wyN N fr).map (·.1) := List.mem_map.2 ⟨_, he, rfl⟩
    rw [← Nat.add_assoc]
    rcases posB_step (wyN_nodup N fr) (wyN_tr N fr) hk with h6 | ⟨h6, h7⟩
    · have e : stepB (wyN N fr) ((rsC N fr).1.getD (j + k + 1) 0) = (rsC N fr).1.getD (j + k) 0 := by
        unfold stepB
        rw [(getL_some_iff (wyN_nodup N fr)).2 he]
        rfl
      rw [e] at h6
      unfold qI
      rw [if_pos h6]
      exact Nat.zero_le _
    · have e : stepB (wyN N fr) ((rsC N fr).1.getD (j + k + 1) 0) = (rsC N fr).1.getD (j + k) 0 := by
        unfold stepB
        rw [(getL_some_iff (wyN_nodup N fr)).2 he]
        rfl
      rw [e] at h7
      unfold qI
      rw [if_neg hf]
      split
      · omega
      · omega
include hs in
/-- Who is ahead of the cycle stays ahead of it. -/
theorem ahead (hr : Rd N fr fr) {i : Nat} {t y : Int} (hw : Wk N i t y) : ∀ j, 0 < j → j + i < (rsC N fr).1.length → (t = fr ∨ t ∈ (wyN N fr).map (·.1)) → qI (wyN N fr) fr t < qI (wyN N fr) fr ((rsC N fr).1.getD j 0) →
    (y = fr ∨ y ∈ (wyN N fr).map (·.1)) ∧ qI (wyN N fr) fr y < qI (wyN N fr) fr ((rsC N fr).1.getD (j + i) 0) := by
  obtain ⟨_, _, h3, _, h5⟩ := rs_facts N fr hr
  have step : ∀ {t b : Int}, b ∈ rowL N t → ∀ j, 0 < j → j + 1 < (rsC N fr).1.length → (t = fr ∨ t ∈ (wyN N fr).map (·.1)) → qI (wyN N fr) fr t < qI (wyN N fr) fr ((rsC N fr).1.getD j 0) →
      (b = fr ∨ b ∈ (wyN N fr).map (·.1)) ∧ qI (wyN N fr) fr b < qI (wyN N fr) fr ((rsC N fr).1.getD (j + 1) 0) := by
    intro t b hb j hj0 hj ht hlt
    have hbk : b ∈ (wyN N fr).map (·.1) := ways_closed (wyN_ends N fr) t ht b hb
    have he := h3 j hj
    have hyf := h5 (j + 1) (by omega) hj
    have hyk : (rsC N fr).1.getD (j + 1) 0 ∈ (wyN N fr).map (·.1) := List.mem_map.2 ⟨_, he, rfl⟩
    have hfp := fI_par hs he
    have hfl := fI_le (N := N) (fr := fr) ht hb
    refine ⟨.inr hbk, qI_lt hs hbk hyk hyf (.inl ?_)⟩
    omega
  induction hw with
  | one hb => exact fun j hj0 hj ht hlt => step hb j hj0 hj ht hlt
  | @more n a t b hb _ ih =>
    intro j hj0 hj ht hlt
    obtain ⟨h6, h7⟩ := step hb j hj0 (by omega) ht hlt
    have := ih (j + 1) (by omega) (by omega) h6 h7
    rw [show j + 1 + n = j + (n + 1) by omega] at this
    exact this
include hs in
/-- Who is ahead of the cycle does not come back sooner. -/
theorem ahead_back (hr : Rd N fr fr) {i j : Nat} {t : Int} (hw : Wk N i t fr) (h0 : 0 < j) (hj : j < (rsC N fr).1.length) (ht : t = fr ∨ t ∈ (wyN N fr).map (·.1)) (hlt : qI (wyN N fr) fr t < qI (wyN N fr) fr ((rsC N fr).1.getD j 0)) : (rsC N fr).1.length < j + i := by
  refine Nat.lt_of_not_le fun hle => ?_
  obtain ⟨_, _, h3, h4, h5⟩ := rs_facts N fr hr
  have hfp := fI_par hs h4
  rcases hw.last with ⟨rfl, hb⟩ | ⟨y, h6, hw2, hb⟩
  · have := fI_le (N := N) (fr := fr) ht hb
    have hm := cy_mono hr ((rsC N fr).1.length - 1 - j) j (by omega)
    rw [show j + ((rsC N fr).1.length - 1 - j) = (rsC N fr).1.length - 1 by omega] at hm
    omega
  · obtain ⟨h7, h8⟩ := ahead hs hr hw2 j h0 (by omega) ht hlt
    have := fI_le (N := N) (fr := fr) h7 hb
    have hm := cy_mono hr ((rsC N fr).1.length - 1 - (j + (i - 1))) (j + (i - 1)) (by omega)
    rw [show j + (i - 1) + ((rsC N fr).1.length - 1 - (j + (i - 1))) = (rsC N fr).1.length - 1 by omega] at hm
    omega
include hs in
/-- No shorter way comes back. -/
theorem shortest (hr : Rd N fr fr) {k : Nat} (hw : Wk N k fr fr) : (rsC N fr).1.length ≤ k := by
  have hp := hw.pos
  by_cases h1 : 1 < (rsC N fr).1.length
  · obtain ⟨_, _, _, _, h5⟩ := rs_facts N fr hr
    have hq : qI (wyN N fr) fr fr < qI (wyN N fr) fr ((rsC N fr).1.getD 1 0) := by
      unfold qI
      rw [if_pos rfl, if_neg (h5 1 (by omega) h1)]
      omega
    have := ahead_back hs hr hw (by omega) h1 (.inl rfl) hq
    omega
  · omega
/-- The way along the cycle. -/
theorem along (hr : Rd N fr fr) : ∀ k j, j + k < (rsC N fr).1.length → 0 < k → Wk N k ((rsC N fr).1.getD j 0) ((rsC N fr).1.getD (j + k) 0)
  | 0, _, _, h => by omega
  | 1, j, h, _ => .one (wyN_par N fr _ ((rs_facts N fr hr).2.2.1 j h))
  | k + 2, j, h, _ => (along hr (k + 1) j (by omega) (by omega)).snoc (wyN_par N fr _ ((rs_facts N fr hr).2.2.1 (j + (k + 1)) (by omega)))
theorem back_ (hr : Rd N fr fr) (j : Nat) (h : j < (rsC N fr).1.length) : Wk N ((rsC N fr).1.length - j) ((rsC N fr).1.getD j 0) fr := by
  have hl := wyN_par N fr _ (rs_facts N fr hr).2.2.2.1
  simp only at hl
  by_cases hj : j + 1 = (rsC N fr).1.length
  · rw [show (rsC N fr).1.length - j = 1 by omega]
    rw [show (rsC N fr).1.length - 1 = j by omega] at hl
    exact .one hl
  · have := (along hr ((rsC N fr).1.length - 1 - j) j (by omega) (by omega))
    rw [show j + ((rsC N fr).1.length - 1 - j) = (rsC N fr).1.length - 1 by omega] at this
    have h2 := this.snoc hl
    rw [show (rsC N fr).1.length - 1 - j + 1 = (rsC N fr).1.length - j by omega] at h2
    exact h2
include hs in
/-- From each of the cycle no shorter way comes back. -/
theorem dist_ (hr : Rd N fr fr) (j : Nat) (h : j < (rsC N fr).1.length) {k : Nat} (hw : Wk N k ((rsC N fr).1.getD j 0) fr) : (rsC N fr).1.length - j ≤ k := by
  by_cases h0 : j = 0
  · subst h0
    rw [(rs_facts N fr hr).2.1] at hw
    have := shortest hs hr hw
    omega
  · have h2 := along hr j 0 (by omega) (by omega)
    rw [Nat.zero_add, (rs_facts N fr hr).2.1] at h2
    have := shortest hs hr (h2.app hw)
    omega
include hs in
/-- The next one of the cycle is the smallest with which it is as short. -/
theorem least (hr : Rd N fr fr) (j : Nat) (h : j + 1 < (rsC N fr).1.length) {t : Int} (ht : t ∈ rowL N ((rsC N fr).1.getD j 0)) (hw : Wk N ((rsC N fr).1.length - 1 - j) t fr) : (rsC N fr).1.getD (j + 1) 0 ≤ t := by
  refine Int.not_lt.1 fun hlt => ?_
  obtain ⟨_, hc0, h3, _, h5⟩ := rs_facts N fr hr
  have he := h3 j h
  have hck : (rsC N fr).1.getD j 0 = fr ∨ (rsC N fr).1.getD j 0 ∈ (wyN N fr).map (·.1) := by
    by_cases h0 : j = 0
    · subst h0; exact .inl hc0
    · refine .inr (List.mem_map.2 ⟨_, h3 (j - 1) (by omega), ?_⟩)
      rw [show j - 1 + 1 = j by omega]
  have htk : t ∈ (wyN N fr).map (·.1) := ways_closed (wyN_ends N fr) _ hck t ht
  have hyk : (rsC N fr).1.getD (j + 1) 0 ∈ (wyN N fr).map (·.1) := List.mem_map.2 ⟨_, he, rfl⟩
  have hyf := h5 (j + 1) (by omega) h
  have hq : qI (wyN N fr) fr t < qI (wyN N fr) fr ((rsC N fr).1.getD (j + 1) 0) := by
    refine qI_lt hs htk hyk hyf ?_
    have h6 := fI_par hs he
    have h7 := fI_le (N := N) (fr := fr) hck ht
    omega
  have := ahead_back hs hr hw (by omega) h (.inr htk) hq
  omega
end
end Go.Proofs.YtcnkmhfcgkbhbaaGreat
