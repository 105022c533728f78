/-
  Contracts and plain laws that the walk leans on, part 20. No condition.
-/
import Derived.Test.YtcnkmhfcgkbhbaaGreatZCl19
namespace Go.Proofs.YtcnkmhfcgkbhbaaGreat
open Go.RowKit
set_option maxHeartbeats 20000000 in
set_option maxRecDepth 100000 in
theorem edgesR_any (u : Value) (hs : List Hv) (w : World) (hv : HD w u hs) (hl : hs.length ≤ 8) (h12 : ∀ x ∈ hs, x.l.length ≤ 12) (hids : ∀ x ∈ hs, IdsD x.l) :
    Calls Tryz.prog 20 #[u] w fun e w' => ∃ a c, e = .returned (.slice a (sdE (hdsE hs)).length c) ∧ Sep w' [vec 30 2 (.slice a (sdE (hdsE hs)).length c) (sdE (hdsE hs)).length ((sdE (hdsE hs)).flatMap Ed.cells), old w] := by
  obtain ⟨ua, uc, rfl, hr, hq⟩ := hv
  obtain ⟨n0, hn0⟩ : ∃ n0, hs.length = n0 := ⟨_, rfl⟩
  rw [hn0] at hr hq hl ⊢
  have HS := Lib.hid (fun v W (h : RL W v 2 (hdsE hs).length ((hdsE hs).flatMap Ed.cells)) => sortedR_any v (hdsE hs) W h (by
    have := hdsE_take_len hs h12 n0 hl
    rw [← hn0, List.take_length] at this
    omega))
  replace hr := Lib.hid hr
  replace hq := Lib.hid hq
  have hlen := Lib.hid (fun k h => hdsE_take_len hs h12 k h)
  have hsnoc := Lib.hid (hdsE_snoc hs)
  have hmem := Lib.hid (fun i (hi : i < n0) => show (hs.getD i default).l.length ≤ 12 ∧ IdsD (hs.getD i default).l from by
    have : i < hs.length := by omega
    have e : hs.getD i default = hs[i] := by simp [List.getD, this]
    rw [e]
    exact ⟨h12 _ (List.getElem_mem this), hids _ (List.getElem_mem this)⟩)
  replace hn0 := Lib.hid hn0
  obtain ⟨i0, hi0, hz0, hz1, hz2⟩ := info_parts info_ed
  have h1c : Hid (∀ x y, ∀ u ∈ ([.int .i64 x, .int .i64 y] : List Value), u.oneCell' = true) := Lib.hid (by simp [Value.oneCell'])
  have hV0 := Lib.hid ((Sep.start w).vec_nil 30 2)
  clear h12 hids
  go_enter Tryz.func20, Tryz.ntmps20
  go_wp2_with fail
  go_loopg [3, 4] n0 (fun gm s3 s12 W => ∃ (i : Nat) (O : List Ed) (ao : Option Addr) (co n : Nat), i ≤ n0 ∧ gm = n0 - i ∧ s3 = .slice ao n co ∧ s12 = .int .i64 i ∧ Hid (O = hdsE (hs.take i)) ∧ Hid (O.length = n) ∧ Hid (Sep W [vec 30 2 (.slice ao n co) n (O.flatMap Ed.cells), old w]))
  case atStart => exact ⟨0, [], none, 0, 0, Nat.zero_le _, rfl, rfl, rfl, Lib.hid rfl, Lib.hid rfl, hV0⟩
  case round =>
    clear hV0
    obtain ⟨i, O, ao, co, n, hi, hgm, rfl, rfl, hO, hOn, hV⟩ := hrel
    by_cases hlt : i < n0
    · obtain ⟨b, off, rfl, hb, hz⟩ := hr.out (by omega)
      obtain ⟨y0, y1, y2, y3⟩ := hz i hlt
      have hRQ := hq.out i hlt
      obtain ⟨hx12, hD⟩ := hmem.out i hlt
      have hsn := hsnoc.out i (by rw [hn0.out]; exact hlt)
      rw [← hO.out] at hsn
      have hOl : O.length ≤ 1152 := by rw [hO.out]; exact hlen.out i (by omega)
      clear hz
      generalize hs.getD i default = x at *
      obtain ⟨t, r, nw, v, l⟩ := x
      simp only at y0 y1 y2 y3 hRQ hx12 hsn hD
      have HB := Lib.hid (fun id W (hb : Below w.heap.size w W) => blkR_any t r nw v l id W (hRQ.below hb) (by omega) hD)
      have hbl := Lib.hid (blkV_len l)
      have hqs := Lib.hid (quE_snoc l)
      have hql := Lib.hid (fun k => quE_len1 l k hx12)
      replace hsn := Lib.hid hsn
      replace y0 := Lib.hid y0
      replace y1 := Lib.hid y1
      replace y3 := Lib.hid y3
      obtain ⟨qa, qc, rfl, hlq, _, hqr⟩ := hRQ
      replace hqr := Lib.hid hqr
      obtain ⟨m, hm⟩ : ∃ m, l.length = m := ⟨_, rfl⟩
      rw [hm] at hqr hlq hx12 y2 hbl
      simp only [hm] at HB
      replace HB := Lib.hid HB.out
      replace hm := Lib.hid hm
      replace y2 := Lib.hid y2
      clear hD
      have i1 : (0 : Int) ≤ (i : Int) := by omega
      have i2 : (i : Int) < (n0 : Int) := by omega
      have hms := Lib.hid (show n0 - (i + 1) < n0 - i by omega)
      unfold hval at HB
      go_wp2_with fail
      go_loopg [3, 5] m (fun gm s3 s19 W => ∃ (k : Nat) (P : List Ed) (ap : Option Addr) (cp np : Nat), k ≤ m ∧ gm = m - k ∧ s3 = .slice ap np cp ∧ s19 = .int .i64 k ∧ Hid (P = O ++ (l.take k).flatMap (rqE l)) ∧ Hid (P.length = np) ∧ Hid (Sep W [vec 30 2 (.slice ap np cp) np (P.flatMap Ed.cells), old w]))
      case atStart => exact ⟨0, O, ao, co, n, Nat.zero_le _, rfl, rfl, rfl, Lib.hid (by simp), hOn, hV⟩
      case round =>
        clear hV
        obtain ⟨k, P, ap, cp, np, hk, hgm2, rfl, rfl, hP, hPn, hV⟩ := hrel
        have z2 := (hV.out.tail.gold.cell (p := ⟨b, off + i * 4 + 2, none⟩) hb).trans y2.out
        by_cases hlt2 : k < m
        · obtain ⟨qb, qo, rfl, hqb, hqz⟩ := hqr.out (by omega)
          obtain ⟨x0, x1, x2, x3, x4⟩ := hqz k hlt2
          have kk : ∀ o, wr.cell? ⟨qb, o, none⟩ = w.cell? ⟨qb, o, none⟩ := fun o => hV.out.tail.gold.cell (p := ⟨qb, o, none⟩) hqb
          rw [← kk] at x0 x1 x2 x3 x4
          have hqn := hqs.out k (by rw [hm.out]; exact hlt2)
          have hPl : P.length ≤ 1296 := by
            have h1 := hql.out k
            rw [hP.out, List.length_append]
            omega
          clear kk hqz
          generalize l.getD k default = q at *
          replace hqn := Lib.hid (show O ++ (l.take (k + 1)).flatMap (rqE l) = P ++ mkE q.txn (blkV l q.id) by rw [hqn, ← List.append_assoc, ← hP.out]; rfl)
          have HB1 := Lib.hid (fun W hb => HB.out q.id W hb)
          have hbl1 := hbl.out q.id
          obtain ⟨id, txn, mode, want, since⟩ := q
          simp only at x0 x1 x2 x3 x4 hqn HB1 hbl1
          generalize blkV l id = bs at *
          obtain ⟨nb, hnb⟩ : ∃ nb, bs.length = nb := ⟨_, rfl⟩
          rw [hnb] at hbl1
          simp only [hnb] at HB1
          replace HB1 := Lib.hid HB1.out
          replace hnb := Lib.hid hnb
          have k1 : (0 : Int) ≤ (k : Int) := by omega
          have k2 : (k : Int) < (m : Int) := by omega
          have hV1 := Lib.hid (show Sep _ [vec 30 2 (.slice ap np cp) np (P.flatMap Ed.cells), blk wr.heap.size 64 #[.int .i64 id, .int .i64 txn, .int .i64 mode, .int .i64 want, .int .i64 since], old w] from (hV.out.alloc #[.int .i64 id, .int .i64 txn, .int .i64 mode, .int .i64 want, .int .i64 since] 64).to1)
          have hms2 := Lib.hid (show m - (k + 1) < m - k by omega)
          go_wp2_with fail
          clear hV x0 x1 x2 x3 x4 z2
          have hV := Lib.hid (show Sep _ [_, _, _] from hV1.out.drew)
          clear hV1
          generalize wr.heap.size = gr at *
          have hS := Lib.hid (show (fun W : World => Sep W [blk gr 64 #[.int .i64 id, .int .i64 txn, .int .i64 mode, .int .i64 want, .int .i64 since], old w]) _ from hV.out.tail)
          refine hl_begin (fun W : World => Sep W [blk gr 64 #[.int .i64 id, .int .i64 txn, .int .i64 mode, .int .i64 want, .int .i64 since], old w]) [(0, true), (1, true), (2, true), (3, true), (4, true), (5, true), (6, false), (7, true)] (by kernel_rfl) (by kernel_rfl) (by kernel_rfl) rfl (fun _ _ _ _ _ h => h) hS.out ?_
          change HL _ _ _ _ _ _ (World.drew _)
          generalize World.drew _ = wd at *
          refine hl_take ?v1 rfl (by kernel_rfl) ?y1 ?z1
          case y1 => intro W hW; skip; replace hW := Lib.hid hW; go_simp; try rfl
          case z1 =>
          simp only [Act.put, List.setIfInBounds_toArray, List.set_cons_succ, List.set_cons_zero, List.getElem_toArray, List.getElem_cons_zero, List.getElem_cons_succ]
          refine hl_take ?v2 rfl (by kernel_rfl) ?y2 ?z2
          case y2 => intro W hW; skip; replace hW := Lib.hid hW; go_simp; try rfl
          case z2 =>
          simp only [Act.put, List.setIfInBounds_toArray, List.set_cons_succ, List.set_cons_zero, List.getElem_toArray, List.getElem_cons_zero, List.getElem_cons_succ]
          refine hl_take ?v3 rfl (by kernel_rfl) ?y3 ?z3
          case y3 => intro W hW; skip; replace hW := Lib.hid hW; go_simp; try rfl
          case z3 =>
          simp only [Act.put, List.setIfInBounds_toArray, List.set_cons_succ, List.set_cons_zero, List.getElem_toArray, List.getElem_cons_zero, List.getElem_cons_succ]
          refine hl_take ?v4 rfl (by kernel_rfl) ?y4 ?z4
          case y4 => intro W hW; change Sep W _ at hW; obtain ⟨_, p0, p1, p2, p3, p4, _⟩ := hW.b5; have z0 := (hW.tail.gold.cell (p := ⟨b, off + i * 4, none⟩) hb).trans y0.out; have z1 := (hW.tail.gold.cell (p := ⟨b, off + i * 4 + 1, none⟩) hb).trans y1.out; have z2 := (hW.tail.gold.cell (p := ⟨b, off + i * 4 + 2, none⟩) hb).trans y2.out; have z3 := (hW.tail.gold.cell (p := ⟨b, off + i * 4 + 3, none⟩) hb).trans y3.out; replace hW := Lib.hid hW; go_simp; try rfl
          case z4 =>
          simp only [Act.put, List.setIfInBounds_toArray, List.set_cons_succ, List.set_cons_zero, List.getElem_toArray, List.getElem_cons_zero, List.getElem_cons_succ]
          refine hl_take ?v5 rfl (by kernel_rfl) ?y5 ?z5
          case y5 => intro W hW; skip; replace hW := Lib.hid hW; go_simp; try rfl
          case z5 =>
          simp only [Act.put, List.setIfInBounds_toArray, List.set_cons_succ, List.set_cons_zero, List.getElem_toArray, List.getElem_cons_zero, List.getElem_cons_succ]
          refine hl_take ?v6 rfl (by kernel_rfl) ?y6 ?z6
          case y6 => intro W hW; change Sep W _ at hW; obtain ⟨_, p0, p1, p2, p3, p4, _⟩ := hW.b5; have z0 := (hW.tail.gold.cell (p := ⟨b, off + i * 4, none⟩) hb).trans y0.out; have z1 := (hW.tail.gold.cell (p := ⟨b, off + i * 4 + 1, none⟩) hb).trans y1.out; have z2 := (hW.tail.gold.cell (p := ⟨b, off + i * 4 + 2, none⟩) hb).trans y2.out; have z3 := (hW.tail.gold.cell (p := ⟨b, off + i * 4 + 3, none⟩) hb).trans y3.out; replace hW := Lib.hid hW; go_simp; try rfl
          case z6 =>
          simp only [Act.put, List.setIfInBounds_toArray, List.set_cons_succ, List.set_cons_zero, List.getElem_toArray, List.getElem_cons_zero, List.getElem_cons_succ]
          refine hl_one rfl (by kernel_rfl) (fun K hK => ?_)
          go_simp
          refine (HB1.out _ (show Sep _ [blk gr 64 #[.int .i64 id, .int .i64 txn, .int .i64 mode, .int .i64 want, .int .i64 since], old w] from hS.out).tail.gold).mono ?_
          rintro e w3 ⟨ba, bc, rfl, q⟩
          replace hV := Lib.hid (q.graft hV.out)
          clear q
          replace hS := Lib.hid (show (fun W : World => Sep W [blk gr 64 #[.int .i64 id, .int .i64 txn, .int .i64 mode, .int .i64 want, .int .i64 since], old w]) _ from hV.out.tail.tail)
          refine hK.out _ _ hS.out ?_
          clear hK K
          try simp only [Act.put, List.setIfInBounds_toArray, List.set_cons_succ, List.set_cons_zero, List.getElem_toArray, List.getElem_cons_zero, List.getElem_cons_succ]
          refine hl_take ?v7 rfl (by kernel_rfl) ?y7 ?z7
          case y7 => intro W hW; skip; replace hW := Lib.hid hW; go_simp; try rfl
          case z7 =>
          simp only [Act.put, List.setIfInBounds_toArray, List.set_cons_succ, List.set_cons_zero, List.getElem_toArray, List.getElem_cons_zero, List.getElem_cons_succ]
          refine hl_done ?_
          skip
          clear hS
          go_wp2_with fail
          go_loopg [3, 8] nb (fun gm s3 s28 W => ∃ (j : Nat) (S : List Ed) (sa : Option Addr) (sc ns : Nat), j ≤ nb ∧ gm = nb - j ∧ s3 = .slice sa ns sc ∧ s28 = .int .i64 j ∧ Hid (S = P ++ mkE txn (bs.take j)) ∧ Hid (S.length = ns) ∧ Hid (Sep W [vec 30 2 (.slice sa ns sc) ns (S.flatMap Ed.cells), vec 3 1 (.slice ba nb bc) nb (bs.map (Value.int .i64)), blk gr 64 #[.int .i64 id, .int .i64 txn, .int .i64 mode, .int .i64 want, .int .i64 since], old w]))
          case atStart => exact ⟨0, P, ap, cp, np, Nat.zero_le _, rfl, rfl, rfl, Lib.hid (by simp [mkE]), hPn, Lib.hid hV.out.to1⟩
          case round =>
            clear hV
            obtain ⟨j, S, sa, sc, ns, hj, hgm3, rfl, rfl, hS0, hSn, hV⟩ := hrel
            by_cases hlt3 : j < nb
            · obtain ⟨ig, rfl⟩ := hV.out.to1.vec_ptr (by omega)
              have hat := Lib.hid (int_at (xs := bs) (i := j) (by rw [hnb.out]; exact hlt3))
              have hsn3 := mkE_snoc txn bs j (by rw [hnb.out]; exact hlt3)
              have hSl : Hid (ns ≤ 1400) := Lib.hid (by
                have h1 := hSn.out
                rw [hS0.out, List.length_append] at h1
                have h2 : (mkE txn (bs.take j)).length ≤ nb := by simp [mkE]; omega
                omega)
              generalize bs.getD j 0 = bj at *
              replace hsn3 := Lib.hid (show P ++ mkE txn (bs.take (j + 1)) = S ++ [⟨txn, bj⟩] by rw [hsn3, ← List.append_assoc, ← hS0.out])
              have j1 : (0 : Int) ≤ (j : Int) := by omega
              have j2 : (j : Int) < (nb : Int) := by omega
              have hms3 := Lib.hid (show nb - (j + 1) < nb - j by omega)
              go_wp2_with fail
              replace hV := Lib.hid (show Sep _ [_, _, _, _] from hV.out.drew)
              have hS := Lib.hid (show (fun W : World => Sep W [vec 3 1 (.slice (some ⟨ig, 0, none⟩) nb bc) nb (bs.map (Value.int .i64)), blk gr 64 #[.int .i64 id, .int .i64 txn, .int .i64 mode, .int .i64 want, .int .i64 since], old w]) _ from hV.out.tail)
              refine hl_begin (fun W : World => Sep W [vec 3 1 (.slice (some ⟨ig, 0, none⟩) nb bc) nb (bs.map (Value.int .i64)), blk gr 64 #[.int .i64 id, .int .i64 txn, .int .i64 mode, .int .i64 want, .int .i64 since], old w]) [(0, true), (1, true), (2, true), (3, true), (4, true), (5, true), (6, true), (7, true), (8, false), (9, false), (10, true)] (by kernel_rfl) (by kernel_rfl) (by kernel_rfl) rfl (fun _ _ _ _ _ h => h) hS.out ?_
              change HL _ _ _ _ _ _ (World.drew _)
              generalize World.drew _ = wd at *
              refine hl_take ?v8 rfl (by kernel_rfl) ?y8 ?z8
              case y8 => intro W hW; skip; replace hW := Lib.hid hW; go_simp; try rfl
              case z8 =>
              simp only [Act.put, List.setIfInBounds_toArray, List.set_cons_succ, List.set_cons_zero, List.getElem_toArray, List.getElem_cons_zero, List.getElem_cons_succ]
              refine hl_take ?v9 rfl (by kernel_rfl) ?y9 ?z9
              case y9 => intro W hW; skip; replace hW := Lib.hid hW; go_simp; try rfl
              case z9 =>
              simp only [Act.put, List.setIfInBounds_toArray, List.set_cons_succ, List.set_cons_zero, List.getElem_toArray, List.getElem_cons_zero, List.getElem_cons_succ]
              refine hl_take ?v10 rfl (by kernel_rfl) ?y10 ?z10
              case y10 => intro W hW; change Sep W _ at hW; obtain ⟨_, p0, p1, p2, p3, p4, _⟩ := hW.to1.b5; have c0 := (hW.vec_cell hat.out).1; replace hW := Lib.hid hW; go_simp; try rfl
              case z10 =>
              simp only [Act.put, List.setIfInBounds_toArray, List.set_cons_succ, List.set_cons_zero, List.getElem_toArray, List.getElem_cons_zero, List.getElem_cons_succ]
              refine hl_take ?v11 rfl (by kernel_rfl) ?y11 ?z11
              case y11 => intro W hW; skip; replace hW := Lib.hid hW; go_simp; try rfl
              case z11 =>
              simp only [Act.put, List.setIfInBounds_toArray, List.set_cons_succ, List.set_cons_zero, List.getElem_toArray, List.getElem_cons_zero, List.getElem_cons_succ]
              refine hl_take ?v12 rfl (by kernel_rfl) ?y12 ?z12
              case y12 => intro W hW; skip; replace hW := Lib.hid hW; go_simp; try rfl
              case z12 =>
              simp only [Act.put, List.setIfInBounds_toArray, List.set_cons_succ, List.set_cons_zero, List.getElem_toArray, List.getElem_cons_zero, List.getElem_cons_succ]
              refine hl_take ?v13 rfl (by kernel_rfl) ?y13 ?z13
              case y13 => intro W hW; skip; replace hW := Lib.hid hW; go_simp; try rfl
              case z13 =>
              simp only [Act.put, List.setIfInBounds_toArray, List.set_cons_succ, List.set_cons_zero, List.getElem_toArray, List.getElem_cons_zero, List.getElem_cons_succ]
              refine hl_take ?v14 rfl (by kernel_rfl) ?y14 ?z14
              case y14 => intro W hW; change Sep W _ at hW; obtain ⟨_, p0, p1, p2, p3, p4, _⟩ := hW.to1.b5; have c0 := (hW.vec_cell hat.out).1; replace hW := Lib.hid hW; go_simp; try rfl
              case z14 =>
              simp only [Act.put, List.setIfInBounds_toArray, List.set_cons_succ, List.set_cons_zero, List.getElem_toArray, List.getElem_cons_zero, List.getElem_cons_succ]
              refine hl_take ?v15 rfl (by kernel_rfl) ?y15 ?z15
              case y15 => intro W hW; skip; replace hW := Lib.hid hW; go_simp; try rfl
              case z15 =>
              simp only [Act.put, List.setIfInBounds_toArray, List.set_cons_succ, List.set_cons_zero, List.getElem_toArray, List.getElem_cons_zero, List.getElem_cons_succ]
              refine hl_one rfl (by kernel_rfl) (fun K hK => ?_)
              go_simp
              replace hV := Lib.hid (hV.out.allocG (.cells #[.int .i64 txn, .int .i64 bj] 30))
              have hsrc := Lib.hid (srcA_cells wd #[.int .i64 txn, .int .i64 bj] 30 1 2 rfl)
              replace hS := Lib.hid (show (fun W : World => Sep W [vec 3 1 (.slice (some ⟨ig, 0, none⟩) nb bc) nb (bs.map (Value.int .i64)), blk gr 64 #[.int .i64 id, .int .i64 txn, .int .i64 mode, .int .i64 want, .int .i64 since], old w]) _ from hV.out.tail)
              refine hK.out _ _ hS.out ?_
              clear hK K
              try simp only [Act.put, List.setIfInBounds_toArray, List.set_cons_succ, List.set_cons_zero, List.getElem_toArray, List.getElem_cons_zero, List.getElem_cons_succ]
              refine hl_one rfl (by kernel_rfl) (fun K hK => ?_)
              refine wp_append_sep hV.out (.tmp 46) (.tmp 54) 23 (by rfl) i0 _ 16 Tryz.underlying23 hi0 hz0 hz1 hz2 rfl (by decide) (by rfl) 1 [.int .i64 txn, .int .i64 bj] (by exact hsrc.out) (h1c.out _ _) ?c901 ?d901 ?_
              case c901 => have := hSl.out; simp only [maxLen]; omega
              case d901 => have := hSl.out; omega
              intro na nc w5 q
              replace hV := Lib.hid q
              clear q hsrc
              replace hS := Lib.hid (show (fun W : World => Sep W [vec 3 1 (.slice (some ⟨ig, 0, none⟩) nb bc) nb (bs.map (Value.int .i64)), blk gr 64 #[.int .i64 id, .int .i64 txn, .int .i64 mode, .int .i64 want, .int .i64 since], old w]) _ from hV.out.tail)
              refine hK.out _ _ hS.out ?_
              clear hK K
              try simp only [Act.put, List.setIfInBounds_toArray, List.set_cons_succ, List.set_cons_zero, List.getElem_toArray, List.getElem_cons_zero, List.getElem_cons_succ]
              refine hl_take ?v16 rfl (by kernel_rfl) ?y16 ?z16
              case y16 => intro W hW; skip; replace hW := Lib.hid hW; go_simp; try rfl
              case z16 =>
              simp only [Act.put, List.setIfInBounds_toArray, List.set_cons_succ, List.set_cons_zero, List.getElem_toArray, List.getElem_cons_zero, List.getElem_cons_succ]
              refine hl_done ?_
              skip
              clear hS
              go_wp2_with fail
              go_roundg (nb - (j + 1))
              case measure => first | exact hms3.out | (rw [hgm3]; exact hms3.out)
              case rel => exact ⟨j + 1, S ++ [⟨txn, bj⟩], na, nc, ns + 1, by omega, rfl, rfl, by go_num, Lib.hid hsn3.out.symm, Lib.hid (by simp [hSn.out]), Lib.hid (by rw [List.flatMap_append]; exact hV.out)⟩
            · obtain rfl : j = nb := by omega
              have hS2 := Lib.hid (show S = O ++ (l.take (k + 1)).flatMap (rqE l) by rw [hS0.out, ← hnb.out, List.take_length]; exact hqn.out.symm)
              clear hS0
              go_wp2_with fail
              go_roundg (m - (k + 1))
              case measure => first | exact hms2.out | (rw [hgm2]; exact hms2.out)
              case rel => exact ⟨k + 1, S, sa, sc, ns, by omega, rfl, rfl, by go_num, hS2, hSn, Lib.hid hV.out.drop1.drop1⟩
        · obtain rfl : k = m := by omega
          have hP2 := Lib.hid (show P = hdsE (hs.take (i + 1)) by rw [hP.out, ← hm.out, List.take_length]; exact hsn.out.symm)
          clear hP
          go_wp2_with fail
          go_roundg (n0 - (i + 1))
          case measure => first | exact hms.out | (rw [hgm]; exact hms.out)
          case rel => exact ⟨i + 1, P, ap, cp, np, by omega, rfl, rfl, by go_num, hP2, hPn, hV⟩
    · obtain rfl : i = n0 := by omega
      have hfn : O = hdsE hs := by rw [hO.out, ← hn0.out, List.take_length]
      subst hfn
      have hOn2 := hOn.out
      subst hOn2
      have HS1 := Lib.hid (HS.out _ _ hV.out.vec_rl)
      clear HS hO hlen hsnoc hmem
      have i2 : ¬ (i : Int) < (i : Int) := by omega
      go_wp2_with fail
      refine HS1.out.mono ?_
      rintro e w3 ⟨ra, rc, rfl, qq⟩
      replace qq := Lib.hid (qq.graft hV.out)
      clear HS1
      go_wp2_with fail
      go_ret
      exact ⟨ra, rc, rfl, qq.out.drop1⟩
end Go.Proofs.YtcnkmhfcgkbhbaaGreat
namespace Go.Proofs.YtcnkmhfcgkbhbaaGreat
open Go.RowKit
/-- One level looked through: none if the end is met. -/
def farI (now : List Int) (tgt : Int) : List Ed → List Int → List Int → Option (List Int × List Int)
  | [], sn, nx => some (sn, nx)
  | e :: l, sn, nx => if e.from_ ∉ now ∨ e.tgt ∈ sn then farI now tgt l sn nx else if e.tgt = tgt then none else farI now tgt l (sn ++ [e.tgt]) (nx ++ [e.tgt])
theorem farI_none (now : List Int) (tgt : Int) : ∀ (l : List Ed) (sn nx : List Int), farI now tgt l sn nx = none → ∃ e ∈ l, e.from_ ∈ now ∧ e.tgt = tgt
  | [], _, _, h => by cases h
  | e :: l, sn, nx, h => by
    unfold farI at h
    split at h
    · obtain ⟨x, hx, h2⟩ := farI_none now tgt l _ _ h
      exact ⟨x, List.mem_cons_of_mem _ hx, h2⟩
    · rename_i hc
      split at h
      · rename_i ht
        exact ⟨e, List.mem_cons_self .., Classical.byContradiction fun h => hc (.inl h), ht⟩
      · obtain ⟨x, hx, h2⟩ := farI_none now tgt l _ _ h
        exact ⟨x, List.mem_cons_of_mem _ hx, h2⟩
/-- What a level adds. -/
theorem farI_some (now : List Int) (tgt : Int) : ∀ (l : List Ed) (sn nx sn' nx' : List Int), farI now tgt l sn nx = some (sn', nx') →
    ∃ ad, sn' = sn ++ ad ∧ nx' = nx ++ ad ∧ (∀ x ∈ ad, x ≠ tgt ∧ ∃ e ∈ l, e.from_ ∈ now ∧ e.tgt = x) ∧ (∀ e ∈ l, e.from_ ∈ now → e.tgt ∈ sn') ∧ (sn.Nodup → sn'.Nodup)
  | [], sn, nx, sn', nx', h => by
    unfold farI at h
    injection h with h
    injection h with h1 h2
    exact ⟨[], by simp [h1], by simp [h2], by simp, by simp, fun h => h1 ▸ h⟩
  | e :: l, sn, nx, sn', nx', h => by
    unfold farI at h
    split at h
    · rename_i hc
      obtain ⟨ad, h1, h2, h3, h4, h5⟩ := farI_some now tgt l _ _ _ _ h
      refine ⟨ad, h1, h2, fun x hx => ?_, fun x hx hf => ?_, h5⟩
      · obtain ⟨h6, y, hy, h7⟩ := h3 x hx
        exact ⟨h6, y, List.mem_cons_of_mem _ hy, h7⟩
      · rcases List.mem_cons.1 hx with rfl | hx
        · rw [h1]
          exact List.mem_append_left _ (hc.resolve_left fun h => h hf)
        · exact h4 x hx hf
    · rename_i hc
      have hf : e.from_ ∈ now := Classical.byContradiction fun h => hc (.inl h)
      have hs : e.tgt ∉ sn := fun h => hc (.inr h)
      split at h
      · cases h
      · rename_i ht
        obtain ⟨ad, h1, h2, h3, h4, h5⟩ := farI_some now tgt l _ _ _ _ h
        refine ⟨e.tgt :: ad, by rw [h1]; simp, by rw [h2]; simp, fun x hx => ?_, fun x hx hfx => ?_, fun hn => h5 ?_⟩
        · rcases List.mem_cons.1 hx with rfl | hx
          · exact ⟨ht, e, List.mem_cons_self .., hf, rfl⟩
          · obtain ⟨h6, y, hy, h7⟩ := h3 x hx
            exact ⟨h6, y, List.mem_cons_of_mem _ hy, h7⟩
        · rcases List.mem_cons.1 hx with rfl | hx
          · rw [h1]; simp
          · exact h4 x hx hfx
        · rw [List.nodup_append]
          refine ⟨hn, by simp, fun a ha b hb => ?_⟩
          simp only [List.mem_singleton] at hb
          subst hb
          exact fun h => hs (h ▸ ha)
/-- What holds ahead of level n. -/
structure FarJ (L : List Ed) (fr tgt : Int) (now sn : List Int) (n : Nat) : Prop where
  n0 : 0 < n
  nw : ∀ y ∈ now, (n = 1 ∧ y = fr) ∨ (1 < n ∧ Wk (nxL L) (n - 1) fr y)
  seen : ∀ x ∈ sn, ∃ k, 0 < k ∧ k < n ∧ Wk (nxL L) k fr x
  back : ∀ k x, 0 < k → k < n → Wk (nxL L) k fr x → x ∈ sn ∧ x ≠ tgt
  front : (n = 1 → fr ∈ now) ∧ ∀ x, 1 < n → Wk (nxL L) (n - 1) fr x → x ∈ now ∨ ∃ k, 0 < k ∧ k < n - 1 ∧ Wk (nxL L) k fr x
theorem farJ_start (L : List Ed) (fr tgt : Int) : FarJ L fr tgt [fr] [] 1 :=
  ⟨by omega, by simp, by simp, fun k x h1 h2 _ => by omega, by simp, fun x h => by omega⟩
/-- Where one is come to at length n, who stands before it. -/
theorem wk_pred {L : List Ed} {fr tgt : Int} {now sn : List Int} {n : Nat} (J : FarJ L fr tgt now sn n) {x : Int} (h : Wk (nxL L) n fr x) : (∃ y ∈ now, ⟨y, x⟩ ∈ L) ∨ ∃ k, 0 < k ∧ k < n ∧ Wk (nxL L) k fr x := by
  rcases h.last with ⟨rfl, hb⟩ | ⟨y, h1, h2, h3⟩
  · exact .inl ⟨fr, J.front.1 rfl, (rowL_mem _ _ _).1 hb⟩
  · rcases J.front.2 y h1 h2 with h4 | ⟨k, hk0, hk, hw⟩
    · exact .inl ⟨y, h4, (rowL_mem _ _ _).1 h3⟩
    · exact .inr ⟨k + 1, by omega, by omega, hw.snoc h3⟩
theorem farJ_step {L : List Ed} {fr tgt : Int} {now sn sn' nx' : List Int} {n : Nat} (J : FarJ L fr tgt now sn n) (h : farI now tgt L sn [] = some (sn', nx')) : FarJ L fr tgt nx' sn' (n + 1) := by
  obtain ⟨ad, h1, h2, h3, h4, _⟩ := farI_some now tgt L _ _ _ _ h
  rw [List.nil_append] at h2
  subst h1 h2
  have hw : ∀ x ∈ nx', Wk (nxL L) n fr x := by
    intro x hx
    obtain ⟨_, e, he, hf, rfl⟩ := h3 x hx
    have hr : e.tgt ∈ rowL (nxL L) e.from_ := (rowL_mem _ _ _).2 he
    rcases J.nw _ hf with ⟨rfl, hy⟩ | ⟨h5, h6⟩
    · rw [hy] at hr; exact .one hr
    · have := h6.snoc hr
      rwa [show n - 1 + 1 = n by omega] at this
  have hseen : ∀ x ∈ sn ++ nx', ∃ k, 0 < k ∧ k < n + 1 ∧ Wk (nxL L) k fr x := by
    intro x hx
    rcases List.mem_append.1 hx with hx | hx
    · obtain ⟨k, h5, h6, h7⟩ := J.seen x hx
      exact ⟨k, h5, by omega, h7⟩
    · exact ⟨n, J.n0, by omega, hw x hx⟩
  have hto : ∀ x ∈ sn ++ nx', x ≠ tgt := by
    intro x hx
    rcases List.mem_append.1 hx with hx | hx
    · obtain ⟨k, h5, h6, h7⟩ := J.seen x hx
      exact (J.back k x h5 h6 h7).2
    · exact (h3 x hx).1
  have hback : ∀ k x, 0 < k → k < n + 1 → Wk (nxL L) k fr x → x ∈ sn ++ nx' := by
    intro k x hk0 hk hx
    by_cases hkn : k < n
    · exact List.mem_append_left _ (J.back k x hk0 hkn hx).1
    · obtain rfl : k = n := by omega
      rcases wk_pred J hx with ⟨y, hy, he⟩ | ⟨k', h5, h6, h7⟩
      · exact h4 _ he hy
      · exact List.mem_append_left _ (J.back k' x h5 h6 h7).1
  refine ⟨by omega, fun y hy => .inr ⟨by have := J.n0; omega, hw y hy⟩, hseen, fun k x h5 h6 h7 => ⟨hback k x h5 h6 h7, hto x (hback k x h5 h6 h7)⟩, fun h => by have := J.n0; omega, fun x h5 h6 => ?_⟩
  rcases List.mem_append.1 (hback n x J.n0 (by omega) h6) with h7 | h7
  · obtain ⟨k, h8, h9, h10⟩ := J.seen x h7
    exact .inr ⟨k, h8, by omega, h10⟩
  · exact .inl h7
theorem farJ_end {L : List Ed} {fr tgt : Int} {sn : List Int} {n : Nat} (J : FarJ L fr tgt [] sn n) : ∀ k, ¬ Wk (nxL L) k fr tgt := by
  have h1 : 1 < n := by
    have h0 := J.n0
    refine Nat.lt_of_le_of_ne h0 fun h => ?_
    have := J.front.1 h.symm
    simp at this
  have low : ∀ m x, 0 < m → m < n → Wk (nxL L) m fr x → ∃ k, 0 < k ∧ k < n - 1 ∧ Wk (nxL L) k fr x := by
    intro m x h2 h3 h4
    by_cases h5 : m < n - 1
    · exact ⟨m, h2, h5, h4⟩
    · obtain rfl : m = n - 1 := by omega
      rcases J.front.2 x h1 h4 with h6 | h6
      · simp at h6
      · exact h6
  have all : ∀ k x, Wk (nxL L) k fr x → ∃ k', 0 < k' ∧ k' < n ∧ Wk (nxL L) k' fr x := by
    intro k
    induction k with
    | zero => intro x h; have := h.pos; omega
    | succ k ih =>
      intro x h
      rcases h.last with ⟨h2, hb⟩ | ⟨y, h2, h3, hb⟩
      · exact ⟨1, by omega, h1, .one hb⟩
      · rw [Nat.add_sub_cancel] at h3
        obtain ⟨m, h4, h5, h6⟩ := ih y h3
        obtain ⟨m', h7, h8, h9⟩ := low m y h4 h5 h6
        exact ⟨m' + 1, by omega, by omega, h9.snoc hb⟩
  intro k h
  obtain ⟨k', h2, h3, h4⟩ := all k tgt h
  exact (J.back k' tgt h2 h3 h4).2 rfl
/-- What far tells. -/
def FarIs (L : List Ed) (fr tgt : Int) (r : Int) : Prop := (r = -1 ∧ ∀ k, ¬ Wk (nxL L) k fr tgt) ∨ ∃ n : Nat, r = (n : Int) ∧ Wk (nxL L) n fr tgt ∧ ∀ k, k < n → ¬ Wk (nxL L) k fr tgt
theorem farIs_met {L : List Ed} {fr tgt : Int} {now sn : List Int} {n : Nat} (J : FarJ L fr tgt now sn n) (h : farI now tgt L sn [] = none) : FarIs L fr tgt (n : Int) := by
  obtain ⟨e, he, hf, ht⟩ := farI_none now tgt L _ _ h
  have hr : tgt ∈ rowL (nxL L) e.from_ := by rw [← ht]; exact (rowL_mem _ _ _).2 he
  refine .inr ⟨n, rfl, ?_, fun k hk hw => (J.back k tgt hw.pos hk hw).2 rfl⟩
  rcases J.nw _ hf with ⟨rfl, hy⟩ | ⟨h5, h6⟩
  · rw [hy] at hr; exact .one hr
  · have := h6.snoc hr
    rwa [show n - 1 + 1 = n by omega] at this
theorem farIs_uniq {L : List Ed} {fr tgt r r' : Int} (h : FarIs L fr tgt r) (h' : FarIs L fr tgt r') : r = r' := by
  rcases h with ⟨rfl, h1⟩ | ⟨n, rfl, h1, h2⟩
  · rcases h' with ⟨rfl, _⟩ | ⟨n', rfl, h3, _⟩
    · rfl
    · exact absurd h3 (h1 _)
  · rcases h' with ⟨rfl, h3⟩ | ⟨n', rfl, h3, h4⟩
    · exact absurd h1 (h3 _)
    · rcases Nat.lt_trichotomy n n' with h5 | h5 | h5
      · exact absurd h1 (h4 n h5)
      · rw [h5]
      · exact absurd h3 (h2 n' h5)
end Go.Proofs.YtcnkmhfcgkbhbaaGreat
