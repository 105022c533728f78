/-
  Contracts and plain laws that the walk leans on, part 17. No condition.
-/
import Derived.Test.YtcnkmhfcgkbhbaaZHd16
namespace Go.Proofs.Ytcnkmhfcgkbhbaa
open Go.RowKit
theorem blockers_any (t r n : Int) (v : Value) (l : List Rq) (id0 : Int) (w : World) (hv : RQ w v l) (hl : l.length ≤ 1000) :
    Calls Try.prog 31 #[hval t r v n, .int .i64 id0] w fun e w' => ∃ a c, e = .returned (.slice a (blkV l id0).length c) ∧ Sep w' [vec 3 1 (.slice a (blkV l id0).length c) (blkV l id0).length ((blkV l id0).map (Value.int .i64)), old w] := by
  have nil : ∀ w', Below w.heap.size w w' → Sep w' [vec 3 1 (.slice none 0 0) 0 [], old w] := fun w' hb => ((Sep.start w).below hb).vec_nil _ _
  by_cases hn : plc l id0 < 0
  · have e0 : blkV l id0 = [] := by unfold blkV; rw [if_pos hn]
    rw [e0]
    refine (blockers_none t r n v l id0 w hv hl (plc_neg hn)).mono ?_
    rintro e w' ⟨rfl, hb⟩
    exact ⟨none, 0, rfl, nil w' hb⟩
  · obtain ⟨i, hi, hil, _⟩ := plc_spec l id0 hn
    by_cases hs : 0 < (l.getD i default).since
    · have e0 : blkV l id0 = nrm (blkL l (l.getD i default)) := by unfold blkV; rw [if_neg hn, hi, Int.toNat_natCast, if_pos hs]
      rw [e0]
      exact blockers_some t r n v l id0 w hv hl i hi hil (decide_eq_true hs)
    · have e0 : blkV l id0 = [] := by unfold blkV; rw [if_neg hn, hi, Int.toNat_natCast, if_neg hs]
      rw [e0]
      refine (blockers_calm t r n v l id0 w hv hl i hi hil (decide_eq_false hs)).mono ?_
      rintro e w' ⟨rfl, hb⟩
      exact ⟨none, 0, rfl, nil w' hb⟩
theorem take_snocG {α : Type} [Inhabited α] (l : List α) (k : Nat) (h : k < l.length) : l.take (k + 1) = l.take k ++ [l.getD k default] := by
  rw [List.take_succ_eq_append_getElem h]
  simp [List.getD, h]
theorem hdsE_snoc (hs : List Hv) (k : Nat) (h : k < hs.length) : hdsE (hs.take (k + 1)) = hdsE (hs.take k) ++ quE (hs.getD k default).l := by
  unfold hdsE
  rw [take_snocG hs k h, List.flatMap_append]
  simp
theorem quE_snoc (l : List Rq) (k : Nat) (h : k < l.length) : (l.take (k + 1)).flatMap (rqE l) = (l.take k).flatMap (rqE l) ++ rqE l (l.getD k default) := by
  rw [take_snocG l k h, List.flatMap_append]
  simp
def mkE (f : Int) (xs : List Int) : List Ed := xs.map fun b => ⟨f, b⟩
theorem mkE_snoc (f : Int) (xs : List Int) (k : Nat) (h : k < xs.length) : mkE f (xs.take (k + 1)) = mkE f (xs.take k) ++ [⟨f, xs.getD k 0⟩] := by
  unfold mkE
  rw [List.take_succ_eq_append_getElem h, List.map_append]
  simp [List.getD, h]
theorem hdsE_take_len (hs : List Hv) (h12 : ∀ x ∈ hs, x.l.length ≤ 12) (k : Nat) (h : k ≤ 8) : (hdsE (hs.take k)).length ≤ 1152 := by
  have h1 := hdsE_len (hs.take k) fun x hx => h12 x (List.mem_of_mem_take hx)
  have h2 : (hs.take k).length ≤ 8 := by rw [List.length_take]; omega
  have : (hs.take k).length * 144 ≤ 8 * 144 := Nat.mul_le_mul_right _ h2
  omega
set_option maxHeartbeats 8000000 in
set_option maxRecDepth 100000 in
theorem edges_any (u : Value) (hs : List Hv) (w : World) (hv : HD w u hs) (hl : hs.length ≤ 8) (h12 : ∀ x ∈ hs, x.l.length ≤ 12) :
    Calls Try.prog 11 #[u] w fun e w' => ∃ a c, e = .returned (.slice a (sdE (hdsE hs)).length c) ∧ Sep w' [vec 41 2 (.slice a (sdE (hdsE hs)).length c) (sdE (hdsE hs)).length ((sdE (hdsE hs)).flatMap Ed.cells), old w] := by
  obtain ⟨ua, uc, rfl, hr, hq⟩ := hv
  obtain ⟨n0, hn0⟩ : ∃ n0, hs.length = n0 := ⟨_, rfl⟩
  rw [hn0] at hr hq hl ⊢
  have HS := Lib.hid (fun v W (h : RL W v 2 (hdsE hs).length ((hdsE hs).flatMap Ed.cells)) => sorted_any v (hdsE hs) W h (by
    have := hdsE_take_len hs h12 n0 hl
    rw [← hn0, List.take_length] at this
    omega))
  replace hr := Lib.hid hr
  replace hq := Lib.hid hq
  have hlen := Lib.hid (fun k h => hdsE_take_len hs h12 k h)
  have hsnoc := Lib.hid (hdsE_snoc hs)
  have hmem := Lib.hid (fun i (hi : i < n0) => h12 (hs.getD i default) (by
    have : i < hs.length := by omega
    have e : hs.getD i default = hs[i] := by simp [List.getD, this]
    rw [e]
    exact List.getElem_mem this))
  replace hn0 := Lib.hid hn0
  obtain ⟨i0, hi0, hz0, hz1, hz2⟩ := info_parts info_ed
  have h1c : Hid (∀ x y, ∀ u ∈ ([.int .i64 x, .int .i64 y] : List Value), u.oneCell' = true) := Lib.hid (by simp [Value.oneCell'])
  have hV0 := Lib.hid ((Sep.start w).vec_nil 41 2)
  clear h12
  go_enter Try.func11, Try.ntmps11
  go_wp2_with fail
  go_loopg [3, 12] n0 (fun gm s3 s12 W => ∃ (i : Nat) (O : List Ed) (ao : Option Addr) (co n : Nat), i ≤ n0 ∧ gm = n0 - i ∧ s3 = .slice ao n co ∧ s12 = .int .i64 i ∧ Hid (O = hdsE (hs.take i)) ∧ Hid (O.length = n) ∧ Hid (Sep W [vec 41 2 (.slice ao n co) n (O.flatMap Ed.cells), old w]))
  case atStart => exact ⟨0, [], none, 0, 0, Nat.zero_le _, rfl, rfl, rfl, Lib.hid rfl, Lib.hid rfl, hV0⟩
  case round =>
    clear hV0
    obtain ⟨i, O, ao, co, n, hi, hgm, rfl, rfl, hO, hOn, hV⟩ := hrel
    by_cases hlt : i < n0
    · obtain ⟨b, off, rfl, hb, hz⟩ := hr.out (by omega)
      obtain ⟨z0, z1, z2, z3⟩ := hz i hlt
      have kk : ∀ o, wr.cell? ⟨b, o, none⟩ = w.cell? ⟨b, o, none⟩ := fun o => hV.out.tail.gold.cell (p := ⟨b, o, none⟩) hb
      rw [← kk] at z0 z1 z2 z3
      have hRQ := hq.out i hlt
      have hx12 := hmem.out i hlt
      have hsn := hsnoc.out i (by rw [hn0.out]; exact hlt)
      rw [← hO.out] at hsn
      have hOl : O.length ≤ 1152 := by rw [hO.out]; exact hlen.out i (by omega)
      clear kk hz
      generalize hs.getD i default = x at *
      obtain ⟨t, r, nw, v, l⟩ := x
      simp only at z0 z1 z2 z3 hRQ hx12 hsn
      have HB := Lib.hid (fun id W (hb : Below w.heap.size w W) => blockers_any t r nw v l id W (hRQ.below hb) (by omega))
      have hbl := Lib.hid (blkV_len l)
      have hqs := Lib.hid (quE_snoc l)
      have hql := Lib.hid (fun k => quE_len1 l k hx12)
      replace hsn := Lib.hid hsn
      obtain ⟨qa, qc, rfl, hlq, _, hqr⟩ := hRQ
      replace hqr := Lib.hid hqr
      obtain ⟨m, hm⟩ : ∃ m, l.length = m := ⟨_, rfl⟩
      rw [hm] at hqr hlq hx12 z2 hbl
      simp only [hm] at HB
      replace HB := Lib.hid HB.out
      replace hm := Lib.hid hm
      have i1 : (0 : Int) ≤ (i : Int) := by omega
      have i2 : (i : Int) < (n0 : Int) := by omega
      have hV1 := Lib.hid ((hV.out.alloc #[.int .i64 t, .int .i64 r, .slice qa m qc, .int .i64 nw] 29).to1)
      obtain ⟨_, d0, d1, d2, d3, _⟩ := hV1.out.to1.b4
      have hms := Lib.hid (show n0 - (i + 1) < n0 - i by omega)
      unfold hval at HB
      go_wp2_with fail
      generalize hG : wr.heap.size = gh at *
      clear hV d0 d1 d2 d3 z0 z1 z2 z3 hG
      go_loopg [3, 19] m (fun gm s3 s19 W => ∃ (k : Nat) (P : List Ed) (ap : Option Addr) (cp np : Nat), k ≤ m ∧ gm = m - k ∧ s3 = .slice ap np cp ∧ s19 = .int .i64 k ∧ Hid (P = O ++ (l.take k).flatMap (rqE l)) ∧ Hid (P.length = np) ∧ Hid (Sep W [vec 41 2 (.slice ap np cp) np (P.flatMap Ed.cells), blk gh 29 #[.int .i64 t, .int .i64 r, .slice qa m qc, .int .i64 nw], old w]))
      case atStart => exact ⟨0, O, ao, co, n, Nat.zero_le _, rfl, rfl, rfl, Lib.hid (by simp), hOn, hV1⟩
      case round =>
        clear hV1
        obtain ⟨k, P, ap, cp, np, hk, hgm2, rfl, rfl, hP, hPn, hV⟩ := hrel
        by_cases hlt2 : k < m
        · obtain ⟨qb, qo, rfl, hqb, hqz⟩ := hqr.out (by omega)
          obtain ⟨y0, y1, y2, y3, y4⟩ := hqz k hlt2
          have kk : ∀ o, wr.cell? ⟨qb, o, none⟩ = w.cell? ⟨qb, o, none⟩ := fun o => hV.out.to2.gold.cell (p := ⟨qb, o, none⟩) hqb
          rw [← kk] at y0 y1 y2 y3 y4
          have hqn := hqs.out k (by rw [hm.out]; exact hlt2)
          have hPl : P.length ≤ 1296 := by
            have h1 := hql.out k
            rw [hP.out, List.length_append]
            omega
          clear kk hqz
          generalize l.getD k default = q at *
          replace hqn := Lib.hid (show O ++ (l.take (k + 1)).flatMap (rqE l) = P ++ mkE q.txn (blkV l q.id) by rw [hqn, ← List.append_assoc, ← hP.out]; rfl)
          have HB1 := Lib.hid (fun W hb => HB.out q.id W hb)
          have hbl1 := hbl.out q.id
          obtain ⟨id, txn, mode, want, since⟩ := q
          simp only at y0 y1 y2 y3 y4 hqn HB1 hbl1
          generalize blkV l id = bs at *
          obtain ⟨nb, hnb⟩ : ∃ nb, bs.length = nb := ⟨_, rfl⟩
          rw [hnb] at hbl1
          simp only [hnb] at HB1
          replace HB1 := Lib.hid HB1.out
          replace hnb := Lib.hid hnb
          have i1 : (0 : Int) ≤ (k : Int) := by omega
          have i2 : (k : Int) < (m : Int) := by omega
          have hV1 := Lib.hid (show Sep _ [blk wr.heap.size 39 #[.int .i64 id, .int .i64 txn, .int .i64 mode, .int .i64 want, .int .i64 since], _, _, _] from hV.out.alloc #[.int .i64 id, .int .i64 txn, .int .i64 mode, .int .i64 want, .int .i64 since] 39)
          obtain ⟨_, p0, p1, p2, p3, p4, _⟩ := hV1.out.b5
          obtain ⟨_, d0, d1, d2, d3, _⟩ := hV1.out.to2.b4
          have hms2 := Lib.hid (show m - (k + 1) < m - k by omega)
          go_wp2_with fail
          refine (HB1.out _ (hV1.out.to3.gold)).mono ?_
          rintro e w2 ⟨ba, bc, rfl, qq⟩
          replace hV1 := Lib.hid (qq.graft (show Sep _ [blk wr.heap.size 39 #[.int .i64 id, .int .i64 txn, .int .i64 mode, .int .i64 want, .int .i64 since], vec 41 2 (.slice ap np cp) np (P.flatMap Ed.cells), blk gh 29 #[.int .i64 t, .int .i64 r, .slice (some ⟨qb, qo, none⟩) m qc, .int .i64 nw], old w] from hV1.out))
          clear qq HB1 p0 p1 p2 p3 p4 d0 d1 d2 d3 hV y0 y1 y2 y3 y4
          generalize hG : wr.heap.size = gr at *
          clear hG
          go_wp2_with fail
          go_loopg [3, 28] nb (fun gm s3 s28 W => ∃ (j : Nat) (S : List Ed) (sa : Option Addr) (sc ns : Nat), j ≤ nb ∧ gm = nb - j ∧ s3 = .slice sa ns sc ∧ s28 = .int .i64 j ∧ Hid (S = P ++ mkE txn (bs.take j)) ∧ Hid (S.length = ns) ∧ Hid (Sep W [vec 41 2 (.slice sa ns sc) ns (S.flatMap Ed.cells), vec 3 1 (.slice ba nb bc) nb (bs.map (Value.int .i64)), blk gr 39 #[.int .i64 id, .int .i64 txn, .int .i64 mode, .int .i64 want, .int .i64 since], blk gh 29 #[.int .i64 t, .int .i64 r, .slice (some ⟨qb, qo, none⟩) m qc, .int .i64 nw], old w]))
          case atStart => exact ⟨0, P, ap, cp, np, Nat.zero_le _, rfl, rfl, rfl, Lib.hid (by simp [mkE]), hPn, Lib.hid (by have h := hV1.out.to2; exact h)⟩
          case round =>
            clear hV1
            obtain ⟨j, S, sa, sc, ns, hj, hgm3, rfl, rfl, hS, hSn, hV⟩ := hrel
            by_cases hlt3 : j < nb
            · obtain ⟨a', c', ev, hcell⟩ := hV.out.to1.vec_ri
              injection ev with ea el ec
              clear el ec
              obtain ⟨rb, ro, hba, _, hc⟩ := hcell (by rw [hnb.out]; omega)
              rw [hba] at ea
              subst ea
              have c0 := hc j (by rw [hnb.out]; exact hlt3)
              obtain ⟨_, p0, p1, p2, p3, p4, _⟩ := hV.out.to2.b5
              have hsn3 := mkE_snoc txn bs j (by rw [hnb.out]; exact hlt3)
              have hSl : ns ≤ 1400 := by
                have h1 := hSn.out
                rw [hS.out, List.length_append] at h1
                have h2 : (mkE txn (bs.take j)).length ≤ nb := by simp [mkE]; omega
                omega
              generalize bs.getD j 0 = bj at *
              replace hsn3 := Lib.hid (show P ++ mkE txn (bs.take (j + 1)) = S ++ [⟨txn, bj⟩] by rw [hsn3, ← List.append_assoc, ← hS.out])
              clear hc hcell hba
              have i1 : (0 : Int) ≤ (j : Int) := by omega
              have i2 : (j : Int) < (nb : Int) := by omega
              have hms3 := Lib.hid (show nb - (j + 1) < nb - j by omega)
              go_wp2_with (at_builtin; (refine wpList_append_sep (hV.out.allocG _) rfl _ _ 33 rfl i0 _ 16 Try.underlying33 hi0 hz0 hz1 hz2 rfl (by decide) rfl 1 [.int .i64 txn, .int .i64 bj] (srcA_cells _ _ _ _ 2 rfl) (h1c.out _ _) (by simp only [maxLen]; omega) (by omega) ?_; intro oa' oc' w5 q2; replace q2 := Lib.hid q2))
              go_roundg (nb - (j + 1))
              case measure => rw [hgm3]; exact hms3.out
              case rel => exact ⟨j + 1, S ++ [⟨txn, bj⟩], oa', oc', ns + 1, by omega, rfl, rfl, by go_num, Lib.hid hsn3.out.symm, Lib.hid (by simp [hSn.out]), Lib.hid (by rw [List.flatMap_append]; exact q2.out)⟩
            · obtain rfl : j = nb := by omega
              have hS2 := Lib.hid (show S = O ++ (l.take (k + 1)).flatMap (rqE l) by rw [hS.out, ← hnb.out, List.take_length]; exact hqn.out.symm)
              clear hS
              go_wp2_with fail
              go_roundg (m - (k + 1))
              case measure => rw [hgm2]; exact hms2.out
              case rel => exact ⟨k + 1, S, sa, sc, ns, by omega, rfl, rfl, by go_num, hS2, hSn, Lib.hid hV.out.drop1.drop1⟩
        · obtain rfl : k = m := by omega
          have hP2 := Lib.hid (show P = hdsE (hs.take (i + 1)) by rw [hP.out, ← hm.out, List.take_length]; exact hsn.out.symm)
          clear hP
          go_wp2_with fail
          go_roundg (n0 - (i + 1))
          case measure => rw [hgm]; exact hms.out
          case rel => exact ⟨i + 1, P, ap, cp, np, by omega, rfl, rfl, by go_num, hP2, hPn, Lib.hid hV.out.drop1⟩
    · obtain rfl : i = n0 := by omega
      have hfn : O = hdsE hs := by rw [hO.out, ← hn0.out, List.take_length]
      subst hfn
      have hOn2 := hOn.out
      subst hOn2
      have HS1 := Lib.hid (HS.out _ _ hV.out.vec_rl)
      clear HS hO hlen hsnoc hmem
      have i2 : ¬ (i : Int) < (i : Int) := by omega
      go_wp2_with fail
      refine HS1.out.mono ?_
      rintro e w3 ⟨ra, rc, rfl, qq⟩
      replace qq := Lib.hid (qq.graft hV.out)
      clear HS1
      go_wp2_with fail
      go_ret
      exact ⟨ra, rc, rfl, qq.out.drop1⟩
end Go.Proofs.Ytcnkmhfcgkbhbaa
namespace Go.Proofs.Ytcnkmhfcgkbhbaa
open Go.RowKit
def lightH (hs : List Hv) (most : Nat) : Bool := decide (hs.length ≤ most) && hs.all fun x => decide (x.l.length ≤ 12)
theorem all_bad {α : Type} [Inhabited α] {p : α → Bool} {l : List α} {k : Nat} (hk : k < l.length) (h : p (l.getD k default) = false) : l.all p = false := by
  rw [List.all_eq_false]
  have e : l.getD k default = l[k] := by simp [List.getD, hk]
  rw [e] at h
  exact ⟨l[k], List.getElem_mem hk, by simp [h]⟩
theorem all_good {α : Type} [Inhabited α] {p : α → Bool} {l : List α} (h : ∀ k, k < l.length → p (l.getD k default) = true) : l.all p = true := by
  rw [List.all_eq_true]
  intro x hx
  obtain ⟨k, hk, rfl⟩ := List.getElem_of_mem hx
  have := h k hk
  simpa [List.getD, hk] using this
theorem all_at {α : Type} [Inhabited α] {p : α → Bool} {l : List α} (h : l.all p = true) {k : Nat} (hk : k < l.length) : p (l.getD k default) = true := by
  rw [List.all_eq_true] at h
  have e : l.getD k default = l[k] := by simp [List.getD, hk]
  rw [e]
  exact h _ (List.getElem_mem hk)
set_option maxHeartbeats 2000000 in
theorem light_any (u : Value) (hs : List Hv) (most : Nat) (w : World) (hv : HD w u hs) (hm : most ≤ 100) :
    Calls Try.prog 25 #[u, .int .i64 most] w fun e w' => e = .returned (.bool (lightH hs most)) ∧ w = w' := by
  obtain ⟨ua, uc, rfl, hr, hq⟩ := hv
  obtain ⟨n0, hn0⟩ : ∃ n0, hs.length = n0 := ⟨_, rfl⟩
  have hlb : ∀ k, k < hs.length → decide ((hs.getD k default).l.length ≤ 12) = false → lightH hs most = false := fun k hk h => by
    unfold lightH
    rw [all_bad (p := fun x : Hv => decide (x.l.length ≤ 12)) hk h, Bool.and_false]
  have hlg : hs.length ≤ most → (∀ k, k < hs.length → decide ((hs.getD k default).l.length ≤ 12) = true) → lightH hs most = true := fun h0 h => by
    unfold lightH
    rw [all_good (p := fun x : Hv => decide (x.l.length ≤ 12)) h, decide_eq_true h0]
    rfl
  have hl0 : ¬ hs.length ≤ most → lightH hs most = false := fun h => by
    unfold lightH
    rw [decide_eq_false h, Bool.false_and]
  rw [hn0] at hr hq hlb hlg hl0 ⊢
  replace hr := Lib.hid hr
  replace hq := Lib.hid hq
  replace hlb := Lib.hid hlb
  replace hlg := Lib.hid hlg
  clear hn0
  by_cases h0 : n0 ≤ most
  · have i0 : ¬ ((most : Int) < (n0 : Int)) := by omega
    replace hlg := Lib.hid (hlg.out h0)
    clear hl0
    go_enter Try.func25, Try.ntmps25
    go_wp2_with fail
    go_loopg [5] n0 (fun gm s5 W => ∃ k : Nat, k ≤ n0 ∧ gm = n0 - k ∧ s5 = .int .i64 k ∧ Hid (∀ j, j < k → decide ((hs.getD j default).l.length ≤ 12) = true) ∧ Hid (w = W))
    case atStart => exact ⟨0, Nat.zero_le _, rfl, rfl, Lib.hid (fun j h => absurd h (by omega)), Lib.hid rfl⟩
    case round =>
      obtain ⟨k, hk, hgm, rfl, hok, hW⟩ := hrel
      by_cases hlt : k < n0
      · obtain ⟨b, off, rfl, hb, hz⟩ := hr.out (by omega)
        obtain ⟨_, _, z2, _⟩ := hz k hlt
        have hRQ := hq.out k hlt
        have hbad := Lib.hid (hlb.out k hlt)
        have hokk := Lib.hid (fun (h : decide ((hs.getD k default).l.length ≤ 12) = true) j (hj : j < k + 1) => show decide ((hs.getD j default).l.length ≤ 12) = true from by
          rcases Nat.lt_or_ge j k with h1 | h1
          · exact hok.out j h1
          · obtain rfl : j = k := by omega
            exact h)
        obtain ⟨qa, qc, hqv, _⟩ := hRQ
        rw [hqv, hW.out] at z2
        clear hqv hz
        generalize (hs.getD k default).l.length = m at *
        have i1 : (0 : Int) ≤ (k : Int) := by omega
        have i2 : (k : Int) < (n0 : Int) := by omega
        by_cases h12 : m ≤ 12
        · have i12 : ¬ ((12 : Int) < (m : Int)) := by omega
          replace hokk := Lib.hid (hokk.out (decide_eq_true h12))
          clear hbad
          go_wp2_with fail
          go_roundg (n0 - (k + 1))
          case measure => omega
          case rel => exact ⟨k + 1, by omega, rfl, by go_num, hokk, hW⟩
        · have i12 : (12 : Int) < (m : Int) := by omega
          replace hbad := Lib.hid (hbad.out (decide_eq_false h12))
          go_wp2_with fail
          go_ret
          exact ⟨by rw [hbad.out]; rfl, hW.out⟩
      · obtain rfl : k = n0 := by omega
        have hg := Lib.hid (hlg.out hok.out)
        go_wp2_with fail
        go_ret
        exact ⟨by rw [hg.out]; rfl, hW.out⟩
  · have i0 : (most : Int) < (n0 : Int) := by omega
    have hg := Lib.hid (hl0 h0)
    clear hl0 hlg
    go_enter Try.func25, Try.ntmps25
    go_wp2_with fail
    go_ret
    exact ⟨by rw [hg.out]; rfl, rfl⟩
def rightH (hs : List Hv) (most : Nat) : Bool := lightH hs most && hs.all fun x => checkB x.n x.l
set_option maxHeartbeats 2000000 in
theorem right_any (u : Value) (hs : List Hv) (w : World) (hv : HD w u hs) :
    Calls Try.prog 9 #[u] w fun e w' => e = .returned (.bool (rightH hs 8)) ∧ Below w.heap.size w w' := by
  have HL := Lib.hid (light_any u hs 8 w hv (by omega))
  obtain ⟨ua, uc, rfl, hr, hq⟩ := hv
  obtain ⟨n0, hn0⟩ : ∃ n0, hs.length = n0 := ⟨_, rfl⟩
  cases hlh : lightH hs 8 with
  | false =>
    rw [hlh, hn0] at HL
    have hg : rightH hs 8 = false := by unfold rightH; rw [hlh]; rfl
    replace hg := Lib.hid hg
    rw [hn0]
    clear hlh hr hq
    go_enter Try.func9, Try.ntmps9
    go_wp2_with fail
    refine HL.out.mono ?_
    rintro e w1 ⟨rfl, rfl⟩
    go_wp2_with fail
    go_ret
    exact ⟨by rw [hg.out]; rfl, Below.refl _ _⟩
  | true =>
    have h8 : n0 ≤ 8 ∧ ∀ k, k < n0 → (hs.getD k default).l.length ≤ 12 := by
      unfold lightH at hlh
      rw [Bool.and_eq_true, decide_eq_true_eq] at hlh
      exact ⟨by omega, fun k hk => by simpa using all_at hlh.2 (k := k) (by omega)⟩
    have hlb : ∀ k, k < hs.length → checkB (hs.getD k default).n (hs.getD k default).l = false → rightH hs 8 = false := fun k hk h => by
      unfold rightH
      rw [all_bad (p := fun x : Hv => checkB x.n x.l) hk h, Bool.and_false]
    have hlg : (∀ k, k < hs.length → checkB (hs.getD k default).n (hs.getD k default).l = true) → rightH hs 8 = true := fun h => by
      unfold rightH
      rw [all_good (p := fun x : Hv => checkB x.n x.l) h, hlh]
      rfl
    rw [hlh] at HL
    rw [hn0] at HL hr hq hlb hlg ⊢
    replace hr := Lib.hid hr
    replace hq := Lib.hid hq
    replace hlb := Lib.hid hlb
    replace hlg := Lib.hid hlg
    obtain ⟨h8, h12⟩ := h8
    replace h12 := Lib.hid h12
    clear hn0 hlh
    go_enter Try.func9, Try.ntmps9
    go_wp2_with fail
    refine HL.out.mono ?_
    rintro e w1 ⟨rfl, rfl⟩
    clear HL
    go_wp2_with fail
    go_loopg [3] n0 (fun gm s3 W => ∃ k : Nat, k ≤ n0 ∧ gm = n0 - k ∧ s3 = .int .i64 k ∧ Hid (∀ j, j < k → checkB (hs.getD j default).n (hs.getD j default).l = true) ∧ Hid (Below w.heap.size w W))
    case atStart => exact ⟨0, Nat.zero_le _, rfl, rfl, Lib.hid (fun j h => absurd h (by omega)), Lib.hid (Below.refl _ _)⟩
    case round =>
      obtain ⟨k, hk, hgm, rfl, hok, hW⟩ := hrel
      by_cases hlt : k < n0
      · obtain ⟨b, off, rfl, hb, hz⟩ := hr.out (by omega)
        obtain ⟨z0, z1, z2, z3⟩ := hz k hlt
        have kk : ∀ o, wr.cell? ⟨b, o, none⟩ = w.cell? ⟨b, o, none⟩ := fun o => hW.out.cell (p := ⟨b, o, none⟩) hb
        rw [← kk] at z0 z1 z2 z3
        have hRQ := hq.out k hlt
        have hx12 := h12.out k hlt
        have hbad := Lib.hid (hlb.out k hlt)
        have hokk := Lib.hid (fun (h : checkB (hs.getD k default).n (hs.getD k default).l = true) j (hj : j < k + 1) => show checkB (hs.getD j default).n (hs.getD j default).l = true from by
          rcases Nat.lt_or_ge j k with h1 | h1
          · exact hok.out j h1
          · obtain rfl : j = k := by omega
            exact h)
        clear hz kk
        generalize hs.getD k default = x at *
        obtain ⟨t, r, nw, v, l⟩ := x
        simp only at z0 z1 z2 z3 hRQ hx12 hbad hokk
        have HC := Lib.hid (checkR_any t r nw v l wr (hRQ.below hW.out) (by omega))
        obtain ⟨qa, qc, rfl, _⟩ := hRQ
        generalize hcb : checkB nw l = cb at *
        replace hcb := Lib.hid hcb
        generalize l.length = m at *
        have i1 : (0 : Int) ≤ (k : Int) := by omega
        have i2 : (k : Int) < (n0 : Int) := by omega
        unfold hval at HC
        cases cb with
        | true =>
          rw [if_pos rfl] at HC
          replace hokk := Lib.hid (hokk.out rfl)
          clear hbad
          go_wp2_with fail
          refine HC.out.mono ?_
          rintro e w2 ⟨rfl, b2⟩
          replace hW := Lib.hid (belT hW.out b2)
          clear b2 HC z0 z1 z2 z3
          go_wp2_with fail
          go_roundg (n0 - (k + 1))
          case measure => omega
          case rel => exact ⟨k + 1, by omega, rfl, by go_num, hokk, hW⟩
        | false =>
          rw [if_neg (by decide)] at HC
          replace hbad := Lib.hid (hbad.out rfl)
          go_wp2_with fail
          refine HC.out.mono ?_
          rintro e w2 ⟨rfl, b2⟩
          replace hW := Lib.hid (belT hW.out b2)
          clear b2 HC z0 z1 z2 z3
          go_wp2_with fail
          go_ret
          exact ⟨by rw [hbad.out]; rfl, hW.out⟩
      · obtain rfl : k = n0 := by omega
        have hg := Lib.hid (hlg.out hok.out)
        go_wp2_with fail
        go_ret
        exact ⟨by rw [hg.out]; rfl, hW.out⟩
set_option maxHeartbeats 2000000 in
theorem upgradesH_any (t r n : Int) (v : Value) (l : List Rq) (w : World) (hv : RQ w v l) (hl : l.length ≤ 1000) :
    Calls Try.prog 13 #[hval t r v n] w fun e w' => e = .returned (.bool (decide (1 < ups l))) ∧ Below w.heap.size w w' := by
  have hS0 := Lib.hid (fun b0 => (Sep.start w).alloc b0 29)
  obtain ⟨a, c, rfl, hlc, _, hr⟩ := hv
  replace hr := Lib.hid hr
  have hsn := Lib.hid (ups_snoc l)
  have hlu : ∀ k, ups (l.take k) ≤ l.length := fun k => Nat.le_trans List.countP_le_length (by rw [List.length_take]; omega)
  obtain ⟨m, hm⟩ : ∃ m, l.length = m := ⟨_, rfl⟩
  have hfin : l.take m = l := by rw [← hm, List.take_length]
  replace hfin := Lib.hid hfin
  simp only [hm] at hr hl hlc hlu hsn ⊢
  replace hlu := Lib.hid hlu
  replace hr := Lib.hid hr.out
  replace hsn := Lib.hid hsn.out
  clear hm
  have hS := Lib.hid (hS0.out #[.int .i64 t, .int .i64 r, .slice a m c, .int .i64 n])
  clear hS0
  obtain ⟨_, d0, d1, d2, d3, _⟩ := hS.out.b4
  unfold hval
  go_enter Try.func13, Try.ntmps13
  go_wp2_with fail
  go_loop [3, 4] (fun s3 s4 => ∃ k x : Nat, k ≤ m ∧ s4 = .int .i64 k ∧ s3 = .int .i64 x ∧ Hid (x = ups (l.take k))) (fun s3 s4 => m - (intOf s4).toNat)
  case atStart => exact ⟨0, 0, Nat.zero_le _, rfl, rfl, Lib.hid rfl⟩
  case round =>
    obtain ⟨k, x, hk, rfl, rfl, hx⟩ := hrel
    have hxb : x ≤ m := by rw [hx.out]; exact hlu.out k
    by_cases hlt : k < m
    · obtain ⟨b, off, rfl, hb, hz⟩ := hr.out (by omega)
      obtain ⟨_, _, y2, _, y4⟩ := hz k hlt
      have kk : ∀ o, (w.alloc (.cells #[.int .i64 t, .int .i64 r, .slice (some ⟨b, off, none⟩) m c, .int .i64 n] 29)).cell? ⟨b, o, none⟩ = w.cell? ⟨b, o, none⟩ := fun o => hS.out.tail.gold.cell (p := ⟨b, o, none⟩) hb
      rw [← kk] at y2 y4
      have hs2 := hsn.out k hlt
      rw [← hx.out] at hs2
      clear hz kk hx
      generalize l.getD k default = q at *
      unfold upB at hs2
      generalize q.mode = md at *
      generalize q.since = sn at *
      have i1 : (0 : Int) ≤ (k : Int) := by omega
      have i2 : (k : Int) < (m : Int) := by omega
      by_cases h1 : md = 0
      · subst h1
        rw [if_neg (by simp)] at hs2
        replace hs2 := Lib.hid hs2
        go_wp2_with fail
        go_round
        case rel => exact ⟨k + 1, x, by omega, by go_num, rfl, Lib.hid hs2.out.symm⟩
        case measure => simp [intOf]; omega
      · have e1 : (md != 0) = true := by simpa using h1
        have e0 : (md == 0) = false := by simpa using h1
        by_cases h2 : 0 < sn
        · rw [e1, decide_eq_true h2, Bool.and_self, if_pos rfl] at hs2
          replace hs2 := Lib.hid hs2
          have e2 : decide (0 < sn) = true := decide_eq_true h2
          go_wp2_with fail
          go_round
          case rel => exact ⟨k + 1, x + 1, by omega, by go_num, by go_num, Lib.hid hs2.out.symm⟩
          case measure => simp [intOf]; omega
        · rw [e1, decide_eq_false h2, Bool.and_false, if_neg (by simp)] at hs2
          replace hs2 := Lib.hid hs2
          have e2 : decide (0 < sn) = false := decide_eq_false h2
          go_wp2_with fail
          go_round
          case rel => exact ⟨k + 1, x, by omega, by go_num, rfl, Lib.hid hs2.out.symm⟩
          case measure => simp [intOf]; omega
    · obtain rfl : k = m := by omega
      rw [hfin.out] at hx
      by_cases h1 : 1 < x
      · have hg := Lib.hid (show decide (1 < ups l) = true by rw [← hx.out]; exact decide_eq_true h1)
        have i3 : (1 : Int) < (x : Int) := by omega
        go_wp2_with fail
        go_ret
        exact ⟨by rw [hg.out]; rfl, hS.out.tail.gold⟩
      · have hg := Lib.hid (show decide (1 < ups l) = false by rw [← hx.out]; exact decide_eq_false h1)
        have i3 : ¬ (1 : Int) < (x : Int) := by omega
        go_wp2_with fail
        go_ret
        exact ⟨by rw [hg.out]; rfl, hS.out.tail.gold⟩
end Go.Proofs.Ytcnkmhfcgkbhbaa
namespace Go.Proofs.Ytcnkmhfcgkbhbaa
open Go.RowKit
set_option maxHeartbeats 4000000 in
set_option maxRecDepth 100000 in
theorem cycle_any (v : Value) (L : List Ed) (w : World) (hv : RL w v 2 L.length (L.flatMap Ed.cells)) (hl : L.length ≤ 1000) :
    Calls Try.prog 14 #[v] w fun e w' => ∃ (a : Option Addr) (c : Nat), e = .returned (.tuple #[.slice a (cyc L).1.length c, .bool (cyc L).2]) ∧ Sep w' [vec 3 1 (.slice a (cyc L).1.length c) (cyc L).1.length ((cyc L).1.map (Value.int .i64)), old w] := by
  unfold cyc
  have HN := Lib.hid (nexts_any v L w hv hl)
  have htg := tgts_nx L
  have hwl := Lib.hid (wyN_len L)
  go_enter Try.func14, Try.ntmps14
  go_wp2_with fail
  refine HN.out.mono ?_
  rintro e w1 ⟨b, es, R, rfl, hR, hN, hV⟩
  have HS := Lib.hid (sorted_any v L w1 (hv.below hV.tail.tail.gold) (by omega))
  clear HN
  go_wp2_with fail
  refine HS.out.mono ?_
  rintro e w2 ⟨a, c, rfl, q⟩
  have hV2 := Lib.hid (q.graft hV)
  have hsl := sdE_len L
  clear HS q hV hv
  have hfin : ∃ r, Hid (cycG (nxL L) (sdE L) = r) := ⟨_, rfl⟩
  obtain ⟨res, hres⟩ := hfin
  have hres2 := hres
  generalize sdE L = S at hsl hV2 hres2 ⊢
  obtain ⟨n, hn⟩ : ∃ n, Hid (S.length = n) := ⟨_, rfl⟩
  rw [hn.out] at hsl hV2 ⊢
  have hW := Lib.hid (fun fr W rs' h => ways_any b es R fr W rs' h hN (by rw [hR]; omega))
  simp only [hR] at hW
  generalize nxL L = N at hW hres2 hwl
  replace hW := Lib.hid hW.out
  clear hN
  replace hwl := Lib.hid (fun fr => Nat.le_trans (hwl.out fr) hl)
  obtain ⟨i0, hi0, hz0, hz1, hz2⟩ := info_parts info_int
  replace hV2 := Lib.hid hV2
  go_wp2_with fail
  go_loopg [18] n (fun gm s18 W => ∃ k : Nat, k ≤ n ∧ gm = n - k ∧ s18 = .int .i64 k ∧ Hid (res = cycG N (S.drop k)) ∧ Hid (Sep W [vec 41 2 (.slice a n c) n (S.flatMap Ed.cells), mapr ekI (id : Value → Value) b es, rowsR R, old w]))
  case atStart => exact ⟨0, Nat.zero_le _, rfl, rfl, Lib.hid hres2.out.symm, hV2⟩
  case round =>
    clear hV2 hres2
    obtain ⟨k, hk, hgm, rfl, hE, hV⟩ := hrel
    by_cases hlt : k < n
    · obtain ⟨g, rfl, _, _, zz, _⟩ := hV.out.vec_at ed_len hn.out hlt
      have hg : S.getD k default = S[k]'(by rw [hn.out]; exact hlt) := by simp [List.getD, show k < S.length by rw [hn.out]; exact hlt]
      have hD := Lib.hid (show S.drop k = S.getD k default :: S.drop (k + 1) by rw [hg]; exact List.drop_eq_getElem_cons (by rw [hn.out]; exact hlt))
      rw [hD.out, cycG_cons] at hE
      generalize S.getD k default = ed at *
      obtain ⟨fr, tgt⟩ := ed
      have z0 := zz 0 _ rfl
      have z1 := zz 1 _ rfl
      rw [Nat.add_zero] at z0
      simp only at hE
      have i1 : (0 : Int) ≤ (k : Int) := by omega
      have i2 : (k : Int) < (n : Int) := by omega
      clear zz hg hD
      have hB := Lib.hid (hV.out.alloc #[.int .i64 fr, .int .i64 tgt] 41)
      clear hV
      obtain ⟨_, c0, c1, _⟩ := hB.out.b2
      go_wp2_with fail
      replace hB := Lib.hid (hB.out.to3.to3)
      generalize wr.heap.size = EB at *
      refine (hW.out fr _ _ hB.out).mono ?_
      rintro e w3 ⟨mb, a2, c2, bk, rfl, hb, hbl, q⟩
      obtain rfl := wyN_of hb
      clear hb hbl hB
      have hV := Lib.hid q.drop1.to3
      clear q
      have hkl := hwl.out fr
      have hnd := Lib.hid (wyN_nodup N fr)
      have htr := Lib.hid (wyN_tr N fr)
      have hst := Lib.hid (fun h => onB_start (N := N) (fr := fr) h)
      unfold rsC at hE
      generalize wyN N fr = bk at *
      obtain ⟨_, c0, c1, _⟩ := hV.out.b2
      cases hh : hasL bk fr with
      | false =>
        rw [hh, if_neg (by simp)] at hE
        generalize hlv : ((getL bk fr).map ekI).getD (.int .i64 0) = lv at *
        go_wp2_with (at_lookup; refine wpList_lookup_map hV.out.to1 lawI und_back rfl (.tmp 30) (.tmp 32) true rfl (zero_int _) rfl fr rfl ?_; rw [if_pos rfl, hh, hlv])
        go_roundg (n - (k + 1))
        case measure => omega
        case rel => exact ⟨k + 1, by omega, rfl, by go_num, hE, Lib.hid hV.out.drop1.tail.to2⟩
      | true =>
        rw [hh, if_pos rfl] at hE
        replace hst := Lib.hid (hst.out (hasL_iff.1 hh))
        have hlv : ∀ x, ((getL bk x).map ekI).getD (.int .i64 0) = .int .i64 (stepB bk x) := fun x => by unfold stepB; cases getL bk x <;> rfl
        go_wp2_with (at_lookup; first | (refine wpList_lookup_map hV.out.to1 lawI und_back rfl (.tmp 30) (.tmp 32) true rfl (zero_int _) rfl fr rfl ?_; rw [if_pos rfl, hh, hlv]) | (refine wpList_lookup_map hV.out.to1 lawI und_back rfl (.tmp 38) (.tmp 40) false rfl (zero_int _) rfl fr rfl ?_; rw [if_neg (by simp), hlv]))
        generalize hD : bk.length = D at *
        obtain ⟨P, hP⟩ : ∃ P, Hid (pathB bk fr D (stepB bk fr) = P) := ⟨_, rfl⟩
        rw [hP.out] at hE
        have hV0 := Lib.hid (hV.out.vec_nil 3 1)
        replace hD := Lib.hid hD
        clear hV hh
        go_loopg [11, 12] D (fun gm s11 s12 W => ∃ (o : List Int) (x : Int) (ao : Option Addr) (co f : Nat), gm = f ∧ o.length + f = D ∧ s11 = .slice ao o.length co ∧ s12 = .int .i64 x ∧ Hid (onB bk fr f x) ∧ Hid (P = o ++ pathB bk fr f x) ∧ Hid (Sep W [vec 3 1 (.slice ao o.length co) o.length (o.map (Value.int .i64)), blk EB 41 #[.int .i64 fr, .int .i64 tgt], mapr ekI ekI mb bk, mapr ekI (id : Value → Value) b es, rowsR R, vec 41 2 (.slice (some ⟨g, 0, none⟩) n c) n (S.flatMap Ed.cells), old w]))
        case atStart => exact ⟨[], stepB bk fr, none, 0, D, rfl, by simp, rfl, rfl, hst, Lib.hid (by rw [← hP.out]; rfl), hV0⟩
        case round =>
          clear hV0 hst
          obtain ⟨o, x, ao, co, f, hg2, hol, rfl, rfl, hon, hPo, hV⟩ := hrel
          obtain ⟨_, c0, c1, _⟩ := hV.out.to1.b2
          have hoD := Lib.hid (show o.length ≤ D by omega)
          have h1c : Hid (∀ y, ∀ u ∈ ([.int .i64 y] : List Value), u.oneCell' = true) := Lib.hid (by simp [Value.oneCell'])
          by_cases hx : fr = x
          · subst hx
            rw [hPo.out, pathB_fr, List.append_nil] at hE
            have hkl2 := Lib.hid hkl
            clear hPo hkl
            go_wp2_with (at_builtin; refine wpList_append_sep (hV.out.allocG _) rfl _ _ 30 rfl i0 _ 8 Try.underlying30 hi0 hz0 hz1 hz2 rfl (by decide) rfl 1 [.int .i64 fr] (SrcA.one _ _ _ _) (h1c.out _) (by have := hoD.out; have := hkl2.out; simp only [maxLen]; omega) (by have := hoD.out; have := hkl2.out; omega) ?_; intro oa' oc' w4 q2; replace q2 := Lib.hid q2)
            have hRv := Lib.hid (revI_any oa' (o.length + 1) oc' (o ++ [fr]) w4 _ (by rw [List.map_append]; exact q2.out) (by simp) (by omega) (by have := hoD.out; have := hkl2.out; omega))
            refine hRv.out.mono ?_
            rintro e w5 ⟨rfl, q3⟩
            replace q3 := Lib.hid q3
            clear hRv q2
            go_wp2_with fail
            refine bodyPost_ret (v := .tuple #[.slice oa' (o.length + 1) oc', .bool true]) (by simp [results, Try.results14, go_sem, *]) rfl ⟨oa', oc', ?_, ?_⟩
            · rw [hres.out, hE.out]; simp
            · rw [hres.out, hE.out]
              have h := q3.out.drop1.drop1.drop1.drop1.drop1
              simpa using h
          · have hx2 : (x == fr) = false := by rw [beq_eq_false_iff_ne]; exact Ne.symm hx
            have hx3 : ¬ x = fr := Ne.symm hx
            obtain ⟨f, rfl⟩ : ∃ f', f = f' + 1 := ⟨f - 1, by have := onB_pos hon.out hx3; omega⟩
            have hon2 := Lib.hid (onB_step hnd.out htr.out hon.out hx3)
            rw [pathB_ne _ _ hx3] at hPo
            have hkl2 := Lib.hid hkl
            clear hon hkl
            go_wp2_with (first | (at_builtin; refine wpList_append_sep (hV.out.allocG _) rfl _ _ 30 rfl i0 _ 8 Try.underlying30 hi0 hz0 hz1 hz2 rfl (by decide) rfl 1 [.int .i64 x] (SrcA.one _ _ _ _) (h1c.out _) (by have := hoD.out; have := hkl2.out; simp only [maxLen]; omega) (by have := hoD.out; have := hkl2.out; omega) ?_; intro oa' oc' w4 q2; replace q2 := Lib.hid q2) | (at_lookup; refine wpList_lookup_map q2.out.to2 lawI und_back rfl (.tmp 46) (.tmp 47) false rfl (zero_int _) rfl x rfl ?_; rw [if_neg (by simp), hlv]))
            go_roundg f
            case measure => omega
            case rel => exact ⟨o ++ [x], stepB bk x, oa', oc', f, rfl, by simp; omega, by simp, rfl, hon2, Lib.hid (by rw [hPo.out]; simp), Lib.hid (by have h := q2.out; simpa using h)⟩
    · have hkn : k = n := by omega
      subst hkn
      have hd : S.drop k = [] := by rw [← hn.out, List.drop_length]
      rw [hd] at hE
      go_wp2_with fail
      refine bodyPost_ret (v := .tuple #[.slice none 0 0, .bool false]) (by simp [results, Try.results14, go_sem, *]) rfl ⟨none, 0, ?_, ?_⟩
      · rw [hres.out, hE.out]; rfl
      · rw [hres.out, hE.out]
        exact (hV.out.tail.tail.tail.vec_nil 3 1)
end Go.Proofs.Ytcnkmhfcgkbhbaa
