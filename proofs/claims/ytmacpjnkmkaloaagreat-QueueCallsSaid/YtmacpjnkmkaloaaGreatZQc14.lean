/-
  Contracts and plain laws that the walk leans on, part 14. No condition.
-/
import Derived.Test.YtmacpjnkmkaloaaGreatZQc13
namespace Go.Proofs.YtmacpjnkmkaloaaGreat
set_option linter.unusedSimpArgs false
set_option linter.unusedVariables false
set_option linter.unnecessarySimpa false
open Go.RowKit
theorem run_eql_nameQ (a0 a1 b0 b1 : Int) (w : World) :
    (binOp .eql 23 (.agg #[.int .i64 a0, .int .i64 a1]) (.agg #[.int .i64 b0, .int .i64 b1])).run Tryz.prog w = .ok (.bool (a0 == b0 && a1 == b1)) w := by
  have h := equalIn_name 9998 a0 a1 b0 b1 w
  simp only [binOp]
  simp [Op.equal, Op.maxDepth, h]
set_option maxHeartbeats 1000000 in
theorem equalQ_any (u v : Value) (l l' : List Rq) (w : World) (hu : RQ w u l) (hv : RQ w v l') (hl : l.length ≤ 1000) :
    Calls Tryz.prog 40 #[u, v] w fun e w' => e = .returned (.bool (decide (l = l'))) ∧ Below w.heap.size w w' := by
  obtain ⟨a, c, rfl, hlc, _, hr⟩ := hu
  obtain ⟨a', c', rfl, hlc', _, hr'⟩ := hv
  by_cases hlen : l.length = l'.length
  · have hn2 := fun a0 a1 a2 a3 a4 b0 b1 b2 b3 b4 w => run_neq_req a0 a1 a2 a3 a4 b0 b1 b2 b3 b4 w
    have hne := Lib.hid (fun k (_ : k < l.length) (h : l.getD k default ≠ l'.getD k default) => (show decide (l = l') = false from decide_eq_false (fun e => h (by rw [e]))))
    have heq := Lib.hid (fun (h : ∀ j, j < l.length → l.getD j default = l'.getD j default) => (show decide (l = l') = true from decide_eq_true (by
      apply List.ext_getElem hlen
      intro j h1 h2
      have := h j h1
      simpa [List.getD, h1, h2] using this)))
    obtain ⟨R, hR⟩ : ∃ R, decide (l = l') = R := ⟨_, rfl⟩
    rw [hR] at hne heq ⊢
    rw [← hlen] at hr' hlc' ⊢
    replace hr := Lib.hid hr
    replace hr' := Lib.hid hr'
    clear hR hlen
    have hS := Lib.hid (Sep.start w)
    generalize hm : l.length = m at *
    replace hm := Lib.hid hm
    go_enter Tryz.func40, Tryz.ntmps40
    go_wp2_with fail
    go_loopw [13] (fun x wr => ∃ k : Nat, k ≤ m ∧ x = .int .i64 k ∧ Hid (∀ j, j < k → l.getD j default = l'.getD j default) ∧ Hid (Sep wr [old w])) (fun x _ => m - (intOf x).toNat)
    case atStart => exact ⟨0, Nat.zero_le _, rfl, Lib.hid (fun j hj => absurd hj (by omega)), hS⟩
    case round =>
      clear hS
      obtain ⟨k, hk, rfl, hok, hS⟩ := hrel
      by_cases hlt : k < m
      · obtain ⟨b, off, rfl, hbl, hz⟩ := hr.out (by omega)
        obtain ⟨b', off', rfl, hbl', hz'⟩ := hr'.out (by omega)
        obtain ⟨z0, z1, z2, z3, z4⟩ := hz k (by omega)
        obtain ⟨v0, v1, v2, v3, v4⟩ := hz' k (by omega)
        rw [← hS.out.gold.cell (by exact hbl)] at z0 z1 z2 z3 z4
        rw [← hS.out.gold.cell (by exact hbl')] at v0 v1 v2 v3 v4
        have hself := reqB_eq (l.getD k default) (l'.getD k default)
        have hne2 := Lib.hid (hne.out k hlt)
        have hok2 := Lib.hid (fun (h : l.getD k default = l'.getD k default) => (show ∀ j, j < k + 1 → l.getD j default = l'.getD j default from fun j hj => by
          by_cases hjk : j = k
          · subst hjk; exact h
          · exact hok.out j (by omega)))
        have i1 : (0 : Int) ≤ (k : Int) := by omega
        have i2 : (k : Int) < (m : Int) := by omega
        clear hz hz' hok
        by_cases hq : l.getD k default = l'.getD k default
        · replace hok2 := Lib.hid (hok2.out hq)
          rw [← hq] at hself v0 v1 v2 v3 v4
          clear hne2 hq
          generalize l.getD k default = q at *
          obtain ⟨id, txn, mode, want, since⟩ := q
          simp only [decide_true] at hself z0 z1 z2 z3 z4 v0 v1 v2 v3 v4
          go_wp2_with fail
          go_quiet (fail)
          go_wp2_with fail
          go_roundw
          case rel => exact ⟨k + 1, by omega, by go_num, hok2, Lib.hid (hS.out.drewN _)⟩
          case measure => simp [intOf]; omega
        · have hRf : R = false := hne2.out hq
          subst hRf
          rw [decide_eq_false hq] at hself
          clear hne2 hok2 hne heq hq
          generalize l.getD k default = q at *
          generalize l'.getD k default = q' at *
          obtain ⟨id, txn, mode, want, since⟩ := q
          obtain ⟨id', txn', mode', want', since'⟩ := q'
          simp only at hself z0 z1 z2 z3 z4 v0 v1 v2 v3 v4
          go_wp2_with fail
          go_quiet (fail)
          go_wp2_with fail
          go_ret
          exact ⟨rfl, (hS.out.drewN _).gold⟩
      · have hRt : R = true := heq.out (fun j hj => hok.out j (by omega))
        subst hRt
        clear hne heq
        go_wp2_with fail
        go_ret
        exact ⟨rfl, hS.out.gold⟩
  · rw [decide_eq_false (fun e => hlen (by rw [e]))]
    have d1 : ((l.length : Int) != (l'.length : Int)) = true := by simp; omega
    have d2 : ¬ (l.length : Int) = (l'.length : Int) := by omega
    have hS := Lib.hid (Sep.start w)
    clear hr hr'
    go_enter Tryz.func40, Tryz.ntmps40
    go_wp2_with fail
    go_ret
    exact ⟨rfl, hS.out.gold⟩
def sameV (t r n : Int) (l : List Rq) (t' r' n' : Int) (l' : List Rq) : Bool := (t == t' && r == r') && (n == n' && decide (l = l'))
set_option maxHeartbeats 1000000 in
theorem sameP_any (t r n t' r' n' : Int) (u v : Value) (l l' : List Rq) (w : World) (hu : RQ w u l) (hv : RQ w v l') (hl : l.length ≤ 1000) :
    Calls Tryz.prog 8 #[hval t r u n, hval t' r' v n'] w fun e w' => e = .returned (.bool (sameV t r n l t' r' n' l')) ∧ Below w.heap.size w w' := by
  have hn1 := fun a0 a1 b0 b1 w => run_eql_nameQ a0 a1 b0 b1 w
  have HE := Lib.hid (fun W hb => equalQ_any u v l l' W (hu.below hb) (hv.below hb) hl)
  obtain ⟨a, c, rfl, _⟩ := hu
  obtain ⟨a', c', rfl, _⟩ := hv
  have hB := Lib.hid (boxes2 w 26 26 #[.int .i64 t, .int .i64 r, .slice a l.length c, .int .i64 n] #[.int .i64 t', .int .i64 r', .slice a' l'.length c', .int .i64 n'])
  unfold hval sameV
  generalize decide (l = l') = x at *
  cases h1 : (t == t' && r == r') with
  | false =>
    clear HE
    go_enter Tryz.func8, Tryz.ntmps8
    go_wp2_with fail
    go_ret
    exact ⟨rfl, hB.out.tail.tail.gold⟩
  | true =>
    cases h2 : n == n' with
    | false =>
      clear HE
      go_enter Tryz.func8, Tryz.ntmps8
      go_wp2_with fail
      go_ret
      exact ⟨rfl, hB.out.tail.tail.gold⟩
    | true =>
      go_enter Tryz.func8, Tryz.ntmps8
      go_wp2_with fail
      refine (HE.out _ hB.out.tail.tail.gold).mono ?_
      rintro e w1 ⟨rfl, b1⟩
      replace hB := Lib.hid (hB.out.below b1)
      clear b1 HE
      go_wp2_with fail
      go_ret
      exact ⟨by first | rfl | simp, hB.out.tail.tail.gold⟩
end Go.Proofs.YtmacpjnkmkaloaaGreat
namespace Go.Proofs.YtmacpjnkmkaloaaGreat
set_option linter.unusedSimpArgs false
set_option linter.unusedVariables false
set_option linter.unnecessarySimpa false
open Go.RowKit
set_option maxHeartbeats 2000000 in
theorem sameRG_any (t r n t' r' n' : Int) (u v : Value) (l l' : List Rq) (w : World) (hu : RQ w u l) (hv : RQ w v l') (hl : l.length ≤ 1000) :
    Calls Tryz.prog 9 #[hval t r u n, hval t' r' v n'] w fun e w' => e = .returned (.bool (sameV t r n l t' r' n' l')) ∧ Below w.heap.size w w' := by
  have hB := Lib.hid (fun (c0 c1 : Array Value) => boxes2 w 26 26 c0 c1)
  have hn1 := fun a0 a1 b0 b1 w => run_neq_name a0 a1 b0 b1 w
  have hn2 := fun a0 a1 a2 a3 a4 b0 b1 b2 b3 b4 w => run_neq_req a0 a1 a2 a3 a4 b0 b1 b2 b3 b4 w
  obtain ⟨a, c, rfl, hlc, _, hr⟩ := hu
  obtain ⟨a', c', rfl, hlc', _, hr'⟩ := hv
  replace hr := Lib.hid hr
  replace hr' := Lib.hid hr'
  replace hB := Lib.hid (hB.out #[.int .i64 t, .int .i64 r, .slice a l.length c, .int .i64 n] #[.int .i64 t', .int .i64 r', .slice a' l'.length c', .int .i64 n'])
  unfold hval
  have E0 : Hid (sameV t r n l t' r' n' l' = ((t == t' && r == r') && (n == n' && decide (l = l')))) := Lib.hid rfl
  generalize sameV t r n l t' r' n' l' = R at *
  by_cases h1 : t = t' ∧ r = r'
  · obtain ⟨rfl, rfl⟩ := h1
    by_cases h2 : n = n'
    · subst h2
      have E1 := Lib.hid (show R = decide (l = l') by rw [E0.out]; simp)
      clear E0
      by_cases h3 : l.length = l'.length
      · have hext := Lib.hid (fun (h : ∀ j, j < l.length → l.getD j default = l'.getD j default) => show l = l' from by
          apply List.ext_getElem h3
          intro j hj hj'
          have := h j hj
          simpa [List.getD, hj, hj'] using this)
        have hne := Lib.hid (fun k (_hk : k < l.length) (h : l.getD k default ≠ l'.getD k default) => show l ≠ l' from fun e => h (by rw [e]))
        rw [← h3] at hB hr' ⊢
        clear h3
        go_enter Tryz.func9, Tryz.ntmps9
        go_wp2_with fail
        generalize hn : l.length = m at *
        replace hn := Lib.hid hn
        go_loopg [5] m (fun g i wr => ∃ k : Nat, k ≤ m ∧ g = m - k ∧ i = .int .i64 k ∧ Hid (∀ j, j < k → l.getD j default = l'.getD j default) ∧ Hid (Sep wr [blk (w.heap.size + 1) 26 #[.int .i64 t, .int .i64 r, .slice a' m c', .int .i64 n], blk w.heap.size 26 #[.int .i64 t, .int .i64 r, .slice a m c, .int .i64 n], old w]))
        case atStart => exact ⟨0, Nat.zero_le _, rfl, rfl, Lib.hid (fun j hj => absurd hj (by omega)), hB⟩
        case round =>
          clear hB
          obtain ⟨k, hk, hg, rfl, hok, hS⟩ := hrel
          obtain ⟨x1, d0, d1, x2, d3, _⟩ := hS.out.b4
          obtain ⟨y1, e0, e1, y2, e3, _⟩ := hS.out.to1.b4
          by_cases hlt : k < m
          · obtain ⟨b, off, rfl, hbl, hz⟩ := hr.out (by omega)
            obtain ⟨b', off', rfl, hbl', hz'⟩ := hr'.out (by omega)
            obtain ⟨z0, z1, z2, z3, z4⟩ := hz k (by omega)
            obtain ⟨v0, v1, v2, v3, v4⟩ := hz' k (by omega)
            rw [← hS.out.to2.gold.cell (by exact hbl)] at z0 z1 z2 z3 z4
            rw [← hS.out.to2.gold.cell (by exact hbl')] at v0 v1 v2 v3 v4
            have hself := reqB_eq (l.getD k default) (l'.getD k default)
            have hne2 := Lib.hid (hne.out k hlt)
            have hok2 := Lib.hid (fun (h : l.getD k default = l'.getD k default) => (show ∀ j, j < k + 1 → l.getD j default = l'.getD j default from fun j hj => by
              by_cases hjk : j = k
              · subst hjk; exact h
              · exact hok.out j (by omega)))
            have i1 : (0 : Int) ≤ (k : Int) := by omega
            have i2 : (k : Int) < (m : Int) := by omega
            clear hz hz' hok
            by_cases hq : l.getD k default = l'.getD k default
            · replace hok2 := Lib.hid (hok2.out hq)
              rw [← hq] at hself v0 v1 v2 v3 v4
              clear hne2 hq
              generalize l.getD k default = q at *
              obtain ⟨id, txn, mode, want, since⟩ := q
              simp only [decide_true] at hself z0 z1 z2 z3 z4 v0 v1 v2 v3 v4
              go_wp2_with fail
              go_quiet (fail)
              go_wp2_with fail
              go_roundg (m - (k + 1))
              case measure => omega
              case rel => exact ⟨k + 1, by omega, rfl, by go_num, hok2, Lib.hid (hS.out.drewN _)⟩
            · have E2 := Lib.hid (show R = false by rw [E1.out]; exact decide_eq_false (hne2.out hq))
              rw [decide_eq_false hq] at hself
              clear hne2 hok2 hne hq
              generalize l.getD k default = q at *
              generalize l'.getD k default = q' at *
              obtain ⟨id, txn, mode, want, since⟩ := q
              obtain ⟨id', txn', mode', want', since'⟩ := q'
              simp only at hself z0 z1 z2 z3 z4 v0 v1 v2 v3 v4
              go_wp2_with fail
              go_quiet (fail)
              go_wp2_with fail
              go_ret
              exact ⟨by rw [E2.out]; rfl, (hS.out.drewN _).to2.gold⟩
          · obtain rfl : k = m := by omega
            have E2 := Lib.hid (show R = true by rw [E1.out]; exact decide_eq_true (hext.out hok.out))
            go_wp2_with fail
            go_ret
            exact ⟨by rw [E2.out]; rfl, hS.out.to2.gold⟩
      · have E2 := Lib.hid (show R = false by rw [E1.out]; exact decide_eq_false (fun e => h3 (by rw [e])))
        have h4 : ¬ (l.length : Int) = (l'.length : Int) := by omega
        clear hr hr' E1 h3
        generalize l.length = m at *
        generalize l'.length = m' at *
        have h5 : decide ((m : Int) = (m' : Int)) = false := decide_eq_false h4
        go_enter Tryz.func9, Tryz.ntmps9
        go_wp2_with fail
        go_ret
        exact ⟨by rw [E2.out]; rfl, hB.out.tail.tail.gold⟩
    · have E2 := Lib.hid (show R = false by rw [E0.out]; simp [h2])
      have h5 : decide (n = n') = false := decide_eq_false h2
      clear hr hr' E0
      go_enter Tryz.func9, Tryz.ntmps9
      go_wp2_with fail
      go_ret
      exact ⟨by rw [E2.out]; rfl, hB.out.tail.tail.gold⟩
  · have E1 : (t == t' && r == r') = false := by
      rw [Bool.and_eq_false_iff, beq_eq_false_iff_ne, beq_eq_false_iff_ne]
      by_cases ht : t = t'
      · exact .inr (fun hr => h1 ⟨ht, hr⟩)
      · exact .inl ht
    have E2 := Lib.hid (show R = false by rw [E0.out, E1]; rfl)
    clear hr hr' E0 h1
    go_enter Tryz.func9, Tryz.ntmps9
    go_wp2_with fail
    go_ret
    exact ⟨by rw [E2.out]; rfl, hB.out.tail.tail.gold⟩
end Go.Proofs.YtmacpjnkmkaloaaGreat
namespace Go.Proofs.YtmacpjnkmkaloaaGreat
set_option linter.unusedSimpArgs false
set_option linter.unusedVariables false
set_option linter.unnecessarySimpa false
open Go.RowKit
theorem compactInts_any (a : Option Addr) (n c : Nat) (xs : List Int) (w : World) (rs : List Res) (hS : Sep w (vec 3 1 (.slice a n c) n (xs.map (Value.int .i64)) :: rs)) (hl : xs.length = n) (hn : n ≤ 1000000) :
    Calls Tryz.prog 69 #[.slice a n c] w fun e w' => e = .returned (.slice a (Lib.compact xs).length c) ∧ Sep w' (vec 3 1 (.slice a (Lib.compact xs).length c) (Lib.compact xs).length ((Lib.compact xs).map (Value.int .i64)) :: rs) := by
  rcases Nat.eq_zero_or_pos n with h0 | h0
  · subst h0
    have hx := List.eq_nil_of_length_eq_zero hl
    subst hx
    refine (Any.slices_Compact_int_empty Tryz.compactInts a c w).mono ?_
    rintro e w' ⟨rfl, rfl⟩
    exact ⟨rfl, hS⟩
  · obtain ⟨g, rfl⟩ : ∃ g, a = some ⟨g, 0, none⟩ := by
      rcases hS.gvec.2 with ⟨_, h1⟩ | ⟨g, cap, cur, hv, _⟩
      · omega
      · injection hv with e1 _ _
        exact ⟨g, e1⟩
    obtain ⟨hH, hg⟩ := hS.vec_holds1 (Value.int .i64) xs hl
    obtain ⟨_, _, hnc, hcm, _⟩ := hS.vec_blk
    have hcl : (Lib.compact xs).length ≤ xs.length := by
      unfold Lib.compact Lib.compactUpTo
      rw [List.length_map]
      exact Nat.le_trans (List.length_filter_le _ _) (by simp)
    have hcon := Any.slices_Compact_int Tryz.compactInts g 0 c xs w hH (by omega) (by omega)
    subst hl
    refine Calls.mono (show Calls Tryz.prog 69 _ w _ from hcon) ?_
    rintro e w' ⟨rfl, q, rfl⟩
    refine ⟨rfl, ?_⟩
    have h2 := hS.vec_row (Value.int .i64) q (Lib.compact xs ++ List.replicate (xs.length - (Lib.compact xs).length) 0).toArray #[] (by simp; omega)
    rw [Go.Sort.grow_empty] at h2
    have h3 := h2.vec_shrink hcl
    have e : ((Lib.compact xs ++ List.replicate (xs.length - (Lib.compact xs).length) 0).toArray.toList.map (Value.int .i64)).take ((Lib.compact xs).length * 1) = (Lib.compact xs).map (Value.int .i64) := by
      rw [Nat.mul_one, List.toList_toArray, List.map_append, List.take_left' (by simp)]
    rw [e] at h3
    exact h3
theorem info_intE : (Tryz.prog.info? 3).map (fun i => (i.zero, i.size, i.bytes)) = some (some (.int .i64 0), 1, 8) := by kernel_rfl
/-- Who stands in the way of q, in the order of the queue; sorted, each once. -/
def blkL (l : List Rq) (q : Rq) : List Int := (l.filter fun o => blocksB o q).map (·.txn)
theorem blkL_snoc (l : List Rq) (q : Rq) (k : Nat) (h : k < l.length) : blkL (l.take (k + 1)) q = blkL (l.take k) q ++ (if blocksB (l.getD k default) q then [(l.getD k default).txn] else []) := by
  unfold blkL
  rw [take_snocQ l k h, List.filter_append, List.map_append]
  congr 1
  generalize l.getD k default = o
  cases hb : blocksB o q <;> simp [hb]
theorem blkL_len (l : List Rq) (q : Rq) : (blkL l q).length ≤ l.length := by
  unfold blkL
  rw [List.length_map]
  exact List.length_filter_le _ _
def nrm (xs : List Int) : List Int := Lib.compact (xs.mergeSort fun a b => decide (a ≤ b))
def blkV (l : List Rq) (id : Int) : List Int := if plc l id < 0 then [] else if 0 < (l.getD (plc l id).toNat default).since then nrm (blkL l (l.getD (plc l id).toNat default)) else []
theorem sorted_eq {xs ys : List Int} (hp : ys.Perm xs) (hs : ys.Pairwise (· ≤ ·)) : ys = xs.mergeSort fun a b => decide (a ≤ b) := by
  refine List.Perm.eq_of_pairwise (le := (· ≤ ·)) (fun a b _ _ h1 h2 => Int.le_antisymm h1 h2) hs ?_ (hp.trans (List.mergeSort_perm xs _).symm)
  have := List.pairwise_mergeSort (le := fun a b : Int => decide (a ≤ b)) (fun a b c h1 h2 => by simp at *; omega) (fun a b => by simp; omega) xs
  exact this.imp (fun {a b} h => by simpa using h)
set_option maxHeartbeats 1000000 in
theorem blockers_none (t r n : Int) (v : Value) (l : List Rq) (id0 : Int) (w : World) (hv : RQ w v l) (hl : l.length ≤ 1000) (hi : plc l id0 = -1) :
    Calls Tryz.prog 28 #[hval t r v n, .int .i64 id0] w fun e w' => e = .returned (.slice none 0 0) ∧ Below w.heap.size w w' := by
  have h0 := Lib.hid (fun b0 => (Sep.start w).alloc b0 26)
  have HF := Lib.hid (fun W hb => find_none t r n v l id0 W (hv.below hb) hl hi)
  obtain ⟨a, c, rfl, _⟩ := hv
  unfold hval Rq.val at *
  go_enter Tryz.func28, Tryz.ntmps28
  go_wp2_with fail
  refine (HF.out _ (h0.out _).tail.gold).mono ?_
  rintro e w1 ⟨rfl, b1⟩
  have hB := Lib.hid (((h0.out _).below b1).alloc #[.int .i64 0, .int .i64 0, .int .i64 0, .int .i64 0, .int .i64 0] 42)
  clear b1
  go_wp2_with fail
  go_ret
  exact ⟨rfl, hB.out.tail.tail.gold⟩
set_option maxHeartbeats 1000000 in
theorem blockers_calm (t r n : Int) (v : Value) (l : List Rq) (id0 : Int) (w : World) (hv : RQ w v l) (hl : l.length ≤ 1000) (i : Nat) (hi : plc l id0 = i) (hil : i < l.length) (hs : decide (0 < (l.getD i default).since) = false) :
    Calls Tryz.prog 28 #[hval t r v n, .int .i64 id0] w fun e w' => e = .returned (.slice none 0 0) ∧ Below w.heap.size w w' := by
  have h0 := Lib.hid (fun b0 => (Sep.start w).alloc b0 26)
  have HF := Lib.hid (fun W hb => find_some t r n v l id0 W (hv.below hb) hl i hi hil)
  have HW := Lib.hid (fun W => waits_any (l.getD i default) W)
  rw [hs] at HW
  obtain ⟨a, c, rfl, _⟩ := hv
  clear hs
  generalize l.getD i default = q at *
  obtain ⟨id, txn, mode, want, since⟩ := q
  unfold hval Rq.val at *
  simp only at HF HW
  go_enter Tryz.func28, Tryz.ntmps28
  go_wp2_with fail
  refine (HF.out _ (h0.out _).tail.gold).mono ?_
  rintro e w1 ⟨rfl, b1⟩
  have hB := Lib.hid (((h0.out _).below b1).alloc #[.int .i64 id, .int .i64 txn, .int .i64 mode, .int .i64 want, .int .i64 since] 42)
  obtain ⟨_, p0, p1, p2, p3, p4, _⟩ := hB.out.b5
  clear b1
  go_wp2_with fail
  refine (HW.out _).mono ?_
  rintro e w2 ⟨rfl, b2⟩
  replace hB := Lib.hid (hB.out.below b2)
  clear b2 p0 p1 p2 p3 p4
  go_wp2_with fail
  go_ret
  exact ⟨rfl, hB.out.tail.tail.gold⟩
set_option maxHeartbeats 2000000 in
set_option maxRecDepth 100000 in
theorem blockers_some (t r n : Int) (v : Value) (l : List Rq) (id0 : Int) (w : World) (hv : RQ w v l) (hl : l.length ≤ 1000) (i : Nat) (hi : plc l id0 = i) (hil : i < l.length) (hs : decide (0 < (l.getD i default).since) = true) :
    Calls Tryz.prog 28 #[hval t r v n, .int .i64 id0] w fun e w' => ∃ a c, e = .returned (.slice a (nrm (blkL l (l.getD i default))).length c) ∧ Sep w' [vec 3 1 (.slice a (nrm (blkL l (l.getD i default))).length c) (nrm (blkL l (l.getD i default))).length ((nrm (blkL l (l.getD i default))).map (Value.int .i64)), old w] := by
  have h0 := Lib.hid (fun b0 => (Sep.start w).alloc b0 26)
  have HF := Lib.hid (fun W hb => find_some t r n v l id0 W (hv.below hb) hl i hi hil)
  have HW := Lib.hid (fun W => waits_any (l.getD i default) W)
  rw [hs] at HW
  obtain ⟨a, c, rfl, hlc, _, hr⟩ := hv
  replace hr := Lib.hid hr
  clear hs hi hil
  generalize l.getD i default = q at *
  have hlen := Lib.hid (fun k => blkL_len (l.take k) q)
  have HBl := Lib.hid (fun o W => blocks_any o q W)
  have HSo := Lib.hid (fun a n c xs w rs h1 h2 h3 => sortInts_any a n c xs w rs h1 h2 h3)
  have HCo := Lib.hid (fun a n c xs w rs h1 h2 h3 => compactInts_any a n c xs w rs h1 h2 h3)
  have eg := eg_cmp
  obtain ⟨i0, hi, hz0, hz1, hz2⟩ := info_parts info_intE
  obtain ⟨R, hR⟩ : ∃ R, nrm (blkL l q) = R := ⟨_, rfl⟩
  rw [hR]
  replace hR := Lib.hid hR
  have hsn := Lib.hid (fun k h => blkL_snoc l q k h)
  obtain ⟨q', hq'⟩ : ∃ q', q = q' := ⟨_, rfl⟩
  rw [hq'] at HF HW HBl
  replace hq' := Lib.hid hq'
  obtain ⟨id, txn, mode, want, since⟩ := q'
  unfold hval Rq.val at *
  simp only at HF HW HBl
  generalize hm : l.length = m at *
  replace hm := Lib.hid hm
  go_enter Tryz.func28, Tryz.ntmps28
  go_wp2_with fail
  refine (HF.out _ (h0.out _).tail.gold).mono ?_
  rintro e w1 ⟨rfl, b1⟩
  have hB := Lib.hid (((h0.out _).below b1).alloc #[.int .i64 id, .int .i64 txn, .int .i64 mode, .int .i64 want, .int .i64 since] 42)
  obtain ⟨_, p0, p1, p2, p3, p4, _⟩ := hB.out.b5
  clear b1 HF h0
  go_wp2_with fail
  refine (HW.out _).mono ?_
  rintro e w2 ⟨rfl, b2⟩
  replace hB := Lib.hid (hB.out.below b2)
  clear b2 HW p0 p1 p2 p3 p4
  generalize w1.heap.size = RB at *
  obtain ⟨_, d0, d1, d2, d3, _⟩ := hB.out.to1.b4
  have hS := Lib.hid (hB.out.vec_nil 3 1)
  clear hB
  go_wp2_with fail
  go_loopw [7, 26] (fun s x wr => ∃ (k : Nat) (sv : Value), k ≤ m ∧ x = .int .i64 k ∧ sv = s ∧ Hid (Sep wr [vec 3 1 sv (blkL (l.take k) q).length ((blkL (l.take k) q).map (Value.int .i64)), blk RB 42 #[.int .i64 id, .int .i64 txn, .int .i64 mode, .int .i64 want, .int .i64 since], blk w.heap.size 26 #[.int .i64 t, .int .i64 r, .slice a m c, .int .i64 n], old w])) (fun _ x _ => m - (intOf x).toNat)
  case atStart => exact ⟨0, _, Nat.zero_le _, rfl, rfl, hS⟩
  case round =>
    clear hS d0 d1 d2 d3
    obtain ⟨k, sv, hk, rfl, rfl, hS⟩ := hrel
    obtain ⟨sa, sc, rfl⟩ := own_slice hS.out.gvec
    have hkl := hlen.out k
    by_cases hlt : k < m
    · obtain ⟨b, off, rfl, hbl, hz⟩ := hr.out (by have := hm.out; omega)
      obtain ⟨z0, z1, z2, z3, z4⟩ := hz k (by have := hm.out; omega)
      have kk : ∀ o, wr.cell? ⟨b, o, none⟩ = w.cell? ⟨b, o, none⟩ := fun o => hS.out.to3.gold.cell (p := ⟨b, o, none⟩) hbl
      rw [← kk] at z0 z1 z2 z3 z4
      have E := Lib.hid (hsn.out k hlt)
      have hkl2 : (blkL (l.take k) q).length ≤ k := Nat.le_trans hkl (by rw [List.length_take]; omega)
      have HB2 := Lib.hid (fun W => HBl.out (l.getD k default) W)
      have hS2 := hS.out.alloc (l.getD k default).cells.toArray 42
      rw [hq'.out] at E
      generalize hbv : blocksB (l.getD k default) ⟨id, txn, mode, want, since⟩ = bv at *
      replace hbv := Lib.hid hbv
      generalize l.getD k default = o at *
      obtain ⟨oid, otxn, omode, owant, osince⟩ := o
      simp only [Rq.cells] at hS2
      simp only at z0 z1 z2 z3 z4 E HB2
      rw [← hq'.out] at E
      replace hS2 := Lib.hid (show Sep _ [blk wr.heap.size 42 #[.int .i64 oid, .int .i64 otxn, .int .i64 omode, .int .i64 owant, .int .i64 osince], _, _, _, _] from hS2)
      obtain ⟨_, p0, p1, p2, p3, p4, _⟩ := hS2.out.b5
      obtain ⟨_, r0, r1, r2, r3, r4, _⟩ := hS2.out.to2.b5
      have i1 : (0 : Int) ≤ (k : Int) := by omega
      have i2 : (k : Int) < (m : Int) := by omega
      clear kk hz hkl
      go_wp2_with fail
      refine (HB2.out _).mono ?_
      rintro e w3 ⟨rfl, b3⟩
      replace hS2 := Lib.hid (hS2.out.below b3)
      generalize wr.heap.size = OB at *
      clear b3 HB2 p0 p1 p2 p3 p4 r0 r1 r2 r3 r4 z0 z1 z2 z3 z4 hS
      obtain ⟨_, p0, p1, p2, p3, p4, _⟩ := hS2.out.b5
      cases bv with
      | true =>
        rw [if_pos rfl] at E
        go_wp2_with (at_builtin; refine wpList_append_sep (hS2.out.to1.allocG _) rfl _ _ 48 rfl i0 (.int .i64 0) 8 Tryz.underlying48 hi hz0 hz1 hz2 rfl (by decide) rfl 1 [.int .i64 otxn] (SrcA.one _ _ _ _) ?c2 ?c3 ?c4 ?_)
        case c2 => simp [Value.oneCell']
        case c3 => simp only [maxLen]; omega
        case c4 => omega
        intro aa ca w5 hS5
        have hS6 : Hid (Sep w5 [vec 3 1 (.slice aa ((blkL (l.take k) q).length + 1) ca) (blkL (l.take (k + 1)) q).length ((blkL (l.take (k + 1)) q).map (Value.int .i64)), _, _, _]) := Lib.hid (by rw [E.out]; simpa using hS5.drop1)
        clear hS2 E hS5 p0 p1 p2 p3 p4
        go_wp2_with fail
        go_roundw
        case rel => exact ⟨k + 1, _, by omega, by go_num, rfl, hS6⟩
        case measure => simp [intOf]; omega
      | false =>
        rw [if_neg (by decide), List.append_nil] at E
        have hS6 : Hid (Sep w3 [vec 3 1 (.slice sa (blkL (l.take k) q).length sc) (blkL (l.take (k + 1)) q).length ((blkL (l.take (k + 1)) q).map (Value.int .i64)), _, _, _]) := Lib.hid (by rw [E.out]; exact hS2.out.tail)
        clear hS2 E p0 p1 p2 p3 p4
        go_wp2_with fail
        go_roundw
        case rel => exact ⟨k + 1, _, by omega, by go_num, rfl, hS6⟩
        case measure => simp [intOf]; omega
    · obtain rfl : k = m := by omega
      have e1 : l.take k = l := List.take_of_length_le (by rw [hm.out]; omega)
      rw [e1] at hS hkl ⊢
      clear hsn hlen hr HBl
      obtain ⟨xs, hxs⟩ : ∃ xs, blkL l q = xs := ⟨_, rfl⟩
      rw [hxs] at hS hkl ⊢
      have hR2 := hR.out
      rw [hxs] at hR2
      clear hR hxs e1
      have HS2 := Lib.hid (HSo.out sa xs.length sc xs wr _ hS.out rfl (by have := hm.out; omega))
      clear HSo
      go_wp2_with fail
      refine HS2.out.mono ?_
      rintro e w3 ⟨rfl, ys, hp, hso, hS3⟩
      have e2 := sorted_eq hp hso
      have HC2 := Lib.hid (HCo.out sa xs.length sc ys w3 _ hS3 hp.length_eq (by have := hm.out; omega))
      have e3 : Lib.compact ys = R := by rw [e2]; exact hR2
      rw [e3] at HC2
      clear HCo HS2 hS3 hS e2 e3 hR2 hp hso
      go_wp2_with fail
      refine HC2.out.mono ?_
      rintro e w4 ⟨rfl, hS4⟩
      replace hS4 := Lib.hid hS4
      clear HC2
      go_wp2_with fail
      go_ret
      exact ⟨_, _, rfl, hS4.out.drop1.drop1⟩
end Go.Proofs.YtmacpjnkmkaloaaGreat
namespace Go.Proofs.YtmacpjnkmkaloaaGreat
set_option linter.unusedSimpArgs false
set_option linter.unusedVariables false
set_option linter.unnecessarySimpa false
open Go.RowKit
theorem cpI_props (l : List Int) (hs : l.Pairwise (· ≤ ·)) : ∀ m, m ≤ l.length → (∀ e, e ∈ Lib.compactUpTo l.toArray m ↔ e ∈ l.take m) ∧ (Lib.compactUpTo l.toArray m).Pairwise (· < ·)
  | 0, _ => by simp [Lib.compactUpTo]
  | m + 1, hm => by
    obtain ⟨h1, h2⟩ := cpI_props l hs m (by omega)
    have hg : l.toArray[m]! = l[m] := by simp [show m < l.length by omega]
    have htk : l.take (m + 1) = l.take m ++ [l[m]] := List.take_succ_eq_append_getElem (by omega)
    have hle : ∀ i, ∀ h : i < m, l[i]'(by omega) ≤ l[m]'(by omega) := fun i h => List.pairwise_iff_getElem.1 hs i m (by omega) (by omega) h
    rw [Lib.compactUpTo_succ, htk, hg]
    cases hk : Lib.keeps l.toArray m with
    | false =>
      simp only [Bool.false_eq_true, if_false, List.append_nil]
      refine ⟨fun e => ?_, h2⟩
      rw [h1, List.mem_append, List.mem_singleton]
      refine ⟨.inl, fun h => h.elim id fun h => ?_⟩
      subst h
      cases m with
      | zero => simp [Lib.keeps] at hk
      | succ p =>
        have hp : l.toArray[p]! = l[p] := by simp [show p < l.length by omega]
        have he : l[p + 1] = l[p] := by
          unfold Lib.keeps at hk
          rw [Nat.add_sub_cancel, hg, hp] at hk
          simpa using hk
        rw [he]
        exact List.mem_take_iff_getElem.2 ⟨p, by omega, rfl⟩
    | true =>
      simp only [if_true]
      refine ⟨fun e => by rw [List.mem_append, List.mem_append, h1], ?_⟩
      rw [List.pairwise_append]
      refine ⟨h2, List.pairwise_singleton _ _, fun x hx y hy => ?_⟩
      rw [List.mem_singleton] at hy
      subst hy
      rw [h1] at hx
      obtain ⟨i, hi, rfl⟩ := List.mem_take_iff_getElem.1 hx
      have hi2 : i < m := by omega
      have hxm := hle i hi2
      have hne : l[i]'(by omega) ≠ l[m]'(by omega) := by
        intro heq
        cases m with
        | zero => omega
        | succ p =>
          have hp : l.toArray[p]! = l[p] := by simp [show p < l.length by omega]
          have hd : l[p + 1] ≠ l[p] := by
            unfold Lib.keeps at hk
            rw [Nat.add_sub_cancel, hg, hp] at hk
            simpa using hk
          have h3 : l[i]'(by omega) ≤ l[p]'(by omega) := by
            by_cases hip : i = p
            · subst hip
              exact Int.le_refl _
            · exact List.pairwise_iff_getElem.1 hs i p (by omega) (by omega) (by omega)
          have h4 : l[p]'(by omega) ≤ l[p + 1]'(by omega) := hle p (by omega)
          rw [heq] at h3
          exact hd (Int.le_antisymm h3 h4)
      omega
theorem srtI_pw (xs : List Int) : (xs.mergeSort fun a b => decide (a ≤ b)).Pairwise (· ≤ ·) := by
  have := List.pairwise_mergeSort (le := fun a b : Int => decide (a ≤ b)) (fun a b c h1 h2 => by simp at *; omega) (fun a b => by simp; omega) xs
  exact this.imp (fun {a b} h => by simpa using h)
theorem nrm_mem (xs : List Int) (x : Int) : x ∈ nrm xs ↔ x ∈ xs := by
  have h := (cpI_props _ (srtI_pw xs) _ (Nat.le_refl _)).1 x
  rw [List.take_length] at h
  exact h.trans (List.mergeSort_perm xs _).mem_iff
theorem nrm_pw (xs : List Int) : (nrm xs).Pairwise (· < ·) := (cpI_props _ (srtI_pw xs) _ (Nat.le_refl _)).2
/-- Strict order and members make a list. -/
theorem ltI_uniq : ∀ (l l' : List Int), l.Pairwise (· < ·) → l'.Pairwise (· < ·) → (∀ e, e ∈ l ↔ e ∈ l') → l = l'
  | [], [], _, _, _ => rfl
  | [], y :: l', _, _, h => by simpa using (h y)
  | x :: l, [], _, _, h => by simpa using (h x)
  | x :: l, y :: l', h1, h2, h => by
    rw [List.pairwise_cons] at h1 h2
    have hx := (h x).1 (by simp)
    have hy := (h y).2 (by simp)
    rw [List.mem_cons] at hx hy
    have e : x = y := by
      rcases hx with hx | hx
      · exact hx
      · rcases hy with hy | hy
        · exact hy.symm
        · have a := h2.1 x hx
          have b := h1.1 y hy
          omega
    subst e
    congr 1
    refine ltI_uniq l l' h1.2 h2.2 fun e => ?_
    have he := h e
    rw [List.mem_cons, List.mem_cons] at he
    constructor
    · intro hm
      rcases he.1 (.inr hm) with rfl | h3
      · exact absurd (h1.1 _ hm) (by omega)
      · exact h3
    · intro hm
      rcases he.2 (.inr hm) with rfl | h3
      · exact absurd (h2.1 _ hm) (by omega)
      · exact h3
/-- A number into rising ones, once. -/
def kI (l : List Int) (x : Int) : Nat := l.findIdx fun y => !decide (y < x)
def putI (l : List Int) (x : Int) : List Int := if l[kI l x]? = some x then l else l.take (kI l x) ++ [x] ++ l.drop (kI l x)
theorem kI_le (l : List Int) (x : Int) : kI l x ≤ l.length := List.findIdx_le_length
theorem kI_low (l : List Int) (x : Int) (j : Nat) (h : j < kI l x) : l.getD j 0 < x := by
  have hl := kI_le l x
  have h1 := List.not_of_lt_findIdx (p := fun y => !decide (y < x)) (xs := l) (i := j) h
  simp at h1
  simpa [List.getD, show j < l.length by omega] using h1
theorem kI_eq (l : List Int) (x : Int) (k : Nat) (hk : k ≤ l.length) (h1 : ∀ j, j < k → l.getD j 0 < x) (h2 : k < l.length → ¬ l.getD k 0 < x) : kI l x = k := by
  rcases Nat.lt_trichotomy (kI l x) k with h | h | h
  · have h3 := h1 _ h
    have hl : kI l x < l.length := by omega
    have h4 := List.findIdx_getElem (p := fun y => !decide (y < x)) (xs := l) (w := hl)
    simp at h4
    have e : l.getD (kI l x) 0 = l[kI l x] := by simp [List.getD, hl]
    rw [e] at h3
    unfold kI at h3
    omega
  · exact h
  · have := kI_low l x k h
    have hl := kI_le l x
    exact absurd this (h2 (by omega))
theorem putI_mem (l : List Int) (x y : Int) : y ∈ putI l x ↔ y ∈ l ∨ y = x := by
  unfold putI
  split
  · rename_i h
    refine ⟨.inl, fun h2 => h2.elim id fun h2 => ?_⟩
    rw [h2]
    exact List.mem_of_getElem? h
  · rw [List.mem_append, List.mem_append, List.mem_singleton]
    have : y ∈ l ↔ y ∈ l.take (kI l x) ∨ y ∈ l.drop (kI l x) := by rw [← List.mem_append, List.take_append_drop]
    rw [this]
    constructor
    · rintro ((h | h) | h)
      · exact .inl (.inl h)
      · exact .inr h
      · exact .inl (.inr h)
    · rintro ((h | h) | h)
      · exact .inl (.inl h)
      · exact .inr h
      · exact .inl (.inr h)
theorem putI_pw (l : List Int) (x : Int) (h : l.Pairwise (· < ·)) : (putI l x).Pairwise (· < ·) := by
  unfold putI
  split
  · exact h
  · rename_i hne
    have hk := kI_le l x
    have hlow : ∀ y ∈ l.take (kI l x), y < x := by
      intro y hy
      obtain ⟨i, hi, rfl⟩ := List.mem_take_iff_getElem.1 hy
      have := kI_low l x i (by omega)
      simpa [List.getD, show i < l.length by omega] using this
    have hhigh : ∀ y ∈ l.drop (kI l x), x < y := by
      intro y hy
      have hlt : kI l x < l.length := by
        rcases Nat.lt_or_ge (kI l x) l.length with h1 | h1
        · exact h1
        · rw [List.drop_eq_nil_of_le h1] at hy
          simp at hy
      have h4 := List.findIdx_getElem (p := fun y => !decide (y < x)) (xs := l) (w := hlt)
      simp at h4
      have h5 : l[kI l x] ≠ x := fun e => hne (by rw [List.getElem?_eq_getElem hlt, e])
      have h6 : x < l[kI l x] := by
        unfold kI at h5 ⊢
        omega
      obtain ⟨j, hj, rfl⟩ := List.mem_drop_iff_getElem.1 hy
      rcases Nat.eq_zero_or_pos j with rfl | hj0
      · simpa using h6
      · have := List.pairwise_iff_getElem.1 h (kI l x) (kI l x + j) hlt (by omega) (by omega)
        omega
    rw [List.append_assoc, List.pairwise_append]
    refine ⟨h.take, ?_, ?_⟩
    · rw [List.singleton_append, List.pairwise_cons]
      exact ⟨hhigh, h.drop⟩
    · intro a ha b hb
      have h1 := hlow a ha
      rw [List.singleton_append, List.mem_cons] at hb
      rcases hb with rfl | hb
      · exact h1
      · have := hhigh b hb
        omega
theorem putI_fold (L O : List Int) (h : O.Pairwise (· < ·)) : (L.foldl putI O).Pairwise (· < ·) ∧ ∀ x, x ∈ L.foldl putI O ↔ x ∈ O ∨ x ∈ L := by
  induction L generalizing O with
  | nil => exact ⟨h, by simp⟩
  | cons e l ih =>
    obtain ⟨h1, h2⟩ := ih (putI O e) (putI_pw O e h)
    refine ⟨h1, fun x => ?_⟩
    rw [List.foldl_cons, h2, putI_mem, List.mem_cons, or_assoc]
theorem putI_nrm (L : List Int) : L.foldl putI [] = nrm L := by
  obtain ⟨h1, h2⟩ := putI_fold L [] (by simp)
  exact ltI_uniq _ _ h1 (nrm_pw L) fun x => by rw [h2, nrm_mem]; simp
theorem putI_len (l : List Int) (x : Int) : (putI l x).length ≤ l.length + 1 := by
  unfold putI
  split
  · omega
  · simp only [List.length_append, List.length_take, List.length_drop, List.length_cons, List.length_nil]
    have := kI_le l x
    omega
end Go.Proofs.YtmacpjnkmkaloaaGreat
namespace Go.Proofs.YtmacpjnkmkaloaaGreat
set_option linter.unusedSimpArgs false
set_option linter.unusedVariables false
set_option linter.unnecessarySimpa false
open Go.RowKit
theorem fresh_int (w : World) : Sep (w.alloc (.cells #[] 3)) [vec 3 1 (.slice (some ⟨w.heap.size, 0, none⟩) 0 0) 0 [], old w] :=
  (Sep.start w).vec_new (World.ownsRow_made w #[] 0 (Nat.le_refl _) (Nat.zero_le _) rfl) ((Below.refl _ _).alloc (Nat.le_refl _) _)
theorem src_takeI {w : World} {g n c k : Nat} {O : List Int} {rs : List Res} (h : Sep w (vec 3 1 (.slice (some ⟨g, 0, none⟩) n c) n (O.map (Value.int .i64)) :: rs)) (hn : O.length = n) (hk : k ≤ n) : SrcA w 1 (.slice (some ⟨g, 0, none⟩) k c) k ((O.take k).map (Value.int .i64)) := by
  refine .inr ⟨_, _, rfl, by simp; omega, fun j u hj => ?_⟩
  rw [Addr.add_lit, Nat.zero_add]
  rw [List.map_take, List.getElem?_take] at hj
  split at hj
  · exact (h.vec_cell hj).1
  · cases hj
theorem src_dropI {w : World} {g n c k c' : Nat} {O : List Int} {rs : List Res} (h : Sep w (vec 3 1 (.slice (some ⟨g, 0, none⟩) n c) n (O.map (Value.int .i64)) :: rs)) (hn : O.length = n) : SrcA w 1 (.slice (some ⟨g, k, none⟩) (n - k) c') (n - k) ((O.drop k).map (Value.int .i64)) := by
  refine .inr ⟨_, _, rfl, by simp; omega, fun j u hj => ?_⟩
  rw [Addr.add_lit]
  rw [List.map_drop, List.getElem?_drop] at hj
  exact (h.vec_cell hj).1
theorem ints_one (O : List Int) : ∀ u ∈ O.map (Value.int .i64), u.oneCell' = true := by
  intro u hu
  obtain ⟨x, _, rfl⟩ := List.mem_map.1 hu
  rfl
theorem putI_new (L : List Int) (x : Int) (k : Nat) (hk : k ≤ L.length) (h1 : ∀ j, j < k → L.getD j 0 < x) (h2 : k < L.length → ¬ L.getD k 0 < x ∧ ¬ L.getD k 0 = x) : putI L x = L.take k ++ [x] ++ L.drop k := by
  have e := kI_eq L x k hk h1 (fun h => (h2 h).1)
  unfold putI
  rw [e, if_neg]
  intro h
  obtain ⟨h3, h4⟩ := List.getElem?_eq_some_iff.1 h
  exact (h2 h3).2 (by simpa [List.getD, h3] using h4)
theorem putI_old (L : List Int) (x : Int) (k : Nat) (hk : k < L.length) (h1 : ∀ j, j < k → L.getD j 0 < x) (h2 : L.getD k 0 = x) : putI L x = L := by
  have e := kI_eq L x k (by omega) h1 (fun h => by omega)
  unfold putI
  rw [e, if_pos]
  rw [List.getElem?_eq_getElem hk]
  simpa [List.getD, hk] using h2
set_option maxHeartbeats 8000000 in
set_option maxRecDepth 100000 in
theorem putR_any (a : Option Addr) (n c : Nat) (L : List Int) (x : Int) (w : World) (rs : List Res) (hS0 : Sep w (vec 3 1 (.slice a n c) n (L.map (Value.int .i64)) :: rs)) (hLn : L.length = n) (hn : n ≤ 100000) (hnil : n = 0 → a = none ∧ c = 0) :
    Calls Tryz.prog 70 #[.slice a n c, .int .i64 x] w fun e w' => ∃ a' c', e = .returned (.slice a' (putI L x).length c') ∧ Sep w' (vec 3 1 (.slice a' (putI L x).length c') (putI L x).length ((putI L x).map (Value.int .i64)) :: rs) ∧ 0 < (putI L x).length := by
  have hS := Lib.hid hS0
  obtain ⟨i0, hi0, hz0, hz1, hz2⟩ := info_parts info_intE
  have hio := Lib.hid ints_one
  have hcl : n ≤ c := by
    rcases Nat.eq_zero_or_pos n with h | h
    · omega
    · rcases hS0.gvec.2 with ⟨_, h0⟩ | ⟨g, cap, cur, hv, _, _, hnc, _⟩
      · omega
      · injection hv with _ _ e; omega
  rcases Nat.eq_zero_or_pos n with h0 | h0
  · subst h0
    obtain ⟨rfl, rfl⟩ := hnil rfl
    obtain rfl := List.eq_nil_of_length_eq_zero hLn
    rw [show putI [] x = [x] from rfl]
    clear hS0 hnil hcl
    go_enter Tryz.func70, Tryz.ntmps70
    go_wp2_with fail
    go_loopg [5] 0 (fun gm s5 W => gm = 0 ∧ s5 = .int .i64 0 ∧ W = w)
    case atStart => exact ⟨rfl, rfl, rfl⟩
    case round =>
      obtain ⟨rfl, rfl, rfl⟩ := hrel
      go_wp2_with (at_builtin; first | (refine wpList_append_sep ((fresh_int _).graft hS.out) rfl _ _ 48 rfl i0 (.int .i64 0) 8 Tryz.underlying48 hi0 hz0 hz1 hz2 rfl (by decide) rfl 0 [] (.inl ⟨rfl, rfl, rfl⟩) (by simp) (by simp only [maxLen]; omega) (by omega) ?_; intro na1 nc1 w4 q4; replace q4 := Lib.hid q4) | (refine wpList_append_sep (q4.out.allocG _) rfl _ _ 48 rfl i0 (.int .i64 0) 8 Tryz.underlying48 hi0 hz0 hz1 hz2 rfl (by decide) rfl 1 [.int .i64 x] (SrcA.one _ _ _ _) (by simp [Value.oneCell']) (by simp only [maxLen]; omega) (by omega) ?_; intro na2 nc2 w5 q5; replace q5 := Lib.hid q5) | (refine wpList_append_sep q5.out rfl _ _ 48 rfl i0 (.int .i64 0) 8 Tryz.underlying48 hi0 hz0 hz1 hz2 rfl (by decide) rfl 0 [] (.inl ⟨rfl, rfl, rfl⟩) (by simp) (by simp only [maxLen]; omega) (by omega) ?_; intro na3 nc3 w6 q6; replace q6 := Lib.hid q6))
      go_ret
      exact ⟨na3, nc3, rfl, q6.out.drop1, by simp⟩
  · obtain ⟨g, rfl⟩ : ∃ g, a = some ⟨g, 0, none⟩ := by
      rcases hS0.gvec.2 with ⟨_, h1⟩ | ⟨g, cap, cur, hv, _⟩
      · omega
      · injection hv with e1 _ _
        exact ⟨g, e1⟩
    have hnew := Lib.hid (putI_new L x)
    have hold := Lib.hid (putI_old L x)
    have hcell := Lib.hid (fun k (hk : k < n) => show w.cell? ⟨g, k, none⟩ = some (.int .i64 (L.getD k 0)) from (hS0.vec_cell (by rw [List.getElem?_map, List.getElem?_eq_getElem (show k < L.length by omega)]; simp [List.getD, show k < L.length by omega])).1)
    have hgl := (hS0.vec_cell (k := 0) (u := .int .i64 (L.getD 0 0)) (by rw [List.getElem?_map, List.getElem?_eq_getElem (show 0 < L.length by omega)]; simp [List.getD, show 0 < L.length by omega])).2.2
    have hTk := Lib.hid (show L.take n = L by rw [← hLn, List.take_length])
    have hDk := Lib.hid (show L.drop n = [] by rw [← hLn, List.drop_length])
    rw [hLn] at hnew hold
    replace hLn := Lib.hid hLn
    clear hS0 hnil
    go_enter Tryz.func70, Tryz.ntmps70
    go_wp2_with fail
    go_loopg [5] n (fun gm s5 W => ∃ k : Nat, k ≤ n ∧ gm = n - k ∧ s5 = .int .i64 k ∧ Hid (∀ j, j < k → L.getD j 0 < x) ∧ W = w)
    case atStart => exact ⟨0, Nat.zero_le _, rfl, rfl, Lib.hid (fun j h => absurd h (by omega)), rfl⟩
    case round =>
      obtain ⟨k, hk, hgm, rfl, hlow, rfl⟩ := hrel
      by_cases hlt : k < n
      · have z := hcell.out k hlt
        have hnw := Lib.hid (hnew.out k hk hlow.out)
        have hod := Lib.hid (hold.out k hlt hlow.out)
        have hlow2 := Lib.hid (fun (h : L.getD k 0 < x) j (hj : j < k + 1) => show L.getD j 0 < x from by
          rcases Nat.lt_or_ge j k with h1 | h1
          · exact hlow.out j h1
          · obtain rfl : j = k := by omega
            exact h)
        generalize L.getD k 0 = y at *
        have i1 : (0 : Int) ≤ (k : Int) := by omega
        have i2 : (k : Int) < (n : Int) := by omega
        by_cases hyx : y < x
        · have e1 : decide (y < x) = true := decide_eq_true hyx
          replace hlow2 := Lib.hid (hlow2.out hyx)
          go_wp2_with fail
          go_roundg (n - (k + 1))
          case measure => omega
          case rel => exact ⟨k + 1, by omega, rfl, by go_num, hlow2, rfl⟩
        · have e1 : decide (y < x) = false := decide_eq_false hyx
          by_cases hye : y = x
          · subst hye
            replace hod := Lib.hid (hod.out rfl)
            go_wp2_with fail
            go_ret
            exact ⟨some ⟨g, 0, none⟩, c, by rw [hod.out, hLn.out]; rfl, by rw [hod.out, hLn.out]; exact hS.out, by rw [hod.out, hLn.out]; exact h0⟩
          · have e2 : (y == x) = false := by simpa using hye
            replace hnw := Lib.hid (hnw.out (fun _ => ⟨by omega, hye⟩))
            have hkc : ¬ c = k := by omega
            have hkc2 : k ≤ c := by omega
            clear hod hlow2
            go_wp2_with (at_builtin; first | (refine wpList_append_sep ((fresh_int _).graft hS.out) rfl _ _ 48 rfl i0 (.int .i64 0) 8 Tryz.underlying48 hi0 hz0 hz1 hz2 rfl (by decide) rfl k ((L.take k).map (Value.int .i64)) (src_takeI ((fresh_int _).graft hS.out).to1 hLn.out hk) (hio.out _) (by simp only [maxLen]; omega) (by omega) ?_; intro na1 nc1 w4 q4; simp only [Nat.zero_add, List.nil_append] at q4; replace q4 := Lib.hid q4) | (refine wpList_append_sep (q4.out.allocG _) rfl _ _ 48 rfl i0 (.int .i64 0) 8 Tryz.underlying48 hi0 hz0 hz1 hz2 rfl (by decide) rfl 1 [.int .i64 x] (SrcA.one _ _ _ _) (by simp [Value.oneCell']) (by simp only [maxLen]; omega) (by omega) ?_; intro na2 nc2 w5 q5; replace q5 := Lib.hid q5) | (refine wpList_append_sep q5.out rfl _ _ 48 rfl i0 (.int .i64 0) 8 Tryz.underlying48 hi0 hz0 hz1 hz2 rfl (by decide) rfl (n - k) ((L.drop k).map (Value.int .i64)) (src_dropI q5.out.to1 hLn.out) (hio.out _) (by simp only [maxLen]; omega) (by omega) ?_; intro na3 nc3 w6 q6; replace q6 := Lib.hid q6))
            go_ret
            have hl2 : (putI L x).length = k + 1 + (n - k) := by rw [hnw.out]; simp [hLn.out]; omega
            rw [hl2]
            exact ⟨na3, nc3, rfl, by rw [hnw.out, List.map_append, List.map_append]; exact q6.out.drop1, by omega⟩
      · obtain rfl : k = n := by omega
        have hnw := Lib.hid (hnew.out k hk hlow.out (fun h => absurd h (by omega)))
        have hl2 : (putI L x).length = k + 1 := by rw [hnw.out, hTk.out, hDk.out]; simp [hLn.out]
        have hkc2 : k ≤ c := hcl
        have hk3 : ¬ (k : Int) = 0 := by omega
        by_cases hcc : c = k
        · subst hcc
          go_wp2_with (at_builtin; first | (refine wpList_append_sep ((fresh_int _).graft hS.out) rfl _ _ 48 rfl i0 (.int .i64 0) 8 Tryz.underlying48 hi0 hz0 hz1 hz2 rfl (by decide) rfl c ((L.take c).map (Value.int .i64)) (src_takeI ((fresh_int _).graft hS.out).to1 hLn.out (Nat.le_refl _)) (hio.out _) (by simp only [maxLen]; omega) (by omega) ?_; intro na1 nc1 w4 q4; simp only [Nat.zero_add, List.nil_append] at q4; replace q4 := Lib.hid q4) | (refine wpList_append_sep (q4.out.allocG _) rfl _ _ 48 rfl i0 (.int .i64 0) 8 Tryz.underlying48 hi0 hz0 hz1 hz2 rfl (by decide) rfl 1 [.int .i64 x] (SrcA.one _ _ _ _) (by simp [Value.oneCell']) (by simp only [maxLen]; omega) (by omega) ?_; intro na2 nc2 w5 q5; replace q5 := Lib.hid q5) | (refine wpList_append_sep q5.out rfl _ _ 48 rfl i0 (.int .i64 0) 8 Tryz.underlying48 hi0 hz0 hz1 hz2 rfl (by decide) rfl 0 [] (.inr ⟨_, _, rfl, rfl, fun j u hj => by simp at hj⟩) (by simp) (by simp only [maxLen]; omega) (by omega) ?_; intro na3 nc3 w6 q6; (try simp only [Nat.add_zero, List.append_nil] at q6); replace q6 := Lib.hid q6))
          go_ret
          rw [hl2]
          exact ⟨na3, nc3, rfl, by rw [hnw.out, hTk.out, hDk.out, List.append_nil, List.map_append]; have h := q6.out.drop1; rw [hTk.out] at h; exact h, by omega⟩
        · go_wp2_with (at_builtin; first | (refine wpList_append_sep ((fresh_int _).graft hS.out) rfl _ _ 48 rfl i0 (.int .i64 0) 8 Tryz.underlying48 hi0 hz0 hz1 hz2 rfl (by decide) rfl k ((L.take k).map (Value.int .i64)) (src_takeI ((fresh_int _).graft hS.out).to1 hLn.out (Nat.le_refl _)) (hio.out _) (by simp only [maxLen]; omega) (by omega) ?_; intro na1 nc1 w4 q4; simp only [Nat.zero_add, List.nil_append] at q4; replace q4 := Lib.hid q4) | (refine wpList_append_sep (q4.out.allocG _) rfl _ _ 48 rfl i0 (.int .i64 0) 8 Tryz.underlying48 hi0 hz0 hz1 hz2 rfl (by decide) rfl 1 [.int .i64 x] (SrcA.one _ _ _ _) (by simp [Value.oneCell']) (by simp only [maxLen]; omega) (by omega) ?_; intro na2 nc2 w5 q5; replace q5 := Lib.hid q5) | (refine wpList_append_sep q5.out rfl _ _ 48 rfl i0 (.int .i64 0) 8 Tryz.underlying48 hi0 hz0 hz1 hz2 rfl (by decide) rfl 0 [] (.inr ⟨_, _, rfl, rfl, fun j u hj => by simp at hj⟩) (by simp) (by simp only [maxLen]; omega) (by omega) ?_; intro na3 nc3 w6 q6; (try simp only [Nat.add_zero, List.append_nil] at q6); replace q6 := Lib.hid q6))
          go_ret
          rw [hl2]
          exact ⟨na3, nc3, rfl, by rw [hnw.out, hTk.out, hDk.out, List.append_nil, List.map_append]; have h := q6.out.drop1; rw [hTk.out] at h; exact h, by omega⟩
end Go.Proofs.YtmacpjnkmkaloaaGreat
