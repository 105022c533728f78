/-
  The contracts of slices.Equal at requests and of the program's Same. No condition beside requests that can be read.
-/
import Derived.Test.YtmacpjnkmkaloaaQChk
import Derived.Test.YtmacpjnkmkaloaaQSame
namespace Go.Proofs.Ytmacpjnkmkaloaa
open Go.RowKit
theorem run_eql_nameQ (a0 a1 b0 b1 : Int) (w : World) :
    (binOp .eql 23 (.agg #[.int .i64 a0, .int .i64 a1]) (.agg #[.int .i64 b0, .int .i64 b1])).run Try.prog w = .ok (.bool (a0 == b0 && a1 == b1)) w := by
  have h := equalIn_name 9998 a0 a1 b0 b1 w
  simp only [binOp]
  simp [Op.equal, Op.maxDepth, h]
set_option maxHeartbeats 1000000 in
theorem equalQ_any (u v : Value) (l l' : List Rq) (w : World) (hu : RQ w u l) (hv : RQ w v l') (hl : l.length ≤ 1000) :
    Calls Try.prog 54 #[u, v] w fun e w' => e = .returned (.bool (decide (l = l'))) ∧ Below w.heap.size w w' := by
  obtain ⟨a, c, rfl, hlc, _, hr⟩ := hu
  obtain ⟨a', c', rfl, hlc', _, hr'⟩ := hv
  by_cases hlen : l.length = l'.length
  · have hn2 := fun a0 a1 a2 a3 a4 b0 b1 b2 b3 b4 w => run_neq_req a0 a1 a2 a3 a4 b0 b1 b2 b3 b4 w
    have hne := Lib.hid (fun k (_ : k < l.length) (h : l.getD k default ≠ l'.getD k default) => (show decide (l = l') = false from decide_eq_false (fun e => h (by rw [e]))))
    have heq := Lib.hid (fun (h : ∀ j, j < l.length → l.getD j default = l'.getD j default) => (show decide (l = l') = true from decide_eq_true (by
      apply List.ext_getElem hlen
      intro j h1 h2
      have := h j h1
      simpa [List.getD, h1, h2] using this)))
    obtain ⟨R, hR⟩ : ∃ R, decide (l = l') = R := ⟨_, rfl⟩
    rw [hR] at hne heq ⊢
    rw [← hlen] at hr' hlc' ⊢
    replace hr := Lib.hid hr
    replace hr' := Lib.hid hr'
    clear hR hlen
    have hS := Lib.hid (Sep.start w)
    generalize hm : l.length = m at *
    replace hm := Lib.hid hm
    go_enter Try.func54, Try.ntmps54
    go_wp2_with fail
    go_loopw [13] (fun x wr => ∃ k : Nat, k ≤ m ∧ x = .int .i64 k ∧ Hid (∀ j, j < k → l.getD j default = l'.getD j default) ∧ Hid (Sep wr [old w])) (fun x _ => m - (intOf x).toNat)
    case atStart => exact ⟨0, Nat.zero_le _, rfl, Lib.hid (fun j hj => absurd hj (by omega)), hS⟩
    case round =>
      clear hS
      obtain ⟨k, hk, rfl, hok, hS⟩ := hrel
      by_cases hlt : k < m
      · obtain ⟨b, off, rfl, hbl, hz⟩ := hr.out (by omega)
        obtain ⟨b', off', rfl, hbl', hz'⟩ := hr'.out (by omega)
        obtain ⟨z0, z1, z2, z3, z4⟩ := hz k (by omega)
        obtain ⟨v0, v1, v2, v3, v4⟩ := hz' k (by omega)
        rw [← hS.out.gold.cell (by exact hbl)] at z0 z1 z2 z3 z4
        rw [← hS.out.gold.cell (by exact hbl')] at v0 v1 v2 v3 v4
        have hself := reqB_eq (l.getD k default) (l'.getD k default)
        have hne2 := Lib.hid (hne.out k hlt)
        have hok2 := Lib.hid (fun (h : l.getD k default = l'.getD k default) => (show ∀ j, j < k + 1 → l.getD j default = l'.getD j default from fun j hj => by
          by_cases hjk : j = k
          · subst hjk; exact h
          · exact hok.out j (by omega)))
        have i1 : (0 : Int) ≤ (k : Int) := by omega
        have i2 : (k : Int) < (m : Int) := by omega
        clear hz hz' hok
        by_cases hq : l.getD k default = l'.getD k default
        · replace hok2 := Lib.hid (hok2.out hq)
          rw [← hq] at hself v0 v1 v2 v3 v4
          clear hne2 hq
          generalize l.getD k default = q at *
          obtain ⟨id, txn, mode, want, since⟩ := q
          simp only [decide_true] at hself z0 z1 z2 z3 z4 v0 v1 v2 v3 v4
          go_wp2_with fail
          go_quiet (fail)
          go_wp2_with fail
          go_roundw
          case rel => exact ⟨k + 1, by omega, by go_num, hok2, Lib.hid (hS.out.drewN _)⟩
          case measure => simp [intOf]; omega
        · have hRf : R = false := hne2.out hq
          subst hRf
          rw [decide_eq_false hq] at hself
          clear hne2 hok2 hne heq hq
          generalize l.getD k default = q at *
          generalize l'.getD k default = q' at *
          obtain ⟨id, txn, mode, want, since⟩ := q
          obtain ⟨id', txn', mode', want', since'⟩ := q'
          simp only at hself z0 z1 z2 z3 z4 v0 v1 v2 v3 v4
          go_wp2_with fail
          go_quiet (fail)
          go_wp2_with fail
          go_ret
          exact ⟨rfl, (hS.out.drewN _).gold⟩
      · have hRt : R = true := heq.out (fun j hj => hok.out j (by omega))
        subst hRt
        clear hne heq
        go_wp2_with fail
        go_ret
        exact ⟨rfl, hS.out.gold⟩
  · rw [decide_eq_false (fun e => hlen (by rw [e]))]
    have d1 : ((l.length : Int) != (l'.length : Int)) = true := by simp; omega
    have d2 : ¬ (l.length : Int) = (l'.length : Int) := by omega
    have hS := Lib.hid (Sep.start w)
    clear hr hr'
    go_enter Try.func54, Try.ntmps54
    go_wp2_with fail
    go_ret
    exact ⟨rfl, hS.out.gold⟩
def sameV (t r n : Int) (l : List Rq) (t' r' n' : Int) (l' : List Rq) : Bool := (t == t' && r == r') && (n == n' && decide (l = l'))
set_option maxHeartbeats 1000000 in
theorem sameP_any (t r n t' r' n' : Int) (u v : Value) (l l' : List Rq) (w : World) (hu : RQ w u l) (hv : RQ w v l') (hl : l.length ≤ 1000) :
    Calls Try.prog 24 #[hval t r u n, hval t' r' v n'] w fun e w' => e = .returned (.bool (sameV t r n l t' r' n' l')) ∧ Below w.heap.size w w' := by
  have hn1 := fun a0 a1 b0 b1 w => run_eql_nameQ a0 a1 b0 b1 w
  have HE := Lib.hid (fun W hb => equalQ_any u v l l' W (hu.below hb) (hv.below hb) hl)
  obtain ⟨a, c, rfl, _⟩ := hu
  obtain ⟨a', c', rfl, _⟩ := hv
  have hB := Lib.hid (boxes2 w 26 26 #[.int .i64 t, .int .i64 r, .slice a l.length c, .int .i64 n] #[.int .i64 t', .int .i64 r', .slice a' l'.length c', .int .i64 n'])
  unfold hval sameV
  generalize decide (l = l') = x at *
  cases h1 : (t == t' && r == r') with
  | false =>
    clear HE
    go_enter Try.func24, Try.ntmps24
    go_wp2_with fail
    go_ret
    exact ⟨rfl, hB.out.tail.tail.gold⟩
  | true =>
    cases h2 : n == n' with
    | false =>
      clear HE
      go_enter Try.func24, Try.ntmps24
      go_wp2_with fail
      go_ret
      exact ⟨rfl, hB.out.tail.tail.gold⟩
    | true =>
      go_enter Try.func24, Try.ntmps24
      go_wp2_with fail
      refine (HE.out _ hB.out.tail.tail.gold).mono ?_
      rintro e w1 ⟨rfl, b1⟩
      replace hB := Lib.hid (hB.out.below b1)
      clear b1 HE
      go_wp2_with fail
      go_ret
      exact ⟨by first | rfl | simp, hB.out.tail.tail.gold⟩
end Go.Proofs.Ytmacpjnkmkaloaa
