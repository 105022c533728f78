/-
  A pool's calls: Take, Give, Live, Has. No condition beside a pool that New made.
-/
import Derived.Test.YtbfkkghbkpbhlaaPlE
import Derived.Deep.RegionHeld3
namespace Go.Proofs.Ytbfkkghbkpbhlaa
open Go.RowKit
theorem assert_iface (v : Int) (w : World) : (Instr.typeAssert (.iface 3 (.int .i64 v)) 20 3 true).run Try.prog w = .ok (.tuple #[.int .i64 v, .bool true]) w := by kernel_rfl
set_option maxHeartbeats 1000000 in
theorem take_full (p : Nat) (lent : List Bool) (w : World) (rs : List Res) (hS : Sep w (poolR p lent :: rs)) (hf : lent.count true = lent.length) : Calls Try.prog 11 #[.pointer (some ⟨p, 0, none⟩)] w fun e w' => e = .returned (.tuple #[.int .i64 0, .int .i64 8]) ∧ w' = w := by
  obtain ⟨fa, c, xs, g, lc, hp, hS1⟩ := pool_open hS
  obtain ⟨_, c0, c1, _⟩ := hS1.b2
  have h0 : xs.length = 0 := by have := hp.cnt; omega
  have HN := Lib.hid (fun W => len_any fa xs.length c W)
  rw [h0] at HN c0
  clear hp hS hS1 hf
  go_enter Try.func11, Try.ntmps11
  go_wp2_with fail
  refine (HN.out _).mono ?_
  rintro e w1 ⟨rfl, rfl⟩
  go_wp2_with fail
  go_ret2
  exact ⟨rfl, rfl⟩
set_option maxHeartbeats 1000000 in
theorem take_some (p : Nat) (lent : List Bool) (w : World) (rs : List Res) (hS : Sep w (poolR p lent :: rs)) (hf : lent.count true < lent.length) (hm : lent.length ≤ 128) : Calls Try.prog 11 #[.pointer (some ⟨p, 0, none⟩)] w fun e w' => ∃ k : Nat, e = .returned (.tuple #[.int .i64 k, .int .i64 0]) ∧ k < lent.length ∧ lent.getD k false = false ∧ (∀ j, j < k → lent.getD j false = true) ∧ Sep w' (poolR p (lent.set k true) :: rs) := by
  obtain ⟨fa, c, xs, g, lc, hp, hS1⟩ := pool_open hS
  have hcn := hp.cnt
  have h0 : 0 < xs.length := by omega
  obtain ⟨ga, rfl⟩ := vec_some hS1.to1 h0
  obtain ⟨k, hk, hv, hb, hall, hok⟩ := take_ok hp h0
  obtain ⟨n, hn⟩ : ∃ n, xs.length = n + 1 := ⟨xs.length - 1, by omega⟩
  have hpl : (popL xs).length = n := by
    have := (pop_all xs hp.heap h0 hp.inj).2.2.2.1
    rw [this, hn]
    rfl
  have HN := Lib.hid (fun W => len_any (some ⟨ga, 0, none⟩) xs.length c W)
  rw [hn] at hS1 HN
  have HP := Lib.hid (hpop_any p ga n c _ xs w _ hS1 hn (by omega) (by have := hp.heap; rw [hn] at this; exact this) hp.inj)
  rw [hv] at HP
  obtain ⟨_, c0, c1, _⟩ := hS1.b2
  have ta := fun W => assert_iface k W
  have i1 : ((n + 1 : Nat) : Int) ≠ 0 := by omega
  have i2 : ((((n + 1 : Nat) : Int)) == 0) = false := beq_eq_false_iff_ne.2 i1
  have i3 : (0 : Int) ≤ (k : Int) := by omega
  have i4 : (k : Int) < (lent.length : Int) := by omega
  replace hok := Lib.hid hok
  replace hall := Lib.hid hall
  replace hpl := Lib.hid hpl
  generalize hL : lent.length = L at *
  generalize popL xs = ys at *
  clear hp hS hS1 hf hv hn h0 hcn
  go_enter Try.func11, Try.ntmps11
  go_wp2_with fail
  refine (HN.out _).mono ?_
  rintro e w1 ⟨rfl, rfl⟩
  go_wp2_with fail
  refine HP.out.mono ?_
  rintro e w2 ⟨rfl, hS2⟩
  replace hS2 := Lib.hid hS2
  clear HP HN c0 c1
  obtain ⟨_, c0, c1, _⟩ := hS2.out.b2
  obtain ⟨x0, x1, _⟩ := hS2.out.to2.vec_cell (bools_at lent k (by rw [hL]; exact hk))
  go_wp2_with fail
  go_ret2
  refine ⟨k, rfl, hk, hb, hall.out, pool_close (fa := some ⟨ga, 0, none⟩) (c := c) (xs := ys) (g := g) (lc := lc) hok.out ?_⟩
  have h3 := (hS2.out.to2.vec_set (k := k) (by simp [bools]; omega) (.bool true))
  rw [bools_set] at h3
  rw [hpl.out, List.length_set, hL]
  exact h3.to1.to2.to1
theorem has_any (p : Nat) (lent : List Bool) (id : Int) (w : World) (rs : List Res) (hS : Sep w (poolR p lent :: rs)) : Calls Try.prog 15 #[.pointer (some ⟨p, 0, none⟩), .int .i64 id] w fun e w' => e = .returned (.bool (decide (0 ≤ id) && (decide (id < lent.length) && lent.getD id.toNat false))) ∧ w' = w := by
  obtain ⟨fa, c, xs, g, lc, hp, hS1⟩ := pool_open hS
  obtain ⟨_, c0, c1, _⟩ := hS1.b2
  by_cases h0 : 0 ≤ id
  · obtain ⟨k, rfl⟩ := Int.eq_ofNat_of_zero_le h0
    by_cases h1 : (k : Int) < lent.length
    · obtain ⟨x0, x1, _⟩ := hS1.to2.vec_cell (bools_at lent k (by omega))
      rw [decide_eq_true h0, decide_eq_true h1, Bool.true_and, Bool.true_and, Int.toNat_natCast]
      generalize lent.getD k false = y at *
      generalize lent.length = L at *
      clear hp hS hS1
      cases y
      all_goals
        go_enter Try.func15, Try.ntmps15
        go_wp2_with fail
        go_ret
        exact ⟨rfl, rfl⟩
    · rw [decide_eq_true h0, decide_eq_false h1]
      generalize lent.length = L at *
      clear hp hS hS1
      go_enter Try.func15, Try.ntmps15
      go_wp2_with fail
      go_ret
      exact ⟨rfl, rfl⟩
  · rw [decide_eq_false h0]
    clear hp hS hS1
    go_enter Try.func15, Try.ntmps15
    go_wp2_with fail
    go_ret
    exact ⟨rfl, rfl⟩
theorem give_no (p : Nat) (lent : List Bool) (id : Int) (w : World) (rs : List Res) (hS : Sep w (poolR p lent :: rs)) (hn : (decide (0 ≤ id) && (decide (id < lent.length) && lent.getD id.toNat false)) = false) : Calls Try.prog 12 #[.pointer (some ⟨p, 0, none⟩), .int .i64 id] w fun e w' => e = .returned (.int .i64 5) ∧ w' = w := by
  have HH := Lib.hid (has_any p lent id w rs hS)
  rw [hn] at HH
  clear hS hn
  go_enter Try.func12, Try.ntmps12
  go_wp2_with fail
  refine HH.out.mono ?_
  rintro e w1 ⟨rfl, rfl⟩
  go_wp2_with fail
  go_ret
  exact ⟨rfl, rfl⟩
set_option maxHeartbeats 1000000 in
theorem give_yes (p : Nat) (lent : List Bool) (k : Nat) (w : World) (rs : List Res) (hS : Sep w (poolR p lent :: rs)) (hk : k < lent.length) (hb : lent.getD k false = true) (hm : lent.length ≤ 128) : Calls Try.prog 12 #[.pointer (some ⟨p, 0, none⟩), .int .i64 k] w fun e w' => e = .returned (.int .i64 0) ∧ Sep w' (poolR p (lent.set k false) :: rs) := by
  have HH := Lib.hid (has_any p lent k w rs hS)
  rw [decide_eq_true (show (0 : Int) ≤ (k : Int) by omega), decide_eq_true (show (k : Int) < (lent.length : Int) by omega), Int.toNat_natCast, hb] at HH
  obtain ⟨fa, c, xs, g, lc, hp, hS1⟩ := pool_open hS
  have hok := Lib.hid (give_ok hp hk hb)
  have hxl : xs.length ≤ 127 := by
    have h1 := hp.cnt
    have h2 := count_dn lent k hk hb
    omega
  have hpl := Lib.hid (push_all xs k hp.heap).2.1
  obtain ⟨_, c0, c1, _⟩ := hS1.b2
  obtain ⟨x0, x1, _⟩ := hS1.to2.vec_cell (bools_at lent k hk)
  have h3 := (hS1.to2.vec_set (k := k) (by simp [bools]; omega) (.bool false))
  rw [bools_set] at h3
  have HP := Lib.hid (hpush_any p fa xs.length c _ xs k _ _ h3.to1.to2.to1 rfl (by omega))
  have i3 : (0 : Int) ≤ (k : Int) := by omega
  have i4 : (k : Int) < (lent.length : Int) := by omega
  generalize hL : lent.length = L at *
  clear hp hS hS1 hb h3
  go_enter Try.func12, Try.ntmps12
  go_wp2_with fail
  refine HH.out.mono ?_
  rintro e w1 ⟨rfl, rfl⟩
  go_wp2_with fail
  refine HP.out.mono ?_
  rintro e w2 ⟨rfl, g', c', hS2⟩
  replace hS2 := Lib.hid hS2
  go_wp2_with fail
  go_ret
  refine ⟨rfl, pool_close (fa := some ⟨g', 0, none⟩) (c := c') (xs := pushL xs k) (g := g) (lc := lc) hok.out ?_⟩
  rw [hpl.out, List.length_set, hL]
  exact hS2.out
theorem len_same (a : Option Addr) (n c : Nat) (w : World) : Calls Try.prog 26 #[.slice a n c] w fun e w' => e = .returned (.int .i64 n) ∧ w' = w := (len_any a n c w).mono fun _ _ h => ⟨h.1, h.2.symm⟩
theorem live_any (p : Nat) (lent : List Bool) (w : World) (rs : List Res) (hS : Sep w (poolR p lent :: rs)) (hm : lent.length ≤ 128) : Calls Try.prog 13 #[.pointer (some ⟨p, 0, none⟩)] w fun e w' => e = .returned (.int .i64 (lent.count true)) ∧ ∃ m, w' = w.drewN m := by
  obtain ⟨fa, c, xs, g, lc, hp, hS1⟩ := pool_open hS
  obtain ⟨_, c0, c1, _⟩ := hS1.b2
  have hc := hp.cnt
  have E : (lent.length : Int) - (xs.length : Int) = (lent.count true : Int) := by omega
  generalize lent.count true = q at *
  generalize lent.length = L at *
  generalize xs.length = n at *
  have HN := Lib.hid (fun W => len_same fa n c W)
  clear hp hS hS1
  replace E := Lib.hid E
  go_enter Try.func13, Try.ntmps13
  go_wp2_with fail
  go_quiet (first | (go_at_call 26; with_reducible exact Calls.quiet_of_same (HN.out _)))
  go_wp2_with fail
  go_ret
  exact ⟨congrArg (fun x => Ending.returned (.int .i64 x)) (by have := E.out; first | omega | (simp only [wrap64]; omega)), _, rfl⟩
end Go.Proofs.Ytbfkkghbkpbhlaa
