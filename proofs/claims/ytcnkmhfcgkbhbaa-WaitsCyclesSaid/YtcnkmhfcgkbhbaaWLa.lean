/-
  The statements' helpers of waits: Reach, Acyclic, some, in. No condition beside lists that can be read.
-/
import Derived.Test.YtcnkmhfcgkbhbaaWCy
import Derived.Test.YtcnkmhfcgkbhbaaSame
namespace Go.Proofs.Ytcnkmhfcgkbhbaa
open Go.RowKit
theorem reachL_any (v : Value) (L : List Ed) (fr : Int) (w : World) (hv : RL w v 2 L.length (L.flatMap Ed.cells)) (hl : L.length ≤ 1000) :
    Calls Try.prog 15 #[v, .int .i64 fr] w fun e w' => ∃ a c, e = .returned (.slice a (rcL L fr).length c) ∧ Sep w' [vec 3 1 (.slice a (rcL L fr).length c) (rcL L fr).length ((rcL L fr).map (Value.int .i64)), old w] := by
  refine (reach_any v L fr w hv hl).mono ?_
  rintro e w' ⟨a, c, bk, rfl, hb, _, q⟩
  obtain rfl := wyN_of hb
  rw [rcL_len]
  exact ⟨a, c, rfl, q⟩
theorem acyclic_any (v : Value) (L : List Ed) (w : World) (hv : RL w v 2 L.length (L.flatMap Ed.cells)) (hl : L.length ≤ 1000) :
    Calls Try.prog 12 #[v] w fun e w' => e = .returned (.bool !(cyc L).2) ∧ Below w.heap.size w w' := by
  have HC := Lib.hid (cycle_any v L w hv hl)
  clear hv
  go_enter Try.func12, Try.ntmps12
  go_wp2_with fail
  refine HC.out.mono ?_
  rintro e w1 ⟨a, c, rfl, q⟩
  replace q := Lib.hid q
  clear HC
  go_wp2_with fail
  go_ret
  exact ⟨rfl, q.out.tail.gold⟩
def someI (xs ys : List Int) : Bool := ys.all fun y => xs.any fun z => z == y
def someK (xs ys : List Int) (k : Nat) : Bool := (ys.take k).all fun y => xs.any fun z => z == y
theorem some_any (u v : Value) (xs ys : List Int) (w : World) (hn : xs.length ≤ 1000) (hm : ys.length ≤ 1000) (hu : RI w u xs) (hv : RI w v ys) :
    Calls Try.prog 17 #[u, v] w fun e w' => e = .returned (.bool (someI xs ys)) ∧ ∃ m, w' = w.drewN m := by
  obtain ⟨a, c, rfl, hr⟩ := hu
  obtain ⟨a', c', rfl, hr'⟩ := hv
  have HR := Lib.hid hr
  have HR' := Lib.hid hr'
  clear hr hr'
  generalize hl : xs.length = n at *
  generalize hl2 : ys.length = n2 at *
  have hl := Lib.hid hl
  have hl2 := Lib.hid hl2
  go_enter Try.func17, Try.ntmps17
  go_wp2
  go_loopg [5] n2 (fun gm s5 W => ∃ k : Nat, k ≤ n2 ∧ gm = n2 - k ∧ s5 = .int .i64 k ∧ Hid (someK xs ys k = true) ∧ ∃ m, W = w.drewN m)
  case atStart => exact ⟨0, Nat.zero_le _, rfl, rfl, Lib.hid rfl, 0, rfl⟩
  case round =>
    obtain ⟨k, hk, hgm, rfl, hK, m, rfl⟩ := hrel
    by_cases hlt : k < n2
    · obtain ⟨b', off', rfl, _, hc'⟩ := HR'.out (by omega)
      have z' := hc' k hlt
      have hs := Lib.hid (show someK xs ys (k + 1) = (someK xs ys k && xs.any fun z => z == ys.getD k 0) by
        have : ys.getD k 0 = ys[k]'(by rw [hl2.out]; exact hlt) := by simp [List.getD, show k < ys.length by rw [hl2.out]; exact hlt]
        unfold someK
        rw [this, List.take_succ_eq_append_getElem (by rw [hl2.out]; exact hlt), List.all_append]
        simp)
      rw [hK.out, Bool.true_and] at hs
      clear hc'
      generalize ys.getD k 0 = y at *
      have i1 : (0 : Int) ≤ (k : Int) := by omega
      have i2 : (k : Int) < (n2 : Int) := by omega
      go_wp2_with fail
      go_loopg [6, 7] n (fun gm s6 s7 W => ∃ (j : Nat) (bb : Bool), j ≤ n ∧ gm = n - j ∧ s6 = .bool bb ∧ Hid (bb = (xs.take j).any fun z => z == y) ∧ s7 = .int .i64 j ∧ ∃ m, W = w.drewN m)
      case atStart => exact ⟨0, false, Nat.zero_le _, rfl, rfl, Lib.hid rfl, rfl, m, rfl⟩
      case round =>
        obtain ⟨j, bb, hj, hg2, rfl, hb, rfl, m, rfl⟩ := hrel
        by_cases hlt2 : j < n
        · obtain ⟨b, off, rfl, _, hc⟩ := HR.out (by omega)
          have z := hc j hlt2
          have hs2 := Lib.hid (show ((xs.take (j + 1)).any fun z => z == y) = (bb || (xs.getD j 0 == y)) by
            have : xs.getD j 0 = xs[j]'(by rw [hl.out]; exact hlt2) := by simp [List.getD, show j < xs.length by rw [hl.out]; exact hlt2]
            rw [this, List.take_succ_eq_append_getElem (by rw [hl.out]; exact hlt2), List.any_append, hb.out]
            simp)
          clear hc
          generalize xs.getD j 0 = x at *
          have j1 : (0 : Int) ≤ (j : Int) := by omega
          have j2 : (j : Int) < (n : Int) := by omega
          cases bb with
          | true =>
            go_wp2_with fail
            go_quiet (fail)
            go_wp2_with fail
            go_roundg (n - (j + 1))
            case measure => omega
            case rel => exact ⟨j + 1, true, by omega, rfl, rfl, Lib.hid (by rw [hs2.out]; rfl), by go_num, _, rfl⟩
          | false =>
            go_wp2_with fail
            go_quiet (fail)
            go_wp2_with fail
            go_roundg (n - (j + 1))
            case measure => omega
            case rel => exact ⟨j + 1, (x == y), by omega, rfl, rfl, Lib.hid (by rw [hs2.out]; rfl), by go_num, _, rfl⟩
        · have hjn : j = n := by omega
          rw [show xs.take j = xs by rw [hjn, ← hl.out, List.take_length]] at hb
          cases bb with
          | true =>
            go_wp2_with fail
            go_roundg (n2 - (k + 1))
            case measure => omega
            case rel => exact ⟨k + 1, by omega, rfl, by go_num, Lib.hid (by rw [hs.out, ← hb.out]), _, rfl⟩
          | false =>
            go_wp2_with fail
            go_ret
            have h : someI xs ys = false := by
              cases h1 : someI xs ys with
              | false => rfl
              | true =>
                exfalso
                have h2 : someK xs ys (k + 1) = true := by
                  unfold someI at h1
                  unfold someK
                  rw [List.all_eq_true] at h1 ⊢
                  exact fun q hq => h1 q (List.mem_of_mem_take hq)
                rw [hs.out, ← hb.out] at h2
                cases h2
            rw [h]
            exact ⟨rfl, _, rfl⟩
    · have hkn : k = n2 := by omega
      have h : someI xs ys = true := by
        have h1 := hK.out
        unfold someK at h1
        rw [hkn, ← hl2.out, List.take_length] at h1
        exact h1
      go_wp2_with fail
      go_ret
      rw [h]
      exact ⟨rfl, _, rfl⟩
theorem someI_iff (xs ys : List Int) : someI xs ys = true ↔ ∀ y ∈ ys, y ∈ xs := by
  unfold someI
  rw [List.all_eq_true]
  constructor
  · intro h y hy
    have := h y hy
    rw [List.any_eq_true] at this
    obtain ⟨z, hz, he⟩ := this
    simp only [beq_iff_eq] at he
    exact he ▸ hz
  · intro h y hy
    rw [List.any_eq_true]
    exact ⟨y, h y hy, by simp⟩
end Go.Proofs.Ytcnkmhfcgkbhbaa
