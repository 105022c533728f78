/-
  The contract of Same at int, whatever the lists. No condition.
-/
import Derived.Test.YtbfkkghbkpbhlaaBase
namespace Go.Proofs.Ytbfkkghbkpbhlaa
open Go.RowKit
theorem list_ext0 {xs ys : List Int} (hl : xs.length = ys.length) (h : ∀ j, j < xs.length → xs.getD j 0 = ys.getD j 0) : xs = ys := by
  apply List.ext_getElem hl
  intro i h1 h2
  have := h i h1
  rw [getD_lt h1, getD_lt h2] at this
  exact this
theorem same_any (u v : Value) (xs ys : List Int) (w : World) (hn : xs.length ≤ 1000) (hm : ys.length ≤ 1000) (hu : RI w u xs) (hv : RI w v ys) :
   Calls Try.prog 17 #[u, v] w fun e w' => e = .returned (.bool (decide (xs = ys))) ∧ ∃ m, w' = w.drewN m := by
  obtain ⟨a, c, rfl, hr⟩ := hu
  obtain ⟨a', c', rfl, hr'⟩ := hv
  have HR := Lib.hid hr
  have HR' := Lib.hid hr'
  clear hr hr'
  by_cases hlen : xs.length = ys.length
  · have hne := Lib.hid (fun (k : Nat) (hk : k < xs.length) (h : xs.getD k 0 ≠ ys.getD k 0) => (show decide (xs = ys) = false from decide_eq_false (fun e => h (by rw [e]))))
    have heq := Lib.hid (fun (h : ∀ j, j < xs.length → xs.getD j 0 = ys.getD j 0) => (show decide (xs = ys) = true from decide_eq_true (list_ext0 hlen h)))
    rw [← hlen] at HR' ⊢
    generalize hl : xs.length = n at *
    clear hl hlen hm
    generalize decide (xs = ys) = b at *
    go_enter Try.func17, Try.ntmps17
    go_wp2
    go_loopw [5] (fun i w1 => ∃ k : Nat, k ≤ n ∧ i = .int .i64 k ∧ Hid (∀ j, j < k → xs.getD j 0 = ys.getD j 0) ∧ ∃ m, w1 = w.drewN m) (fun i _ => n - (intOf i).toNat)
    case atStart => exact ⟨0, Nat.zero_le _, rfl, fun j hj => absurd hj (by omega), 0, rfl⟩
    case round =>
      obtain ⟨k, hk, rfl, hp, m, rfl⟩ := hrel
      by_cases hlt : k < n
      · obtain ⟨b1, off, rfl, _, hc⟩ := HR.out (by omega)
        obtain ⟨b2, off', rfl, _, hc'⟩ := HR'.out (by omega)
        have h1 := hc k hlt
        have h2 := hc' k hlt
        clear hc hc' HR HR'
        have hne' := Lib.hid (hne.out k hlt)
        have hp' := Lib.hid (fun (h : xs.getD k 0 = ys.getD k 0) (j : Nat) (hj : j < k + 1) => (show xs.getD j 0 = ys.getD j 0 from by
          by_cases e : j = k
          · rw [e]; exact h
          · exact hp.out j (by omega)))
        clear hne heq
        generalize xs.getD k 0 = x at *
        generalize ys.getD k 0 = y at *
        cases he : x == y with
        | true =>
          have he' := eq_of_beq he
          subst he'
          have hp2 := Lib.hid (hp'.out rfl)
          clear he hne' hp'
          go_wp2_with fail
          go_quiet (fail)
          go_wp2_with fail
          go_roundw
          case rel => exact ⟨k+1, by omega, by go_num, hp2, _, rfl⟩
          case measure => simp [intOf]; omega
        | false =>
          have hx : ¬ x = y := fun e => by rw [e] at he; simp at he
          have hb := Lib.hid (hne'.out hx)
          have he2 : (x != y) = true := bne_iff_ne.2 hx
          clear hne' hp'
          go_wp2_with fail
          go_quiet (fail)
          go_wp2_with fail
          go_ret
          exact ⟨by rw [hb.out]; rfl, m + nq, by first | rfl | simp [World.drewN, Nat.add_assoc]⟩
      · obtain rfl : k = n := by omega
        have hb := Lib.hid (heq.out hp.out)
        clear hne heq
        go_wp2
        go_ret
        exact ⟨by rw [hb.out]; rfl, _, rfl⟩
  · have hb := Lib.hid (show decide (xs = ys) = false from decide_eq_false (fun e => hlen (by rw [e])))
    have i1 : ¬ ((xs.length : Int) = (ys.length : Int)) := by omega
    generalize decide (xs = ys) = b at *
    go_enter Try.func17, Try.ntmps17
    go_wp2
    go_ret
    exact ⟨by rw [hb.out]; rfl, 0, rfl⟩
end Go.Proofs.Ytbfkkghbkpbhlaa
