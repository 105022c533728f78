/-
  The contract of Pick; a slice of structs of ints as it comes in. No condition.
-/
import Derived.Test.YtdpolejbceoldaaDoorBase
namespace Go.Proofs.YtdpolejbceoldaaDoor
open Go.RowKit
theorem pick_any (n m : Int) (h1 : 1 ≤ m) (h2 : m ≤ 1000000) (w : World) :
   Calls Tryd.prog 9 #[.int .i64 n, .int .i64 m] w fun e w' => e = .returned (.int .i64 (n % m)) ∧ w = w' := by
  have hm : ¬ m < 1 := by omega
  have h3 : ¬ m = 0 := by omega
  have hm0 : (m == 0) = false := by simpa using h3
  have ew : IntKind.i64.wrap (n.tmod m) = n.tmod m := by
    apply IntWalk.i64_in
    have := Int.tmod_lt_of_pos n (show 0 < m by omega)
    have := Int.lt_tmod_of_pos n (show 0 < m by omega)
    omega
  have e1 : n.tmod m < 0 → n % m = n.tmod m + m := by
    intro h
    have h4 := Int.tmod_eq_emod (a := n) (b := m)
    split at h4
    · have := Int.emod_nonneg n h3; omega
    · omega
  have e2 : ¬ n.tmod m < 0 → n % m = n.tmod m := by
    intro h
    have h4 := Int.tmod_eq_emod (a := n) (b := m)
    split at h4
    · omega
    · have := Int.emod_lt_of_pos n (show 0 < m by omega); omega
  have hl := Int.lt_tmod_of_pos n (show 0 < m by omega)
  have hl2 := Int.tmod_lt_of_pos n (show 0 < m by omega)
  by_cases h : n.tmod m < 0
  · have E := Lib.hid (e1 h)
    clear e1 e2
    go_enter Tryd.func9, Tryd.ntmps9
    go_wp2
    go_ret
    refine ⟨?_, rfl⟩
    rw [E.out]
    exact congrArg (fun x => Ending.returned (.int .i64 x)) (by first | rfl | (simp only [wrap64]; omega))
  · have E := Lib.hid (e2 h)
    clear e1 e2
    go_enter Tryd.func9, Tryd.ntmps9
    go_wp2
    go_ret
    refine ⟨?_, rfl⟩
    rw [E.out]
    rfl
/-- Pick answers a number below m. -/
structure Picks (n m : Int) (k : Nat) : Prop where
  lt : (k : Int) < m
  eq : Hid ((k : Int) = n % m)
  run : Hid (∀ w : World, Calls Tryd.prog 9 #[.int .i64 n, .int .i64 m] w fun e w' => e = .returned (.int .i64 k) ∧ w = w')
  quiet : Hid (∀ w : World, Calls Tryd.prog 9 #[.int .i64 n, .int .i64 m] w fun e w' => e = .returned (.int .i64 k) ∧ w' = w)
theorem pick_nat (n m : Int) (h1 : 1 ≤ m) (h2 : m ≤ 1000000) : ∃ k : Nat, Picks n m k := by
  have hb1 := Int.emod_nonneg n (show m ≠ 0 by omega)
  have hb2 := Int.emod_lt_of_pos n (show 0 < m by omega)
  obtain ⟨k, hk⟩ := Int.eq_ofNat_of_zero_le hb1
  exact ⟨k, by omega, hk.symm, fun w => by rw [← hk]; exact pick_any n m (by omega) (by omega) w, fun w => by rw [← hk]; exact (pick_any n m (by omega) (by omega) w).mono fun _ _ h => ⟨h.1, h.2.symm⟩⟩

end Go.Proofs.YtdpolejbceoldaaDoor
