import Derived.Test.YtidhhadelgdeiaaApart
namespace Go.Proofs.Ytidhhadelgdeiaa
open Go.RowKit

/-- The value v is a slice of int that reads as xs. -/
def RI (w : World) (v : Value) (xs : List Int) : Prop :=
  ∃ a c, v = .slice a xs.length c ∧ (0 < xs.length → ∃ b off, a = some ⟨b, off, none⟩ ∧ b < w.heap.size ∧ ∀ j (_h : j < xs.length), w.cell? ⟨b, off + j, none⟩ = some (.int .i64 (xs.getD j 0)))
theorem RI.below {w w' : World} {v : Value} {xs : List Int} (h : RI w v xs) (hb : Below w.heap.size w w') : RI w' v xs := by
  obtain ⟨a, c, hv, hr⟩ := h
  refine ⟨a, c, hv, fun h0 => ?_⟩
  obtain ⟨b, off, ha, hlt, hc⟩ := hr h0
  exact ⟨b, off, ha, Nat.lt_of_lt_of_le hlt hb.size, fun j hj => (hb.cell (p := ⟨b, off + j, none⟩) hlt).trans (hc j hj)⟩
theorem RI.of_own {w : World} {base : Nat} {v : Value} {n : Nat} {xs : List Int} (h : w.ownsRow base 3 1 v n (xs.map (Value.int .i64))) : RI w v xs := by
  obtain ⟨a, c, rfl⟩ := own_slice h
  have hn : n = xs.length := by have := h.1; simp at this; omega
  subst hn
  refine ⟨a, c, rfl, fun h0 => ?_⟩
  obtain ⟨g, ha, _, hlt, hc⟩ := own_cells h h0
  refine ⟨g, 0, ha, hlt, fun j hj => ?_⟩
  have := hc j (by simpa using hj)
  rw [Nat.zero_add, this]
  simp [List.getD, hj]

theorem same_true (u v : Value) (xs : List Int) (w : World) (hn : xs.length ≤ 1000) (hu : RI w u xs) (hv : RI w v xs) :
   Calls Try.prog 17 #[u, v] w fun e w' => e = .returned (.bool true) ∧ ∃ m, w' = w.drewN m := by
  obtain ⟨a, c, rfl, hr⟩ := hu
  obtain ⟨a', c', rfl, hr'⟩ := hv
  have HR := Lib.hid hr
  have HR' := Lib.hid hr'
  clear hr hr'
  generalize hl : xs.length = n at *
  have hl := Lib.hid hl
  go_enter Try.func17, Try.ntmps17
  go_wp2
  go_loopw [5] (fun i w1 => ∃ k : Nat, k ≤ n ∧ i = .int .i64 k ∧ ∃ m, w1 = w.drewN m) (fun i _ => n - (intOf i).toNat)
  case atStart => exact ⟨0, Nat.zero_le _, rfl, 0, rfl⟩
  case round =>
    obtain ⟨k, hk, rfl, m, rfl⟩ := hrel
    by_cases hlt : k < n
    · obtain ⟨b, off, rfl, _, hc⟩ := HR.out (by omega)
      obtain ⟨b', off', rfl, _, hc'⟩ := HR'.out (by omega)
      have h1 := hc k hlt
      have h2 := hc' k hlt
      clear hc hc' HR HR'
      generalize xs.getD k 0 = x at *
      go_wp2_with fail
      go_quiet (fail)
      go_wp2_with fail
      go_roundw
      case rel => exact ⟨k+1, by omega, by go_num, _, rfl⟩
      case measure => simp [intOf]; omega
    · go_wp2
      go_ret
      exact ⟨rfl, _, rfl⟩
end Go.Proofs.Ytidhhadelgdeiaa
