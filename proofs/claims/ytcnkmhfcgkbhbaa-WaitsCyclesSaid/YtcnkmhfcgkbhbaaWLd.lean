/-
  WaitsCycles, walked. No condition beside an argument that can be read.
-/
import Derived.Test.YtcnkmhfcgkbhbaaWLc
namespace Go.Proofs.Ytcnkmhfcgkbhbaa
open Go.RowKit
set_option maxHeartbeats 4000000 in
theorem cycles_walk (a : Option Addr) (len cap : Nat) (z : Nat → Nat → Int) (w : World) (hv0 : IsRows 2 w a len cap z) (hna : a = none → cap = 0) :
    Calls Try.prog 4 #[.slice a len cap] w fun e w' => e = .returned (.bool true) ∧ Below w.heap.size w w' := by
  by_cases h40 : len ≤ 40
  · have hv := edL_rl hv0 hna
    obtain ⟨cc, hcc⟩ : ∃ cc, cyc (edL len z) = cc := ⟨_, rfl⟩
    obtain ⟨xs, ok⟩ := cc
    cases ok with
    | false => exact cycles_no a len cap _ xs w hcc hv (edL_len len z) h40
    | true => exact cycles_yes a len cap _ xs w hcc hv (edL_len len z) h40
  · have i40 : (40 : Int) < (len : Int) := by omega
    clear hv0 hna
    go_enter Try.func4, Try.ntmps4
    go_wp2_with fail
    refine (lives_any _).mono ?_
    rintro e w1 ⟨rfl, q⟩
    have hb := Lib.hid q
    clear q
    go_wp2_with fail
    go_ret
    exact ⟨rfl, hb.out⟩
end Go.Proofs.Ytcnkmhfcgkbhbaa
