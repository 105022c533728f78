/-
  The reference's names: number, Read. No condition beside the text's length.
-/
import Derived.Test.YtiaibmabmholaaaDoorRf02C
namespace Go.Proofs.YtiaibmabmholaaaDoor
open Go.RowKit
def valR (l : List UInt8) (i q : Nat) : Nat := if q = 0 then 0 else if q = 1 then (l.getD i 0).toNat - 48 else 10 * ((l.getD i 0).toNat - 48) + ((l.getD (i + 1) 0).toNat - 48)
theorem valR_next (l : List UInt8) (i q : Nat) (hq : q < 2) : valR l i (q + 1) = 10 * valR l i q + ((l.getD (i + q) 0).toNat - 48) := by
  have : q = 0 ∨ q = 1 := by omega
  rcases this with rfl | rfl <;> simp [valR]
theorem valR_lt (l : List UInt8) (i q : Nat) : valR l i q ≤ 100000 := by
  have h1 := (l.getD i 0).toNat_lt
  have h2 := (l.getD (i + 1) 0).toNat_lt
  unfold valR
  split
  · omega
  · split <;> omega
def okR (l : List UInt8) (i q : Nat) : Prop := ∀ j, j < q → i + j < l.length ∧ isDg (l.getD (i + j) 0) = true
theorem numR_stop (l : List UInt8) (i q : Nat) (h : okR l i q) (hq : q ≤ 2) (hs : q = 2 ∨ ¬ i + q < l.length ∨ isDg (l.getD (i + q) 0) = false) : numR l i = (valR l i q, i + q) := by
  unfold numR
  have h3 : q = 0 ∨ q = 1 ∨ q = 2 := by omega
  have no : ¬ (false = true) := Bool.false_ne_true
  rcases h3 with rfl | rfl | rfl
  · rw [Nat.add_zero] at hs
    rw [if_neg]
    · rfl
    · rcases hs with hs | hs | hs
      · omega
      · rw [decide_eq_false hs, Bool.false_and]; exact no
      · rw [hs, Bool.and_false]; exact no
  · have h0 := h 0 (by omega)
    rw [Nat.add_zero] at h0
    rw [if_pos (by rw [decide_eq_true h0.1, h0.2]; rfl), if_neg]
    · rfl
    · rcases hs with hs | hs | hs
      · omega
      · rw [decide_eq_false hs, Bool.false_and]; exact no
      · rw [hs, Bool.and_false]; exact no
  · have h0 := h 0 (by omega)
    have h1 := h 1 (by omega)
    rw [Nat.add_zero] at h0
    rw [if_pos (by rw [decide_eq_true h0.1, h0.2]; rfl), if_pos (by rw [decide_eq_true h1.1, h1.2]; rfl)]
    rfl
set_option maxHeartbeats 1000000 in
theorem numberR_any (s : ByteArray) (i : Nat) (hs : s.size ≤ 1000) (hi : i ≤ 1010) (w : World) : Calls Tryd.prog 45 #[.string s, .int .i64 i] w fun e w' => e = .returned (.tuple #[.int .i64 (numR s.data.toList i).1, .int .i64 (numR s.data.toList i).2]) ∧ w = w' := by
  have hlen : s.data.toList.length = s.size := by simp
  go_enter Tryd.func45, Tryd.ntmps45
  go_wp2
  go_loop [6, 7] (fun n k => ∃ q : Nat, q ≤ 2 ∧ n = .int .i64 (valR s.data.toList i q) ∧ k = .int .i64 (i + q : Nat) ∧ Hid (okR s.data.toList i q)) (fun _ k => i + 2 - (intOf k).toNat)
  case atStart => exact ⟨0, by omega, rfl, rfl, fun j hj => absurd hj (by omega)⟩
  case round =>
    obtain ⟨q, hq, rfl, rfl, hok⟩ := hrel
    have hv := valR_lt s.data.toList i q
    by_cases h2 : q = 2
    · have E := Lib.hid (numR_stop _ i q hok.out hq (.inl h2))
      generalize valR s.data.toList i q = v at *
      by_cases hlt : i + q < s.size
      all_goals
        go_wp2
        go_ret2
        exact ⟨by rw [E.out, h2]; rfl, rfl⟩
    · by_cases hlt : i + q < s.size
      · have hb : (s.data.toList.getD (i + q) 0) = s[i + q] := by
          have h' : i + q < s.data.toList.length := by rw [hlen]; exact hlt
          rw [List.getD_eq_getElem?_getD, List.getElem?_eq_getElem h']
          rfl
        have hb8 : s[i + q].toNat < 256 := s[i + q].toNat_lt
        by_cases h48 : 48 ≤ s[i + q].toNat
        · by_cases h57 : s[i + q].toNat ≤ 57
          · have hn := Lib.hid (valR_next s.data.toList i q (by omega))
            rw [hb] at hn
            have hok2 : okR s.data.toList i (q + 1) := fun j hj => by
              rcases Nat.lt_or_ge j q with h | h
              · exact hok.out j h
              · obtain rfl : j = q := by omega
                exact ⟨by rw [hlen]; exact hlt, by rw [hb]; unfold isDg; rw [decide_eq_true h48, decide_eq_true h57]; rfl⟩
            replace hok2 := Lib.hid hok2
            have hlow : 10 * valR s.data.toList i q + (s[i + q].toNat - 48) ≤ 2000000 := by omega
            clear hb
            generalize valR s.data.toList i q = v at *
            go_wp2
            go_round
            case rel => exact ⟨q + 1, by omega, by rw [hn.out]; exact congrArg (Value.int .i64) (by omega), by go_num, hok2⟩
            case measure => simp [intOf]; omega
          · have E := Lib.hid (numR_stop s.data.toList i q hok.out hq (.inr (.inr (by rw [hb]; unfold isDg; rw [decide_eq_false h57, Bool.and_false]))))
            clear hb
            generalize valR s.data.toList i q = v at *
            go_wp2
            go_ret2
            exact ⟨by rw [E.out]; rfl, rfl⟩
        · have E := Lib.hid (numR_stop s.data.toList i q hok.out hq (.inr (.inr (by rw [hb]; unfold isDg; rw [decide_eq_false h48, Bool.false_and]))))
          clear hb
          generalize valR s.data.toList i q = v at *
          go_wp2
          go_ret2
          exact ⟨by rw [E.out]; rfl, rfl⟩
      · have E := Lib.hid (numR_stop s.data.toList i q hok.out hq (.inr (.inl (by rw [hlen]; exact hlt))))
        generalize valR s.data.toList i q = v at *
        go_wp2
        go_ret2
        exact ⟨by rw [E.out]; rfl, rfl⟩
end Go.Proofs.YtiaibmabmholaaaDoor
