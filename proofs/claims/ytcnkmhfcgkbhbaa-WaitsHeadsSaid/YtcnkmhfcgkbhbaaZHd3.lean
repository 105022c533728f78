/-
  Contracts and plain laws that the walk leans on, part 3. No condition.
-/
import Derived.Test.YtcnkmhfcgkbhbaaZHd2
namespace Go.Proofs.Ytcnkmhfcgkbhbaa
open Go.RowKit
theorem knownR_any (m : Int) (w : World) : Calls Try.prog 56 #[.int .i64 m] w fun e w' => e = .returned (.bool (knownB m)) ∧ w = w' := by
  unfold knownB
  by_cases h1 : 0 ≤ m
  · by_cases h2 : m ≤ 6
    · rw [show decide (0 ≤ m ∧ m ≤ 6) = true by simp [h1, h2]]
      go_enter Try.func56, Try.ntmps56
      go_wp2
      go_ret
      exact ⟨rfl, rfl⟩
    · rw [show decide (0 ≤ m ∧ m ≤ 6) = false by simp [h2]]
      go_enter Try.func56, Try.ntmps56
      go_wp2
      go_ret
      exact ⟨rfl, rfl⟩
  · rw [show decide (0 ≤ m ∧ m ≤ 6) = false by simp [h1]]
    go_enter Try.func56, Try.ntmps56
    go_wp2
    go_ret
    exact ⟨rfl, rfl⟩
def pl (b : Bool) : UInt8 := if b then 43 else 46
/-- Seven signs: a + where the modes agree. -/
def signs (f : Nat → Bool) : ByteArray := ⟨#[pl (f 0), pl (f 1), pl (f 2), pl (f 3), pl (f 4), pl (f 5), pl (f 6)]⟩
def comRow (k : Nat) : ByteArray := signs (fun b => comB k b)
def covRow (k : Nat) : ByteArray := signs (fun b => covB k b)
theorem row_any (k : Nat) (hk : k < 7) (w : World) : Calls Try.prog 60 #[.int .i64 k] w fun e w' => e = .returned (.string (comRow k)) ∧ Below w.heap.size w w' := by
  have : k = 0 ∨ k = 1 ∨ k = 2 ∨ k = 3 ∨ k = 4 ∨ k = 5 ∨ k = 6 := by omega
  rcases this with rfl | rfl | rfl | rfl | rfl | rfl | rfl
  · have E := Lib.hid (show comRow 0 = ⟨#[43, 43, 43, 43, 43, 43, 43]⟩ by decide +kernel)
    go_enter Try.func60, Try.ntmps60
    go_wp2
    go_ret
    exact ⟨by rw [E.out]; rfl, (Below.refl _ _).alloc (Nat.le_refl _) _⟩
  · have E := Lib.hid (show comRow 1 = ⟨#[43, 43, 43, 43, 43, 43, 46]⟩ by decide +kernel)
    go_enter Try.func60, Try.ntmps60
    go_wp2
    go_ret
    exact ⟨by rw [E.out]; rfl, (Below.refl _ _).alloc (Nat.le_refl _) _⟩
  · have E := Lib.hid (show comRow 2 = ⟨#[43, 43, 43, 46, 46, 46, 46]⟩ by decide +kernel)
    go_enter Try.func60, Try.ntmps60
    go_wp2
    go_ret
    exact ⟨by rw [E.out]; rfl, (Below.refl _ _).alloc (Nat.le_refl _) _⟩
  · have E := Lib.hid (show comRow 3 = ⟨#[43, 43, 46, 43, 46, 43, 46]⟩ by decide +kernel)
    go_enter Try.func60, Try.ntmps60
    go_wp2
    go_ret
    exact ⟨by rw [E.out]; rfl, (Below.refl _ _).alloc (Nat.le_refl _) _⟩
  · have E := Lib.hid (show comRow 4 = ⟨#[43, 43, 46, 46, 46, 46, 46]⟩ by decide +kernel)
    go_enter Try.func60, Try.ntmps60
    go_wp2
    go_ret
    exact ⟨by rw [E.out]; rfl, (Below.refl _ _).alloc (Nat.le_refl _) _⟩
  · have E := Lib.hid (show comRow 5 = ⟨#[43, 43, 46, 43, 46, 46, 46]⟩ by decide +kernel)
    go_enter Try.func60, Try.ntmps60
    go_wp2
    go_ret
    exact ⟨by rw [E.out]; rfl, (Below.refl _ _).alloc (Nat.le_refl _) _⟩
  · have E := Lib.hid (show comRow 6 = ⟨#[43, 46, 46, 46, 46, 46, 46]⟩ by decide +kernel)
    go_enter Try.func60, Try.ntmps60
    go_wp2
    go_ret
    exact ⟨by rw [E.out]; rfl, (Below.refl _ _).alloc (Nat.le_refl _) _⟩
theorem under_any (k : Nat) (hk : k < 7) (w : World) : Calls Try.prog 86 #[.int .i64 k] w fun e w' => e = .returned (.string (covRow k)) ∧ Below w.heap.size w w' := by
  have : k = 0 ∨ k = 1 ∨ k = 2 ∨ k = 3 ∨ k = 4 ∨ k = 5 ∨ k = 6 := by omega
  rcases this with rfl | rfl | rfl | rfl | rfl | rfl | rfl
  · have E := Lib.hid (show covRow 0 = ⟨#[43, 46, 46, 46, 46, 46, 46]⟩ by decide +kernel)
    go_enter Try.func86, Try.ntmps86
    go_wp2
    go_ret
    exact ⟨by rw [E.out]; rfl, (Below.refl _ _).alloc (Nat.le_refl _) _⟩
  · have E := Lib.hid (show covRow 1 = ⟨#[43, 43, 46, 46, 46, 46, 46]⟩ by decide +kernel)
    go_enter Try.func86, Try.ntmps86
    go_wp2
    go_ret
    exact ⟨by rw [E.out]; rfl, (Below.refl _ _).alloc (Nat.le_refl _) _⟩
  · have E := Lib.hid (show covRow 2 = ⟨#[43, 43, 43, 46, 46, 46, 46]⟩ by decide +kernel)
    go_enter Try.func86, Try.ntmps86
    go_wp2
    go_ret
    exact ⟨by rw [E.out]; rfl, (Below.refl _ _).alloc (Nat.le_refl _) _⟩
  · have E := Lib.hid (show covRow 3 = ⟨#[43, 43, 46, 43, 46, 46, 46]⟩ by decide +kernel)
    go_enter Try.func86, Try.ntmps86
    go_wp2
    go_ret
    exact ⟨by rw [E.out]; rfl, (Below.refl _ _).alloc (Nat.le_refl _) _⟩
  · have E := Lib.hid (show covRow 4 = ⟨#[43, 43, 43, 43, 43, 46, 46]⟩ by decide +kernel)
    go_enter Try.func86, Try.ntmps86
    go_wp2
    go_ret
    exact ⟨by rw [E.out]; rfl, (Below.refl _ _).alloc (Nat.le_refl _) _⟩
  · have E := Lib.hid (show covRow 5 = ⟨#[43, 43, 46, 43, 46, 43, 46]⟩ by decide +kernel)
    go_enter Try.func86, Try.ntmps86
    go_wp2
    go_ret
    exact ⟨by rw [E.out]; rfl, (Below.refl _ _).alloc (Nat.le_refl _) _⟩
  · have E := Lib.hid (show covRow 6 = ⟨#[43, 43, 43, 43, 43, 43, 43]⟩ by decide +kernel)
    go_enter Try.func86, Try.ntmps86
    go_wp2
    go_ret
    exact ⟨by rw [E.out]; rfl, (Below.refl _ _).alloc (Nat.le_refl _) _⟩
theorem signs_at (f : Nat → Bool) (b : Nat) (hb : b < 7) (h : b < (signs f).size) : (((signs f)[b].toNat : Int) == 43) = f b := by
  have : b = 0 ∨ b = 1 ∨ b = 2 ∨ b = 3 ∨ b = 4 ∨ b = 5 ∨ b = 6 := by omega
  rcases this with rfl | rfl | rfl | rfl | rfl | rfl | rfl
  · show (((pl (f 0)).toNat : Int) == 43) = f 0
    cases f 0 <;> rfl
  · show (((pl (f 1)).toNat : Int) == 43) = f 1
    cases f 1 <;> rfl
  · show (((pl (f 2)).toNat : Int) == 43) = f 2
    cases f 2 <;> rfl
  · show (((pl (f 3)).toNat : Int) == 43) = f 3
    cases f 3 <;> rfl
  · show (((pl (f 4)).toNat : Int) == 43) = f 4
    cases f 4 <;> rfl
  · show (((pl (f 5)).toNat : Int) == 43) = f 5
    cases f 5 <;> rfl
  · show (((pl (f 6)).toNat : Int) == 43) = f 6
    cases f 6 <;> rfl
theorem compatR_any (a b : Int) (w : World) : Calls Try.prog 46 #[.int .i64 a, .int .i64 b] w fun e w' => e = .returned (.bool (comB a b)) ∧ Below w.heap.size w w' := by
  have Ka := Lib.hid (fun W => knownR_any a W)
  have Kb := Lib.hid (fun W => knownR_any b W)
  cases ha : knownB a with
  | false =>
    rw [show comB a b = false by simp [comB, tabB, ha]]
    rw [ha] at Ka
    go_enter Try.func46, Try.ntmps46
    go_wp2_with fail
    refine (Ka.out _).mono ?_
    rintro e w' ⟨rfl, rfl⟩
    go_wp2_with fail
    go_ret
    exact ⟨rfl, Below.refl _ _⟩
  | true =>
    rw [ha] at Ka
    cases hb : knownB b with
    | false =>
      rw [show comB a b = false by simp [comB, tabB, hb]]
      rw [hb] at Kb
      go_enter Try.func46, Try.ntmps46
      go_wp2_with fail
      refine (Ka.out _).mono ?_
      rintro e w' ⟨rfl, rfl⟩
      go_wp2_with fail
      refine (Kb.out _).mono ?_
      rintro e w' ⟨rfl, rfl⟩
      go_wp2_with fail
      go_ret
      exact ⟨rfl, Below.refl _ _⟩
    | true =>
      rw [hb] at Kb
      obtain ⟨i, rfl, hi⟩ := known_nat ha
      obtain ⟨j, rfl, hj⟩ := known_nat hb
      have R := Lib.hid (fun W => row_any i hi W)
      have hz : (comRow i).size = 7 := rfl
      have hA := Lib.hid (fun h => signs_at (fun b => comB i b) j hj h)
      have i1 : (0 : Int) ≤ (j : Int) := by omega
      have i2 : (j : Int) < 7 := by omega
      go_enter Try.func46, Try.ntmps46
      go_wp2_with fail
      refine (Ka.out _).mono ?_
      rintro e w' ⟨rfl, rfl⟩
      go_wp2_with fail
      refine (Kb.out _).mono ?_
      rintro e w' ⟨rfl, rfl⟩
      go_wp2_with fail
      refine (R.out _).mono ?_
      rintro e w1 ⟨rfl, b1⟩
      go_wp2_with fail
      go_ret
      refine ⟨?_, b1⟩
      rw [← hA.out (by show j < 7; exact hj)]
      rfl
theorem coversR_any (a b : Int) (w : World) : Calls Try.prog 59 #[.int .i64 a, .int .i64 b] w fun e w' => e = .returned (.bool (covB a b)) ∧ Below w.heap.size w w' := by
  have Ka := Lib.hid (fun W => knownR_any a W)
  have Kb := Lib.hid (fun W => knownR_any b W)
  cases ha : knownB a with
  | false =>
    rw [show covB a b = false by simp [covB, tabB, ha]]
    rw [ha] at Ka
    go_enter Try.func59, Try.ntmps59
    go_wp2_with fail
    refine (Ka.out _).mono ?_
    rintro e w' ⟨rfl, rfl⟩
    go_wp2_with fail
    go_ret
    exact ⟨rfl, Below.refl _ _⟩
  | true =>
    rw [ha] at Ka
    cases hb : knownB b with
    | false =>
      rw [show covB a b = false by simp [covB, tabB, hb]]
      rw [hb] at Kb
      go_enter Try.func59, Try.ntmps59
      go_wp2_with fail
      refine (Ka.out _).mono ?_
      rintro e w' ⟨rfl, rfl⟩
      go_wp2_with fail
      refine (Kb.out _).mono ?_
      rintro e w' ⟨rfl, rfl⟩
      go_wp2_with fail
      go_ret
      exact ⟨rfl, Below.refl _ _⟩
    | true =>
      rw [hb] at Kb
      obtain ⟨i, rfl, hi⟩ := known_nat ha
      obtain ⟨j, rfl, hj⟩ := known_nat hb
      have R := Lib.hid (fun W => under_any i hi W)
      have hz : (covRow i).size = 7 := rfl
      have hA := Lib.hid (fun h => signs_at (fun b => covB i b) j hj h)
      have i1 : (0 : Int) ≤ (j : Int) := by omega
      have i2 : (j : Int) < 7 := by omega
      go_enter Try.func59, Try.ntmps59
      go_wp2_with fail
      refine (Ka.out _).mono ?_
      rintro e w' ⟨rfl, rfl⟩
      go_wp2_with fail
      refine (Kb.out _).mono ?_
      rintro e w' ⟨rfl, rfl⟩
      go_wp2_with fail
      refine (R.out _).mono ?_
      rintro e w1 ⟨rfl, b1⟩
      go_wp2_with fail
      go_ret
      refine ⟨?_, b1⟩
      rw [← hA.out (by show j < 7; exact hj)]
      rfl
end Go.Proofs.Ytcnkmhfcgkbhbaa
