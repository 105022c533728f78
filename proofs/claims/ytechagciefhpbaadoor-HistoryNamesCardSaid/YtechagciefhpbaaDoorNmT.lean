/-
  Contracts: numbers of one or two digits as text, a name's text. No condition.
-/
import Derived.Test.YtechagciefhpbaaDoorNmU
namespace Go.Proofs.YtechagciefhpbaaDoor
set_option linter.unusedSimpArgs false
set_option linter.unusedVariables false
set_option linter.unnecessarySimpa false
open Go.RowKit
/-- The digits of a number below 100. -/
def dg (n : Nat) : List UInt8 := if n < 10 then [UInt8.ofNat (48 + n)] else [UInt8.ofNat (48 + n / 10), UInt8.ofNat (48 + n % 10)]
def dgB (n : Nat) : ByteArray := ⟨(dg n).toArray⟩
theorem ext10 (C : ByteArray) (h : ((List.range 10).all fun i => decide (C.extract i (i + 1) = dgB i)) = true) (n : Nat) (hn : n < 10) : C.extract n (n + 1) = dgB n :=
  of_decide_eq_true (List.all_eq_true.1 h n (List.mem_range.2 hn))
theorem ext100 (C : ByteArray) (h : ((List.range 100).all fun i => decide (i < 10) || decide (C.extract (i * 2) (i * 2 + 2) = dgB i)) = true) (n : Nat) (h1 : 10 ≤ n) (hn : n < 100) : C.extract (n * 2) (n * 2 + 2) = dgB n := by
  have := List.all_eq_true.1 h n (List.mem_range.2 hn)
  rw [decide_eq_false (by omega), Bool.false_or] at this
  exact of_decide_eq_true this
theorem small_any (n : Nat) (hn : n < 100) (w : World) : Calls Tryd.prog 50 #[.int .i64 n] w fun e w' => e = .returned (.string (dgB n)) ∧ w = w' := by
  have h0 : (0 : Int) ≤ (n : Int) := by omega
  have h1 : (n : Int) < 100 := by omega
  by_cases h : n < 10
  · have HC := Lib.hid (fun C hC => ext10 C hC n h)
    go_enter Tryd.func50, Tryd.ntmps50
    go_wp2
    go_ret
    exact ⟨congrArg (fun x => Ending.returned (.string x)) (HC.out _ (by kernel_rfl)), rfl⟩
  · have HC := Lib.hid (fun C hC => ext100 C hC n (by omega) hn)
    set_option maxRecDepth 100000 in
    go_enter Tryd.func50, Tryd.ntmps50
    set_option maxRecDepth 100000 in
    go_wp2
    set_option maxRecDepth 100000 in
    go_ret
    set_option maxRecDepth 100000 in
    exact ⟨congrArg (fun x => Ending.returned (.string x)) (HC.out _ (by kernel_rfl)), rfl⟩
theorem formatInt_any (n : Nat) (hn : n < 100) (w : World) : Calls Tryd.prog 43 #[.int .i64 n, .int .i64 10] w fun e w' => e = .returned (.string (dgB n)) ∧ w = w' := by
  have h0 : (0 : Int) ≤ (n : Int) := by omega
  have h1 : (n : Int) < 100 := by omega
  have H := Lib.hid (small_any n hn)
  go_enter Tryd.func43, Tryd.ntmps43
  go_wp2_with fail
  refine (H.out _).mono ?_
  rintro e w1 ⟨rfl, rfl⟩
  go_wp2_with fail
  go_ret
  exact ⟨rfl, rfl⟩
theorem itoaI_any (n : Nat) (hn : n < 100) (w : World) : Calls Tryd.prog 35 #[.int .i64 n] w fun e w' => e = .returned (.string (dgB n)) ∧ w = w' := by
  have H := Lib.hid (formatInt_any n hn)
  go_enter Tryd.func35, Tryd.ntmps35
  go_wp2_with fail
  refine (H.out _).mono ?_
  rintro e w1 ⟨rfl, rfl⟩
  go_wp2_with fail
  go_ret
  exact ⟨rfl, rfl⟩
theorem itoa_any (n : Nat) (hn : n < 100) (w : World) : Calls Tryd.prog 25 #[.int .i64 n] w fun e w' => e = .returned (.string (dgB n)) ∧ w' = w := by
  have H := Lib.hid (itoaI_any n hn)
  go_enter Tryd.func25, Tryd.ntmps25
  go_wp2_with fail
  refine (H.out _).mono ?_
  rintro e w1 ⟨rfl, rfl⟩
  go_wp2_with fail
  go_ret
  exact ⟨rfl, rfl⟩
theorem dgB_size (n : Nat) : (dgB n).size ≤ 2 := by
  show (dg n).toArray.size ≤ 2
  unfold dg
  split <;> simp
/-- A name's text. -/
def txt (t r : Int) : ByteArray := if lv t r = 0 then ⟨#[100, 98]⟩ else if lv t r = 1 then ⟨#[116]⟩ ++ dgB t.toNat else if lv t r = 2 then ⟨#[116]⟩ ++ dgB t.toNat ++ ⟨#[46, 114]⟩ ++ dgB r.toNat else ⟨#[63]⟩
set_option maxRecDepth 100000 in
theorem text_any (t r : Int) (w : World) : Calls Tryd.prog 27 #[(.agg #[.int .i64 t, .int .i64 r])] w fun e w' => e = .returned (.string (txt t r)) ∧ Below w.heap.size w w' := by
  have hS := Lib.hid (box1 w t r)
  obtain ⟨z, c0, c1, _⟩ := hS.out.b2
  rcases lv_spec t r with ⟨h1, h2, hl⟩ | ⟨h1, h2, h3, hl⟩ | ⟨h1, h2, h3, h4, hl⟩ | ⟨hl, h1, h2⟩
  · have E := Lib.hid (show txt t r = ⟨#[100, 98]⟩ by simp [txt, hl])
    have L := Lib.hid (fun W => level_any t r W)
    rw [hl] at L
    clear hl h1 h2
    go_enter Tryd.func27, Tryd.ntmps27
    go_wp2_with fail
    refine (L.out _).mono ?_
    rintro e w1 ⟨rfl, b1⟩
    replace hS := Lib.hid (hS.out.below b1)
    clear b1 c0 c1
    go_wp2_with fail
    go_ret
    exact ⟨by rw [E.out]; rfl, hS.out.tail.gold⟩
  · have E := Lib.hid (show txt t r = ⟨#[116]⟩ ++ dgB t.toNat by simp [txt, hl])
    have L := Lib.hid (fun W => level_any t r W)
    rw [hl] at L
    obtain ⟨n, rfl⟩ := Int.eq_ofNat_of_zero_le h1
    have hn : n < 100 := by omega
    have hz := dgB_size n
    have H := Lib.hid (itoa_any n hn)
    clear hl h1 h2 h3
    go_enter Tryd.func27, Tryd.ntmps27
    go_wp2_with fail
    refine (L.out _).mono ?_
    rintro e w1 ⟨rfl, b1⟩
    replace hS := Lib.hid (hS.out.below b1)
    clear b1 c0 c1
    obtain ⟨_, c0, c1, _⟩ := hS.out.b2
    go_wp2_with fail
    refine (H.out _).mono ?_
    rintro e w2 ⟨rfl, rfl⟩
    go_wp2_with fail
    go_ret
    exact ⟨by rw [E.out]; rfl, hS.out.tail.gold⟩
  · have E := Lib.hid (show txt t r = ⟨#[116]⟩ ++ dgB t.toNat ++ ⟨#[46, 114]⟩ ++ dgB r.toNat by simp [txt, hl])
    have L := Lib.hid (fun W => level_any t r W)
    rw [hl] at L
    obtain ⟨n, rfl⟩ := Int.eq_ofNat_of_zero_le h1
    obtain ⟨m, rfl⟩ := Int.eq_ofNat_of_zero_le h3
    have hn : n < 100 := by omega
    have hm : m < 100 := by omega
    have hz := dgB_size n
    have hz2 := dgB_size m
    have H := Lib.hid (itoa_any n hn)
    have H2 := Lib.hid (itoa_any m hm)
    clear hl h1 h2 h3 h4
    go_enter Tryd.func27, Tryd.ntmps27
    go_wp2_with fail
    refine (L.out _).mono ?_
    rintro e w1 ⟨rfl, b1⟩
    replace hS := Lib.hid (hS.out.below b1)
    clear b1 c0 c1
    obtain ⟨_, c0, c1, _⟩ := hS.out.b2
    go_wp2_with fail
    go_quiet (first | (go_at_call 25; with_reducible exact Calls.quiet_of_same (H.out _)) | (go_at_call 25; with_reducible exact Calls.quiet_of_same (H2.out _)))
    go_wp2_with fail
    go_ret
    exact ⟨by rw [E.out]; rfl, (hS.out.drewN _).tail.gold⟩
  · have E := Lib.hid (show txt t r = ⟨#[63]⟩ by simp [txt, hl])
    have L := Lib.hid (fun W => level_any t r W)
    rw [hl] at L
    clear hl h1 h2
    go_enter Tryd.func27, Tryd.ntmps27
    go_wp2_with fail
    refine (L.out _).mono ?_
    rintro e w1 ⟨rfl, b1⟩
    replace hS := Lib.hid (hS.out.below b1)
    clear b1 c0 c1
    go_wp2_with fail
    go_ret
    exact ⟨by rw [E.out]; rfl, hS.out.tail.gold⟩
end Go.Proofs.YtechagciefhpbaaDoor
