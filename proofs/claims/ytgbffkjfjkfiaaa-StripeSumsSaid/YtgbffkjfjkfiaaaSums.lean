/-
  The sum of a string, and the walk of StripeSums. No condition beside arguments that can be read.
-/
import Derived.Test.YtgbffkjfjkfiaaaBase
import Derived.WalkLawsBesides
import Derived.Lib.ConvBytes
namespace Go.Proofs.Ytgbffkjfjkfiaaa
open Go.RowKit
open Go.Lib
def step32 (h : Nat) (b : UInt8) : Nat := ((h ^^^ b.toNat) * 16777619) % 4294967296
def sumN (l : List UInt8) : Nat := l.foldl step32 2166136261
theorem xor_u32 (a b : Nat) (ha : a < 4294967296) (hb : b < 4294967296) : bits .xor .u32 (a : Int) (b : Int) = ((a ^^^ b : Nat) : Int) := u32_xor_nat a b ha hb
theorem sum_snoc (l : List UInt8) (b : UInt8) : sumN (l ++ [b]) = step32 (sumN l) b := by
  unfold sumN
  rw [List.foldl_append, List.foldl_cons, List.foldl_nil]
theorem step_lt (h : Nat) (b : UInt8) : step32 h b < 4294967296 := Nat.mod_lt _ (by decide)
theorem sum_lt (l : List UInt8) : sumN l < 4294967296 := by
  rcases List.eq_nil_or_concat l with rfl | ⟨l', b, rfl⟩
  · decide
  · rw [List.concat_eq_append, sum_snoc]; exact step_lt _ _
theorem sum_any (s : ByteArray) (w : World) (hs : s.size ≤ 1001) : Calls Try.prog 5 #[.string s] w fun e w' => e = .returned (.int .u32 (sumN s.data.toList)) ∧ Below w.heap.size w w' := by
  have hcv := Go.Lib.run_convert_string_bytes (P := Try.prog) w 9 25 5 s Try.underlying9 Try.underlying25 Try.underlying5
  have hb : Below w.heap.size w (bytesWorld w 5 s) := ⟨by simp [bytesWorld, World.freeze]; rfl, by simp [bytesWorld, World.freeze]; try rfl, by simp [bytesWorld, World.freeze]; rfl, by rw [bytesWorld_size]; omega, fun k hk => bytesWorld_at_old w 5 s k hk⟩
  have hcell := fun j hj => bytesWorld_cell w 5 s j hj
  replace hcell := Lib.hid hcell
  replace hb := Lib.hid hb
  go_enter Try.func5, Try.ntmps5
  go_wp2
  go_loop [3, 9] (fun h i => ∃ k : Nat, k ≤ s.size ∧ i = .int .i64 k ∧ h = .int .u32 (sumN (s.data.toList.take k))) (fun _ i => s.size - (intOf i).toNat)
  case atStart => exact ⟨0, Nat.zero_le _, rfl, rfl⟩
  case round =>
    obtain ⟨k, hk, rfl, rfl⟩ := hrel
    by_cases hlt : k < s.size
    · have hc := hcell.out k hlt
      have hsl := sum_lt (s.data.toList.take k)
      have E := Lib.hid (show sumN (s.data.toList.take (k + 1)) = step32 (sumN (s.data.toList.take k)) (s.data.toList.getD k 0) by
        rw [List.take_succ_eq_append_getElem (by simpa using hlt), sum_snoc]; simp [List.getD, hlt])
      generalize s.data.toList.getD k 0 = b at *
      generalize sumN (s.data.toList.take k) = h at *
      have hb8 : b.toNat < 256 := b.toNat_lt
      have hx := xor_u32 h b.toNat hsl (by omega)
      replace hx := Lib.hid hx
      have hx' := hx.out
      go_wp2
      go_round
      case rel => exact ⟨k + 1, by omega, by go_num, by rw [E.out]; exact congrArg (Value.int .u32) (by unfold step32; omega)⟩
      case measure => simp [intOf]; omega
    · go_wp2
      go_ret
      have : k = s.size := by omega
      subst this
      refine ⟨?_, hb.out⟩
      rw [List.take_of_length_le (by simp)]
      rfl
theorem lives_any (w : World) : Calls Try.prog 4 #[] w fun e w' => e = .returned (.bool true) ∧ Below w.heap.size w w' := by
  have H1 := Lib.hid (fun W => sum_any ⟨#[97]⟩ W (by decide))
  have H2 := Lib.hid (fun W => sum_any ByteArray.empty W (by decide))
  have e1 : sumN [97] = 3826002220 := by decide +kernel
  have e2 : sumN [] = 2166136261 := by decide +kernel
  go_enter Try.func4, Try.ntmps4
  go_wp2_with fail
  refine (H1.out _).mono ?_
  rintro e w1 ⟨rfl, b1⟩
  rw [e1]
  go_wp2_with fail
  refine (H2.out _).mono ?_
  rintro e w2 ⟨rfl, b2⟩
  have e2' : sumN ByteArray.empty.data.toList = 2166136261 := e2
  rw [e2']
  have bel := Lib.hid (b1.trans (b2.mono b1.size))
  clear b1 b2
  go_wp2_with fail
  go_ret
  exact ⟨rfl, bel.out⟩

theorem mul_back (x : Nat) (hx : x < 4294967296) : (x * 16777619) % 4294967296 * 899433627 % 4294967296 = x := by
  have e1 : (x * 16777619) % 4294967296 * 899433627 % 4294967296 = (x * 16777619 * 899433627) % 4294967296 := by
    rw [Nat.mul_mod, Nat.mod_mod, ← Nat.mul_mod]
  rw [e1, Nat.mul_assoc, show 16777619 * 899433627 = 1 + 4294967296 * 3513497 by decide, Nat.mul_add, Nat.mul_one, ← Nat.mul_assoc, Nat.mul_comm x 4294967296, Nat.mul_assoc, Nat.add_mul_mod_self_left, Nat.mod_eq_of_lt hx]
theorem mul_inj (x y : Nat) (hx : x < 4294967296) (hy : y < 4294967296) (e : (x * 16777619) % 4294967296 = (y * 16777619) % 4294967296) : x = y := by
  rw [← mul_back x hx, e, mul_back y hy]
theorem xor_lt32 (h c : Nat) (hh : h < 4294967296) (hc : c < 256) : h ^^^ c < 4294967296 := by
  have := Nat.xor_lt_two_pow (n := 32) (x := h) (y := c) (by omega) (by omega)
  omega
theorem xor_inj (h c d : Nat) (e : h ^^^ c = h ^^^ d) : c = d := by
  have e3 : h ^^^ (h ^^^ c) = h ^^^ (h ^^^ d) := by rw [e]
  rwa [← Nat.xor_assoc, ← Nat.xor_assoc, Nat.xor_self, Nat.zero_xor, Nat.zero_xor] at e3
theorem step_inj (h : Nat) (c d : UInt8) (hh : h < 4294967296) (e : step32 h c = step32 h d) : c = d := by
  unfold step32 at e
  exact UInt8.toNat_inj.1 (xor_inj h _ _ (mul_inj _ _ (xor_lt32 h _ hh c.toNat_lt) (xor_lt32 h _ hh d.toNat_lt) e))

set_option maxHeartbeats 1000000 in
theorem sums_walk' (s : ByteArray) (c d : UInt8) (w : World) : Calls Try.prog 3 #[.string s, .int .u8 c.toNat, .int .u8 d.toNat] w fun e w' => e = .returned (.bool true) ∧ Below w.heap.size w w' := by
  by_cases hs : 1000 < s.size
  · go_enter Try.func3, Try.ntmps3
    go_wp2_with (go_at_call 4; refine (lives_any _).mono ?_; rintro e w1 ⟨rfl, b1⟩)
    go_ret
    exact ⟨rfl, b1⟩
  · have hcv := fun (W : World) (x : UInt8) => Go.run_convert_bytes_back (P := Try.prog) (W.alloc (.cells #[.int .u8 x.toNat] 5)) 25 9 5 ⟨W.heap.size, 0, none⟩ 1 [x] Try.underlying25 Try.underlying5 Try.underlying9 (by intro j hj; simp at hj; subst hj; simp [Addr.add_lit])
    simp only [List.length_cons, List.length_nil] at hcv
    have H := fun (x : UInt8) (W : World) => sum_any (s ++ ⟨#[x]⟩) W (by rw [ByteArray.size_append]; show s.size + 1 ≤ 1001; omega)
    have e1 : ∀ x : UInt8, (s ++ ⟨#[x]⟩ : ByteArray).data.toList = s.data.toList ++ [x] := by intro x; simp
    have H' : Hid (∀ (x : UInt8) (W : World), Calls Try.prog 5 #[.string (s ++ ⟨#[x]⟩)] W fun e w' => e = .returned (.int .u32 (step32 (sumN s.data.toList) x)) ∧ Below W.heap.size W w') := by
      intro x W
      have h := H x W
      rw [e1 x, sum_snoc] at h
      exact h
    have H0 := Lib.hid (fun W => sum_any s W (by omega))
    have hlt := sum_lt s.data.toList
    have hc := c.toNat_lt
    have hd := d.toNat_lt
    clear H e1
    generalize sumN s.data.toList = S at *
    have hx := Lib.hid (xor_u32 S c.toNat hlt (by omega))
    have hA := Lib.hid (show ((S ^^^ c.toNat : Nat) : Int) * 16777619 % 4294967296 = ((step32 S c : Nat) : Int) by unfold step32; omega)
    have Hc := Lib.hid (fun W => H'.out c W)
    have Hd := Lib.hid (fun W => H'.out d W)
    have hinj := Lib.hid (fun e => step_inj S c d hlt e)
    clear H'
    have hAB := Lib.hid (show c = d → step32 S c = step32 S d from fun e => by rw [e])
    generalize step32 S c = A at *
    generalize step32 S d = B at *
    by_cases hcd : c = d
    · subst hcd
      obtain rfl : A = B := hAB.out rfl
      go_enter Try.func3, Try.ntmps3
      go_wp2_with fail
      refine (lives_any _).mono ?_
      rintro e w1 ⟨rfl, b1⟩
      go_wp2_with fail
      refine (Hc.out _).mono ?_
      rintro e w2 ⟨rfl, b2⟩
      go_wp2_with fail
      refine (Hc.out _).mono ?_
      rintro e w3 ⟨rfl, b3⟩
      go_wp2_with fail
      refine (H0.out _).mono ?_
      rintro e w4 ⟨rfl, b4⟩
      have hx' := hx.out
      have hA' := hA.out
      go_wp2_with fail
      go_ret
      exact ⟨rfl, ((b1.alloc b1.size _).trans (b2.mono (by simp; have := b1.size; omega))).alloc (Nat.le_trans b1.size (by have := b2.size; simp at this; omega)) _ |>.trans (b3.mono (by have := b2.size; have := b1.size; simp at *; omega)) |>.trans (b4.mono (by have := b3.size; have := b2.size; have := b1.size; simp at *; omega))⟩
    · have e1 : ((A : Int) == (B : Int)) = false := by
        rw [beq_eq_false_iff_ne]
        intro e
        exact hcd (hinj.out (by omega))
      have e2 : ((c.toNat : Int) == (d.toNat : Int)) = false := by
        rw [beq_eq_false_iff_ne]
        intro e
        exact hcd (UInt8.toNat_inj.1 (by omega))
      clear hinj hcd
      go_enter Try.func3, Try.ntmps3
      go_wp2_with fail
      refine (lives_any _).mono ?_
      rintro e w1 ⟨rfl, b1⟩
      go_wp2_with fail
      refine (Hc.out _).mono ?_
      rintro e w2 ⟨rfl, b2⟩
      go_wp2_with fail
      refine (Hd.out _).mono ?_
      rintro e w3 ⟨rfl, b3⟩
      go_wp2_with fail
      refine (H0.out _).mono ?_
      rintro e w4 ⟨rfl, b4⟩
      have hx' := hx.out
      have hA' := hA.out
      go_wp2_with fail
      go_ret
      exact ⟨rfl, ((b1.alloc b1.size _).trans (b2.mono (by simp; have := b1.size; omega))).alloc (Nat.le_trans b1.size (by have := b2.size; simp at this; omega)) _ |>.trans (b3.mono (by have := b2.size; have := b1.size; simp at *; omega)) |>.trans (b4.mono (by have := b3.size; have := b2.size; have := b1.size; simp at *; omega))⟩

theorem sums_walk (s : ByteArray) (c d : Int) (w : World) (_h : s.size ≤ maxLen) (hc : (Lit.int .u8 c).wf = true) (hd : (Lit.int .u8 d).wf = true) : Calls Try.prog 3 #[.string s, .int .u8 c, .int .u8 d] w fun e w' => e = .returned (.bool true) ∧ Below w.heap.size w w' := by
  have h1 : 0 ≤ c ∧ c < 256 := by simp [Lit.wf, IntKind.min, IntKind.max, IntKind.bits, IntKind.signed] at hc; omega
  have h2 : 0 ≤ d ∧ d < 256 := by simp [Lit.wf, IntKind.min, IntKind.max, IntKind.bits, IntKind.signed] at hd; omega
  have e1 : ((UInt8.ofNat c.toNat).toNat : Int) = c := by simp; omega
  have e2 : ((UInt8.ofNat d.toNat).toNat : Int) = d := by simp; omega
  have := sums_walk' s (UInt8.ofNat c.toNat) (UInt8.ofNat d.toNat) w
  rwa [e1, e2] at this
end Go.Proofs.Ytgbffkjfjkfiaaa
