/-
  Contracts of the package stripe: Sum, Hash, Of, Same. No condition.
-/
import Derived.Test.YtgbffkjfjkfiaaaDoorStN
import Derived.WalkLawsBesides
import Derived.Lib.ConvBytes
namespace Go.Proofs.YtgbffkjfjkfiaaaDoor
open Go.RowKit
open Go.Lib
def step32 (h : Nat) (b : UInt8) : Nat := ((h ^^^ b.toNat) * 16777619) % 4294967296
def sumN (l : List UInt8) : Nat := l.foldl step32 2166136261
theorem xor_u32 (a b : Nat) (ha : a < 4294967296) (hb : b < 4294967296) : bits .xor .u32 (a : Int) (b : Int) = ((a ^^^ b : Nat) : Int) := u32_xor_nat a b ha hb
theorem sum_snoc (l : List UInt8) (b : UInt8) : sumN (l ++ [b]) = step32 (sumN l) b := by
  unfold sumN
  rw [List.foldl_append, List.foldl_cons, List.foldl_nil]
theorem step_lt (h : Nat) (b : UInt8) : step32 h b < 4294967296 := Nat.mod_lt _ (by decide)
theorem sum_lt (l : List UInt8) : sumN l < 4294967296 := by
  rcases List.eq_nil_or_concat l with rfl | ⟨l', b, rfl⟩
  · decide
  · rw [List.concat_eq_append, sum_snoc]; exact step_lt _ _
theorem sum_any (s : ByteArray) (w : World) (hs : s.size ≤ 1001) : Calls Tryd.prog 15 #[.string s] w fun e w' => e = .returned (.int .u32 (sumN s.data.toList)) ∧ Below w.heap.size w w' := by
  have hcv := Go.Lib.run_convert_string_bytes (P := Tryd.prog) w 9 45 5 s Tryd.underlying9 Tryd.underlying45 Tryd.underlying5
  have hb : Below w.heap.size w (bytesWorld w 5 s) := ⟨by simp [bytesWorld, World.freeze]; rfl, by simp [bytesWorld, World.freeze]; try rfl, by simp [bytesWorld, World.freeze]; rfl, by rw [bytesWorld_size]; omega, fun k hk => bytesWorld_at_old w 5 s k hk⟩
  have hcell := fun j hj => bytesWorld_cell w 5 s j hj
  replace hcell := Lib.hid hcell
  replace hb := Lib.hid hb
  go_enter Tryd.func15, Tryd.ntmps15
  go_wp2
  go_loop [3, 9] (fun h i => ∃ k : Nat, k ≤ s.size ∧ i = .int .i64 k ∧ h = .int .u32 (sumN (s.data.toList.take k))) (fun _ i => s.size - (intOf i).toNat)
  case atStart => exact ⟨0, Nat.zero_le _, rfl, rfl⟩
  case round =>
    obtain ⟨k, hk, rfl, rfl⟩ := hrel
    by_cases hlt : k < s.size
    · have hc := hcell.out k hlt
      have hsl := sum_lt (s.data.toList.take k)
      have E := Lib.hid (show sumN (s.data.toList.take (k + 1)) = step32 (sumN (s.data.toList.take k)) (s.data.toList.getD k 0) by
        rw [List.take_succ_eq_append_getElem (by simpa using hlt), sum_snoc]; simp [List.getD, hlt])
      generalize s.data.toList.getD k 0 = b at *
      generalize sumN (s.data.toList.take k) = h at *
      have hb8 : b.toNat < 256 := b.toNat_lt
      have hx := xor_u32 h b.toNat hsl (by omega)
      replace hx := Lib.hid hx
      have hx' := hx.out
      go_wp2
      go_round
      case rel => exact ⟨k + 1, by omega, by go_num, by rw [E.out]; exact congrArg (Value.int .u32) (by unfold step32; omega)⟩
      case measure => simp [intOf]; omega
    · go_wp2
      go_ret
      have : k = s.size := by omega
      subst this
      refine ⟨?_, hb.out⟩
      rw [List.take_of_length_le (by simp)]
      rfl
theorem lives_any (w : World) : Calls Tryd.prog 7 #[] w fun e w' => e = .returned (.bool true) ∧ Below w.heap.size w w' := by
  have H1 := Lib.hid (fun W => sum_any ⟨#[97]⟩ W (by decide))
  have H2 := Lib.hid (fun W => sum_any ByteArray.empty W (by decide))
  have e1 : sumN [97] = 3826002220 := by decide +kernel
  have e2 : sumN [] = 2166136261 := by decide +kernel
  go_enter Tryd.func7, Tryd.ntmps7
  go_wp2_with fail
  refine (H1.out _).mono ?_
  rintro e w1 ⟨rfl, b1⟩
  rw [e1]
  go_wp2_with fail
  refine (H2.out _).mono ?_
  rintro e w2 ⟨rfl, b2⟩
  have e2' : sumN ByteArray.empty.data.toList = 2166136261 := e2
  rw [e2']
  have bel := Lib.hid (b1.trans (b2.mono b1.size))
  clear b1 b2
  go_wp2_with fail
  go_ret
  exact ⟨rfl, bel.out⟩
theorem size_app (a b : ByteArray) : (a ++ b).size = a.size + b.size := by simp
theorem txt_size (t r : Int) : (txt t r).size ≤ 7 := by
  unfold txt
  have h1 := dgB_size t.toNat
  have h2 := dgB_size r.toNat
  split
  · decide
  · split
    · simp only [size_app]
      have : (⟨#[116]⟩ : ByteArray).size = 1 := rfl
      omega
    · split
      · simp only [size_app]
        have e1 : (⟨#[116]⟩ : ByteArray).size = 1 := rfl
        have e2 : (⟨#[46, 114]⟩ : ByteArray).size = 2 := rfl
        omega
      · decide
/-- A name's sum. -/
def hashN (t r : Int) : Nat := sumN (txt t r).data.toList
theorem hashN_lt (t r : Int) : hashN t r < 4294967296 := sum_lt _
theorem hash_any (t r : Int) (w : World) : Calls Tryd.prog 14 #[(.agg #[.int .i64 t, .int .i64 r])] w fun e w' => e = .returned (.int .u32 (hashN t r)) ∧ Below w.heap.size w w' := by
  have hS := Lib.hid (box1 w t r)
  obtain ⟨z, c0, c1, _⟩ := hS.out.b2
  have HS := Lib.hid (fun W => sum_any (txt t r) W (by have := txt_size t r; omega))
  have E := Lib.hid (show hashN t r = sumN (txt t r).data.toList from rfl)
  go_enter Tryd.func14, Tryd.ntmps14
  go_wp2_with fail
  refine (text_any _ _ _).mono ?_
  rintro e w1 ⟨rfl, b1⟩
  replace hS := Lib.hid (hS.out.below b1)
  clear b1 c0 c1
  go_wp2_with fail
  refine (HS.out _).mono ?_
  rintro e w2 ⟨rfl, b2⟩
  replace hS := Lib.hid (hS.out.below b2)
  clear b2
  go_wp2_with fail
  go_ret
  exact ⟨by rw [E.out]; rfl, hS.out.tail.gold⟩
/-- A name's stripe. -/
def ofV (t r s : Int) : Int := if 1 ≤ s ∧ s ≤ 16 ∧ lv t r ≠ -1 then (hashN t r : Int) % s else -1
theorem ofV_bd (t r s : Int) : -1 ≤ ofV t r s ∧ (ofV t r s < s ∨ ofV t r s = -1) := by
  unfold ofV
  split
  · rename_i h
    have := Int.emod_nonneg (hashN t r : Int) (show s ≠ 0 by omega)
    have := Int.emod_lt_of_pos (hashN t r : Int) (show 0 < s by omega)
    omega
  · omega
theorem may_any (s : Int) (w : World) : Calls Tryd.prog 23 #[.int .i64 s] w fun e w' => e = .returned (.bool (decide (1 ≤ s ∧ s ≤ 16))) ∧ w = w' := by
  by_cases h1 : 1 ≤ s
  · by_cases h2 : s ≤ 16
    · rw [show decide (1 ≤ s ∧ s ≤ 16) = true by simp [h1, h2]]
      go_enter Tryd.func23, Tryd.ntmps23
      go_wp2
      go_ret
      exact ⟨rfl, rfl⟩
    · rw [show decide (1 ≤ s ∧ s ≤ 16) = false by simp [h2]]
      go_enter Tryd.func23, Tryd.ntmps23
      go_wp2
      go_ret
      exact ⟨rfl, rfl⟩
  · rw [show decide (1 ≤ s ∧ s ≤ 16) = false by simp [h1]]
    go_enter Tryd.func23, Tryd.ntmps23
    go_wp2
    go_ret
    exact ⟨rfl, rfl⟩
theorem of_any (t r s : Int) (w : World) : Calls Tryd.prog 10 #[(.agg #[.int .i64 t, .int .i64 r]), .int .i64 s] w fun e w' => e = .returned (.int .i64 (ofV t r s)) ∧ Below w.heap.size w w' := by
  have hS := Lib.hid (box1 w t r)
  obtain ⟨z, c0, c1, _⟩ := hS.out.b2
  have HM := Lib.hid (fun W => may_any s W)
  by_cases hm : 1 ≤ s ∧ s ≤ 16
  · rw [decide_eq_true hm] at HM
    obtain ⟨h1, h2⟩ := hm
    have HC := Lib.hid (fun W => check_any t r W)
    by_cases hl : lv t r = -1
    · have E := Lib.hid (show ofV t r s = -1 by unfold ofV; rw [if_neg (fun h => h.2.2 hl)])
      rw [if_pos hl] at HC
      clear hl
      go_enter Tryd.func10, Tryd.ntmps10
      go_wp2_with fail
      refine (HM.out _).mono ?_
      rintro e w1 ⟨rfl, rfl⟩
      go_wp2_with fail
      refine (HC.out _).mono ?_
      rintro e w1 ⟨rfl, b1⟩
      replace hS := Lib.hid (hS.out.below b1)
      clear b1 c0 c1
      go_wp2_with fail
      go_ret
      exact ⟨by rw [E.out]; rfl, hS.out.tail.gold⟩
    · have E := Lib.hid (show ofV t r s = (hashN t r : Int) % s by unfold ofV; rw [if_pos ⟨h1, h2, hl⟩])
      rw [if_neg hl] at HC
      have hlt := hashN_lt t r
      have HH := Lib.hid (fun W => hash_any t r W)
      have h0 : (0 : Int) ≤ (hashN t r : Int) := by omega
      have hm1 := Int.emod_nonneg (hashN t r : Int) (show s ≠ 0 by omega)
      have hm2 := Int.emod_lt_of_pos (hashN t r : Int) (show 0 < s by omega)
      clear hl
      generalize hashN t r = h at *
      go_enter Tryd.func10, Tryd.ntmps10
      go_wp2_with fail
      refine (HM.out _).mono ?_
      rintro e w1 ⟨rfl, rfl⟩
      go_wp2_with fail
      refine (HC.out _).mono ?_
      rintro e w1 ⟨rfl, b1⟩
      replace hS := Lib.hid (hS.out.below b1)
      clear b1 c0 c1
      obtain ⟨_, c0, c1, _⟩ := hS.out.b2
      go_wp2_with fail
      refine (HH.out _).mono ?_
      rintro e w2 ⟨rfl, b2⟩
      replace hS := Lib.hid (hS.out.below b2)
      clear b2
      go_wp2_with fail
      go_ret
      exact ⟨by rw [E.out]; rfl, hS.out.tail.gold⟩
  · have E := Lib.hid (show ofV t r s = -1 by unfold ofV; rw [if_neg (fun h => hm ⟨h.1, h.2.1⟩)])
    rw [decide_eq_false hm] at HM
    clear hm
    go_enter Tryd.func10, Tryd.ntmps10
    go_wp2_with fail
    refine (HM.out _).mono ?_
    rintro e w1 ⟨rfl, rfl⟩
    go_wp2_with fail
    go_ret
    exact ⟨by rw [E.out]; rfl, hS.out.tail.gold⟩
end Go.Proofs.YtgbffkjfjkfiaaaDoor
