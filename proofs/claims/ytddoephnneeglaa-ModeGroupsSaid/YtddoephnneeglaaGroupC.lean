/-
  The contracts of Group, All and Same at modes. No condition beside slices that can be read.
-/
import Derived.Test.YtddoephnneeglaaCallsB
namespace Go.Proofs.Ytddoephnneeglaa
open Go.RowKit
def groupV (l : List Int) : Int := l.foldl supV 0
theorem groupV_snoc (l : List Int) (x : Int) : groupV (l ++ [x]) = supV (groupV l) x := by simp [groupV]
theorem take_snoc' (l : List Int) (k : Nat) (h : k < l.length) : l.take (k + 1) = l.take k ++ [l.getD k 0] := by
  rw [List.take_succ_eq_append_getElem h]; simp [List.getD, h]
theorem RI.of_own_e {w : World} {base e : Nat} {v : Value} {n : Nat} {xs : List Int} (h : w.ownsRow base e 1 v n (xs.map (Value.int .i64))) : RI w v xs := by
  obtain ⟨a, c, rfl⟩ := own_slice h
  have hn : n = xs.length := by have := h.1; simp at this; omega
  subst hn
  refine ⟨a, c, rfl, fun h0 => ?_⟩
  obtain ⟨g, ha, _, hlt, hc⟩ := own_cells h h0
  refine ⟨g, 0, ha, hlt, fun j hj => ?_⟩
  have := hc j (by simpa using hj)
  rw [Nat.zero_add, this]
  simp [List.getD, hj]
theorem group_any (v : Value) (xs : List Int) (w : World) (hn : xs.length ≤ 1000) (hv : RI w v xs) :
   Calls Try.prog 14 #[v] w fun e w' => e = .returned (.int .i64 (groupV xs)) ∧ Below w.heap.size w w' := by
  obtain ⟨a, c, rfl, hr⟩ := hv
  have HR := Lib.hid hr
  clear hr
  generalize hl : xs.length = n at *
  replace hl := Lib.hid hl
  go_enter Try.func14, Try.ntmps14
  go_wp2
  go_loopw [3, 8] (fun o i wr => ∃ k : Nat, k ≤ n ∧ i = .int .i64 k ∧ o = .int .i64 (groupV (xs.take k)) ∧ Below w.heap.size w wr) (fun _ i _ => n - (intOf i).toNat)
  case atStart => exact ⟨0, Nat.zero_le _, rfl, rfl, Below.refl _ _⟩
  case round =>
    obtain ⟨k, hk, rfl, rfl, bel⟩ := hrel
    by_cases hlt : k < n
    · obtain ⟨b, off, rfl, hb, hc⟩ := HR.out (by omega)
      have h1 := (bel.cell (p := ⟨b, off + k, none⟩) hb).trans (hc k (by have := hl.out; omega))
      have E := Lib.hid (show groupV (xs.take (k + 1)) = supV (groupV (xs.take k)) (xs.getD k 0) by rw [take_snoc' xs k (by have := hl.out; omega), groupV_snoc])
      replace bel := Lib.hid bel
      clear hc HR
      generalize xs.getD k 0 = x at *
      generalize groupV (xs.take k) = y at *
      go_wp2_with fail
      refine (sup_any _ _ _).mono ?_
      rintro e w1 ⟨rfl, b1⟩
      replace bel := Lib.hid (belT bel.out b1)
      clear b1 h1
      go_wp2_with fail
      go_roundw
      case rel => exact ⟨k + 1, by omega, by go_num, by rw [E.out], bel.out⟩
      case measure => simp [intOf]; omega
    · have hkn : k = n := by omega
      subst hkn
      have e := Lib.hid (show xs.take k = xs from List.take_of_length_le (by rw [hl.out]; exact Nat.le_refl _))
      go_wp2_with fail
      go_ret
      exact ⟨by rw [e.out]; rfl, bel⟩
theorem info_mode : (Try.prog.info? 23).map (fun i => (i.zero, i.size, i.bytes)) = some (some (.int .i64 0), 1, 8) := by kernel_rfl
def upTo : Nat → List Int
  | 0 => []
  | k+1 => upTo k ++ [(k : Int)]
theorem upTo_len : ∀ k, (upTo k).length = k
  | 0 => rfl
  | k+1 => by simp [upTo, upTo_len k]
theorem all_any (w : World) : Calls Try.prog 19 #[] w fun e w' => ∃ v, e = .returned v ∧ RI w' v [0, 1, 2, 3, 4, 5, 6] ∧ Below w.heap.size w w' := by
  obtain ⟨i0, hi, hz0, hz1, hz2⟩ := info_parts info_mode
  go_enter Try.func19, Try.ntmps19
  go_wp2
  go_loopw [1, 3] (fun r i wr => ∃ k : Nat, k ≤ 7 ∧ i = .int .i64 k ∧ wr.ownsRow w.heap.size 23 1 r (upTo k).length ((upTo k).map (Value.int .i64)) ∧ Below w.heap.size w wr) (fun _ i _ => 7 - (intOf i).toNat)
  case atStart => exact ⟨0, by omega, rfl, World.ownsRow_nil _ _ _ _, Below.refl _ _⟩
  case round =>
    obtain ⟨k, hk, rfl, hown, hbel⟩ := hrel
    have hhl := Lib.hid (upTo_len k)
    have hsz := hbel.size
    by_cases hlt : k < 7
    · have E := Lib.hid (show upTo (k+1) = upTo k ++ [(k:Int)] from rfl)
      have hl7 : (upTo k).length < 7 := by have := hhl.out; omega
      go_wp2_with (at_builtin; refine wpList_append_own _ rfl _ _ 30 rfl (w.heap.size) 23 i0 (.int .i64 0) 1 8 Try.underlying30 hi hz0 hz1 hz2 rfl (by decide) _ _ _ rfl (hown.alloc _) ⟨wr.heap.size, 0, none⟩ 1 1 [.int .i64 k] rfl rfl ?c1 ?c2 ?c3 ?c4 ?c5 ?_)
      case c1 => exact cell_one_new _ _ _
      case c2 => simp [Value.oneCell']
      case c3 => simp only [maxLen]; omega
      case c4 => omega
      case c5 => simp; omega
      intro v' w1 hown1 hg1 _
      have hb1 : Below w.heap.size w w1 := (hbel.alloc hsz _).grown hg1 (by simp; omega) (fun q hq => (hown.lt q hq).1)
      clear hg1 hown hbel
      go_wp2
      go_roundw
      case rel => exact ⟨k+1, by omega, by go_num, by rw [E.out]; simpa using hown1, hb1⟩
      case measure => simp [intOf]; omega
    · have hk7 : k = 7 := by omega
      subst hk7
      go_wp2
      go_ret
      exact ⟨_, rfl, RI.of_own_e (xs := [0, 1, 2, 3, 4, 5, 6]) hown, hbel⟩
end Go.Proofs.Ytddoephnneeglaa
