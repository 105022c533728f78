/-
  Slices of names: Index, Contains, Same. No condition.
-/
import Derived.Test.YtiaibmabmholaaaDoorNmA
namespace Go.Proofs.YtiaibmabmholaaaDoor
open Go.RowKit
/-- The value v is a slice of names that reads as l. -/
def RN (w : World) (v : Value) (l : List (Int × Int)) : Prop :=
  ∃ a c, v = .slice a l.length c ∧ (0 < l.length → ∃ b off, a = some ⟨b, off, none⟩ ∧ b < w.heap.size ∧ ∀ j, j < l.length →
    w.cell? ⟨b, off + j * 2, none⟩ = some (.int .i64 (l.getD j (0, 0)).1) ∧ w.cell? ⟨b, off + j * 2 + 1, none⟩ = some (.int .i64 (l.getD j (0, 0)).2))
theorem RN.below {w w' : World} {v : Value} {l : List (Int × Int)} (h : RN w v l) (hb : Below w.heap.size w w') : RN w' v l := by
  obtain ⟨a, c, hv, hr⟩ := h
  refine ⟨a, c, hv, fun h0 => ?_⟩
  obtain ⟨b, off, ha, hlt, hc⟩ := hr h0
  exact ⟨b, off, ha, Nat.lt_of_lt_of_le hlt hb.size, fun j hj => ⟨(hb.cell (p := ⟨b, off + j * 2, none⟩) hlt).trans (hc j hj).1, (hb.cell (p := ⟨b, off + j * 2 + 1, none⟩) hlt).trans (hc j hj).2⟩⟩
def idxN {α : Type} (p : α → Bool) : List α → Nat → Int
  | [], _ => -1
  | x :: l, k => if p x then (k : Int) else idxN p l (k + 1)
theorem idxN_any {α : Type} (p : α → Bool) : ∀ (l : List α) (k : Nat), decide (0 ≤ idxN p l k) = l.any p
  | [], k => by simp [idxN]
  | x :: l, k => by
    unfold idxN
    cases h : p x with
    | true => simp [h]
    | false => simp [h, idxN_any p l (k + 1)]
theorem drop_atN (l : List (Int × Int)) (k : Nat) (h : k < l.length) : l.drop k = l.getD k (0, 0) :: l.drop (k + 1) := by
  rw [List.drop_eq_getElem_cons h]
  simp [List.getD, h]
def isN (t r : Int) (x : Int × Int) : Bool := nmB t r x.1 x.2
theorem below_drewN' {B : Nat} {a w : World} (h : Below B a w) (n : Nat) : Below B a (w.drewN n) := ⟨h.os, h.tape, h.output, h.size, h.block⟩
set_option maxHeartbeats 1000000 in
theorem indexN_any (v : Value) (l : List (Int × Int)) (t r : Int) (w : World) (hv : RN w v l) (hl : l.length ≤ 1000) :
    Calls Tryd.prog 47 #[v, (.agg #[.int .i64 t, .int .i64 r])] w fun e w' => e = .returned (.int .i64 (idxN (isN t r) l 0)) ∧ Below w.heap.size w w' := by
  obtain ⟨a, c, rfl, hr⟩ := hv
  have HR := Lib.hid hr
  clear hr
  have hq := fun a b c d => run_eql_nm a b c d
  have hS := Lib.hid (box1 w t r)
  generalize hn : l.length = n at *
  replace hn := Lib.hid hn
  go_enter Tryd.func47, Tryd.ntmps47
  go_wp2_with fail
  go_loopw [8] (fun i wr => ∃ k : Nat, k ≤ n ∧ i = .int .i64 k ∧ Hid (idxN (isN t r) l 0 = idxN (isN t r) (l.drop k) k) ∧ Hid (Sep wr [blk w.heap.size 23 #[Value.int .i64 (t), Value.int .i64 (r)], old w])) (fun i _ => n - (intOf i).toNat)
  case atStart => exact ⟨0, Nat.zero_le _, rfl, rfl, hS⟩
  case round =>
    clear hS
    obtain ⟨k, hk, rfl, he, hS⟩ := hrel
    obtain ⟨z, c0, c1, _⟩ := hS.out.b2
    by_cases hlt : k < n
    · obtain ⟨b, off, rfl, hbl, hz⟩ := HR.out (by omega)
      obtain ⟨z0, z1⟩ := hz k hlt
      rw [← hS.out.tail.gold.cell (p := ⟨b, off + k * 2, none⟩) hbl] at z0
      rw [← hS.out.tail.gold.cell (p := ⟨b, off + k * 2 + 1, none⟩) hbl] at z1
      have E := Lib.hid (drop_atN l k (by rw [hn.out]; exact hlt))
      generalize l.getD k (0, 0) = x at *
      clear hz HR
      obtain ⟨t', r'⟩ := x
      have i1 : (0 : Int) ≤ (k : Int) := by omega
      have i2 : (k : Int) < (n : Int) := by omega
      simp only at z0 z1
      cases hpr : nmB t r t' r' with
      | true =>
        have E2 := Lib.hid (show idxN (isN t r) l 0 = (k : Int) by rw [he.out, E.out]; simp only [idxN, isN, hpr, if_true])
        go_wp2_with fail
        go_quiet (fail)
        go_wp2_with fail
        go_ret
        exact ⟨by rw [E2.out]; rfl, below_drewN' hS.out.tail.gold _⟩
      | false =>
        have E2 := Lib.hid (show idxN (isN t r) l 0 = idxN (isN t r) (l.drop (k + 1)) (k + 1) by rw [he.out, E.out]; simp only [idxN, isN, hpr]; rfl)
        go_wp2_with fail
        go_quiet (fail)
        go_wp2_with fail
        go_roundw
        case rel => exact ⟨k + 1, by omega, by go_num, E2, Lib.hid (hS.out.drewN _)⟩
        case measure => simp [intOf]; omega
    · have hk2 : k = n := by omega
      have E := Lib.hid (show idxN (isN t r) l 0 = -1 by rw [he.out, List.drop_eq_nil_of_le (by rw [hn.out]; omega)]; rfl)
      clear he
      go_wp2_with fail
      go_ret
      exact ⟨by rw [E.out]; rfl, hS.out.tail.gold⟩
theorem containsN_any (v : Value) (l : List (Int × Int)) (t r : Int) (w : World) (hv : RN w v l) (hl : l.length ≤ 1000) :
    Calls Tryd.prog 36 #[v, (.agg #[.int .i64 t, .int .i64 r])] w fun e w' => e = .returned (.bool (l.any (isN t r))) ∧ Below w.heap.size w w' := by
  have hS := Lib.hid (box1 w t r)
  have hv2 := hv.below (box1 w t r).tail.gold
  obtain ⟨z, c0, c1, _⟩ := hS.out.b2
  have H := Lib.hid (indexN_any v l t r _ hv2 hl)
  obtain ⟨a, c, rfl, _⟩ := hv
  rw [← idxN_any (isN t r) l 0]
  clear hv2
  generalize idxN (isN t r) l 0 = x at *
  go_enter Tryd.func36, Tryd.ntmps36
  go_wp2_with fail
  refine H.out.mono ?_
  rintro e w1 ⟨rfl, b1⟩
  replace hS := Lib.hid (hS.out.below b1)
  clear b1 c0 c1 z
  go_wp2_with fail
  go_ret
  exact ⟨rfl, hS.out.tail.gold⟩
theorem nmB_self (t r : Int) : nmB t r t r = true := by simp [nmB]
/-- Two slices that read as one list of names are the same. -/
theorem sameN_true (u v : Value) (l : List (Int × Int)) (w : World) (hn : l.length ≤ 1000) (hu : RN w u l) (hv : RN w v l) :
   Calls Tryd.prog 19 #[u, v] w fun e w' => e = .returned (.bool true) ∧ ∃ m, w' = w.drewN m := by
  obtain ⟨a, c, rfl, hr⟩ := hu
  obtain ⟨a', c', rfl, hr'⟩ := hv
  have HR := Lib.hid hr
  have HR' := Lib.hid hr'
  clear hr hr'
  have hq := fun a b c d => run_neq_nm a b c d
  generalize hl : l.length = n at *
  have hl := Lib.hid hl
  go_enter Tryd.func19, Tryd.ntmps19
  go_wp2_with fail
  go_loopw [5] (fun i w1 => ∃ k : Nat, k ≤ n ∧ i = .int .i64 k ∧ ∃ m, w1 = w.drewN m) (fun i _ => n - (intOf i).toNat)
  case atStart => exact ⟨0, Nat.zero_le _, rfl, 0, rfl⟩
  case round =>
    obtain ⟨k, hk, rfl, m, rfl⟩ := hrel
    by_cases hlt : k < n
    · obtain ⟨b, off, rfl, _, hc⟩ := HR.out (by omega)
      obtain ⟨b', off', rfl, _, hc'⟩ := HR'.out (by omega)
      obtain ⟨h1, h2⟩ := hc k hlt
      obtain ⟨h3, h4⟩ := hc' k hlt
      clear hc hc' HR HR'
      generalize l.getD k (0, 0) = x at *
      obtain ⟨t, r⟩ := x
      have i1 : (0 : Int) ≤ (k : Int) := by omega
      have i2 : (k : Int) < (n : Int) := by omega
      have e := nmB_self t r
      simp only at h1 h2 h3 h4
      go_wp2_with fail
      go_quiet (fail)
      go_wp2_with fail
      go_roundw
      case rel => exact ⟨k+1, by omega, by go_num, _, rfl⟩
      case measure => simp [intOf]; omega
    · go_wp2
      go_ret
      exact ⟨rfl, _, rfl⟩
end Go.Proofs.YtiaibmabmholaaaDoor
