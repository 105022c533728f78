/-
  Contracts and plain laws that the walk leans on, part 9. No condition.
-/
import Derived.Test.YthbamhfnemdebaaGreatZVc8
import Derived.Laws.StructEq
import Derived.Deep.RegionLaw
namespace Go.Proofs.YthbamhfnemdebaaGreat
open Go.RowKit
theorem knownR_any (m : Int) (w : World) : Calls Tryz.prog 46 #[.int .i64 m] w fun e w' => e = .returned (.bool (knownB m)) ∧ w = w' := by
  unfold knownB
  by_cases h1 : 0 ≤ m
  · by_cases h2 : m ≤ 6
    · rw [show decide (0 ≤ m ∧ m ≤ 6) = true by simp [h1, h2]]
      go_enter Tryz.func46, Tryz.ntmps46
      go_wp2
      go_ret
      exact ⟨rfl, rfl⟩
    · rw [show decide (0 ≤ m ∧ m ≤ 6) = false by simp [h2]]
      go_enter Tryz.func46, Tryz.ntmps46
      go_wp2
      go_ret
      exact ⟨rfl, rfl⟩
  · rw [show decide (0 ≤ m ∧ m ≤ 6) = false by simp [h1]]
    go_enter Tryz.func46, Tryz.ntmps46
    go_wp2
    go_ret
    exact ⟨rfl, rfl⟩
def pl (b : Bool) : UInt8 := if b then 43 else 46
/-- Seven signs: a + where the modes agree. -/
def signs (f : Nat → Bool) : ByteArray := ⟨#[pl (f 0), pl (f 1), pl (f 2), pl (f 3), pl (f 4), pl (f 5), pl (f 6)]⟩
def comRow (k : Nat) : ByteArray := signs (fun b => comB k b)
def covRow (k : Nat) : ByteArray := signs (fun b => covB k b)
theorem row_any (k : Nat) (hk : k < 7) (w : World) : Calls Tryz.prog 48 #[.int .i64 k] w fun e w' => e = .returned (.string (comRow k)) ∧ Below w.heap.size w w' := by
  have : k = 0 ∨ k = 1 ∨ k = 2 ∨ k = 3 ∨ k = 4 ∨ k = 5 ∨ k = 6 := by omega
  rcases this with rfl | rfl | rfl | rfl | rfl | rfl | rfl
  · have E := Lib.hid (show comRow 0 = ⟨#[43, 43, 43, 43, 43, 43, 43]⟩ by decide +kernel)
    go_enter Tryz.func48, Tryz.ntmps48
    go_wp2
    go_ret
    exact ⟨by rw [E.out]; rfl, (Below.refl _ _).alloc (Nat.le_refl _) _⟩
  · have E := Lib.hid (show comRow 1 = ⟨#[43, 43, 43, 43, 43, 43, 46]⟩ by decide +kernel)
    go_enter Tryz.func48, Tryz.ntmps48
    go_wp2
    go_ret
    exact ⟨by rw [E.out]; rfl, (Below.refl _ _).alloc (Nat.le_refl _) _⟩
  · have E := Lib.hid (show comRow 2 = ⟨#[43, 43, 43, 46, 46, 46, 46]⟩ by decide +kernel)
    go_enter Tryz.func48, Tryz.ntmps48
    go_wp2
    go_ret
    exact ⟨by rw [E.out]; rfl, (Below.refl _ _).alloc (Nat.le_refl _) _⟩
  · have E := Lib.hid (show comRow 3 = ⟨#[43, 43, 46, 43, 46, 43, 46]⟩ by decide +kernel)
    go_enter Tryz.func48, Tryz.ntmps48
    go_wp2
    go_ret
    exact ⟨by rw [E.out]; rfl, (Below.refl _ _).alloc (Nat.le_refl _) _⟩
  · have E := Lib.hid (show comRow 4 = ⟨#[43, 43, 46, 46, 46, 46, 46]⟩ by decide +kernel)
    go_enter Tryz.func48, Tryz.ntmps48
    go_wp2
    go_ret
    exact ⟨by rw [E.out]; rfl, (Below.refl _ _).alloc (Nat.le_refl _) _⟩
  · have E := Lib.hid (show comRow 5 = ⟨#[43, 43, 46, 43, 46, 46, 46]⟩ by decide +kernel)
    go_enter Tryz.func48, Tryz.ntmps48
    go_wp2
    go_ret
    exact ⟨by rw [E.out]; rfl, (Below.refl _ _).alloc (Nat.le_refl _) _⟩
  · have E := Lib.hid (show comRow 6 = ⟨#[43, 46, 46, 46, 46, 46, 46]⟩ by decide +kernel)
    go_enter Tryz.func48, Tryz.ntmps48
    go_wp2
    go_ret
    exact ⟨by rw [E.out]; rfl, (Below.refl _ _).alloc (Nat.le_refl _) _⟩
theorem under_any (k : Nat) (hk : k < 7) (w : World) : Calls Tryz.prog 59 #[.int .i64 k] w fun e w' => e = .returned (.string (covRow k)) ∧ Below w.heap.size w w' := by
  have : k = 0 ∨ k = 1 ∨ k = 2 ∨ k = 3 ∨ k = 4 ∨ k = 5 ∨ k = 6 := by omega
  rcases this with rfl | rfl | rfl | rfl | rfl | rfl | rfl
  · have E := Lib.hid (show covRow 0 = ⟨#[43, 46, 46, 46, 46, 46, 46]⟩ by decide +kernel)
    go_enter Tryz.func59, Tryz.ntmps59
    go_wp2
    go_ret
    exact ⟨by rw [E.out]; rfl, (Below.refl _ _).alloc (Nat.le_refl _) _⟩
  · have E := Lib.hid (show covRow 1 = ⟨#[43, 43, 46, 46, 46, 46, 46]⟩ by decide +kernel)
    go_enter Tryz.func59, Tryz.ntmps59
    go_wp2
    go_ret
    exact ⟨by rw [E.out]; rfl, (Below.refl _ _).alloc (Nat.le_refl _) _⟩
  · have E := Lib.hid (show covRow 2 = ⟨#[43, 43, 43, 46, 46, 46, 46]⟩ by decide +kernel)
    go_enter Tryz.func59, Tryz.ntmps59
    go_wp2
    go_ret
    exact ⟨by rw [E.out]; rfl, (Below.refl _ _).alloc (Nat.le_refl _) _⟩
  · have E := Lib.hid (show covRow 3 = ⟨#[43, 43, 46, 43, 46, 46, 46]⟩ by decide +kernel)
    go_enter Tryz.func59, Tryz.ntmps59
    go_wp2
    go_ret
    exact ⟨by rw [E.out]; rfl, (Below.refl _ _).alloc (Nat.le_refl _) _⟩
  · have E := Lib.hid (show covRow 4 = ⟨#[43, 43, 43, 43, 43, 46, 46]⟩ by decide +kernel)
    go_enter Tryz.func59, Tryz.ntmps59
    go_wp2
    go_ret
    exact ⟨by rw [E.out]; rfl, (Below.refl _ _).alloc (Nat.le_refl _) _⟩
  · have E := Lib.hid (show covRow 5 = ⟨#[43, 43, 46, 43, 46, 43, 46]⟩ by decide +kernel)
    go_enter Tryz.func59, Tryz.ntmps59
    go_wp2
    go_ret
    exact ⟨by rw [E.out]; rfl, (Below.refl _ _).alloc (Nat.le_refl _) _⟩
  · have E := Lib.hid (show covRow 6 = ⟨#[43, 43, 43, 43, 43, 43, 43]⟩ by decide +kernel)
    go_enter Tryz.func59, Tryz.ntmps59
    go_wp2
    go_ret
    exact ⟨by rw [E.out]; rfl, (Below.refl _ _).alloc (Nat.le_refl _) _⟩
theorem signs_at (f : Nat → Bool) (b : Nat) (hb : b < 7) (h : b < (signs f).size) : (((signs f)[b].toNat : Int) == 43) = f b := by
  have : b = 0 ∨ b = 1 ∨ b = 2 ∨ b = 3 ∨ b = 4 ∨ b = 5 ∨ b = 6 := by omega
  rcases this with rfl | rfl | rfl | rfl | rfl | rfl | rfl
  · show (((pl (f 0)).toNat : Int) == 43) = f 0
    cases f 0 <;> rfl
  · show (((pl (f 1)).toNat : Int) == 43) = f 1
    cases f 1 <;> rfl
  · show (((pl (f 2)).toNat : Int) == 43) = f 2
    cases f 2 <;> rfl
  · show (((pl (f 3)).toNat : Int) == 43) = f 3
    cases f 3 <;> rfl
  · show (((pl (f 4)).toNat : Int) == 43) = f 4
    cases f 4 <;> rfl
  · show (((pl (f 5)).toNat : Int) == 43) = f 5
    cases f 5 <;> rfl
  · show (((pl (f 6)).toNat : Int) == 43) = f 6
    cases f 6 <;> rfl
theorem compatR_any (a b : Int) (w : World) : Calls Tryz.prog 29 #[.int .i64 a, .int .i64 b] w fun e w' => e = .returned (.bool (comB a b)) ∧ Below w.heap.size w w' := by
  have Ka := Lib.hid (fun W => knownR_any a W)
  have Kb := Lib.hid (fun W => knownR_any b W)
  cases ha : knownB a with
  | false =>
    rw [show comB a b = false by simp [comB, tabB, ha]]
    rw [ha] at Ka
    go_enter Tryz.func29, Tryz.ntmps29
    go_wp2_with fail
    refine (Ka.out _).mono ?_
    rintro e w' ⟨rfl, rfl⟩
    go_wp2_with fail
    go_ret
    exact ⟨rfl, Below.refl _ _⟩
  | true =>
    rw [ha] at Ka
    cases hb : knownB b with
    | false =>
      rw [show comB a b = false by simp [comB, tabB, hb]]
      rw [hb] at Kb
      go_enter Tryz.func29, Tryz.ntmps29
      go_wp2_with fail
      refine (Ka.out _).mono ?_
      rintro e w' ⟨rfl, rfl⟩
      go_wp2_with fail
      refine (Kb.out _).mono ?_
      rintro e w' ⟨rfl, rfl⟩
      go_wp2_with fail
      go_ret
      exact ⟨rfl, Below.refl _ _⟩
    | true =>
      rw [hb] at Kb
      obtain ⟨i, rfl, hi⟩ := known_nat ha
      obtain ⟨j, rfl, hj⟩ := known_nat hb
      have R := Lib.hid (fun W => row_any i hi W)
      have hz : (comRow i).size = 7 := rfl
      have hA := Lib.hid (fun h => signs_at (fun b => comB i b) j hj h)
      have i1 : (0 : Int) ≤ (j : Int) := by omega
      have i2 : (j : Int) < 7 := by omega
      go_enter Tryz.func29, Tryz.ntmps29
      go_wp2_with fail
      refine (Ka.out _).mono ?_
      rintro e w' ⟨rfl, rfl⟩
      go_wp2_with fail
      refine (Kb.out _).mono ?_
      rintro e w' ⟨rfl, rfl⟩
      go_wp2_with fail
      refine (R.out _).mono ?_
      rintro e w1 ⟨rfl, b1⟩
      go_wp2_with fail
      go_ret
      refine ⟨?_, b1⟩
      rw [← hA.out (by show j < 7; exact hj)]
      rfl
theorem coversR_any (a b : Int) (w : World) : Calls Tryz.prog 47 #[.int .i64 a, .int .i64 b] w fun e w' => e = .returned (.bool (covB a b)) ∧ Below w.heap.size w w' := by
  have Ka := Lib.hid (fun W => knownR_any a W)
  have Kb := Lib.hid (fun W => knownR_any b W)
  cases ha : knownB a with
  | false =>
    rw [show covB a b = false by simp [covB, tabB, ha]]
    rw [ha] at Ka
    go_enter Tryz.func47, Tryz.ntmps47
    go_wp2_with fail
    refine (Ka.out _).mono ?_
    rintro e w' ⟨rfl, rfl⟩
    go_wp2_with fail
    go_ret
    exact ⟨rfl, Below.refl _ _⟩
  | true =>
    rw [ha] at Ka
    cases hb : knownB b with
    | false =>
      rw [show covB a b = false by simp [covB, tabB, hb]]
      rw [hb] at Kb
      go_enter Tryz.func47, Tryz.ntmps47
      go_wp2_with fail
      refine (Ka.out _).mono ?_
      rintro e w' ⟨rfl, rfl⟩
      go_wp2_with fail
      refine (Kb.out _).mono ?_
      rintro e w' ⟨rfl, rfl⟩
      go_wp2_with fail
      go_ret
      exact ⟨rfl, Below.refl _ _⟩
    | true =>
      rw [hb] at Kb
      obtain ⟨i, rfl, hi⟩ := known_nat ha
      obtain ⟨j, rfl, hj⟩ := known_nat hb
      have R := Lib.hid (fun W => under_any i hi W)
      have hz : (covRow i).size = 7 := rfl
      have hA := Lib.hid (fun h => signs_at (fun b => covB i b) j hj h)
      have i1 : (0 : Int) ≤ (j : Int) := by omega
      have i2 : (j : Int) < 7 := by omega
      go_enter Tryz.func47, Tryz.ntmps47
      go_wp2_with fail
      refine (Ka.out _).mono ?_
      rintro e w' ⟨rfl, rfl⟩
      go_wp2_with fail
      refine (Kb.out _).mono ?_
      rintro e w' ⟨rfl, rfl⟩
      go_wp2_with fail
      refine (R.out _).mono ?_
      rintro e w1 ⟨rfl, b1⟩
      go_wp2_with fail
      go_ret
      refine ⟨?_, b1⟩
      rw [← hA.out (by show j < 7; exact hj)]
      rfl
end Go.Proofs.YthbamhfnemdebaaGreat
namespace Go.Proofs.YthbamhfnemdebaaGreat
open Go.RowKit
theorem holdsR_any (r : Rq) (w : World) : Calls Tryz.prog 28 #[r.val] w fun e w' => e = .returned (.bool (r.mode != 0)) ∧ Below w.heap.size w w' := by
  obtain ⟨id, txn, mode, want, since⟩ := r
  unfold Rq.val
  go_enter Tryz.func28, Tryz.ntmps28
  go_wp2
  go_ret
  exact ⟨rfl, (Below.refl _ _).alloc (Nat.le_refl _) _⟩
theorem waitsR_any (r : Rq) (w : World) : Calls Tryz.prog 27 #[r.val] w fun e w' => e = .returned (.bool (decide (0 < r.since))) ∧ Below w.heap.size w w' := by
  obtain ⟨id, txn, mode, want, since⟩ := r
  unfold Rq.val
  go_enter Tryz.func27, Tryz.ntmps27
  go_wp2
  go_ret
  exact ⟨rfl, (Below.refl _ _).alloc (Nat.le_refl _) _⟩
set_option maxHeartbeats 1000000 in
theorem at_any (t r n : Int) (v : Value) (l : List Rq) (id0 : Int) (w : World) (hv : RQ w v l) (hl : l.length ≤ 1000) :
    Calls Tryz.prog 65 #[hval t r v n, .int .i64 id0] w fun e w' => e = .returned (.int .i64 (idxF (fun q => q.id == id0) l 0)) ∧ Below w.heap.size w w' := by
  have h0 : ∀ b0, Sep (w.alloc (.cells b0 43)) [blk w.heap.size 43 b0, old w] := fun b0 => (Sep.start w).alloc b0 43
  replace h0 := Lib.hid h0
  obtain ⟨a, c, rfl, hlc, _, hr⟩ := hv
  replace hr := Lib.hid hr
  unfold hval
  go_enter Tryz.func65, Tryz.ntmps65
  go_wp2_with fail
  have hS := Lib.hid (h0.out #[.int .i64 t, .int .i64 r, .slice a l.length c, .int .i64 n])
  clear h0
  generalize hn : l.length = m at *
  replace hn := Lib.hid hn
  generalize hp : (fun q : Rq => q.id == id0) = p at *
  replace hp := Lib.hid hp
  go_loopg [5] m (fun g i wr => ∃ k : Nat, k ≤ m ∧ g = m - k ∧ i = .int .i64 k ∧ Hid (idxF p l 0 = idxF p (l.drop k) k) ∧ Hid (Sep wr [blk w.heap.size 43 #[.int .i64 t, .int .i64 r, .slice a m c, .int .i64 n], old w]))
  case atStart => exact ⟨0, Nat.zero_le _, rfl, rfl, rfl, hS⟩
  case round =>
    clear hS
    obtain ⟨k, hk, hg, rfl, he, hS⟩ := hrel
    obtain ⟨x1, d0, d1, x2, d3, _⟩ := hS.out.b4
    by_cases hlt : k < m
    · obtain ⟨b, off, rfl, hbl, hz⟩ := hr.out (by have := hn.out; omega)
      have z0 := (hz k (by have := hn.out; omega)).1
      rw [← hS.out.to1.gold.cell (by exact hbl)] at z0
      have E := Lib.hid (drop_at l k (by rw [hn.out]; exact hlt))
      have hpq := Lib.hid (show p (l.getD k default) = ((l.getD k default).id == id0) by rw [← hp.out])
      clear hz hr
      generalize l.getD k default = q at *
      cases hc : q.id == id0 with
      | true =>
        have E2 := Lib.hid (show idxF p l 0 = (k : Int) by rw [he.out, E.out]; simp only [idxF, hpq.out, hc, if_true])
        go_wp2_with fail
        go_ret
        exact ⟨by have h := E2.out; rw [← hp.out] at h; rw [h]; rfl, hS.out.to1.gold⟩
      | false =>
        have E2 := Lib.hid (show idxF p l 0 = idxF p (l.drop (k + 1)) (k + 1) by rw [he.out, E.out]; simp only [idxF, hpq.out, hc]; rfl)
        go_wp2_with fail
        go_roundg (m - (k + 1))
        case measure => omega
        case rel => exact ⟨k + 1, by omega, rfl, by go_num, E2, hS⟩
    · have hk2 : k = m := by omega
      have E := Lib.hid (show idxF p l 0 = -1 by rw [he.out, List.drop_eq_nil_of_le (by rw [hn.out]; omega)]; rfl)
      clear he
      go_wp2_with fail
      go_ret
      exact ⟨by have h := E.out; rw [← hp.out] at h; rw [h]; rfl, hS.out.to1.gold⟩
end Go.Proofs.YthbamhfnemdebaaGreat
namespace Go.Proofs.YthbamhfnemdebaaGreat
open Go.RowKit
/-- No two requests have one number. -/
def IdsD (l : List Rq) : Prop := ∀ i j, i < l.length → j < l.length → (l.getD i default).id = (l.getD j default).id → i = j
theorem take_snocQ (l : List Rq) (k : Nat) (h : k < l.length) : l.take (k + 1) = l.take k ++ [l.getD k default] := by
  rw [List.take_succ_eq_append_getElem h]; simp [List.getD, h]
end Go.Proofs.YthbamhfnemdebaaGreat
namespace Go.Proofs.YthbamhfnemdebaaGreat
open Go.RowKit
theorem qcells_drop (l : List Rq) : ∀ k, qcells (l.drop k) = (qcells l).drop (k * 5) := by
  induction l with
  | nil => intro k; simp [qcells]
  | cons r l ih =>
    intro k
    cases k with
    | zero => simp
    | succ k =>
      simp only [List.drop_succ_cons]
      rw [ih k]
      simp only [qcells, List.flatMap_cons]
      rw [show (k + 1) * 5 = r.cells.length + k * 5 by simp [Rq.cells]; omega, List.drop_append]
      simp
theorem RQ.src_drop {w : World} {b off m c c' k : Nat} {l : List Rq} (h : RQ w (.slice (some ⟨b, off, none⟩) m c) l) (hk : k ≤ m) (hl : l.length = m) : SrcA w 5 (.slice (some ⟨b, off + k * 5, none⟩) (m - k) c') (m - k) (qcells (l.drop k)) := by
  rcases h.src with ⟨h, _⟩ | ⟨ad, c2, he, hlen, hc⟩
  · cases h
  · injection he with e1 e2 e3
    injection e1 with e1
    subst e1
    refine .inr ⟨_, _, rfl, by rw [qcells_len, List.length_drop, hl], fun j u hu => ?_⟩
    rw [qcells_drop, List.getElem?_drop] at hu
    have := hc _ u hu
    rw [Addr.add_lit] at this ⊢
    rw [show off + k * 5 + j = off + (k * 5 + j) by omega]
    exact this
end Go.Proofs.YthbamhfnemdebaaGreat
namespace Go.Proofs.YthbamhfnemdebaaGreat
open Go.RowKit
theorem boxes2 (w : World) (t0 t1 : TypeId) (b1 b2 : Array Value) : Sep ((w.alloc (.cells b1 t0)).alloc (.cells b2 t1)) [blk (w.heap.size + 1) t1 b2, blk w.heap.size t0 b1, old w] := by
  have := ((Sep.start w).alloc b1 t0).alloc b2 t1
  rw [World.size_alloc] at this
  exact this
end Go.Proofs.YthbamhfnemdebaaGreat
namespace Go.Proofs.YthbamhfnemdebaaGreat
open Go.RowKit
/-- May a request be by itself? -/
def rightB (r : Rq) (n : Int) : Bool := decide (0 ≤ r.id) && (knownB r.mode && (knownB r.want && (decide (0 ≤ r.since) && (decide (r.since ≤ n) && (if 0 < r.since then !covB r.mode r.want else (r.mode != 0 && r.want == r.mode))))))
set_option maxHeartbeats 1000000 in
theorem rightR_any (r : Rq) (n : Int) (w : World) : Calls Tryz.prog 26 #[r.val, .int .i64 n] w fun e w' => e = .returned (.bool (rightB r n)) ∧ Below w.heap.size w w' := by
  have Km := Lib.hid (fun W => knownR_any r.mode W)
  have Kw := Lib.hid (fun W => knownR_any r.want W)
  have HW := Lib.hid (fun W => waitsR_any r W)
  have HH := Lib.hid (fun W => holdsR_any r W)
  have HC := Lib.hid (fun W => coversR_any r.mode r.want W)
  unfold rightB
  obtain ⟨id, txn, mode, want, since⟩ := r
  have hb0 := Lib.hid ((Below.refl w.heap.size w).alloc (Nat.le_refl _) (.cells #[.int .i64 id, .int .i64 txn, .int .i64 mode, .int .i64 want, .int .i64 since] 58))
  unfold Rq.val at *
  simp only at Km Kw HW HH HC ⊢
  by_cases h0 : id < 0
  · have d0 : decide (id < 0) = true := decide_eq_true h0
    rw [show decide (0 ≤ id) = false by simp; omega]
    clear h0
    go_enter Tryz.func26, Tryz.ntmps26
    go_wp2_with fail
    all_goals go_ret
    all_goals exact ⟨by first | rfl | (simp; done), hb0.out⟩
  · have d0 : decide (id < 0) = false := decide_eq_false h0
    rw [show decide (0 ≤ id) = true by simp; omega]
    clear h0
    cases hm : knownB mode with
    | false =>
      rw [hm] at Km
      go_enter Tryz.func26, Tryz.ntmps26
      go_wp2_with fail
      refine (Km.out _).mono ?_
      rintro e w' ⟨rfl, rfl⟩
      go_wp2_with fail
      all_goals go_ret
      all_goals exact ⟨by first | rfl | (simp; done), hb0.out⟩
    | true =>
      rw [hm] at Km
      cases hw : knownB want with
      | false =>
        rw [hw] at Kw
        go_enter Tryz.func26, Tryz.ntmps26
        go_wp2_with fail
        refine (Km.out _).mono ?_
        rintro e w' ⟨rfl, rfl⟩
        go_wp2_with fail
        refine (Kw.out _).mono ?_
        rintro e w' ⟨rfl, rfl⟩
        go_wp2_with fail
        all_goals go_ret
        all_goals exact ⟨by first | rfl | (simp; done), hb0.out⟩
      | true =>
        rw [hw] at Kw
        by_cases h1 : since < 0
        · have d1 : decide (since < 0) = true := decide_eq_true h1
          rw [show decide (0 ≤ since) = false by simp; omega]
          clear h1
          go_enter Tryz.func26, Tryz.ntmps26
          go_wp2_with fail
          refine (Km.out _).mono ?_
          rintro e w' ⟨rfl, rfl⟩
          go_wp2_with fail
          refine (Kw.out _).mono ?_
          rintro e w' ⟨rfl, rfl⟩
          go_wp2_with fail
          all_goals go_ret
          all_goals exact ⟨by first | rfl | (simp; done), hb0.out⟩
        · have d1 : decide (since < 0) = false := decide_eq_false h1
          rw [show decide (0 ≤ since) = true by simp; omega]
          clear h1
          by_cases h2 : n < since
          · have d2 : decide (n < since) = true := decide_eq_true h2
            rw [show decide (since ≤ n) = false by simp; omega]
            clear h2
            go_enter Tryz.func26, Tryz.ntmps26
            go_wp2_with fail
            refine (Km.out _).mono ?_
            rintro e w' ⟨rfl, rfl⟩
            go_wp2_with fail
            refine (Kw.out _).mono ?_
            rintro e w' ⟨rfl, rfl⟩
            go_wp2_with fail
            all_goals go_ret
            all_goals exact ⟨by first | rfl | (simp; done), hb0.out⟩
          · have d2 : decide (n < since) = false := decide_eq_false h2
            rw [show decide (since ≤ n) = true by simp; omega]
            clear h2
            by_cases h3 : 0 < since
            · rw [decide_eq_true h3] at HW
              rw [if_pos h3]
              clear h3
              go_enter Tryz.func26, Tryz.ntmps26
              go_wp2_with fail
              refine (Km.out _).mono ?_
              rintro e w' ⟨rfl, rfl⟩
              go_wp2_with fail
              refine (Kw.out _).mono ?_
              rintro e w' ⟨rfl, rfl⟩
              go_wp2_with fail
              refine (HW.out _).mono ?_
              rintro e w1 ⟨rfl, b1⟩
              obtain ⟨c0, c1, c2, c3, c4⟩ := cellsA b1 _ _ _ _ _ rfl
              have hb1 := Lib.hid (belA _ b1)
              clear b1
              go_wp2_with fail
              refine (HC.out _).mono ?_
              rintro e w2 ⟨rfl, b2⟩
              replace hb1 := Lib.hid (belT hb1.out b2)
              clear b2 c0 c1 c2 c3 c4
              go_wp2_with fail
              all_goals go_ret
              all_goals exact ⟨by first | rfl | (simp; done), hb1.out⟩
            · rw [decide_eq_false h3] at HW
              rw [if_neg h3]
              clear h3
              cases hmo : mode != 0 with
              | false =>
                rw [hmo] at HH
                go_enter Tryz.func26, Tryz.ntmps26
                go_wp2_with fail
                refine (Km.out _).mono ?_
                rintro e w' ⟨rfl, rfl⟩
                go_wp2_with fail
                refine (Kw.out _).mono ?_
                rintro e w' ⟨rfl, rfl⟩
                go_wp2_with fail
                refine (HW.out _).mono ?_
                rintro e w1 ⟨rfl, b1⟩
                obtain ⟨c0, c1, c2, c3, c4⟩ := cellsA b1 _ _ _ _ _ rfl
                have hb1 := Lib.hid (belA _ b1)
                clear b1
                go_wp2_with fail
                refine (HH.out _).mono ?_
                rintro e w2 ⟨rfl, b2⟩
                replace hb1 := Lib.hid (belT hb1.out b2)
                clear b2 c0 c1 c2 c3 c4
                go_wp2_with fail
                all_goals go_ret
                all_goals exact ⟨by first | rfl | (simp; done), hb1.out⟩
              | true =>
                rw [hmo] at HH
                go_enter Tryz.func26, Tryz.ntmps26
                go_wp2_with fail
                refine (Km.out _).mono ?_
                rintro e w' ⟨rfl, rfl⟩
                go_wp2_with fail
                refine (Kw.out _).mono ?_
                rintro e w' ⟨rfl, rfl⟩
                go_wp2_with fail
                refine (HW.out _).mono ?_
                rintro e w1 ⟨rfl, b1⟩
                obtain ⟨c0, c1, c2, c3, c4⟩ := cellsA b1 _ _ _ _ _ rfl
                have hb1 := Lib.hid (belA _ b1)
                clear b1
                have hcc := Lib.hid (And.intro c2 c3)
                go_wp2_with fail
                refine (HH.out _).mono ?_
                rintro e w2 ⟨rfl, b2⟩
                have l1 := World.block_lt_of_cell? _ _ c0
                replace c2 := (b2.cell (p := ⟨w.heap.size, 2, none⟩) l1).trans c2
                replace c3 := (b2.cell (p := ⟨w.heap.size, 3, none⟩) l1).trans c3
                replace hb1 := Lib.hid (belT hb1.out b2)
                clear b2 c0 c1 c4
                go_wp2_with fail
                all_goals go_ret
                all_goals exact ⟨by first | rfl | (simp; done), hb1.out⟩
end Go.Proofs.YthbamhfnemdebaaGreat
namespace Go.Proofs.YthbamhfnemdebaaGreat
open Go.RowKit
end Go.Proofs.YthbamhfnemdebaaGreat
