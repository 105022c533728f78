import Derived.Test.YtidhhadelgdeiaaCallsB
namespace Go.Proofs.Ytidhhadelgdeiaa
open Go.RowKit

theorem below_grown {B : Nat} {a w w' : World} {g : Nat} (h : Below B a w) (hg : w.grownBy w' (some g)) (hB : B ≤ w.heap.size) (hr : B ≤ g) : Below B a w' :=
  h.grown hg hB (fun k hk => by injection hk with hk; omega)

theorem below_drewN {B : Nat} {a w : World} (h : Below B a w) (n : Nat) : Below B a (w.drewN n) := ⟨h.os, h.tape, h.output, h.size, h.block⟩
theorem lives_any (w : World) : Calls Try.prog 8 #[] w fun e w' => e = .returned (.bool true) ∧ Below w.heap.size w w' := by
  have HN := Lib.hid (new_ok 1 w (by omega) (by omega))
  go_enter Try.func8, Try.ntmps8
  go_wp2_with fail
  refine HN.out.mono ?_
  rintro e w1 ⟨rfl, h1, b1⟩
  have h1 : Lat w1 (w.heap.size + 1) w.heap.size [-1] := h1
  go_wp2_with fail
  refine (try_any _ _ 0 1 [-1] _ h1).mono ?_
  rintro e w2 ⟨rfl, h2, b2⟩
  have h2 : Lat w2 (w.heap.size + 1) w.heap.size [1] := h2
  have b2 := below_grown b1 b2 b1.size (Nat.le_refl _)
  rw [show tryB [-1] 0 1 = true from rfl, show tryC [-1] 0 1 = 0 from rfl]
  clear h1 b1
  go_wp2_with fail
  refine (try_any _ _ 0 2 [1] _ h2).mono ?_
  rintro e w3 ⟨rfl, h3, b3⟩
  have h3 : Lat w3 (w.heap.size + 1) w.heap.size [1] := h3
  have b3 := below_grown b2 b3 b2.size (Nat.le_refl _)
  rw [show tryB [1] 0 2 = false from rfl, show tryC [1] 0 2 = 0 from rfl]
  clear h2 b2
  go_wp2_with fail
  refine (free_any _ _ 0 1 [1] _ h3).mono ?_
  rintro e w4 ⟨rfl, h4, b4⟩
  have h4 : Lat w4 (w.heap.size + 1) w.heap.size [-1] := h4
  have b4 := below_grown b3 b4 b3.size (Nat.le_refl _)
  rw [show freeC [1] 0 1 = 0 from rfl]
  clear h3 b3
  go_wp2_with fail
  refine (try_any _ _ 0 2 [-1] _ h4).mono ?_
  rintro e w5 ⟨rfl, h5, b5⟩
  have b5 := below_grown b4 b5 b4.size (Nat.le_refl _)
  rw [show tryB [-1] 0 2 = true from rfl, show tryC [-1] 0 2 = 0 from rfl]
  clear h4 b4
  go_wp2_with fail
  go_ret
  exact ⟨rfl, b5⟩

theorem new_okI (n : Int) (w : World) (h1 : 1 ≤ n) (h2 : n ≤ 16) : Calls Try.prog 10 #[.int .i64 n] w fun e w' => e = .returned (.tuple #[.pointer (some ⟨w.heap.size + 1, 0, none⟩), .int .i64 0]) ∧ Lat w' (w.heap.size + 1) w.heap.size (List.replicate n.toNat (-1)) ∧ Below w.heap.size w w' := by
  obtain ⟨n, rfl⟩ := Int.eq_ofNat_of_zero_le (show 0 ≤ n by omega)
  exact new_ok n w (by omega) (by omega)

/-- Pick answers a number below m. -/
structure Picks (n m : Int) (k : Nat) : Prop where
  lt : (k : Int) < m
  eq : Hid ((k : Int) = n % m)
  run : Hid (∀ w : World, Calls Try.prog 9 #[.int .i64 n, .int .i64 m] w fun e w' => e = .returned (.int .i64 k) ∧ w = w')
  quiet : Hid (∀ w : World, Calls Try.prog 9 #[.int .i64 n, .int .i64 m] w fun e w' => e = .returned (.int .i64 k) ∧ w' = w)
theorem pick_nat (n m : Int) (h1 : 1 ≤ m) (h2 : m ≤ 1000000) : ∃ k : Nat, Picks n m k := by
  have hb1 := Int.emod_nonneg n (show m ≠ 0 by omega)
  have hb2 := Int.emod_lt_of_pos n (show 0 < m by omega)
  obtain ⟨k, hk⟩ := Int.eq_ofNat_of_zero_le hb1
  exact ⟨k, by omega, hk.symm, fun w => by rw [← hk]; exact pick_any n m (by omega) (by omega) w, fun w => by rw [← hk]; exact (pick_any n m (by omega) (by omega) w).mono fun _ _ h => ⟨h.1, h.2.symm⟩⟩

/-- A slice of structs of nf integers (int) that came in. -/
def IsRows (nf : Nat) (w : World) (a : Option Addr) (len cap : Nat) (z : Nat → Nat → Int) : Prop :=
  len ≤ cap ∧ cap ≤ maxLen ∧ (0 < len → ∃ b off, a = some ⟨b, off, none⟩ ∧ b < w.heap.size ∧ ∀ i, i < len → ∀ j, j < nf → w.cell? ⟨b, off + i * nf + j, none⟩ = some (.int .i64 (z i j)) ∧ (Lit.int .i64 (z i j)).wf = true)

def heldArr (L : List Int) : Array Value := (L.map fun s => Value.int .i64 (s + 1)).toArray

theorem heldArr_new (n : Nat) : madeCells (Value.int .i64 0).cells (n * 1) = heldArr (List.replicate n (-1)) := by
  rw [Nat.mul_one]
  apply Array.toList_inj.1
  rw [show (Value.int .i64 0).cells = #[Value.int .i64 0] from rfl, toList_madeCells_one]
  simp [heldArr]
theorem heldArr_at (L : List Int) (k : Nat) (h : k < L.length) : (heldArr L)[k]? = some (.int .i64 (L.getD k 0 + 1)) := by
  simp [heldArr, h, List.getD]
theorem heldArr_set (L : List Int) (k : Nat) (t : Int) : (heldArr L).setIfInBounds k (.int .i64 (t + 1)) = heldArr (L.set k t) := by
  apply Array.toList_inj.1
  simp [heldArr, List.map_set]
/-- Each latch is free or held by one of the eight threads. -/
def Good (n : Nat) (L : List Int) : Prop := L.length = n ∧ ∀ k, k < n → L.getD k 0 = -1 ∨ (0 ≤ L.getD k 0 ∧ L.getD k 0 < 8)
theorem Good.set {n : Nat} {L : List Int} (h : Good n L) (k : Nat) (t : Int) (ht : t = -1 ∨ 0 ≤ t ∧ t < 8) : Good n (L.set k t) := by
  refine ⟨by simp [h.1], fun j hj => ?_⟩
  have := h.2 j hj
  by_cases e : k = j
  · subst e
    rw [show (L.set k t).getD k 0 = t by simp [List.getD, h.1, hj]]
    exact ht
  · rw [show (L.set k t).getD j 0 = L.getD j 0 by simp [List.getD, List.getElem?_set, e]]
    exact this
theorem Good.new (n : Nat) : Good n (List.replicate n (-1)) := ⟨by simp, fun k hk => .inl (by simp [List.getD, hk])⟩


theorem Lat.grown_type {w w' : World} {p g b : Nat} {L : List Int} {t : TypeId} {cs : Array Value} (h : Lat w p g L) (hb : Blk w b t cs) (ht : t ≠ 48 ∧ t ≠ 49 ∧ t ≠ 51) (hg : w.grownBy w' (some b)) : Lat w' p g L := by
  obtain ⟨cs0, h0, hs, hc⟩ := h.hg
  refine ⟨h.hp.grown hg (fun e => by injection e with e; exact h.hp.ne_ hb (Ne.symm ht.1) e), ⟨cs0, h0.grown hg (fun e => by injection e with e; exact h0.ne_ hb (Ne.symm ht.2.1) e), hs, fun k hk => ?_⟩, h.len⟩
  obtain ⟨v, hv, hl⟩ := hc k hk
  refine ⟨v, hv, ?_⟩
  rcases hl with h | ⟨h0, b, hv, hk⟩
  · exact .inl h
  · exact .inr ⟨h0, b, hv, hk.grown hg (fun e => by injection e with e; exact hk.ne_ hb (Ne.symm ht.2.2) e)⟩
theorem Lat.below {w w' : World} {p g : Nat} {L : List Int} (h : Lat w p g L) (hb : Below w.heap.size w w') : Lat w' p g L := h.grown_none (grown_below hb rfl)
theorem Blk.below' {w w' : World} {g : Nat} {t : TypeId} {cs : Array Value} (h : Blk w g t cs) (hb : Below w.heap.size w w') : Blk w' g t cs := h.below hb h.lt
theorem own_slice {w : World} {base : Nat} {e : TypeId} {size n : Nat} {v : Value} {xs : List Value} (h : w.ownsRow base e size v n xs) : ∃ a cap, v = .slice a n cap := by
  rcases h.2 with ⟨rfl, rfl⟩ | ⟨g, cap, cur, rfl, _⟩
  · exact ⟨none, 0, rfl⟩
  · exact ⟨_, cap, rfl⟩
theorem own_cells {w : World} {base : Nat} {e : TypeId} {n : Nat} {a : Option Addr} {c : Nat} {xs : List Value} (h : w.ownsRow base e 1 (.slice a n c) n xs) (hn : 0 < n) : ∃ g, a = some ⟨g, 0, none⟩ ∧ base ≤ g ∧ g < w.heap.size ∧ ∀ j (hj : j < xs.length), w.cell? ⟨g, j, none⟩ = some xs[j] := by
  rcases h.2 with ⟨h1, h2⟩ | ⟨g, cap, cur, h1, hb, hg, hnc, hcm, hcs, htake⟩
  · omega
  · injection h1 with h1 _ _
    subst h1
    refine ⟨g, rfl, hb, (Array.getElem?_eq_some_iff.1 hg).1, fun j hj => ?_⟩
    rw [cell_of_row w g j cur e (0, 0) hg]
    subst htake
    simp only [List.length_take] at hj
    rw [List.getElem_take, ← Array.getElem?_toList, List.getElem?_eq_getElem (by omega)]

/-- Each number held is that of a latch that t holds. -/
theorem heldK_spec (L : List Int) (t : Int) : ∀ k j (hj : j < (heldK L t k).length), ∃ q : Nat, (heldK L t k)[j] = q ∧ q < k ∧ L.getD q 0 = t
  | 0, j, hj => by simp [heldK] at hj
  | k+1, j, hj => by
    have key : ∀ l : List Int, heldK L t (k+1) = l → ∀ hj : j < l.length, ∃ q : Nat, l[j] = q ∧ q < k + 1 ∧ L.getD q 0 = t := by
      rintro l rfl hj
      by_cases h : j < (heldK L t k).length
      · obtain ⟨q, h1, h2, h3⟩ := heldK_spec L t k j h
        refine ⟨q, ?_, by omega, h3⟩
        rw [← h1]
        simp only [heldK]
        exact List.getElem_append_left h
      · by_cases hc : L.getD k 0 ≠ -1 ∧ L.getD k 0 = t
        · refine ⟨k, ?_, by omega, hc.2⟩
          simp only [heldK, if_pos hc] at hj ⊢
          rw [List.getElem_append_right (by omega)]
          simp
        · simp only [heldK, if_neg hc, List.append_nil] at hj
          omega
    exact key _ rfl hj
theorem heldK_up (L : List Int) (t : Int) : ∀ k j (hj : j + 1 < (heldK L t k).length), (heldK L t k)[j] < (heldK L t k)[j + 1]
  | 0, j, hj => by simp [heldK] at hj
  | k+1, j, hj => by
    by_cases h : j + 1 < (heldK L t k).length
    · have := heldK_up L t k j h
      simp only [heldK]
      rw [List.getElem_append_left (by omega), List.getElem_append_left h]
      exact this
    · by_cases hc : L.getD k 0 ≠ -1 ∧ L.getD k 0 = t
      · have e : j + 1 = (heldK L t k).length := by simp only [heldK, if_pos hc] at hj; simp at hj; omega
        obtain ⟨q, h1, h2, h3⟩ := heldK_spec L t k j (by omega)
        simp only [heldK, if_pos hc]
        rw [List.getElem_append_left (by omega), h1, List.getElem_append_right (by omega)]
        simp
        omega
      · simp only [heldK, if_neg hc, List.append_nil] at hj
        omega
/-- How many latches the threads below k hold together. -/
def hsum (L : List Int) (n : Nat) : Nat → Nat
  | 0 => 0
  | k+1 => hsum L n k + (heldK L k n).length
theorem hsum_le (L : List Int) (n : Nat) : ∀ k, hsum L n k ≤ k * n
  | 0 => by simp [hsum]
  | k+1 => by have := hsum_le L n k; have := heldK_len L k n; simp only [hsum, Nat.add_mul]; omega
theorem hsum_cnt (L : List Int) : ∀ n, (∀ k, k < n → L.getD k 0 = -1 ∨ (0 ≤ L.getD k 0 ∧ L.getD k 0 < 8)) → hsum L n 8 = cnt L n
  | 0, _ => by simp [hsum, heldK, cnt]
  | n+1, h => by
    have ih := hsum_cnt L n (fun k hk => h k (by omega))
    have hn := h n (by omega)
    simp only [hsum, heldK, cnt, List.length_append, show ((0 : Nat) : Int) = 0 from rfl, show ((1 : Nat) : Int) = 1 from rfl, show ((2 : Nat) : Int) = 2 from rfl, show ((3 : Nat) : Int) = 3 from rfl, show ((4 : Nat) : Int) = 4 from rfl, show ((5 : Nat) : Int) = 5 from rfl, show ((6 : Nat) : Int) = 6 from rfl, show ((7 : Nat) : Int) = 7 from rfl] at ih ⊢
    generalize L.getD n 0 = s at *
    have e : ∀ t : Int, (if s ≠ -1 ∧ s = t then [(n : Int)] else []).length = if s ≠ -1 ∧ s = t then 1 else 0 := by intro t; split <;> rfl
    simp only [e]
    rcases hn with rfl | hn
    · simp; omega
    · have : s = 0 ∨ s = 1 ∨ s = 2 ∨ s = 3 ∨ s = 4 ∨ s = 5 ∨ s = 6 ∨ s = 7 := by omega
      rcases this with rfl | rfl | rfl | rfl | rfl | rfl | rfl | rfl <;> simp <;> omega
end Go.Proofs.Ytidhhadelgdeiaa
