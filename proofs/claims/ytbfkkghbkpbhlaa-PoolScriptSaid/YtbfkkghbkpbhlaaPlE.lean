/-
  A pool's state: which numbers are lent, and the heap of those that are not; New. No condition beside the number of numbers.
-/
import Derived.Test.YtbfkkghbkpbhlaaPlD
namespace Go.Proofs.Ytbfkkghbkpbhlaa
open Go.RowKit
def bools (l : List Bool) : List Value := l.map Value.bool
theorem bools_at (l : List Bool) (k : Nat) (h : k < l.length) : (bools l)[k]? = some (.bool (l.getD k false)) := by simp [bools, List.getD_eq_getElem?_getD, h]
theorem bools_set (l : List Bool) (k : Nat) (b : Bool) : (bools l).set k (.bool b) = bools (l.set k b) := by simp [bools, List.map_set]
abbrev bVec (lv : Value) (n : Nat) (l : List Bool) : Res := vec 4 1 lv n (bools l)
structure PoolOK (xs : List Int) (lent : List Bool) : Prop where
  heap : HeapN xs xs.length
  inj : Inj xs
  has : ∀ v, Has xs v ↔ ∃ k : Nat, k < lent.length ∧ v = k ∧ lent.getD k false = false
  cnt : xs.length + lent.count true = lent.length
theorem getD_set (l : List Bool) (k j : Nat) (b : Bool) (hk : k < l.length) : (l.set k b).getD j false = if j = k then b else l.getD j false := by
  simp only [List.getD_eq_getElem?_getD]
  by_cases h : j = k
  · subst h
    rw [if_pos rfl, List.getElem?_set_self hk]
    rfl
  · rw [if_neg h, List.getElem?_set_ne (fun e => h e.symm)]
theorem count_up : ∀ (l : List Bool) (k : Nat), k < l.length → l.getD k false = false → (l.set k true).count true = l.count true + 1
  | [], k, h, _ => absurd h (by simp)
  | b :: l, 0, _, h => by
    have : b = false := by simpa using h
    subst this
    simp
  | b :: l, k + 1, h, h2 => by
    have ih := count_up l k (by simpa using h) (by simpa using h2)
    rw [List.set_cons_succ, List.count_cons, List.count_cons, ih]
    omega
theorem count_dn : ∀ (l : List Bool) (k : Nat), k < l.length → l.getD k false = true → (l.set k false).count true + 1 = l.count true
  | [], k, h, _ => absurd h (by simp)
  | b :: l, 0, _, h => by
    have : b = true := by simpa using h
    subst this
    simp
  | b :: l, k + 1, h, h2 => by
    have ih := count_dn l k (by simpa using h) (by simpa using h2)
    rw [List.set_cons_succ, List.count_cons, List.count_cons]
    omega
/-- The number that is lent next. -/
theorem take_ok {xs : List Int} {lent : List Bool} (h : PoolOK xs lent) (h0 : 0 < xs.length) : ∃ k : Nat, k < lent.length ∧ xs.getD 0 0 = k ∧ lent.getD k false = false ∧ (∀ j, j < k → lent.getD j false = true) ∧ PoolOK (popL xs) (lent.set k true) := by
  obtain ⟨k, hk, hv, hf⟩ := (h.has _).1 ⟨0, h0, rfl⟩
  obtain ⟨_, _, r3, r4, r5, r6⟩ := pop_all xs h.heap h0 h.inj
  refine ⟨k, hk, hv, hf, fun j hj => ?_, ?_⟩
  · cases hb : lent.getD j false with
    | true => rfl
    | false =>
      obtain ⟨p, hp, he⟩ := (h.has j).2 ⟨j, by omega, rfl, hb⟩
      have := heap_min xs _ h.heap p hp
      rw [he, hv] at this
      omega
  · refine ⟨by rw [r4]; exact r3, r5, fun v => (r6 v).trans ?_, ?_⟩
    · rw [h.has, hv, List.length_set]
      constructor
      · rintro ⟨⟨j, hj, rfl, hb⟩, hne⟩
        refine ⟨j, hj, rfl, ?_⟩
        rw [getD_set _ _ _ _ hk, if_neg (fun e => hne (by rw [e]))]
        exact hb
      · rintro ⟨j, hj, rfl, hb⟩
        rw [getD_set _ _ _ _ hk] at hb
        split at hb
        · cases hb
        · rename_i hjk
          exact ⟨⟨j, hj, rfl, hb⟩, fun e => hjk (by omega)⟩
    · rw [r4, List.length_set, count_up _ _ hk hf]
      have := h.cnt
      omega
theorem give_ok {xs : List Int} {lent : List Bool} {k : Nat} (h : PoolOK xs lent) (hk : k < lent.length) (hb : lent.getD k false = true) : PoolOK (pushL xs k) (lent.set k false) := by
  obtain ⟨r1, r2, r3, r4⟩ := push_all xs k h.heap
  refine ⟨by rw [r2]; exact r1, r3 h.inj (fun hh => ?_), fun v => (r4 v).trans ?_, ?_⟩
  · obtain ⟨j, hj, he, hf⟩ := (h.has _).1 hh
    have : k = j := by omega
    subst this
    rw [hb] at hf
    cases hf
  · rw [h.has, List.length_set]
    constructor
    · rintro (⟨j, hj, rfl, hf⟩ | rfl)
      · refine ⟨j, hj, rfl, ?_⟩
        rw [getD_set _ _ _ _ hk]
        split
        · rfl
        · exact hf
      · exact ⟨k, hk, rfl, by rw [getD_set _ _ _ _ hk, if_pos rfl]⟩
    · rintro ⟨j, hj, rfl, hf⟩
      rw [getD_set _ _ _ _ hk] at hf
      split at hf
      · rename_i e
        exact .inr (by rw [e])
      · exact .inl ⟨j, hj, rfl, hf⟩
  · rw [r2, List.length_set]
    have := count_dn _ _ hk hb
    have := h.cnt
    omega
/-- The pool at p: what is lent. -/
def poolR (p : Nat) (lent : List Bool) : Res := exi fun (x : Option Addr × Nat × List Int × Nat × Nat) => star (prop (PoolOK x.2.2.1 lent)) (star (pBlk p (.slice x.1 x.2.2.1.length x.2.1) (.slice (some ⟨x.2.2.2.1, 0, none⟩) lent.length x.2.2.2.2)) (star (jVec (.slice x.1 x.2.2.1.length x.2.1) x.2.2.1.length x.2.2.1) (bVec (.slice (some ⟨x.2.2.2.1, 0, none⟩) lent.length x.2.2.2.2) lent.length lent)))
theorem pool_open {w : World} {p : Nat} {lent : List Bool} {rs : List Res} (h : Sep w (poolR p lent :: rs)) : ∃ fa c xs g lc, PoolOK xs lent ∧ Sep w (pBlk p (.slice fa xs.length c) (.slice (some ⟨g, 0, none⟩) lent.length lc) :: jVec (.slice fa xs.length c) xs.length xs :: bVec (.slice (some ⟨g, 0, none⟩) lent.length lc) lent.length lent :: rs) := by
  obtain ⟨⟨fa, c, xs, g, lc⟩, h1⟩ := h.gexi
  obtain ⟨h2, h3⟩ := Sep.gprop.1 (Sep.gstar.1 h1)
  have h4 := Sep.gstar.1 h3
  have h5 := Sep.gstar.1 h4.to1
  exact ⟨fa, c, xs, g, lc, h2, h5.to2⟩
theorem pool_close {w : World} {p : Nat} {lent : List Bool} {rs : List Res} {fa : Option Addr} {c : Nat} {xs : List Int} {g lc : Nat} (hp : PoolOK xs lent) (h : Sep w (pBlk p (.slice fa xs.length c) (.slice (some ⟨g, 0, none⟩) lent.length lc) :: jVec (.slice fa xs.length c) xs.length xs :: bVec (.slice (some ⟨g, 0, none⟩) lent.length lc) lent.length lent :: rs)) : Sep w (poolR p lent :: rs) := by
  refine Sep.exi_mk (fa, c, xs, g, lc) (Sep.gstar.2 (Sep.gprop.2 ⟨hp, Sep.gstar.2 ?_⟩))
  exact (Sep.gstar.2 h.to2.to2).to1
theorem info_bool : (Try.prog.info? 4).map (fun i => (i.zero, i.size, i.bytes)) = some (some (.bool false), 1, 1) := by kernel_rfl
theorem Sep.vb_new {w : World} {rs : List Res} (h : Sep w rs) (n : Nat) (hn : n ≤ 1000) : Sep (w.alloc (.cells (madeCells #[Value.bool false] n) 4)) (bVec (.slice (some ⟨w.heap.size, 0, none⟩) n n) n (List.replicate n false) :: rs) := by
  have h1 := h.alloc (madeCells #[Value.bool false] n) 4
  refine h1.blk_vec (by simp [bools]) (Nat.le_refl _) (by unfold maxLen; omega) (by rw [size_madeCells, Nat.mul_one]) ?_
  rw [toList_madeCells_one]
  simp [bools]
/-- While the numbers are put in. -/
structure FillOK (xs : List Int) (i : Nat) : Prop where
  heap : HeapN xs xs.length
  inj : Inj xs
  has : ∀ v, Has xs v ↔ ∃ k : Nat, k < i ∧ v = k
  len : xs.length = i
theorem fill_zero : FillOK [] 0 := ⟨fun k _ h => absurd h (by simp), fun p q h => absurd h (by simp), fun v => ⟨fun ⟨p, h, _⟩ => absurd h (by simp), fun ⟨k, h, _⟩ => absurd h (by omega)⟩, rfl⟩
theorem fill_succ {xs : List Int} {i : Nat} (h : FillOK xs i) : FillOK (pushL xs i) (i + 1) := by
  obtain ⟨r1, r2, r3, r4⟩ := push_all xs i h.heap
  refine ⟨by rw [r2]; exact r1, r3 h.inj (fun hh => ?_), fun v => (r4 v).trans ?_, by rw [r2, h.len]⟩
  · obtain ⟨k, hk, he⟩ := (h.has _).1 hh
    omega
  · rw [h.has]
    constructor
    · rintro (⟨k, hk, he⟩ | rfl)
      · exact ⟨k, by omega, he⟩
      · exact ⟨i, by omega, rfl⟩
    · rintro ⟨k, hk, rfl⟩
      by_cases e : k = i
      · exact .inr (by rw [e])
      · exact .inl ⟨k, by omega, rfl⟩
theorem fill_all {xs : List Int} {n : Nat} (h : FillOK xs n) : PoolOK xs (List.replicate n false) := by
  refine ⟨h.heap, h.inj, fun v => (h.has v).trans ?_, ?_⟩
  · rw [List.length_replicate]
    constructor
    · rintro ⟨k, hk, he⟩
      exact ⟨k, hk, he, by simp [List.getD_eq_getElem?_getD, hk]⟩
    · rintro ⟨k, hk, he, _⟩
      exact ⟨k, hk, he⟩
  · rw [h.len, List.length_replicate]
    have : (List.replicate n false).count true = 0 := List.count_eq_zero.2 (fun hm => by simpa using List.eq_of_mem_replicate hm)
    omega
set_option maxHeartbeats 1000000 in
theorem new_any (m : Nat) (hm : m ≤ 128) (w : World) : Calls Try.prog 10 #[.int .i64 m] w fun e w' => ∃ p, e = .returned (.tuple #[.pointer (some ⟨p, 0, none⟩), .int .i64 0]) ∧ Sep w' [poolR p (List.replicate m false), old w] := by
  obtain ⟨i0, hi, hz0, hz1, hz2⟩ := info_parts info_bool
  have hmk := fun W => run_make_rowN (P := Try.prog) 29 4 i0 _ Try.underlying29 hi hz0 .i64 .i64 m m (Nat.le_refl _) (by rw [hz2]; omega) (by omega) W
  rw [hz1] at hmk
  clear hi hz0 hz1 hz2
  have hS0 := ((Sep.start w).vb_new m (by omega)).alloc #[.slice none 0 0, .slice (some ⟨w.heap.size, 0, none⟩) m m] 49
  rw [World.size_alloc] at hS0
  have hS := Lib.hid (hS0.to1.to1.to1.vec_nil 3 1)
  have i1 : (m : Int) ≤ 128 := by omega
  have i2 : (0 : Int) ≤ (m : Int) := by omega
  go_enter Try.func10, Try.ntmps10
  go_wp2_with fail
  have hS1 := Lib.hid (show Sep _ [pBlk (w.heap.size + 1) (.slice none 0 0) (.slice (some ⟨w.heap.size, 0, none⟩) m m), jVec (.slice none 0 0) 0 [], bVec (.slice (some ⟨w.heap.size, 0, none⟩) m m) m (List.replicate m false), old w] from hS.out.to2)
  clear hS hS0 hmk
  go_loopw [17] (fun s wr => ∃ (k : Nat) (xs : List Int) (fa : Option Addr) (c : Nat), k ≤ m ∧ s = .int .i64 k ∧ Hid (FillOK xs k) ∧ Hid (Sep wr [pBlk (w.heap.size + 1) (.slice fa k c) (.slice (some ⟨w.heap.size, 0, none⟩) m m), jVec (.slice fa k c) k xs, bVec (.slice (some ⟨w.heap.size, 0, none⟩) m m) m (List.replicate m false), old w])) (fun s _ => m - (intOf s).toNat)
  case atStart => exact ⟨0, [], none, 0, Nat.zero_le _, rfl, fill_zero, hS1⟩
  case round =>
    clear hS1
    obtain ⟨k, xs, fa, c, hk, rfl, hF, hS⟩ := hrel
    by_cases hlt : k < m
    · have HP := Lib.hid (hpush_any (w.heap.size + 1) fa k c _ xs k _ _ hS.out hF.out.len (by omega))
      have hF2 := Lib.hid (fill_succ hF.out)
      clear hS hF
      go_wp2_with fail
      refine HP.out.mono ?_
      rintro e w2 ⟨rfl, g', c', hS2⟩
      replace hS2 := Lib.hid hS2
      go_wp2_with fail
      go_roundw
      case rel => exact ⟨k + 1, pushL xs k, _, _, by omega, by go_num, hF2, hS2⟩
      case measure => simp [intOf]; omega
    · obtain rfl : k = m := by omega
      go_wp2_with fail
      go_ret2
      refine ⟨_, rfl, pool_close (fa := fa) (c := c) (g := w.heap.size) (lc := k) (fill_all hF.out) ?_⟩
      rw [hF.out.len, List.length_replicate]
      exact hS.out
end Go.Proofs.Ytbfkkghbkpbhlaa
