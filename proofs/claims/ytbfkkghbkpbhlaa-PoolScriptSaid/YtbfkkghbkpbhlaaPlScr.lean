/-
  The reference's pool: its calls. No condition beside a pool that its New made.
-/
import Derived.Test.YtbfkkghbkpbhlaaPlBack
import Derived.Test.YtbfkkghbkpbhlaaPlNil
namespace Go.Proofs.Ytbfkkghbkpbhlaa
open Go.RowKit
/-- The reference's pool at o: what is lent. -/
def refR (o : Nat) (lent : List Bool) : Res := exi fun (x : Nat × Nat) => star (blk o 58 #[.slice (some ⟨x.1, 0, none⟩) lent.length x.2]) (bVec (.slice (some ⟨x.1, 0, none⟩) lent.length x.2) lent.length lent)
theorem ref_open {w : World} {o : Nat} {lent : List Bool} {rs : List Res} (h : Sep w (refR o lent :: rs)) : ∃ g lc, Sep w (blk o 58 #[.slice (some ⟨g, 0, none⟩) lent.length lc] :: bVec (.slice (some ⟨g, 0, none⟩) lent.length lc) lent.length lent :: rs) := by
  obtain ⟨⟨g, lc⟩, h1⟩ := h.gexi
  exact ⟨g, lc, Sep.gstar.1 h1⟩
theorem ref_close {w : World} {o : Nat} {lent : List Bool} {rs : List Res} {g lc : Nat} (h : Sep w (blk o 58 #[.slice (some ⟨g, 0, none⟩) lent.length lc] :: bVec (.slice (some ⟨g, 0, none⟩) lent.length lc) lent.length lent :: rs)) : Sep w (refR o lent :: rs) := Sep.exi_mk (g, lc) (Sep.gstar.2 h)
theorem rnew_bad (m : Int) (h : m < 0 ∨ 128 < m) (w : World) : Calls Try.prog 18 #[.int .i64 m] w fun e w' => e = .returned (.tuple #[.pointer none, .int .i64 2]) ∧ w' = w := by
  rcases h with h | h
  · go_enter Try.func18, Try.ntmps18
    go_wp2_with fail
    go_ret2
    exact ⟨rfl, rfl⟩
  · have h0 : ¬ m < 0 := by omega
    go_enter Try.func18, Try.ntmps18
    go_wp2_with fail
    go_ret2
    exact ⟨rfl, rfl⟩
theorem rnew_any (m : Nat) (hm : m ≤ 128) (w : World) : Calls Try.prog 18 #[.int .i64 m] w fun e w' => ∃ o, e = .returned (.tuple #[.pointer (some ⟨o, 0, none⟩), .int .i64 0]) ∧ Sep w' [refR o (List.replicate m false), old w] := by
  obtain ⟨i0, hi, hz0, hz1, hz2⟩ := info_parts info_bool
  have hmk := fun W => run_make_rowN (P := Try.prog) 29 4 i0 _ Try.underlying29 hi hz0 .i64 .i64 m m (Nat.le_refl _) (by rw [hz2]; omega) (by omega) W
  rw [hz1] at hmk
  clear hi hz0 hz1 hz2
  have hS0 := ((Sep.start w).vb_new m (by omega)).alloc #[.slice (some ⟨w.heap.size, 0, none⟩) m m] 58
  rw [World.size_alloc] at hS0
  have hS := Lib.hid hS0
  have i1 : (m : Int) ≤ 128 := by omega
  have i2 : (0 : Int) ≤ (m : Int) := by omega
  go_enter Try.func18, Try.ntmps18
  go_wp2_with fail
  go_ret2
  refine ⟨_, rfl, ref_close (g := w.heap.size) (lc := m) ?_⟩
  rw [List.length_replicate]
  exact hS.out
theorem rhas_any (p : Nat) (lent : List Bool) (id : Int) (w : World) (rs : List Res) (hS : Sep w (refR p lent :: rs)) : Calls Try.prog 24 #[.pointer (some ⟨p, 0, none⟩), .int .i64 id] w fun e w' => e = .returned (.bool (decide (0 ≤ id) && (decide (id < lent.length) && lent.getD id.toNat false))) ∧ w' = w := by
  obtain ⟨g, lc, hS1⟩ := ref_open hS
  obtain ⟨_, c0, _⟩ := hS1.b1
  by_cases h0 : 0 ≤ id
  · obtain ⟨k, rfl⟩ := Int.eq_ofNat_of_zero_le h0
    by_cases h1 : (k : Int) < lent.length
    · obtain ⟨x0, x1, _⟩ := hS1.to1.vec_cell (bools_at lent k (by omega))
      rw [decide_eq_true h0, decide_eq_true h1, Bool.true_and, Bool.true_and, Int.toNat_natCast]
      generalize lent.getD k false = y at *
      generalize lent.length = L at *
      clear hS hS1
      cases y
      all_goals
        go_enter Try.func24, Try.ntmps24
        go_wp2_with fail
        go_ret
        exact ⟨rfl, rfl⟩
    · rw [decide_eq_true h0, decide_eq_false h1]
      generalize lent.length = L at *
      clear hS hS1
      go_enter Try.func24, Try.ntmps24
      go_wp2_with fail
      go_ret
      exact ⟨rfl, rfl⟩
  · rw [decide_eq_false h0]
    clear hS hS1
    go_enter Try.func24, Try.ntmps24
    go_wp2_with fail
    go_ret
    exact ⟨rfl, rfl⟩
theorem rmost_any (p : Nat) (lent : List Bool) (w : World) (rs : List Res) (hS : Sep w (refR p lent :: rs)) : Calls Try.prog 23 #[.pointer (some ⟨p, 0, none⟩)] w fun e w' => e = .returned (.int .i64 lent.length) ∧ w' = w := by
  obtain ⟨g, lc, hS1⟩ := ref_open hS
  obtain ⟨_, c0, _⟩ := hS1.b1
  generalize lent.length = L at *
  clear hS hS1
  go_enter Try.func23, Try.ntmps23
  go_wp2_with fail
  go_ret
  exact ⟨rfl, rfl⟩
theorem rgive_no (p : Nat) (lent : List Bool) (id : Int) (w : World) (rs : List Res) (hS : Sep w (refR p lent :: rs)) (hn : (decide (0 ≤ id) && (decide (id < lent.length) && lent.getD id.toNat false)) = false) : Calls Try.prog 20 #[.pointer (some ⟨p, 0, none⟩), .int .i64 id] w fun e w' => e = .returned (.int .i64 5) ∧ w' = w := by
  have HH := Lib.hid (rhas_any p lent id w rs hS)
  rw [hn] at HH
  clear hS hn
  go_enter Try.func20, Try.ntmps20
  go_wp2_with fail
  refine HH.out.mono ?_
  rintro e w1 ⟨rfl, rfl⟩
  go_wp2_with fail
  go_ret
  exact ⟨rfl, rfl⟩
theorem rgive_yes (p : Nat) (lent : List Bool) (k : Nat) (w : World) (rs : List Res) (hS : Sep w (refR p lent :: rs)) (hk : k < lent.length) (hb : lent.getD k false = true) (hm : lent.length ≤ 128) : Calls Try.prog 20 #[.pointer (some ⟨p, 0, none⟩), .int .i64 k] w fun e w' => e = .returned (.int .i64 0) ∧ Sep w' (refR p (lent.set k false) :: rs) := by
  have HH := Lib.hid (rhas_any p lent k w rs hS)
  rw [decide_eq_true (show (0 : Int) ≤ (k : Int) by omega), decide_eq_true (show (k : Int) < (lent.length : Int) by omega), Int.toNat_natCast, hb] at HH
  obtain ⟨g, lc, hS1⟩ := ref_open hS
  obtain ⟨_, c0, _⟩ := hS1.b1
  obtain ⟨x0, x1, _⟩ := hS1.to1.vec_cell (bools_at lent k hk)
  have h3 := (hS1.to1.vec_set (k := k) (by simp [bools]; omega) (.bool false))
  rw [bools_set] at h3
  replace h3 := Lib.hid h3
  have i3 : (0 : Int) ≤ (k : Int) := by omega
  have i4 : (k : Int) < (lent.length : Int) := by omega
  generalize hL : lent.length = L at *
  clear hS hS1 hb
  go_enter Try.func20, Try.ntmps20
  go_wp2_with fail
  refine HH.out.mono ?_
  rintro e w1 ⟨rfl, rfl⟩
  go_wp2_with fail
  go_ret
  refine ⟨rfl, ref_close (g := g) (lc := lc) ?_⟩
  rw [List.length_set, hL]
  exact h3.out.to1
set_option maxHeartbeats 1000000 in
theorem rtake_at (p : Nat) (lent : List Bool) (k : Nat) (w : World) (rs : List Res) (hS : Sep w (refR p lent :: rs)) (hk : k < lent.length) (hb : lent.getD k false = false) (hl : ∀ j, j < k → lent.getD j false = true) (hm : lent.length ≤ 128) : Calls Try.prog 19 #[.pointer (some ⟨p, 0, none⟩)] w fun e w' => e = .returned (.tuple #[.int .i64 k, .int .i64 0]) ∧ Sep w' (refR p (lent.set k true) :: rs) := by
  obtain ⟨g, lc, hS1⟩ := ref_open hS
  replace hS1 := Lib.hid hS1
  obtain ⟨_, c0, _⟩ := hS1.out.b1
  replace hl := Lib.hid hl
  generalize hL : lent.length = L at *
  have i5 : (L : Int) ≤ 128 := by omega
  clear hS
  go_enter Try.func19, Try.ntmps19
  go_wp2_with fail
  go_loopw [4] (fun s wr => ∃ (j : Nat), j ≤ k ∧ s = .int .i64 j ∧ wr = w) (fun s _ => L - (intOf s).toNat)
  case atStart => exact ⟨0, Nat.zero_le _, rfl, rfl⟩
  case round =>
    obtain ⟨j, hj, rfl, rfl⟩ := hrel
    obtain ⟨x0, x1, _⟩ := hS1.out.to1.vec_cell (bools_at lent j (by rw [hL]; omega))
    have i1 : (j : Int) < (L : Int) := by omega
    have i2 : (0 : Int) ≤ (j : Int) := by omega
    by_cases hjk : j < k
    · rw [hl.out j hjk] at x0
      go_wp2_with fail
      go_roundw
      case rel => exact ⟨j + 1, by omega, by go_num, trivial⟩
      case measure => simp [intOf]; omega
    · obtain rfl : j = k := by omega
      rw [hb] at x0
      have h3 := (hS1.out.to1.vec_set (k := j) (by simp [bools, hL]; omega) (.bool true))
      rw [bools_set] at h3
      replace h3 := Lib.hid h3
      go_wp2_with fail
      go_ret2
      refine ⟨rfl, ref_close (g := g) (lc := lc) ?_⟩
      rw [List.length_set, hL]
      exact h3.out.to1
set_option maxHeartbeats 1000000 in
theorem rtake_full (p : Nat) (lent : List Bool) (w : World) (rs : List Res) (hS : Sep w (refR p lent :: rs)) (hf : lent.count true = lent.length) (hm : lent.length ≤ 128) : Calls Try.prog 19 #[.pointer (some ⟨p, 0, none⟩)] w fun e w' => e = .returned (.tuple #[.int .i64 0, .int .i64 8]) ∧ w' = w := by
  obtain ⟨g, lc, hS1⟩ := ref_open hS
  replace hS1 := Lib.hid hS1
  obtain ⟨_, c0, _⟩ := hS1.out.b1
  have hl : ∀ j, j < lent.length → lent.getD j false = true := fun j hj => by
    have := List.count_eq_length.1 hf (lent.getD j false) (by
      rw [List.getD_eq_getElem?_getD, List.getElem?_eq_getElem hj]
      exact List.getElem_mem _)
    exact this.symm
  replace hl := Lib.hid hl
  clear hf
  generalize hL : lent.length = L at *
  have i5 : (L : Int) ≤ 128 := by omega
  clear hS
  go_enter Try.func19, Try.ntmps19
  go_wp2_with fail
  go_loopw [4] (fun s wr => ∃ (j : Nat), j ≤ L ∧ s = .int .i64 j ∧ wr = w) (fun s _ => L - (intOf s).toNat)
  case atStart => exact ⟨0, Nat.zero_le _, rfl, rfl⟩
  case round =>
    obtain ⟨j, hj, rfl, rfl⟩ := hrel
    have i2 : (0 : Int) ≤ (j : Int) := by omega
    by_cases hjk : j < L
    · obtain ⟨x0, x1, _⟩ := hS1.out.to1.vec_cell (bools_at lent j (by rw [hL]; omega))
      have i1 : (j : Int) < (L : Int) := by omega
      rw [hl.out j hjk] at x0
      go_wp2_with fail
      go_roundw
      case rel => exact ⟨j + 1, by omega, by go_num, trivial⟩
      case measure => simp [intOf]; omega
    · have i1 : ¬ (j : Int) < (L : Int) := by omega
      go_wp2_with fail
      go_ret2
      exact ⟨rfl, rfl⟩
set_option maxHeartbeats 2000000 in
theorem reach_any (p : Nat) (lent : List Bool) (w : World) (rs : List Res) (hS : Sep w (refR p lent :: rs)) (hm : lent.length ≤ 128) : Calls Try.prog 21 #[.pointer (some ⟨p, 0, none⟩)] w fun e w' => ∃ v, e = .returned v ∧ Sep w' (vec 3 1 v (lentU lent lent.length).length ((lentU lent lent.length).map (Value.int .i64)) :: refR p lent :: rs) := by
  obtain ⟨g, lc, hS1⟩ := ref_open hS
  obtain ⟨i0, hi, hz0, hz1, hz2⟩ := info_parts info_int
  have hS2 := Lib.hid (hS1.vec_nil 3 1)
  obtain ⟨L, hL⟩ : ∃ L, lent.length = L := ⟨_, rfl⟩
  rw [hL] at hS1 hS2 hm
  have i5 : (L : Int) ≤ 128 := by omega
  replace hS1 := Lib.hid hS1
  clear hS
  rw [hL]
  go_enter Try.func21, Try.ntmps21
  obtain ⟨_, c0, _⟩ := hS1.out.b1
  go_wp2_with fail
  clear c0
  go_loopw [4, 3] (fun s sv wr => ∃ (j : Nat) (va : Option Addr) (vc : Nat), j ≤ L ∧ s = .int .i64 j ∧ sv = .slice va (lentU lent j).length vc ∧ Hid (Sep wr (vec 3 1 (.slice va (lentU lent j).length vc) (lentU lent j).length ((lentU lent j).map (Value.int .i64)) :: blk p 58 #[.slice (some ⟨g, 0, none⟩) L lc] :: bVec (.slice (some ⟨g, 0, none⟩) L lc) L lent :: rs))) (fun s _ _ => L - (intOf s).toNat)
  case atStart => exact ⟨0, none, 0, Nat.zero_le _, rfl, rfl, hS2⟩
  case round =>
    clear hS1 hS2
    obtain ⟨j, va, vc, hj, rfl, rfl, hS⟩ := hrel
    have i2 : (0 : Int) ≤ (j : Int) := by omega
    obtain ⟨_, c0, _⟩ := hS.out.to1.b1
    by_cases hjk : j < L
    · obtain ⟨x0, x1, _⟩ := hS.out.to2.vec_cell (bools_at lent j (by rw [hL]; omega))
      have i1 : (j : Int) < (L : Int) := by omega
      have hn := lentU_len lent j
      cases hb : lent.getD j false with
      | false =>
        rw [hb] at x0
        have hmis := lentU_miss hb
        rw [← hmis] at hS ⊢
        obtain ⟨n, hn2⟩ : ∃ n, (lentU lent (j + 1)).length = n := ⟨_, rfl⟩
        rw [hn2] at hS ⊢
        replace hn2 := Lib.hid hn2
        go_wp2_with fail
        go_roundw
        case rel => exact ⟨j + 1, va, vc, by omega, by go_num, by rw [hn2.out], by rw [hn2.out]; exact hS⟩
        case measure => simp [intOf]; omega
      | true =>
        rw [hb] at x0
        have hhit := Lib.hid (lentU_hit hb)
        generalize hn2 : (lentU lent j).length = n at *
        go_wp2_with (at_builtin; refine wpList_append_sep (hS.out.allocG _) rfl _ _ 22 rfl i0 (.int .i64 0) 8 Try.underlying22 hi hz0 hz1 hz2 rfl (by decide) rfl 1 [.int .i64 j] (SrcA.one _ _ _ _) ?c2 ?c3 ?c4 ?_)
        case c2 => simp [Value.oneCell']
        case c3 => simp only [maxLen]; omega
        case c4 => omega
        intro aa ca w5 hS5
        replace hS5 := Lib.hid hS5
        clear hS
        go_wp2_with fail
        go_roundw
        case rel => exact ⟨j + 1, aa, ca, by omega, by go_num, by rw [hhit.out]; simp [hn2], Lib.hid (by have h := hS5.out; rw [hhit.out]; simpa [hn2] using h)⟩
        case measure => simp [intOf]; omega
    · obtain rfl : j = L := by omega
      go_wp2_with fail
      go_ret
      exact ⟨_, rfl, (ref_close (g := g) (lc := lc) (by rw [hL]; exact hS.out.to1.to2.to1)).to1⟩
end Go.Proofs.Ytbfkkghbkpbhlaa
