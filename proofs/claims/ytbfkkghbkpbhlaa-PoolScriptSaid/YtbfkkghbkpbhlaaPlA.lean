/-
  The pool's heap of free numbers: Less, Swap, Len. No condition.
-/
import Derived.Test.YtbfkkghbkpbhlaaSep
import Derived.Test.YtbfkkghbkpbhlaaHeap
import Derived.BigRegion
namespace Go.Proofs.Ytbfkkghbkpbhlaa
open Go.RowKit
def ints (xs : List Int) : List Value := xs.map (Value.int .i64)
theorem ints_at (xs : List Int) (k : Nat) (h : k < xs.length) : (ints xs)[k]? = some (.int .i64 (xs.getD k 0)) := by simp [ints, List.getD_eq_getElem?_getD, h]
theorem ints_set (xs : List Int) (k : Nat) (v : Int) : (ints xs).set k (.int .i64 v) = ints (xs.set k v) := by simp [ints, List.map_set]
theorem less_any (g n c i j : Nat) (x y : Int) (w : World) (hi : i < n) (hj : j < n) (c0 : w.cell? ⟨g, i, none⟩ = some (.int .i64 x)) (c1 : w.cell? ⟨g, j, none⟩ = some (.int .i64 y)) :
    Calls Try.prog 48 #[.slice (some ⟨g, 0, none⟩) n c, .int .i64 i, .int .i64 j] w fun e w' => e = .returned (.bool (decide (x < y))) ∧ ∃ m, w' = w.drewN m := by
  have i1 : (0 : Int) ≤ (i : Int) := by omega
  have i2 : (i : Int) < (n : Int) := by omega
  have j1 : (0 : Int) ≤ (j : Int) := by omega
  have j2 : (j : Int) < (n : Int) := by omega
  go_enter Try.func48, Try.ntmps48
  go_wp2_with fail
  go_quiet (fail)
  go_wp2_with fail
  go_ret
  exact ⟨rfl, _, rfl⟩
theorem swap_cells (g n c i j : Nat) (x y : Int) (w : World) (hi : i < n) (hj : j < n) (c0 : w.cell? ⟨g, i, none⟩ = some (.int .i64 x)) (c1 : w.cell? ⟨g, j, none⟩ = some (.int .i64 y)) (f0 : w.frozen? ⟨g, i, none⟩ = false) (f1 : w.frozen? ⟨g, j, none⟩ = false) :
    Calls Try.prog 50 #[.slice (some ⟨g, 0, none⟩) n c, .int .i64 i, .int .i64 j] w fun e w' => e = .returned (.tuple #[]) ∧ w' = ((w.drew.setCell ⟨g, i, none⟩ (.int .i64 y)).setCell ⟨g, j, none⟩ (.int .i64 x)) := by
  have i1 : (0 : Int) ≤ (i : Int) := by omega
  have i2 : (i : Int) < (n : Int) := by omega
  have j1 : (0 : Int) ≤ (j : Int) := by omega
  have j2 : (j : Int) < (n : Int) := by omega
  go_enter Try.func50, Try.ntmps50
  have h2 : (w.setCell ⟨g, i, none⟩ (.int .i64 y)).cell? ⟨g, j, none⟩ = some (.int .i64 y) := by
    by_cases e : (⟨g, i, none⟩ : Addr) = ⟨g, j, none⟩
    · rw [← e]
      exact World.cell?_setCell_same w _ _ c0
    · exact (World.cell?_setCell_other _ _ _ _ e).trans c1
  go_wp2_with fail
  go_region
  refine bodyPost_end (results_none rfl _ _ _) rfl ⟨rfl, rfl⟩
theorem swap_any {g n c : Nat} {xs : List Int} {w : World} {rs : List Res} (i j : Nat) (hS : Sep w (vec 3 1 (.slice (some ⟨g, 0, none⟩) n c) n (ints xs) :: rs)) (hl : xs.length = n) (hi : i < n) (hj : j < n) :
    Calls Try.prog 50 #[.slice (some ⟨g, 0, none⟩) n c, .int .i64 i, .int .i64 j] w fun e w' => e = .returned (.tuple #[]) ∧ Sep w' (vec 3 1 (.slice (some ⟨g, 0, none⟩) n c) n (ints (swapL xs i j)) :: rs) := by
  have a := hS.vec_cell (ints_at xs i (by omega))
  have b := hS.vec_cell (ints_at xs j (by omega))
  refine (swap_cells g n c i j _ _ w hi hj a.1 b.1 a.2.1 b.2.1).mono ?_
  rintro e w1 ⟨rfl, rfl⟩
  refine ⟨rfl, ?_⟩
  have h1 := ((hS.vec_set (k := i) (by simp [ints]; omega) (.int .i64 (xs.getD j 0))).vec_set (k := j) (by simp [ints]; omega) (.int .i64 (xs.getD i 0))).drew
  rw [ints_set, ints_set] at h1
  exact h1
theorem len_any (a : Option Addr) (n c : Nat) (w : World) : Calls Try.prog 26 #[.slice a n c] w fun e w' => e = .returned (.int .i64 n) ∧ w = w' := by
  go_enter Try.func26, Try.ntmps26
  go_wp2
  go_ret
  exact ⟨rfl, rfl⟩
abbrev pBlk (p : Nat) (fv lv : Value) : Res := blk p 49 #[fv, lv]
abbrev iVec (g n c : Nat) (xs : List Int) : Res := vec 3 1 (.slice (some ⟨g, 0, none⟩) n c) n (ints xs)
theorem mAt (p : Nat) (f : FuncId) (a : Option Addr) (n c : Nat) (w : World) (h : w.cell? ⟨p, 0, none⟩ = some (.slice a n c)) : ((loadVar 45 ⟨p, 0, none⟩ >>= fun x => pure (f, x) : Sem (FuncId × Value))).run Try.prog w = .ok (f, .slice a n c) w := by
  have hc : Try.prog.cellsOf 45 = 1 := by kernel_rfl
  have hu := Try.underlying45
  go_simp
theorem mLess (p : Nat) (a : Option Addr) (n c : Nat) (w : World) (h : w.cell? ⟨p, 0, none⟩ = some (.slice a n c)) : (method 182 51 (.pointer (some ⟨p, 0, none⟩)) "Less").run Try.prog w = .ok (48, .slice a n c) w :=
  (show _ = ((loadVar 45 ⟨p, 0, none⟩ >>= fun x => pure (48, x) : Sem (FuncId × Value))).run Try.prog w by kernel_rfl).trans (mAt p _ a n c w h)
theorem mSwap (p : Nat) (a : Option Addr) (n c : Nat) (w : World) (h : w.cell? ⟨p, 0, none⟩ = some (.slice a n c)) : (method 182 51 (.pointer (some ⟨p, 0, none⟩)) "Swap").run Try.prog w = .ok (50, .slice a n c) w :=
  (show _ = ((loadVar 45 ⟨p, 0, none⟩ >>= fun x => pure (50, x) : Sem (FuncId × Value))).run Try.prog w by kernel_rfl).trans (mAt p _ a n c w h)
theorem mLen (p : Nat) (a : Option Addr) (n c : Nat) (w : World) (h : w.cell? ⟨p, 0, none⟩ = some (.slice a n c)) : (method 182 51 (.pointer (some ⟨p, 0, none⟩)) "Len").run Try.prog w = .ok (26, .slice a n c) w :=
  (show _ = ((loadVar 45 ⟨p, 0, none⟩ >>= fun x => pure (26, x) : Sem (FuncId × Value))).run Try.prog w by kernel_rfl).trans (mAt p _ a n c w h)
theorem mPush (v : Value) (w : World) : (method 182 51 v "Push").run Try.prog w = .ok (52, v) w := by kernel_rfl
theorem mPop (v : Value) (w : World) : (method 182 51 v "Pop").run Try.prog w = .ok (51, v) w := by kernel_rfl
set_option maxHeartbeats 1000000 in
theorem up_any (p g n c j : Nat) (lv : Value) (xs : List Int) (w : World) (rs : List Res) (hS : Sep w (pBlk p (.slice (some ⟨g, 0, none⟩) n c) lv :: iVec g n c xs :: rs)) (hl : xs.length = n) (hj : j < n) (hn : n ≤ 1000) :
    Calls Try.prog 29 #[.iface 51 (.pointer (some ⟨p, 0, none⟩)), .int .i64 j] w fun e w' => e = .returned (.tuple #[]) ∧ Sep w' (pBlk p (.slice (some ⟨g, 0, none⟩) n c) lv :: iVec g n c (upL xs j) :: rs) := by
  replace hS := Lib.hid hS
  replace hl := Lib.hid hl
  go_enter Try.func29, Try.ntmps29
  go_wp2_with fail
  go_loopw [1] (fun s wr => ∃ (k : Nat) (cur : List Int), k < n ∧ s = .int .i64 k ∧ Hid (upL xs j = upL cur k) ∧ Hid (cur.length = n) ∧ Hid (Sep wr (pBlk p (.slice (some ⟨g, 0, none⟩) n c) lv :: iVec g n c cur :: rs))) (fun s _ => (intOf s).toNat)
  case atStart => exact ⟨j, xs, hj, rfl, rfl, hl, hS⟩
  case round =>
    clear hS hl
    obtain ⟨k, cur, hk, rfl, hE, hl, hS⟩ := hrel
    by_cases h0 : k = 0
    · subst h0
      go_wp2_with fail
      refine bodyPost_end (results_none rfl _ _ _) rfl ⟨rfl, ?_⟩
      have e : upL cur 0 = cur := by rw [upL, if_pos rfl]
      rw [hE.out, e]
      exact hS.out
    · have hq : ((k : Int) - 1).tdiv 2 = (((k - 1) / 2 : Nat) : Int) := by
        rw [Int.tdiv_eq_ediv_of_nonneg (by omega)]
        omega
      have hqk : (k - 1) / 2 < k := by omega
      have hU := Lib.hid (show upL cur k = if cur.getD k 0 < cur.getD ((k - 1) / 2) 0 then upL (swapL cur ((k - 1) / 2) k) ((k - 1) / 2) else cur by rw [upL, if_neg h0])
      obtain ⟨q, hqe⟩ : ∃ q, (k - 1) / 2 = q := ⟨_, rfl⟩
      rw [hqe] at hq hqk hU
      have h1 : ¬ (q : Int) = (k : Int) := by omega
      have h1' : ((q : Int) == (k : Int)) = false := beq_eq_false_iff_ne.2 h1
      have ck := hS.out.to1.vec_cell (ints_at cur k (by rw [hl.out]; exact hk))
      have cq := hS.out.to1.vec_cell (ints_at cur q (by rw [hl.out]; omega))
      have HL := Lib.hid (less_any g n c k q _ _ wr hk (by omega) ck.1 cq.1)
      have ml := mLess p (some ⟨g, 0, none⟩) n c wr hS.out.b2.2.1
      clear ck cq hqe
      cases hlt : decide (cur.getD k 0 < cur.getD q 0) with
      | false =>
        rw [hlt] at HL
        go_wp2_with fail
        refine HL.out.mono ?_
        rintro e w1 ⟨rfl, m, rfl⟩
        go_wp2_with fail
        refine bodyPost_end (results_none rfl _ _ _) rfl ⟨rfl, ?_⟩
        rw [hE.out, hU.out, if_neg (of_decide_eq_false hlt)]
        exact hS.out.drewN m
      | true =>
        rw [hlt] at HL
        go_wp2_with fail
        refine HL.out.mono ?_
        rintro e w1 ⟨rfl, m, rfl⟩
        replace hS := Lib.hid (hS.out.drewN m)
        have ms := mSwap p (some ⟨g, 0, none⟩) n c _ hS.out.b2.2.1
        clear ml
        have HS := Lib.hid (swap_any q k hS.out.to1 hl.out (by omega) hk)
        go_wp2_with fail
        refine HS.out.mono ?_
        rintro e w2 ⟨rfl, hS2⟩
        have hS3 := Lib.hid hS2.to1
        clear hS2 HS ms hS
        have hE2 := Lib.hid (show upL xs j = upL (swapL cur q k) q by rw [hE.out, hU.out, if_pos (of_decide_eq_true hlt)])
        clear hE hU hlt
        go_wp2_with fail
        go_roundw
        case rel => exact ⟨q, swapL cur q k, by omega, by go_num, hE2, Lib.hid (by rw [swapL_len]; exact hl.out), hS3⟩
        case measure => simp [intOf]; omega
end Go.Proofs.Ytbfkkghbkpbhlaa
