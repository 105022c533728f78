/-
  The pool's heap of free numbers: Push, Pop. No condition.
-/
import Derived.Test.YtbfkkghbkpbhlaaPlB
namespace Go.Proofs.Ytbfkkghbkpbhlaa
open Go.RowKit
theorem ints_app (xs : List Int) (v : Int) : ints xs ++ [.int .i64 v] = ints (xs ++ [v]) := by simp [ints]
abbrev jVec (fv : Value) (n : Nat) (xs : List Int) : Res := vec 3 1 fv n (ints xs)
theorem vec_some {w : World} {a : Option Addr} {n c : Nat} {xs : List Int} {rs : List Res} (h : Sep w (jVec (.slice a n c) n xs :: rs)) (h0 : 0 < n) : ∃ g, a = some ⟨g, 0, none⟩ := by
  rcases h.gvec.2 with ⟨_, h1⟩ | ⟨g, cap, cur, hv, _⟩
  · omega
  · injection hv with e1 _ e3
    exact ⟨g, e1⟩
theorem assert_int (v : Int) (w : World) : (Instr.typeAssert (.iface 3 (.int .i64 v)) 20 3 true).run Try.prog w = .ok (.tuple #[.int .i64 v, .bool true]) w := by kernel_rfl
set_option maxHeartbeats 1000000 in
theorem fpush_any (p : Nat) (fa : Option Addr) (n c : Nat) (lv : Value) (xs : List Int) (v : Int) (w : World) (rs : List Res) (hS : Sep w (pBlk p (.slice fa n c) lv :: jVec (.slice fa n c) n xs :: rs)) (hn : n ≤ 1000) :
    Calls Try.prog 52 #[.pointer (some ⟨p, 0, none⟩), .iface 3 (.int .i64 v)] w fun e w' => e = .returned (.tuple #[]) ∧ ∃ a' c', Sep w' (pBlk p (.slice a' (n + 1) c') lv :: jVec (.slice a' (n + 1) c') (n + 1) (xs ++ [v]) :: rs) := by
  replace hS := Lib.hid hS
  obtain ⟨_, c0, c1, f0, f1⟩ := hS.out.b2
  obtain ⟨i0, hi, hz0, hz1, hz2⟩ := info_parts info_int
  have ta := fun W => assert_int v W
  go_enter Try.func52, Try.ntmps52
  go_wp2_with (at_builtin; refine wpList_append_sep (hS.out.to1.allocG _) rfl _ _ 45 rfl i0 (.int .i64 0) 8 Try.underlying45 hi hz0 hz1 hz2 rfl (by decide) rfl 1 [.int .i64 v] (SrcA.one _ _ _ _) ?c2 ?c3 ?c4 ?_)
  case c2 => simp [Value.oneCell']
  case c3 => simp only [maxLen]; omega
  case c4 => omega
  intro a' c' w5 hS5
  clear c0 c1 f0 f1
  obtain ⟨_, c0, c1, f0, f1⟩ := hS5.to1.b2
  rw [ints_app] at hS5
  replace hS5 := Lib.hid hS5
  go_wp2_with fail
  refine bodyPost_end (results_none rfl _ _ _) rfl ⟨rfl, a', c', ?_⟩
  exact hS5.out.to1.set 0 (.slice a' (n + 1) c')
theorem fpop_any (p g n c : Nat) (lv : Value) (xs : List Int) (w : World) (rs : List Res) (hS : Sep w (pBlk p (.slice (some ⟨g, 0, none⟩) (n + 1) c) lv :: jVec (.slice (some ⟨g, 0, none⟩) (n + 1) c) (n + 1) xs :: rs)) (hl : xs.length = n + 1) (hn : n ≤ 1000) :
    Calls Try.prog 51 #[.pointer (some ⟨p, 0, none⟩)] w fun e w' => e = .returned (.iface 3 (.int .i64 (xs.getD n 0))) ∧ Sep w' (pBlk p (.slice (some ⟨g, 0, none⟩) n c) lv :: jVec (.slice (some ⟨g, 0, none⟩) n c) n (xs.take n) :: rs) := by
  replace hS := Lib.hid hS
  obtain ⟨_, c0, c1, f0, f1⟩ := hS.out.b2
  have ck := hS.out.to1.vec_cell (ints_at xs n (by omega))
  have hc : n + 1 ≤ c := by obtain ⟨_, _, h, _⟩ := hS.out.to1.vec_blk; exact h
  have i1 : (0 : Int) ≤ (n : Int) := by omega
  have i2 : (n : Int) < ((n + 1 : Nat) : Int) := by omega
  have i3 : ((n + 1 : Nat) : Int) - 1 = (n : Int) := by omega
  have i4 : (n : Int) ≤ (c : Int) := by omega
  have HN := Lib.hid (fun W => len_any (some ⟨g, 0, none⟩) (n + 1) c W)
  replace hl := Lib.hid hl
  generalize xs.getD n 0 = y at *
  go_enter Try.func51, Try.ntmps51
  go_wp2_with fail
  refine (HN.out _).mono ?_
  rintro e w1 ⟨rfl, rfl⟩
  go_wp2_with fail
  go_ret
  have h1 := ((hS.out.set 0 (.slice (some ⟨g, 0, none⟩) n c)).to1.vec_shrink (k := n) (by omega)).to1
  rw [show (ints xs).take (n * 1) = ints (xs.take n) by simp [ints, List.map_take]] at h1
  exact ⟨rfl, h1⟩
end Go.Proofs.Ytbfkkghbkpbhlaa
