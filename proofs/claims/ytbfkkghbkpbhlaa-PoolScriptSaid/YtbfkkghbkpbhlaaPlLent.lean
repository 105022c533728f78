/-
  What a pool's Each tells, collected (lent). No condition beside a pool that New made.
-/
import Derived.RangeFuncBox
import Derived.RangeFuncLeaves
import Derived.RangeFuncNested
import Derived.RangeFuncBound
import Derived.RangeFuncCalls
import Derived.Shelf.Abstract
import Derived.Shelf.RegionOpen
import Derived.WalkKit
import Derived.OwnWalkIn
import Derived.TacticsInMore
import Derived.LoopNIn
import Derived.LoopIn
import Derived.Maps.AppendAt
import Derived.Test.YtbfkkghbkpbhlaaPlF
namespace Go.Proofs.Ytbfkkghbkpbhlaa
open Go.RowKit Go.Shelf
attribute [local go_sem] Oper.semAt_some
/-- The numbers below k that are lent. -/
def lentU (l : List Bool) (k : Nat) : List Int := ((List.range k).filter fun j => l.getD j false).map fun (j : Nat) => (j : Int)
theorem lentU_hit {l : List Bool} {k : Nat} (h : l.getD k false = true) : lentU l (k + 1) = lentU l k ++ [(k : Int)] := by
  unfold lentU
  rw [List.range_succ, List.filter_append, List.map_append, List.filter_cons, h]
  rfl
theorem lentU_miss {l : List Bool} {k : Nat} (h : l.getD k false = false) : lentU l (k + 1) = lentU l k := by
  unfold lentU
  rw [List.range_succ, List.filter_append, List.map_append, List.filter_cons, h]
  simp
theorem lentU_mono (l : List Bool) : ∀ (d k : Nat), (lentU l k).length ≤ (lentU l (k + d)).length
  | 0, k => Nat.le_refl _
  | d + 1, k => by
    refine Nat.le_trans (lentU_mono l d k) ?_
    rw [← Nat.add_assoc]
    cases h : l.getD (k + d) false with
    | true => rw [lentU_hit h, List.length_append]; omega
    | false => rw [lentU_miss h]; exact Nat.le_refl _
theorem lentU_len (l : List Bool) (k : Nat) : (lentU l k).length ≤ k := by
  unfold lentU
  rw [List.length_map]
  exact Nat.le_trans (List.length_filter_le _ _) (by rw [List.length_range]; exact Nat.le_refl _)
theorem most_any (p : Nat) (lent : List Bool) (w : World) (rs : List Res) (hS : Sep w (poolR p lent :: rs)) : Calls Try.prog 16 #[.pointer (some ⟨p, 0, none⟩)] w fun e w' => e = .returned (.int .i64 lent.length) ∧ w' = w := by
  obtain ⟨fa, c, xs, g, lc, hp, hS1⟩ := pool_open hS
  obtain ⟨_, c0, c1, _⟩ := hS1.b2
  generalize lent.length = L at *
  clear hp hS hS1
  go_enter Try.func16, Try.ntmps16
  go_wp2_with fail
  go_ret
  exact ⟨rfl, rfl⟩
theorem has_at (p : Nat) (lent : List Bool) (k : Nat) (w : World) (rs : List Res) (hS : Sep w (poolR p lent :: rs)) (hk : k < lent.length) : Calls Try.prog 15 #[.pointer (some ⟨p, 0, none⟩), .int .i64 k] w fun e w' => e = .returned (.bool (lent.getD k false)) ∧ w' = w := by
  have h := has_any p lent k w rs hS
  rwa [decide_eq_true (show (0 : Int) ≤ (k : Int) by omega), decide_eq_true (show (k : Int) < (lent.length : Int) by omega), Bool.true_and, Bool.true_and, Int.toNat_natCast] at h
set_option maxRecDepth 100000 in
set_option maxHeartbeats 2000000 in
theorem each1_in (n : Nat) (hn : 1 ≤ n) (l Bn p : Nat) (lent : List Bool) (w0 : World) (rs : List Res) (hS : Sep w0 (poolR p lent :: rs)) (hB : Bn < w0.heap.size) (hc : w0.cell? ⟨Bn, 0, none⟩ = some (.pointer (some ⟨p, 0, none⟩))) (hm : lent.length ≤ 128) (J Jx : List Int → World → Prop)
    (hY : ∀ pre x W, J pre W → pre.length < (lentU lent lent.length).length → YieldAt Fence.wide (n - 1) Try.prog l #[.int .i64 x] W fun e W' =>
      (e = .returned (.bool true) ∧ J (pre ++ [x]) W' ∧ Below w0.heap.size W W') ∨ (e = .returned (.bool false) ∧ Jx (pre ++ [x]) W'))
    (W : World) (hW : Below w0.heap.size w0 W) (h0 : J [] W) :
    CallsIn Fence.wide n Try.prog 31 #[.func (.yield l) #[] #[], .pointer (some ⟨Bn, 0, none⟩)] W fun e W' => (∃ v, e = .returned v) ∧
      ((∃ ys, ys = lentU lent lent.length ∧ J ys W') ∨ (∃ pre, (∃ k, k ≤ lent.length ∧ pre = lentU lent k) ∧ Jx pre W')) := by
  have c0 := (hW.cell (p := ⟨Bn, 0, none⟩) hB).trans hc
  have HM := Lib.hid (most_any p lent W rs (hS.below hW))
  have hS' := Lib.hid hS
  generalize hL : lent.length = L at *
  clear hS
  refine callsIn_of_wp Try.func31 rfl trivial ?_ rfl
  simp only [Try.ntmps31, List.size_toArray, List.length_cons, List.length_nil, Nat.reduceAdd, Nat.reduceSub, Array.replicate_succ, Array.replicate_zero, List.push_toArray, List.append_toArray, List.nil_append, List.cons_append]
  gi_wp2_with (refine ⟨trivial, ?_⟩; gi_at_call 16; refine (callsIn_wide.2 HM.out).mono ?_; rintro e w' ⟨rfl, rfl⟩)
  gi_loopw [6] (fun i wr => ∃ k : Nat, k ≤ L ∧ i = .int .i64 k ∧ J (lentU lent k) wr ∧ Below w0.heap.size w0 wr)
    (fun i _ => L - (intOf i).toNat)
  case atStart => exact ⟨0, Nat.zero_le _, rfl, h0, hW⟩
  case round =>
    obtain ⟨k, hk, rfl, hJs, hnx⟩ := hrel
    by_cases hlt : k < L
    · have HH := Lib.hid (has_at p lent k wr rs (hS'.out.below hnx) (by omega))
      have c1 := (hnx.cell (p := ⟨Bn, 0, none⟩) hB).trans hc
      cases hb : lent.getD k false with
      | true =>
        rw [hb] at HH
        have hlen : (lentU lent k).length < (lentU lent L).length := by
          have h1 := lentU_mono lent (L - (k + 1)) (k + 1)
          rw [lentU_hit hb, List.length_append] at h1
          rw [show k + 1 + (L - (k + 1)) = L by omega] at h1
          simp at h1
          omega
        obtain ⟨fn, tmps, assign, body, hy, hR⟩ := hY _ (k : Int) wr hJs hlen
        gi_wp2_with (refine ⟨trivial, ?_⟩; gi_at_call 15; refine (callsIn_wide.2 HH.out).mono ?_; rintro e w' ⟨rfl, rfl⟩)
        refine hR.mono ?_
        rintro e W3 (⟨rfl, hJ3, hk3⟩ | ⟨rfl, hJx3⟩)
        · gi_wp2
          go_roundw
          case rel => exact ⟨k + 1, by omega, by simp, by rw [lentU_hit hb]; exact hJ3, hnx.trans hk3⟩
          case measure => simp [intOf]; omega
        · gi_wp2
          refine bodyPost_ret (results_none rfl _ _ _) rfl ?_
          exact ⟨⟨_, rfl⟩, .inr ⟨_, ⟨k + 1, by omega, (lentU_hit hb).symm⟩, hJx3⟩⟩
      | false =>
        rw [hb] at HH
        gi_wp2_with (refine ⟨trivial, ?_⟩; gi_at_call 15; refine (callsIn_wide.2 HH.out).mono ?_; rintro e w' ⟨rfl, rfl⟩)
        refine ⟨fun _ h => (by cases h), ?_⟩
        gi_wp2
        go_roundw
        case rel => exact ⟨k + 1, by omega, by simp, by rw [lentU_miss hb]; exact hJs, hnx⟩
        case measure => simp [intOf]; omega
    · obtain rfl : k = L := by omega
      gi_wp2
      go_end0
      exact ⟨⟨_, rfl⟩, .inl ⟨_, rfl, hJs⟩⟩
set_option maxHeartbeats 1000000 in
theorem each_in (n p : Nat) (w : World) :
    CallsIn Fence.wide n Try.prog 28 #[.pointer (some ⟨p, 0, none⟩)] w fun e w' => e = .returned (.func (.func 31) #[] #[.pointer (some ⟨w.heap.size, 0, none⟩)]) ∧ w' = w.alloc (.cells #[.pointer (some ⟨p, 0, none⟩)] 25) := by
  refine callsIn_of_wp Try.func28 rfl trivial ?_ rfl
  simp only [Try.ntmps28, List.size_toArray, List.length_cons, List.length_nil, Nat.reduceAdd, Nat.reduceSub, Array.replicate_succ, Array.replicate_zero, List.push_toArray, List.append_toArray, List.nil_append, List.cons_append]
  gi_wp2
  go_ret
  exact ⟨rfl, rfl⟩
theorem each_stops (n : Nat) (hn : 1 ≤ n) (Bn p : Nat) (lent : List Bool) (w0 w : World) (rs : List Res) (hS : Sep w0 (poolR p lent :: rs)) (hB : Bn < w0.heap.size) (hc : w0.cell? ⟨Bn, 0, none⟩ = some (.pointer (some ⟨p, 0, none⟩))) (hm : lent.length ≤ 128) (hw : Below w0.heap.size w0 w) :
    SeqStopsK Fence.wide n Try.prog 31 #[.pointer (some ⟨Bn, 0, none⟩)] (fun x : Int => #[Value.int .i64 x]) (Below w0.heap.size) (fun ys => ys = lentU lent lent.length) (fun pre => ∃ k, k ≤ lent.length ∧ pre = lentU lent k) (lentU lent lent.length).length w := fun l J Jx W hW _ _ hY h0 =>
  each1_in n hn l Bn p lent w0 rs hS hB hc hm J Jx hY W (hw.trans (hW.mono hw.size)) h0
end Go.Proofs.Ytbfkkghbkpbhlaa
