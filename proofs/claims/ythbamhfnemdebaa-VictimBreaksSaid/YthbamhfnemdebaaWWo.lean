/-
  The program's Without. No condition beside a list that can be read.
-/
import Derived.Test.YthbamhfnemdebaaWWy
namespace Go.Proofs.Ythbamhfnemdebaa
open Go.RowKit
def onE (txn : Int) (e : Ed) : Bool := e.from_ == txn || e.to == txn
set_option maxHeartbeats 4000000 in
theorem pred_wo (tb : Nat) (txn : Int) (rs : List Res) : PredC_ed 34 #[.pointer (some ⟨tb, 0, none⟩)] (onE txn) (blk tb 3 #[.int .i64 txn] :: rs) := by
  intro W r hS
  obtain ⟨fr, to⟩ := r
  have hB := Lib.hid (hS.alloc #[.int .i64 fr, .int .i64 to] 29)
  have hBel := Lib.hid (((Sep.start W).alloc #[.int .i64 fr, .int .i64 to] 29).tail.gold)
  obtain ⟨_, c0, c1, _⟩ := hB.out.b2
  obtain ⟨_, d0, _⟩ := hB.out.to1.b1
  clear hS hB
  unfold val_ed onE
  simp only
  cases h1 : fr == txn with
  | true =>
    go_enter Try.func34, Try.ntmps34
    go_wp2_with fail
    go_ret
    exact ⟨rfl, hBel.out⟩
  | false =>
    go_enter Try.func34, Try.ntmps34
    go_wp2_with fail
    go_ret
    exact ⟨by simp, hBel.out⟩
set_option maxHeartbeats 4000000 in
theorem without_any (v : Value) (L : List Ed) (txn : Int) (w : World) (hv : RL w v 2 L.length (L.flatMap Ed.cells)) (hl : L.length ≤ 1000) :
    Calls Try.prog 20 #[v, .int .i64 txn] w fun e w' => ∃ a c, e = .returned (.slice a (keepL (onE txn) L).length c) ∧ Sep w' [vec 29 2 (.slice a (keepL (onE txn) L).length c) (keepL (onE txn) L).length ((keepL (onE txn) L).flatMap Ed.cells), old w] := by
  have HC := Lib.hid (fun W h => clone_ed v L W h hl)
  have h0 := Lib.hid ((Sep.start w).alloc #[.int .i64 txn] 3)
  replace hv := Lib.hid hv
  go_enter Try.func20, Try.ntmps20
  go_wp2_with fail
  refine (HC.out _ (hv.out.below h0.out.tail.gold)).mono ?_
  rintro e w1 ⟨a, c, rfl, q⟩
  have hV := Lib.hid (q.graft h0.out)
  clear q h0 HC hv
  generalize w.heap.size = tb at *
  go_wp2_with fail
  refine (deleteFunc_ed a L.length c L _ _ (onE txn) w1 _ hV.out rfl hl (pred_wo tb txn [old w]) (fun args w => by kernel_rfl)).mono ?_
  rintro e w2 ⟨rfl, q⟩
  replace q := Lib.hid q
  clear hV
  go_wp2_with fail
  go_ret
  exact ⟨a, c, rfl, q.out.drop1⟩
end Go.Proofs.Ythbamhfnemdebaa
