/-
  The walker of histories: end. No condition beside memory that can be read.
-/
import Derived.Test.YtechagciefhpbaaDoorHBeg2
namespace Go.Proofs.YtechagciefhpbaaDoor
set_option linter.unusedSimpArgs false
set_option linter.unusedVariables false
set_option linter.unnecessarySimpa false
open Go.RowKit
set_option maxHeartbeats 4000000 in
set_option maxRecDepth 100000 in
theorem end_none (p n sc mc mb : Nat) (sa : Option Addr) (ss : List Value) (C : List (Int × (Int × Bool))) (B : List (Int × Unit)) (e : Ev) (at_ : Int) (w : World) (rs : List Res) (hS : Sep w (blk p 70 #[.slice sa n sc, .map (some mc), .map (some mb)] :: vec 45 10 (.slice sa n sc) n ss :: mapr ekI evC mc C :: mapr ekI evU mb B :: rs)) (hc : getL C e.call = none) :
    Calls Tryd.prog 32 #[.pointer (some ⟨p, 0, none⟩), e.val, .int .i64 at_] w fun r w' => r = .returned (.int .i64 5) ∧ Sep w' (blk p 70 #[.slice sa n sc, .map (some mc), .map (some mb)] :: vec 45 10 (.slice sa n sc) n ss :: mapr ekI evC mc C :: mapr ekI evU mb B :: rs) := by
  obtain ⟨call, thread, inv, ⟨kind, txn, t, r, mode, code⟩⟩ := e
  simp only [Ev.val]
  have hB := Lib.hid (show Sep _ (blk p 70 #[.slice sa n sc, .map (some mc), .map (some mb)] :: vec 45 10 (.slice sa n sc) n ss :: mapr ekI evC mc C :: mapr ekI evU mb B :: blk w.heap.size 31 #[.int .i64 call, .int .i64 thread, .bool inv, .int .i64 kind, .int .i64 txn, .int .i64 t, .int .i64 r, .int .i64 mode, .int .i64 code] :: rs) from (hS.alloc #[.int .i64 call, .int .i64 thread, .bool inv, .int .i64 kind, .int .i64 txn, .int .i64 t, .int .i64 r, .int .i64 mode, .int .i64 code] 31).to4.to4.to4.to4)
  have HC := Lib.hid (show getL C call = none from hc)
  have HE := Lib.hid (show hasL C call = false from getL_none_iff.1 hc)
  clear hc hS
  go_enter Tryd.func32, Tryd.ntmps32
  go_wp2_with fail
  have hS := Lib.hid (show (fun W : World => Sep W (blk p 70 #[.slice sa n sc, .map (some mc), .map (some mb)] :: vec 45 10 (.slice sa n sc) n ss :: mapr ekI evC mc C :: mapr ekI evU mb B :: blk w.heap.size 31 #[.int .i64 call, .int .i64 thread, .bool inv, .int .i64 kind, .int .i64 txn, .int .i64 t, .int .i64 r, .int .i64 mode, .int .i64 code] :: rs)) _ from hB.out.drew)
  refine hl_begin (fun W : World => Sep W (blk p 70 #[.slice sa n sc, .map (some mc), .map (some mb)] :: vec 45 10 (.slice sa n sc) n ss :: mapr ekI evC mc C :: mapr ekI evU mb B :: blk w.heap.size 31 #[.int .i64 call, .int .i64 thread, .bool inv, .int .i64 kind, .int .i64 txn, .int .i64 t, .int .i64 r, .int .i64 mode, .int .i64 code] :: rs)) [(0, true), (1, true), (2, true), (3, true), (4, true), (5, true), (6, true), (7, true), (8, true), (9, true), (10, false), (11, false), (12, true)] (by kernel_rfl) (by kernel_rfl) (by kernel_rfl) rfl (fun _ _ _ _ _ h => h) hS.out ?_
  change HL _ _ _ _ _ _ (World.drew _)
  generalize World.drew _ = wd at *
  refine hl_take ?v1 rfl (by kernel_rfl) ?y1 ?z1
  case y1 => intro W hW; skip; replace hW := Lib.hid hW; go_simp; try rfl
  case z1 =>
  simp only [Act.put, List.setIfInBounds_toArray, List.set_cons_succ, List.set_cons_zero, List.getElem_toArray, List.getElem_cons_zero, List.getElem_cons_succ]
  refine hl_take ?v2 rfl (by kernel_rfl) ?y2 ?z2
  case y2 => intro W hW; skip; replace hW := Lib.hid hW; go_simp; try rfl
  case z2 =>
  simp only [Act.put, List.setIfInBounds_toArray, List.set_cons_succ, List.set_cons_zero, List.getElem_toArray, List.getElem_cons_zero, List.getElem_cons_succ]
  refine hl_take ?v3 rfl (by kernel_rfl) ?y3 ?z3
  case y3 => intro W hW; skip; replace hW := Lib.hid hW; go_simp; try rfl
  case z3 =>
  simp only [Act.put, List.setIfInBounds_toArray, List.set_cons_succ, List.set_cons_zero, List.getElem_toArray, List.getElem_cons_zero, List.getElem_cons_succ]
  refine hl_take ?v4 rfl (by kernel_rfl) ?y4 ?z4
  case y4 => intro W hW; change Sep W _ at hW; obtain ⟨_, c0, c1, c2, _⟩ := hW.b3; obtain ⟨_, e0, e1, e2, e3, e4, e5, e6, e7, e8, _⟩ := hW.to4.b9; replace hW := Lib.hid hW; go_simp; try rfl
  case z4 =>
  simp only [Act.put, List.setIfInBounds_toArray, List.set_cons_succ, List.set_cons_zero, List.getElem_toArray, List.getElem_cons_zero, List.getElem_cons_succ]
  refine hl_take ?v5 rfl (by kernel_rfl) ?y5 ?z5
  case y5 => intro W hW; skip; replace hW := Lib.hid hW; go_simp; try rfl
  case z5 =>
  simp only [Act.put, List.setIfInBounds_toArray, List.set_cons_succ, List.set_cons_zero, List.getElem_toArray, List.getElem_cons_zero, List.getElem_cons_succ]
  refine hl_take ?v6 rfl (by kernel_rfl) ?y6 ?z6
  case y6 => intro W hW; change Sep W _ at hW; obtain ⟨_, c0, c1, c2, _⟩ := hW.b3; obtain ⟨_, e0, e1, e2, e3, e4, e5, e6, e7, e8, _⟩ := hW.to4.b9; replace hW := Lib.hid hW; go_simp; try rfl
  case z6 =>
  simp only [Act.put, List.setIfInBounds_toArray, List.set_cons_succ, List.set_cons_zero, List.getElem_toArray, List.getElem_cons_zero, List.getElem_cons_succ]
  refine hl_take ?v7 rfl (by kernel_rfl) ?y7 ?z7
  case y7 => intro W hW; change Sep W _ at hW; have hk := run_lookup_map lawI Tryd.underlying68 hW.to2 (zeroC W) call true; rw [HC.out, HE.out] at hk; simp only [ekI, Option.map_some, Option.map_none, Option.getD_some, Option.getD_none, evC, if_true] at hk; replace hW := Lib.hid hW; go_simp; try rfl
  case z7 =>
  simp only [Act.put, List.setIfInBounds_toArray, List.set_cons_succ, List.set_cons_zero, List.getElem_toArray, List.getElem_cons_zero, List.getElem_cons_succ]
  refine hl_take ?v8 rfl (by kernel_rfl) ?y8 ?z8
  case y8 => intro W hW; skip; replace hW := Lib.hid hW; go_simp; try rfl
  case z8 =>
  simp only [Act.put, List.setIfInBounds_toArray, List.set_cons_succ, List.set_cons_zero, List.getElem_toArray, List.getElem_cons_zero, List.getElem_cons_succ]
  refine hl_take ?v9 rfl (by kernel_rfl) ?y9 ?z9
  case y9 => intro W hW; skip; replace hW := Lib.hid hW; go_simp; try rfl
  case z9 =>
  simp only [Act.put, List.setIfInBounds_toArray, List.set_cons_succ, List.set_cons_zero, List.getElem_toArray, List.getElem_cons_zero, List.getElem_cons_succ]
  refine hl_take ?v10 rfl (by kernel_rfl) ?y10 ?z10
  case y10 => intro W hW; skip; replace hW := Lib.hid hW; go_simp; try rfl
  case z10 =>
  simp only [Act.put, List.setIfInBounds_toArray, List.set_cons_succ, List.set_cons_zero, List.getElem_toArray, List.getElem_cons_zero, List.getElem_cons_succ]
  refine hl_one rfl (by kernel_rfl) (fun K hK => ?_)
  go_simp
  have hP := hS
  have hT := Lib.hid (hS.out.alloc #[.int .i64 0, .bool false] 90)
  replace hS := Lib.hid (show (fun W : World => Sep W (blk p 70 #[.slice sa n sc, .map (some mc), .map (some mb)] :: vec 45 10 (.slice sa n sc) n ss :: mapr ekI evC mc C :: mapr ekI evU mb B :: blk w.heap.size 31 #[.int .i64 call, .int .i64 thread, .bool inv, .int .i64 kind, .int .i64 txn, .int .i64 t, .int .i64 r, .int .i64 mode, .int .i64 code] :: rs)) _ from hT.out.tail)
  refine hK.out _ _ hS.out ?_
  clear hK K
  try simp only [Act.put, List.setIfInBounds_toArray, List.set_cons_succ, List.set_cons_zero, List.getElem_toArray, List.getElem_cons_zero, List.getElem_cons_succ]
  refine hl_one rfl (by kernel_rfl) (fun K hK => ?_)
  obtain ⟨_, x0, x1, x2, x3⟩ := hT.out.b2
  go_simp
  replace hB := Lib.hid (hP.out.alloc #[.int .i64 0, .bool false] 90)
  replace hS := Lib.hid (show (fun W : World => Sep W (blk p 70 #[.slice sa n sc, .map (some mc), .map (some mb)] :: vec 45 10 (.slice sa n sc) n ss :: mapr ekI evC mc C :: mapr ekI evU mb B :: blk w.heap.size 31 #[.int .i64 call, .int .i64 thread, .bool inv, .int .i64 kind, .int .i64 txn, .int .i64 t, .int .i64 r, .int .i64 mode, .int .i64 code] :: rs)) _ from hB.out.tail)
  clear x0 x1 x2 x3 hT hP
  refine hK.out _ _ hS.out ?_
  clear hK K
  try simp only [Act.put, List.setIfInBounds_toArray, List.set_cons_succ, List.set_cons_zero, List.getElem_toArray, List.getElem_cons_zero, List.getElem_cons_succ]
  refine hl_take ?v11 rfl (by kernel_rfl) ?y11 ?z11
  case y11 => intro W hW; skip; replace hW := Lib.hid hW; go_simp; try rfl
  case z11 =>
  simp only [Act.put, List.setIfInBounds_toArray, List.set_cons_succ, List.set_cons_zero, List.getElem_toArray, List.getElem_cons_zero, List.getElem_cons_succ]
  refine hl_done ?_
  clear hS
  generalize wd.heap.size = lb at *
  go_wp2_with fail
  have hS := Lib.hid (show (fun W : World => Sep W (blk lb 90 #[.int .i64 0, .bool false] :: blk p 70 #[.slice sa n sc, .map (some mc), .map (some mb)] :: vec 45 10 (.slice sa n sc) n ss :: mapr ekI evC mc C :: mapr ekI evU mb B :: blk w.heap.size 31 #[.int .i64 call, .int .i64 thread, .bool inv, .int .i64 kind, .int .i64 txn, .int .i64 t, .int .i64 r, .int .i64 mode, .int .i64 code] :: rs)) _ from hB.out.drew)
  refine hl_begin (fun W : World => Sep W (blk lb 90 #[.int .i64 0, .bool false] :: blk p 70 #[.slice sa n sc, .map (some mc), .map (some mb)] :: vec 45 10 (.slice sa n sc) n ss :: mapr ekI evC mc C :: mapr ekI evU mb B :: blk w.heap.size 31 #[.int .i64 call, .int .i64 thread, .bool inv, .int .i64 kind, .int .i64 txn, .int .i64 t, .int .i64 r, .int .i64 mode, .int .i64 code] :: rs)) [(0, true), (1, true), (2, true), (3, true), (4, true), (5, true), (6, true), (7, true), (8, true), (9, true), (10, true), (11, true), (12, true), (13, true), (14, true), (15, true), (16, true), (17, true), (18, true), (19, true), (20, true)] (by kernel_rfl) (by kernel_rfl) (by kernel_rfl) rfl (fun _ _ _ _ _ h => h) hS.out ?_
  change HL _ _ _ _ _ _ (World.drew _)
  generalize World.drew _ = wd at *
  refine hl_take ?v12 rfl (by kernel_rfl) ?y12 ?z12
  case y12 => intro W hW; skip; replace hW := Lib.hid hW; go_simp; try rfl
  case z12 =>
  simp only [Act.put, List.setIfInBounds_toArray, List.set_cons_succ, List.set_cons_zero, List.getElem_toArray, List.getElem_cons_zero, List.getElem_cons_succ]
  refine hl_take ?v13 rfl (by kernel_rfl) ?y13 ?z13
  case y13 => intro W hW; skip; replace hW := Lib.hid hW; go_simp; try rfl
  case z13 =>
  simp only [Act.put, List.setIfInBounds_toArray, List.set_cons_succ, List.set_cons_zero, List.getElem_toArray, List.getElem_cons_zero, List.getElem_cons_succ]
  refine hl_take ?v14 rfl (by kernel_rfl) ?y14 ?z14
  case y14 => intro W hW; skip; replace hW := Lib.hid hW; go_simp; try rfl
  case z14 =>
  simp only [Act.put, List.setIfInBounds_toArray, List.set_cons_succ, List.set_cons_zero, List.getElem_toArray, List.getElem_cons_zero, List.getElem_cons_succ]
  refine hl_skip rfl (by kernel_rfl) ?_
  simp only [Act.put, List.setIfInBounds_toArray, List.set_cons_succ, List.set_cons_zero, List.getElem_toArray, List.getElem_cons_zero, List.getElem_cons_succ]
  refine hl_skip rfl (by kernel_rfl) ?_
  simp only [Act.put, List.setIfInBounds_toArray, List.set_cons_succ, List.set_cons_zero, List.getElem_toArray, List.getElem_cons_zero, List.getElem_cons_succ]
  refine hl_skip rfl (by kernel_rfl) ?_
  simp only [Act.put, List.setIfInBounds_toArray, List.set_cons_succ, List.set_cons_zero, List.getElem_toArray, List.getElem_cons_zero, List.getElem_cons_succ]
  refine hl_take ?v15 rfl (by kernel_rfl) ?y15 ?z15
  case y15 => intro W hW; skip; replace hW := Lib.hid hW; go_simp; try rfl
  case z15 =>
  simp only [Act.put, List.setIfInBounds_toArray, List.set_cons_succ, List.set_cons_zero, List.getElem_toArray, List.getElem_cons_zero, List.getElem_cons_succ]
  refine hl_take ?v16 rfl (by kernel_rfl) ?y16 ?z16
  case y16 => intro W hW; skip; replace hW := Lib.hid hW; go_simp; try rfl
  case z16 =>
  simp only [Act.put, List.setIfInBounds_toArray, List.set_cons_succ, List.set_cons_zero, List.getElem_toArray, List.getElem_cons_zero, List.getElem_cons_succ]
  refine hl_skip rfl (by kernel_rfl) ?_
  simp only [Act.put, List.setIfInBounds_toArray, List.set_cons_succ, List.set_cons_zero, List.getElem_toArray, List.getElem_cons_zero, List.getElem_cons_succ]
  refine hl_skip rfl (by kernel_rfl) ?_
  simp only [Act.put, List.setIfInBounds_toArray, List.set_cons_succ, List.set_cons_zero, List.getElem_toArray, List.getElem_cons_zero, List.getElem_cons_succ]
  refine hl_skip rfl (by kernel_rfl) ?_
  simp only [Act.put, List.setIfInBounds_toArray, List.set_cons_succ, List.set_cons_zero, List.getElem_toArray, List.getElem_cons_zero, List.getElem_cons_succ]
  refine hl_skip rfl (by kernel_rfl) ?_
  simp only [Act.put, List.setIfInBounds_toArray, List.set_cons_succ, List.set_cons_zero, List.getElem_toArray, List.getElem_cons_zero, List.getElem_cons_succ]
  refine hl_skip rfl (by kernel_rfl) ?_
  simp only [Act.put, List.setIfInBounds_toArray, List.set_cons_succ, List.set_cons_zero, List.getElem_toArray, List.getElem_cons_zero, List.getElem_cons_succ]
  refine hl_skip rfl (by kernel_rfl) ?_
  simp only [Act.put, List.setIfInBounds_toArray, List.set_cons_succ, List.set_cons_zero, List.getElem_toArray, List.getElem_cons_zero, List.getElem_cons_succ]
  refine hl_skip rfl (by kernel_rfl) ?_
  simp only [Act.put, List.setIfInBounds_toArray, List.set_cons_succ, List.set_cons_zero, List.getElem_toArray, List.getElem_cons_zero, List.getElem_cons_succ]
  refine hl_skip rfl (by kernel_rfl) ?_
  simp only [Act.put, List.setIfInBounds_toArray, List.set_cons_succ, List.set_cons_zero, List.getElem_toArray, List.getElem_cons_zero, List.getElem_cons_succ]
  refine hl_skip rfl (by kernel_rfl) ?_
  simp only [Act.put, List.setIfInBounds_toArray, List.set_cons_succ, List.set_cons_zero, List.getElem_toArray, List.getElem_cons_zero, List.getElem_cons_succ]
  refine hl_skip rfl (by kernel_rfl) ?_
  simp only [Act.put, List.setIfInBounds_toArray, List.set_cons_succ, List.set_cons_zero, List.getElem_toArray, List.getElem_cons_zero, List.getElem_cons_succ]
  refine hl_skip rfl (by kernel_rfl) ?_
  simp only [Act.put, List.setIfInBounds_toArray, List.set_cons_succ, List.set_cons_zero, List.getElem_toArray, List.getElem_cons_zero, List.getElem_cons_succ]
  refine hl_skip rfl (by kernel_rfl) ?_
  simp only [Act.put, List.setIfInBounds_toArray, List.set_cons_succ, List.set_cons_zero, List.getElem_toArray, List.getElem_cons_zero, List.getElem_cons_succ]
  refine hl_take ?v17 rfl (by kernel_rfl) ?y17 ?z17
  case y17 => intro W hW; skip; replace hW := Lib.hid hW; go_simp; try rfl
  case z17 =>
  simp only [Act.put, List.setIfInBounds_toArray, List.set_cons_succ, List.set_cons_zero, List.getElem_toArray, List.getElem_cons_zero, List.getElem_cons_succ]
  refine hl_done ?_
  clear hB
  replace hB := hS
  clear hS
  go_wp2_with fail
  go_ret
  exact ⟨rfl, hB.out.tail.to4.tail⟩
set_option maxHeartbeats 4000000 in
set_option maxRecDepth 100000 in
theorem end_closed (p n sc mc mb : Nat) (sa : Option Addr) (ss : List Value) (C : List (Int × (Int × Bool))) (B : List (Int × Unit)) (e : Ev) (at_ : Int) (w : World) (rs : List Res) (hS : Sep w (blk p 70 #[.slice sa n sc, .map (some mc), .map (some mb)] :: vec 45 10 (.slice sa n sc) n ss :: mapr ekI evC mc C :: mapr ekI evU mb B :: rs)) (pl : Int) (hc : getL C e.call = some (pl, false)) :
    Calls Tryd.prog 32 #[.pointer (some ⟨p, 0, none⟩), e.val, .int .i64 at_] w fun r w' => r = .returned (.int .i64 5) ∧ Sep w' (blk p 70 #[.slice sa n sc, .map (some mc), .map (some mb)] :: vec 45 10 (.slice sa n sc) n ss :: mapr ekI evC mc C :: mapr ekI evU mb B :: rs) := by
  obtain ⟨call, thread, inv, ⟨kind, txn, t, r, mode, code⟩⟩ := e
  simp only [Ev.val]
  have hB := Lib.hid (show Sep _ (blk p 70 #[.slice sa n sc, .map (some mc), .map (some mb)] :: vec 45 10 (.slice sa n sc) n ss :: mapr ekI evC mc C :: mapr ekI evU mb B :: blk w.heap.size 31 #[.int .i64 call, .int .i64 thread, .bool inv, .int .i64 kind, .int .i64 txn, .int .i64 t, .int .i64 r, .int .i64 mode, .int .i64 code] :: rs) from (hS.alloc #[.int .i64 call, .int .i64 thread, .bool inv, .int .i64 kind, .int .i64 txn, .int .i64 t, .int .i64 r, .int .i64 mode, .int .i64 code] 31).to4.to4.to4.to4)
  have HC := Lib.hid (show getL C call = some (pl, false) from hc)
  have HE := Lib.hid (show hasL C call = true by rw [← getL_isSome, HC.out]; rfl)
  clear hc hS
  go_enter Tryd.func32, Tryd.ntmps32
  go_wp2_with fail
  have hS := Lib.hid (show (fun W : World => Sep W (blk p 70 #[.slice sa n sc, .map (some mc), .map (some mb)] :: vec 45 10 (.slice sa n sc) n ss :: mapr ekI evC mc C :: mapr ekI evU mb B :: blk w.heap.size 31 #[.int .i64 call, .int .i64 thread, .bool inv, .int .i64 kind, .int .i64 txn, .int .i64 t, .int .i64 r, .int .i64 mode, .int .i64 code] :: rs)) _ from hB.out.drew)
  refine hl_begin (fun W : World => Sep W (blk p 70 #[.slice sa n sc, .map (some mc), .map (some mb)] :: vec 45 10 (.slice sa n sc) n ss :: mapr ekI evC mc C :: mapr ekI evU mb B :: blk w.heap.size 31 #[.int .i64 call, .int .i64 thread, .bool inv, .int .i64 kind, .int .i64 txn, .int .i64 t, .int .i64 r, .int .i64 mode, .int .i64 code] :: rs)) [(0, true), (1, true), (2, true), (3, true), (4, true), (5, true), (6, true), (7, true), (8, true), (9, true), (10, false), (11, false), (12, true)] (by kernel_rfl) (by kernel_rfl) (by kernel_rfl) rfl (fun _ _ _ _ _ h => h) hS.out ?_
  change HL _ _ _ _ _ _ (World.drew _)
  generalize World.drew _ = wd at *
  refine hl_take ?v18 rfl (by kernel_rfl) ?y18 ?z18
  case y18 => intro W hW; skip; replace hW := Lib.hid hW; go_simp; try rfl
  case z18 =>
  simp only [Act.put, List.setIfInBounds_toArray, List.set_cons_succ, List.set_cons_zero, List.getElem_toArray, List.getElem_cons_zero, List.getElem_cons_succ]
  refine hl_take ?v19 rfl (by kernel_rfl) ?y19 ?z19
  case y19 => intro W hW; skip; replace hW := Lib.hid hW; go_simp; try rfl
  case z19 =>
  simp only [Act.put, List.setIfInBounds_toArray, List.set_cons_succ, List.set_cons_zero, List.getElem_toArray, List.getElem_cons_zero, List.getElem_cons_succ]
  refine hl_take ?v20 rfl (by kernel_rfl) ?y20 ?z20
  case y20 => intro W hW; skip; replace hW := Lib.hid hW; go_simp; try rfl
  case z20 =>
  simp only [Act.put, List.setIfInBounds_toArray, List.set_cons_succ, List.set_cons_zero, List.getElem_toArray, List.getElem_cons_zero, List.getElem_cons_succ]
  refine hl_take ?v21 rfl (by kernel_rfl) ?y21 ?z21
  case y21 => intro W hW; change Sep W _ at hW; obtain ⟨_, c0, c1, c2, _⟩ := hW.b3; obtain ⟨_, e0, e1, e2, e3, e4, e5, e6, e7, e8, _⟩ := hW.to4.b9; replace hW := Lib.hid hW; go_simp; try rfl
  case z21 =>
  simp only [Act.put, List.setIfInBounds_toArray, List.set_cons_succ, List.set_cons_zero, List.getElem_toArray, List.getElem_cons_zero, List.getElem_cons_succ]
  refine hl_take ?v22 rfl (by kernel_rfl) ?y22 ?z22
  case y22 => intro W hW; skip; replace hW := Lib.hid hW; go_simp; try rfl
  case z22 =>
  simp only [Act.put, List.setIfInBounds_toArray, List.set_cons_succ, List.set_cons_zero, List.getElem_toArray, List.getElem_cons_zero, List.getElem_cons_succ]
  refine hl_take ?v23 rfl (by kernel_rfl) ?y23 ?z23
  case y23 => intro W hW; change Sep W _ at hW; obtain ⟨_, c0, c1, c2, _⟩ := hW.b3; obtain ⟨_, e0, e1, e2, e3, e4, e5, e6, e7, e8, _⟩ := hW.to4.b9; replace hW := Lib.hid hW; go_simp; try rfl
  case z23 =>
  simp only [Act.put, List.setIfInBounds_toArray, List.set_cons_succ, List.set_cons_zero, List.getElem_toArray, List.getElem_cons_zero, List.getElem_cons_succ]
  refine hl_take ?v24 rfl (by kernel_rfl) ?y24 ?z24
  case y24 => intro W hW; change Sep W _ at hW; have hk := run_lookup_map lawI Tryd.underlying68 hW.to2 (zeroC W) call true; rw [HC.out, HE.out] at hk; simp only [ekI, Option.map_some, Option.map_none, Option.getD_some, Option.getD_none, evC, if_true] at hk; replace hW := Lib.hid hW; go_simp; try rfl
  case z24 =>
  simp only [Act.put, List.setIfInBounds_toArray, List.set_cons_succ, List.set_cons_zero, List.getElem_toArray, List.getElem_cons_zero, List.getElem_cons_succ]
  refine hl_take ?v25 rfl (by kernel_rfl) ?y25 ?z25
  case y25 => intro W hW; skip; replace hW := Lib.hid hW; go_simp; try rfl
  case z25 =>
  simp only [Act.put, List.setIfInBounds_toArray, List.set_cons_succ, List.set_cons_zero, List.getElem_toArray, List.getElem_cons_zero, List.getElem_cons_succ]
  refine hl_take ?v26 rfl (by kernel_rfl) ?y26 ?z26
  case y26 => intro W hW; skip; replace hW := Lib.hid hW; go_simp; try rfl
  case z26 =>
  simp only [Act.put, List.setIfInBounds_toArray, List.set_cons_succ, List.set_cons_zero, List.getElem_toArray, List.getElem_cons_zero, List.getElem_cons_succ]
  refine hl_take ?v27 rfl (by kernel_rfl) ?y27 ?z27
  case y27 => intro W hW; skip; replace hW := Lib.hid hW; go_simp; try rfl
  case z27 =>
  simp only [Act.put, List.setIfInBounds_toArray, List.set_cons_succ, List.set_cons_zero, List.getElem_toArray, List.getElem_cons_zero, List.getElem_cons_succ]
  refine hl_one rfl (by kernel_rfl) (fun K hK => ?_)
  go_simp
  have hP := hS
  have hT := Lib.hid (hS.out.alloc #[.int .i64 0, .bool false] 90)
  replace hS := Lib.hid (show (fun W : World => Sep W (blk p 70 #[.slice sa n sc, .map (some mc), .map (some mb)] :: vec 45 10 (.slice sa n sc) n ss :: mapr ekI evC mc C :: mapr ekI evU mb B :: blk w.heap.size 31 #[.int .i64 call, .int .i64 thread, .bool inv, .int .i64 kind, .int .i64 txn, .int .i64 t, .int .i64 r, .int .i64 mode, .int .i64 code] :: rs)) _ from hT.out.tail)
  refine hK.out _ _ hS.out ?_
  clear hK K
  try simp only [Act.put, List.setIfInBounds_toArray, List.set_cons_succ, List.set_cons_zero, List.getElem_toArray, List.getElem_cons_zero, List.getElem_cons_succ]
  refine hl_one rfl (by kernel_rfl) (fun K hK => ?_)
  obtain ⟨_, x0, x1, x2, x3⟩ := hT.out.b2
  go_simp
  replace hB := Lib.hid (hP.out.alloc #[.int .i64 pl, .bool false] 90)
  replace hS := Lib.hid (show (fun W : World => Sep W (blk p 70 #[.slice sa n sc, .map (some mc), .map (some mb)] :: vec 45 10 (.slice sa n sc) n ss :: mapr ekI evC mc C :: mapr ekI evU mb B :: blk w.heap.size 31 #[.int .i64 call, .int .i64 thread, .bool inv, .int .i64 kind, .int .i64 txn, .int .i64 t, .int .i64 r, .int .i64 mode, .int .i64 code] :: rs)) _ from hB.out.tail)
  clear x0 x1 x2 x3 hT hP
  refine hK.out _ _ hS.out ?_
  clear hK K
  try simp only [Act.put, List.setIfInBounds_toArray, List.set_cons_succ, List.set_cons_zero, List.getElem_toArray, List.getElem_cons_zero, List.getElem_cons_succ]
  refine hl_take ?v28 rfl (by kernel_rfl) ?y28 ?z28
  case y28 => intro W hW; skip; replace hW := Lib.hid hW; go_simp; try rfl
  case z28 =>
  simp only [Act.put, List.setIfInBounds_toArray, List.set_cons_succ, List.set_cons_zero, List.getElem_toArray, List.getElem_cons_zero, List.getElem_cons_succ]
  refine hl_done ?_
  clear hS
  generalize wd.heap.size = lb at *
  go_wp2_with fail
  have hS := Lib.hid (show (fun W : World => Sep W (blk lb 90 #[.int .i64 pl, .bool false] :: blk p 70 #[.slice sa n sc, .map (some mc), .map (some mb)] :: vec 45 10 (.slice sa n sc) n ss :: mapr ekI evC mc C :: mapr ekI evU mb B :: blk w.heap.size 31 #[.int .i64 call, .int .i64 thread, .bool inv, .int .i64 kind, .int .i64 txn, .int .i64 t, .int .i64 r, .int .i64 mode, .int .i64 code] :: rs)) _ from hB.out.drew)
  refine hl_begin (fun W : World => Sep W (blk lb 90 #[.int .i64 pl, .bool false] :: blk p 70 #[.slice sa n sc, .map (some mc), .map (some mb)] :: vec 45 10 (.slice sa n sc) n ss :: mapr ekI evC mc C :: mapr ekI evU mb B :: blk w.heap.size 31 #[.int .i64 call, .int .i64 thread, .bool inv, .int .i64 kind, .int .i64 txn, .int .i64 t, .int .i64 r, .int .i64 mode, .int .i64 code] :: rs)) [(0, true), (1, true), (2, true), (3, true), (4, true), (5, true), (6, true), (7, true), (8, true), (9, true), (10, true), (11, true), (12, true), (13, true), (14, true), (15, true), (16, true), (17, true), (18, true), (19, true), (20, true)] (by kernel_rfl) (by kernel_rfl) (by kernel_rfl) rfl (fun _ _ _ _ _ h => h) hS.out ?_
  change HL _ _ _ _ _ _ (World.drew _)
  generalize World.drew _ = wd at *
  refine hl_take ?v29 rfl (by kernel_rfl) ?y29 ?z29
  case y29 => intro W hW; skip; replace hW := Lib.hid hW; go_simp; try rfl
  case z29 =>
  simp only [Act.put, List.setIfInBounds_toArray, List.set_cons_succ, List.set_cons_zero, List.getElem_toArray, List.getElem_cons_zero, List.getElem_cons_succ]
  refine hl_take ?v30 rfl (by kernel_rfl) ?y30 ?z30
  case y30 => intro W hW; skip; replace hW := Lib.hid hW; go_simp; try rfl
  case z30 =>
  simp only [Act.put, List.setIfInBounds_toArray, List.set_cons_succ, List.set_cons_zero, List.getElem_toArray, List.getElem_cons_zero, List.getElem_cons_succ]
  refine hl_take ?v31 rfl (by kernel_rfl) ?y31 ?z31
  case y31 => intro W hW; skip; replace hW := Lib.hid hW; go_simp; try rfl
  case z31 =>
  simp only [Act.put, List.setIfInBounds_toArray, List.set_cons_succ, List.set_cons_zero, List.getElem_toArray, List.getElem_cons_zero, List.getElem_cons_succ]
  refine hl_take ?v32 rfl (by kernel_rfl) ?y32 ?z32
  case y32 => intro W hW; skip; replace hW := Lib.hid hW; go_simp; try rfl
  case z32 =>
  simp only [Act.put, List.setIfInBounds_toArray, List.set_cons_succ, List.set_cons_zero, List.getElem_toArray, List.getElem_cons_zero, List.getElem_cons_succ]
  refine hl_take ?v33 rfl (by kernel_rfl) ?y33 ?z33
  case y33 => intro W hW; change Sep W _ at hW; obtain ⟨_, l0, l1, _⟩ := hW.b2; obtain ⟨_, c0, c1, c2, _⟩ := hW.to1.b3; obtain ⟨_, e0, e1, e2, e3, e4, e5, e6, e7, e8, _⟩ := hW.to5.b9; replace hW := Lib.hid hW; go_simp; try rfl
  case z33 =>
  simp only [Act.put, List.setIfInBounds_toArray, List.set_cons_succ, List.set_cons_zero, List.getElem_toArray, List.getElem_cons_zero, List.getElem_cons_succ]
  refine hl_take ?v34 rfl (by kernel_rfl) ?y34 ?z34
  case y34 => intro W hW; skip; replace hW := Lib.hid hW; go_simp; try rfl
  case z34 =>
  simp only [Act.put, List.setIfInBounds_toArray, List.set_cons_succ, List.set_cons_zero, List.getElem_toArray, List.getElem_cons_zero, List.getElem_cons_succ]
  refine hl_take ?v35 rfl (by kernel_rfl) ?y35 ?z35
  case y35 => intro W hW; skip; replace hW := Lib.hid hW; go_simp; try rfl
  case z35 =>
  simp only [Act.put, List.setIfInBounds_toArray, List.set_cons_succ, List.set_cons_zero, List.getElem_toArray, List.getElem_cons_zero, List.getElem_cons_succ]
  refine hl_take ?v36 rfl (by kernel_rfl) ?y36 ?z36
  case y36 => intro W hW; skip; replace hW := Lib.hid hW; go_simp; try rfl
  case z36 =>
  simp only [Act.put, List.setIfInBounds_toArray, List.set_cons_succ, List.set_cons_zero, List.getElem_toArray, List.getElem_cons_zero, List.getElem_cons_succ]
  refine hl_skip rfl (by kernel_rfl) ?_
  simp only [Act.put, List.setIfInBounds_toArray, List.set_cons_succ, List.set_cons_zero, List.getElem_toArray, List.getElem_cons_zero, List.getElem_cons_succ]
  refine hl_skip rfl (by kernel_rfl) ?_
  simp only [Act.put, List.setIfInBounds_toArray, List.set_cons_succ, List.set_cons_zero, List.getElem_toArray, List.getElem_cons_zero, List.getElem_cons_succ]
  refine hl_skip rfl (by kernel_rfl) ?_
  simp only [Act.put, List.setIfInBounds_toArray, List.set_cons_succ, List.set_cons_zero, List.getElem_toArray, List.getElem_cons_zero, List.getElem_cons_succ]
  refine hl_skip rfl (by kernel_rfl) ?_
  simp only [Act.put, List.setIfInBounds_toArray, List.set_cons_succ, List.set_cons_zero, List.getElem_toArray, List.getElem_cons_zero, List.getElem_cons_succ]
  refine hl_skip rfl (by kernel_rfl) ?_
  simp only [Act.put, List.setIfInBounds_toArray, List.set_cons_succ, List.set_cons_zero, List.getElem_toArray, List.getElem_cons_zero, List.getElem_cons_succ]
  refine hl_skip rfl (by kernel_rfl) ?_
  simp only [Act.put, List.setIfInBounds_toArray, List.set_cons_succ, List.set_cons_zero, List.getElem_toArray, List.getElem_cons_zero, List.getElem_cons_succ]
  refine hl_skip rfl (by kernel_rfl) ?_
  simp only [Act.put, List.setIfInBounds_toArray, List.set_cons_succ, List.set_cons_zero, List.getElem_toArray, List.getElem_cons_zero, List.getElem_cons_succ]
  refine hl_skip rfl (by kernel_rfl) ?_
  simp only [Act.put, List.setIfInBounds_toArray, List.set_cons_succ, List.set_cons_zero, List.getElem_toArray, List.getElem_cons_zero, List.getElem_cons_succ]
  refine hl_skip rfl (by kernel_rfl) ?_
  simp only [Act.put, List.setIfInBounds_toArray, List.set_cons_succ, List.set_cons_zero, List.getElem_toArray, List.getElem_cons_zero, List.getElem_cons_succ]
  refine hl_skip rfl (by kernel_rfl) ?_
  simp only [Act.put, List.setIfInBounds_toArray, List.set_cons_succ, List.set_cons_zero, List.getElem_toArray, List.getElem_cons_zero, List.getElem_cons_succ]
  refine hl_skip rfl (by kernel_rfl) ?_
  simp only [Act.put, List.setIfInBounds_toArray, List.set_cons_succ, List.set_cons_zero, List.getElem_toArray, List.getElem_cons_zero, List.getElem_cons_succ]
  refine hl_skip rfl (by kernel_rfl) ?_
  simp only [Act.put, List.setIfInBounds_toArray, List.set_cons_succ, List.set_cons_zero, List.getElem_toArray, List.getElem_cons_zero, List.getElem_cons_succ]
  refine hl_take ?v37 rfl (by kernel_rfl) ?y37 ?z37
  case y37 => intro W hW; skip; replace hW := Lib.hid hW; go_simp; try rfl
  case z37 =>
  simp only [Act.put, List.setIfInBounds_toArray, List.set_cons_succ, List.set_cons_zero, List.getElem_toArray, List.getElem_cons_zero, List.getElem_cons_succ]
  refine hl_done ?_
  clear hB
  replace hB := hS
  clear hS
  go_wp2_with fail
  go_ret
  exact ⟨rfl, hB.out.tail.to4.tail⟩
set_option maxHeartbeats 4000000 in
set_option maxRecDepth 100000 in
theorem end_other (p n sc mc mb : Nat) (sa : Option Addr) (ss : List Value) (C : List (Int × (Int × Bool))) (B : List (Int × Unit)) (e : Ev) (at_ : Int) (w : World) (rs : List Res) (hS : Sep w (blk p 70 #[.slice sa n sc, .map (some mc), .map (some mb)] :: vec 45 10 (.slice sa n sc) n ss :: mapr ekI evC mc C :: mapr ekI evU mb B :: rs)) (q : Nat) (th : Int) (hc : getL C e.call = some ((q : Int), true)) (hq : q < n) (hth : ss[q * 10 + 1]? = some (.int .i64 th)) (hne : th ≠ e.thread) :
    Calls Tryd.prog 32 #[.pointer (some ⟨p, 0, none⟩), e.val, .int .i64 at_] w fun r w' => r = .returned (.int .i64 5) ∧ Sep w' (blk p 70 #[.slice sa n sc, .map (some mc), .map (some mb)] :: vec 45 10 (.slice sa n sc) n ss :: mapr ekI evC mc C :: mapr ekI evU mb B :: rs) := by
  obtain ⟨g, rfl⟩ : ∃ g, sa = some ⟨g, 0, none⟩ := by
    rcases hS.to1.gvec.2 with ⟨_, h1⟩ | ⟨g, cap, cur, hv, _⟩
    · omega
    · injection hv with e1 _ _
      exact ⟨g, e1⟩
  have i1 : (0 : Int) ≤ (q : Int) := by omega
  have i2 : (q : Int) < (n : Int) := by omega
  have hqn := Lib.hid hq
  clear hq
  replace hth := Lib.hid hth
  obtain ⟨call, thread, inv, ⟨kind, txn, t, r, mode, code⟩⟩ := e
  simp only [Ev.val]
  have hB := Lib.hid (show Sep _ (blk p 70 #[.slice (some ⟨g, 0, none⟩) n sc, .map (some mc), .map (some mb)] :: vec 45 10 (.slice (some ⟨g, 0, none⟩) n sc) n ss :: mapr ekI evC mc C :: mapr ekI evU mb B :: blk w.heap.size 31 #[.int .i64 call, .int .i64 thread, .bool inv, .int .i64 kind, .int .i64 txn, .int .i64 t, .int .i64 r, .int .i64 mode, .int .i64 code] :: rs) from (hS.alloc #[.int .i64 call, .int .i64 thread, .bool inv, .int .i64 kind, .int .i64 txn, .int .i64 t, .int .i64 r, .int .i64 mode, .int .i64 code] 31).to4.to4.to4.to4)
  have HC := Lib.hid (show getL C call = some ((q : Int), true) from hc)
  have HE := Lib.hid (show hasL C call = true by rw [← getL_isSome, HC.out]; rfl)
  clear hc hS
  have hne2 : (th == thread) = false := beq_eq_false_iff_ne.2 hne
  clear hne
  go_enter Tryd.func32, Tryd.ntmps32
  go_wp2_with fail
  have hS := Lib.hid (show (fun W : World => Sep W (blk p 70 #[.slice (some ⟨g, 0, none⟩) n sc, .map (some mc), .map (some mb)] :: vec 45 10 (.slice (some ⟨g, 0, none⟩) n sc) n ss :: mapr ekI evC mc C :: mapr ekI evU mb B :: blk w.heap.size 31 #[.int .i64 call, .int .i64 thread, .bool inv, .int .i64 kind, .int .i64 txn, .int .i64 t, .int .i64 r, .int .i64 mode, .int .i64 code] :: rs)) _ from hB.out.drew)
  refine hl_begin (fun W : World => Sep W (blk p 70 #[.slice (some ⟨g, 0, none⟩) n sc, .map (some mc), .map (some mb)] :: vec 45 10 (.slice (some ⟨g, 0, none⟩) n sc) n ss :: mapr ekI evC mc C :: mapr ekI evU mb B :: blk w.heap.size 31 #[.int .i64 call, .int .i64 thread, .bool inv, .int .i64 kind, .int .i64 txn, .int .i64 t, .int .i64 r, .int .i64 mode, .int .i64 code] :: rs)) [(0, true), (1, true), (2, true), (3, true), (4, true), (5, true), (6, true), (7, true), (8, true), (9, true), (10, false), (11, false), (12, true)] (by kernel_rfl) (by kernel_rfl) (by kernel_rfl) rfl (fun _ _ _ _ _ h => h) hS.out ?_
  change HL _ _ _ _ _ _ (World.drew _)
  generalize World.drew _ = wd at *
  refine hl_take ?v38 rfl (by kernel_rfl) ?y38 ?z38
  case y38 => intro W hW; skip; replace hW := Lib.hid hW; go_simp; try rfl
  case z38 =>
  simp only [Act.put, List.setIfInBounds_toArray, List.set_cons_succ, List.set_cons_zero, List.getElem_toArray, List.getElem_cons_zero, List.getElem_cons_succ]
  refine hl_take ?v39 rfl (by kernel_rfl) ?y39 ?z39
  case y39 => intro W hW; skip; replace hW := Lib.hid hW; go_simp; try rfl
  case z39 =>
  simp only [Act.put, List.setIfInBounds_toArray, List.set_cons_succ, List.set_cons_zero, List.getElem_toArray, List.getElem_cons_zero, List.getElem_cons_succ]
  refine hl_take ?v40 rfl (by kernel_rfl) ?y40 ?z40
  case y40 => intro W hW; skip; replace hW := Lib.hid hW; go_simp; try rfl
  case z40 =>
  simp only [Act.put, List.setIfInBounds_toArray, List.set_cons_succ, List.set_cons_zero, List.getElem_toArray, List.getElem_cons_zero, List.getElem_cons_succ]
  refine hl_take ?v41 rfl (by kernel_rfl) ?y41 ?z41
  case y41 => intro W hW; change Sep W _ at hW; obtain ⟨_, c0, c1, c2, _⟩ := hW.b3; obtain ⟨_, e0, e1, e2, e3, e4, e5, e6, e7, e8, _⟩ := hW.to4.b9; replace hW := Lib.hid hW; go_simp; try rfl
  case z41 =>
  simp only [Act.put, List.setIfInBounds_toArray, List.set_cons_succ, List.set_cons_zero, List.getElem_toArray, List.getElem_cons_zero, List.getElem_cons_succ]
  refine hl_take ?v42 rfl (by kernel_rfl) ?y42 ?z42
  case y42 => intro W hW; skip; replace hW := Lib.hid hW; go_simp; try rfl
  case z42 =>
  simp only [Act.put, List.setIfInBounds_toArray, List.set_cons_succ, List.set_cons_zero, List.getElem_toArray, List.getElem_cons_zero, List.getElem_cons_succ]
  refine hl_take ?v43 rfl (by kernel_rfl) ?y43 ?z43
  case y43 => intro W hW; change Sep W _ at hW; obtain ⟨_, c0, c1, c2, _⟩ := hW.b3; obtain ⟨_, e0, e1, e2, e3, e4, e5, e6, e7, e8, _⟩ := hW.to4.b9; replace hW := Lib.hid hW; go_simp; try rfl
  case z43 =>
  simp only [Act.put, List.setIfInBounds_toArray, List.set_cons_succ, List.set_cons_zero, List.getElem_toArray, List.getElem_cons_zero, List.getElem_cons_succ]
  refine hl_take ?v44 rfl (by kernel_rfl) ?y44 ?z44
  case y44 => intro W hW; change Sep W _ at hW; have hk := run_lookup_map lawI Tryd.underlying68 hW.to2 (zeroC W) call true; rw [HC.out, HE.out] at hk; simp only [ekI, Option.map_some, Option.map_none, Option.getD_some, Option.getD_none, evC, if_true] at hk; replace hW := Lib.hid hW; go_simp; try rfl
  case z44 =>
  simp only [Act.put, List.setIfInBounds_toArray, List.set_cons_succ, List.set_cons_zero, List.getElem_toArray, List.getElem_cons_zero, List.getElem_cons_succ]
  refine hl_take ?v45 rfl (by kernel_rfl) ?y45 ?z45
  case y45 => intro W hW; skip; replace hW := Lib.hid hW; go_simp; try rfl
  case z45 =>
  simp only [Act.put, List.setIfInBounds_toArray, List.set_cons_succ, List.set_cons_zero, List.getElem_toArray, List.getElem_cons_zero, List.getElem_cons_succ]
  refine hl_take ?v46 rfl (by kernel_rfl) ?y46 ?z46
  case y46 => intro W hW; skip; replace hW := Lib.hid hW; go_simp; try rfl
  case z46 =>
  simp only [Act.put, List.setIfInBounds_toArray, List.set_cons_succ, List.set_cons_zero, List.getElem_toArray, List.getElem_cons_zero, List.getElem_cons_succ]
  refine hl_take ?v47 rfl (by kernel_rfl) ?y47 ?z47
  case y47 => intro W hW; skip; replace hW := Lib.hid hW; go_simp; try rfl
  case z47 =>
  simp only [Act.put, List.setIfInBounds_toArray, List.set_cons_succ, List.set_cons_zero, List.getElem_toArray, List.getElem_cons_zero, List.getElem_cons_succ]
  refine hl_one rfl (by kernel_rfl) (fun K hK => ?_)
  go_simp
  have hP := hS
  have hT := Lib.hid (hS.out.alloc #[.int .i64 0, .bool false] 90)
  replace hS := Lib.hid (show (fun W : World => Sep W (blk p 70 #[.slice (some ⟨g, 0, none⟩) n sc, .map (some mc), .map (some mb)] :: vec 45 10 (.slice (some ⟨g, 0, none⟩) n sc) n ss :: mapr ekI evC mc C :: mapr ekI evU mb B :: blk w.heap.size 31 #[.int .i64 call, .int .i64 thread, .bool inv, .int .i64 kind, .int .i64 txn, .int .i64 t, .int .i64 r, .int .i64 mode, .int .i64 code] :: rs)) _ from hT.out.tail)
  refine hK.out _ _ hS.out ?_
  clear hK K
  try simp only [Act.put, List.setIfInBounds_toArray, List.set_cons_succ, List.set_cons_zero, List.getElem_toArray, List.getElem_cons_zero, List.getElem_cons_succ]
  refine hl_one rfl (by kernel_rfl) (fun K hK => ?_)
  obtain ⟨_, x0, x1, x2, x3⟩ := hT.out.b2
  go_simp
  replace hB := Lib.hid (hP.out.alloc #[.int .i64 (q : Int), .bool true] 90)
  replace hS := Lib.hid (show (fun W : World => Sep W (blk p 70 #[.slice (some ⟨g, 0, none⟩) n sc, .map (some mc), .map (some mb)] :: vec 45 10 (.slice (some ⟨g, 0, none⟩) n sc) n ss :: mapr ekI evC mc C :: mapr ekI evU mb B :: blk w.heap.size 31 #[.int .i64 call, .int .i64 thread, .bool inv, .int .i64 kind, .int .i64 txn, .int .i64 t, .int .i64 r, .int .i64 mode, .int .i64 code] :: rs)) _ from hB.out.tail)
  clear x0 x1 x2 x3 hT hP
  refine hK.out _ _ hS.out ?_
  clear hK K
  try simp only [Act.put, List.setIfInBounds_toArray, List.set_cons_succ, List.set_cons_zero, List.getElem_toArray, List.getElem_cons_zero, List.getElem_cons_succ]
  refine hl_take ?v48 rfl (by kernel_rfl) ?y48 ?z48
  case y48 => intro W hW; skip; replace hW := Lib.hid hW; go_simp; try rfl
  case z48 =>
  simp only [Act.put, List.setIfInBounds_toArray, List.set_cons_succ, List.set_cons_zero, List.getElem_toArray, List.getElem_cons_zero, List.getElem_cons_succ]
  refine hl_done ?_
  clear hS
  generalize wd.heap.size = lb at *
  go_wp2_with fail
  have hS := Lib.hid (show (fun W : World => Sep W (blk lb 90 #[.int .i64 (q : Int), .bool true] :: blk p 70 #[.slice (some ⟨g, 0, none⟩) n sc, .map (some mc), .map (some mb)] :: vec 45 10 (.slice (some ⟨g, 0, none⟩) n sc) n ss :: mapr ekI evC mc C :: mapr ekI evU mb B :: blk w.heap.size 31 #[.int .i64 call, .int .i64 thread, .bool inv, .int .i64 kind, .int .i64 txn, .int .i64 t, .int .i64 r, .int .i64 mode, .int .i64 code] :: rs)) _ from hB.out.drew)
  refine hl_begin (fun W : World => Sep W (blk lb 90 #[.int .i64 (q : Int), .bool true] :: blk p 70 #[.slice (some ⟨g, 0, none⟩) n sc, .map (some mc), .map (some mb)] :: vec 45 10 (.slice (some ⟨g, 0, none⟩) n sc) n ss :: mapr ekI evC mc C :: mapr ekI evU mb B :: blk w.heap.size 31 #[.int .i64 call, .int .i64 thread, .bool inv, .int .i64 kind, .int .i64 txn, .int .i64 t, .int .i64 r, .int .i64 mode, .int .i64 code] :: rs)) [(0, true), (1, true), (2, true), (3, true), (4, true), (5, true), (6, true), (7, true), (8, true), (9, true), (10, true), (11, true), (12, true), (13, true), (14, true), (15, true), (16, true), (17, true), (18, true), (19, true), (20, true)] (by kernel_rfl) (by kernel_rfl) (by kernel_rfl) rfl (fun _ _ _ _ _ h => h) hS.out ?_
  change HL _ _ _ _ _ _ (World.drew _)
  generalize World.drew _ = wd at *
  refine hl_take ?v49 rfl (by kernel_rfl) ?y49 ?z49
  case y49 => intro W hW; skip; replace hW := Lib.hid hW; go_simp; try rfl
  case z49 =>
  simp only [Act.put, List.setIfInBounds_toArray, List.set_cons_succ, List.set_cons_zero, List.getElem_toArray, List.getElem_cons_zero, List.getElem_cons_succ]
  refine hl_take ?v50 rfl (by kernel_rfl) ?y50 ?z50
  case y50 => intro W hW; skip; replace hW := Lib.hid hW; go_simp; try rfl
  case z50 =>
  simp only [Act.put, List.setIfInBounds_toArray, List.set_cons_succ, List.set_cons_zero, List.getElem_toArray, List.getElem_cons_zero, List.getElem_cons_succ]
  refine hl_take ?v51 rfl (by kernel_rfl) ?y51 ?z51
  case y51 => intro W hW; skip; replace hW := Lib.hid hW; go_simp; try rfl
  case z51 =>
  simp only [Act.put, List.setIfInBounds_toArray, List.set_cons_succ, List.set_cons_zero, List.getElem_toArray, List.getElem_cons_zero, List.getElem_cons_succ]
  refine hl_take ?v52 rfl (by kernel_rfl) ?y52 ?z52
  case y52 => intro W hW; skip; replace hW := Lib.hid hW; go_simp; try rfl
  case z52 =>
  simp only [Act.put, List.setIfInBounds_toArray, List.set_cons_succ, List.set_cons_zero, List.getElem_toArray, List.getElem_cons_zero, List.getElem_cons_succ]
  refine hl_take ?v53 rfl (by kernel_rfl) ?y53 ?z53
  case y53 => intro W hW; change Sep W _ at hW; obtain ⟨_, l0, l1, _⟩ := hW.b2; obtain ⟨_, c0, c1, c2, _⟩ := hW.to1.b3; obtain ⟨_, e0, e1, e2, e3, e4, e5, e6, e7, e8, _⟩ := hW.to5.b9; replace hW := Lib.hid hW; go_simp; try rfl
  case z53 =>
  simp only [Act.put, List.setIfInBounds_toArray, List.set_cons_succ, List.set_cons_zero, List.getElem_toArray, List.getElem_cons_zero, List.getElem_cons_succ]
  refine hl_take ?v54 rfl (by kernel_rfl) ?y54 ?z54
  case y54 => intro W hW; skip; replace hW := Lib.hid hW; go_simp; try rfl
  case z54 =>
  simp only [Act.put, List.setIfInBounds_toArray, List.set_cons_succ, List.set_cons_zero, List.getElem_toArray, List.getElem_cons_zero, List.getElem_cons_succ]
  refine hl_take ?v55 rfl (by kernel_rfl) ?y55 ?z55
  case y55 => intro W hW; skip; replace hW := Lib.hid hW; go_simp; try rfl
  case z55 =>
  simp only [Act.put, List.setIfInBounds_toArray, List.set_cons_succ, List.set_cons_zero, List.getElem_toArray, List.getElem_cons_zero, List.getElem_cons_succ]
  refine hl_take ?v56 rfl (by kernel_rfl) ?y56 ?z56
  case y56 => intro W hW; skip; replace hW := Lib.hid hW; go_simp; try rfl
  case z56 =>
  simp only [Act.put, List.setIfInBounds_toArray, List.set_cons_succ, List.set_cons_zero, List.getElem_toArray, List.getElem_cons_zero, List.getElem_cons_succ]
  refine hl_take ?v57 rfl (by kernel_rfl) ?y57 ?z57
  case y57 => intro W hW; skip; replace hW := Lib.hid hW; go_simp; try rfl
  case z57 =>
  simp only [Act.put, List.setIfInBounds_toArray, List.set_cons_succ, List.set_cons_zero, List.getElem_toArray, List.getElem_cons_zero, List.getElem_cons_succ]
  refine hl_take ?v58 rfl (by kernel_rfl) ?y58 ?z58
  case y58 => intro W hW; skip; replace hW := Lib.hid hW; go_simp; try rfl
  case z58 =>
  simp only [Act.put, List.setIfInBounds_toArray, List.set_cons_succ, List.set_cons_zero, List.getElem_toArray, List.getElem_cons_zero, List.getElem_cons_succ]
  refine hl_take ?v59 rfl (by kernel_rfl) ?y59 ?z59
  case y59 => intro W hW; skip; replace hW := Lib.hid hW; go_simp; try rfl
  case z59 =>
  simp only [Act.put, List.setIfInBounds_toArray, List.set_cons_succ, List.set_cons_zero, List.getElem_toArray, List.getElem_cons_zero, List.getElem_cons_succ]
  refine hl_take ?v60 rfl (by kernel_rfl) ?y60 ?z60
  case y60 => intro W hW; change Sep W _ at hW; obtain ⟨_, l0, l1, _⟩ := hW.b2; obtain ⟨_, c0, c1, c2, _⟩ := hW.to1.b3; obtain ⟨_, e0, e1, e2, e3, e4, e5, e6, e7, e8, _⟩ := hW.to5.b9; replace hW := Lib.hid hW; go_simp; try rfl
  case z60 =>
  simp only [Act.put, List.setIfInBounds_toArray, List.set_cons_succ, List.set_cons_zero, List.getElem_toArray, List.getElem_cons_zero, List.getElem_cons_succ]
  refine hl_take ?v61 rfl (by kernel_rfl) ?y61 ?z61
  case y61 => intro W hW; skip; replace hW := Lib.hid hW; go_simp; try rfl
  case z61 =>
  simp only [Act.put, List.setIfInBounds_toArray, List.set_cons_succ, List.set_cons_zero, List.getElem_toArray, List.getElem_cons_zero, List.getElem_cons_succ]
  refine hl_take ?v62 rfl (by kernel_rfl) ?y62 ?z62
  case y62 => intro W hW; change Sep W _ at hW; obtain ⟨_, l0, l1, _⟩ := hW.b2; obtain ⟨_, c0, c1, c2, _⟩ := hW.to1.b3; obtain ⟨_, e0, e1, e2, e3, e4, e5, e6, e7, e8, _⟩ := hW.to5.b9; replace hW := Lib.hid hW; go_simp; try rfl
  case z62 =>
  simp only [Act.put, List.setIfInBounds_toArray, List.set_cons_succ, List.set_cons_zero, List.getElem_toArray, List.getElem_cons_zero, List.getElem_cons_succ]
  refine hl_take ?v63 rfl (by kernel_rfl) ?y63 ?z63
  case y63 => intro W hW; skip; replace hW := Lib.hid hW; go_simp; try rfl
  case z63 =>
  simp only [Act.put, List.setIfInBounds_toArray, List.set_cons_succ, List.set_cons_zero, List.getElem_toArray, List.getElem_cons_zero, List.getElem_cons_succ]
  refine hl_take ?v64 rfl (by kernel_rfl) ?y64 ?z64
  case y64 => intro W hW; skip; replace hW := Lib.hid hW; go_simp; try rfl
  case z64 =>
  simp only [Act.put, List.setIfInBounds_toArray, List.set_cons_succ, List.set_cons_zero, List.getElem_toArray, List.getElem_cons_zero, List.getElem_cons_succ]
  refine hl_take ?v65 rfl (by kernel_rfl) ?y65 ?z65
  case y65 => intro W hW; change Sep W _ at hW; obtain ⟨_, l0, l1, _⟩ := hW.b2; obtain ⟨_, c0, c1, c2, _⟩ := hW.to1.b3; obtain ⟨_, e0, e1, e2, e3, e4, e5, e6, e7, e8, _⟩ := hW.to5.b9; have s1 := (hW.to2.vec_cell hth.out).1; replace hW := Lib.hid hW; go_simp; try rfl
  case z65 =>
  simp only [Act.put, List.setIfInBounds_toArray, List.set_cons_succ, List.set_cons_zero, List.getElem_toArray, List.getElem_cons_zero, List.getElem_cons_succ]
  refine hl_take ?v66 rfl (by kernel_rfl) ?y66 ?z66
  case y66 => intro W hW; skip; replace hW := Lib.hid hW; go_simp; try rfl
  case z66 =>
  simp only [Act.put, List.setIfInBounds_toArray, List.set_cons_succ, List.set_cons_zero, List.getElem_toArray, List.getElem_cons_zero, List.getElem_cons_succ]
  refine hl_take ?v67 rfl (by kernel_rfl) ?y67 ?z67
  case y67 => intro W hW; change Sep W _ at hW; obtain ⟨_, l0, l1, _⟩ := hW.b2; obtain ⟨_, c0, c1, c2, _⟩ := hW.to1.b3; obtain ⟨_, e0, e1, e2, e3, e4, e5, e6, e7, e8, _⟩ := hW.to5.b9; replace hW := Lib.hid hW; go_simp; try rfl
  case z67 =>
  simp only [Act.put, List.setIfInBounds_toArray, List.set_cons_succ, List.set_cons_zero, List.getElem_toArray, List.getElem_cons_zero, List.getElem_cons_succ]
  refine hl_take ?v68 rfl (by kernel_rfl) ?y68 ?z68
  case y68 => intro W hW; skip; replace hW := Lib.hid hW; go_simp; try rfl
  case z68 =>
  simp only [Act.put, List.setIfInBounds_toArray, List.set_cons_succ, List.set_cons_zero, List.getElem_toArray, List.getElem_cons_zero, List.getElem_cons_succ]
  refine hl_take ?v69 rfl (by kernel_rfl) ?y69 ?z69
  case y69 => intro W hW; skip; replace hW := Lib.hid hW; go_simp; try rfl
  case z69 =>
  simp only [Act.put, List.setIfInBounds_toArray, List.set_cons_succ, List.set_cons_zero, List.getElem_toArray, List.getElem_cons_zero, List.getElem_cons_succ]
  refine hl_done ?_
  clear hB
  replace hB := hS
  clear hS
  go_wp2_with fail
  go_ret
  exact ⟨rfl, hB.out.tail.to4.tail⟩
set_option maxHeartbeats 4000000 in
set_option maxRecDepth 100000 in
theorem end_ok (p n sc mc mb : Nat) (sa : Option Addr) (ss : List Value) (C : List (Int × (Int × Bool))) (B : List (Int × Unit)) (e : Ev) (at_ : Int) (w : World) (rs : List Res) (hS : Sep w (blk p 70 #[.slice sa n sc, .map (some mc), .map (some mb)] :: vec 45 10 (.slice sa n sc) n ss :: mapr ekI evC mc C :: mapr ekI evU mb B :: rs)) (q : Nat) (v3 v9 : Value) (hc : getL C e.call = some ((q : Int), true)) (hq : q < n) (hl : ss.length = n * 10) (hth : ss[q * 10 + 1]? = some (.int .i64 e.thread)) (h3 : ss[q * 10 + 3]? = some v3) (h9 : (ss.set (q * 10 + 3) (.int .i64 at_))[q * 10 + 4 + 5]? = some v9) :
    Calls Tryd.prog 32 #[.pointer (some ⟨p, 0, none⟩), e.val, .int .i64 at_] w fun r w' => r = .returned (.int .i64 0) ∧ Sep w' (blk p 70 #[.slice sa n sc, .map (some mc), .map (some mb)] :: vec 45 10 (.slice sa n sc) n ((ss.set (q * 10 + 3) (.int .i64 at_)).set (q * 10 + 4 + 5) (.int .i64 e.act.code)) :: mapr ekI evC mc (putL C e.call ((q : Int), false)) :: mapr ekI evU mb (delL B e.thread) :: rs) := by
  obtain ⟨g, rfl⟩ : ∃ g, sa = some ⟨g, 0, none⟩ := by
    rcases hS.to1.gvec.2 with ⟨_, h1⟩ | ⟨g, cap, cur, hv, _⟩
    · omega
    · injection hv with e1 _ _
      exact ⟨g, e1⟩
  have i1 : (0 : Int) ≤ (q : Int) := by omega
  have i2 : (q : Int) < (n : Int) := by omega
  have hqn := Lib.hid hq
  clear hq
  replace hth := Lib.hid hth
  obtain ⟨call, thread, inv, ⟨kind, txn, t, r, mode, code⟩⟩ := e
  simp only [Ev.val]
  have hB := Lib.hid (show Sep _ (blk p 70 #[.slice (some ⟨g, 0, none⟩) n sc, .map (some mc), .map (some mb)] :: vec 45 10 (.slice (some ⟨g, 0, none⟩) n sc) n ss :: mapr ekI evC mc C :: mapr ekI evU mb B :: blk w.heap.size 31 #[.int .i64 call, .int .i64 thread, .bool inv, .int .i64 kind, .int .i64 txn, .int .i64 t, .int .i64 r, .int .i64 mode, .int .i64 code] :: rs) from (hS.alloc #[.int .i64 call, .int .i64 thread, .bool inv, .int .i64 kind, .int .i64 txn, .int .i64 t, .int .i64 r, .int .i64 mode, .int .i64 code] 31).to4.to4.to4.to4)
  have HC := Lib.hid (show getL C call = some ((q : Int), true) from hc)
  have HE := Lib.hid (show hasL C call = true by rw [← getL_isSome, HC.out]; rfl)
  clear hc hS
  replace hl := Lib.hid hl
  replace h3 := Lib.hid h3
  replace h9 := Lib.hid h9
  replace hth := Lib.hid (show ss[q * 10 + 1]? = some (.int .i64 thread) from hth.out)
  go_enter Tryd.func32, Tryd.ntmps32
  go_wp2_with fail
  have hS := Lib.hid (show (fun W : World => Sep W (blk p 70 #[.slice (some ⟨g, 0, none⟩) n sc, .map (some mc), .map (some mb)] :: vec 45 10 (.slice (some ⟨g, 0, none⟩) n sc) n ss :: mapr ekI evC mc C :: mapr ekI evU mb B :: blk w.heap.size 31 #[.int .i64 call, .int .i64 thread, .bool inv, .int .i64 kind, .int .i64 txn, .int .i64 t, .int .i64 r, .int .i64 mode, .int .i64 code] :: rs)) _ from hB.out.drew)
  refine hl_begin (fun W : World => Sep W (blk p 70 #[.slice (some ⟨g, 0, none⟩) n sc, .map (some mc), .map (some mb)] :: vec 45 10 (.slice (some ⟨g, 0, none⟩) n sc) n ss :: mapr ekI evC mc C :: mapr ekI evU mb B :: blk w.heap.size 31 #[.int .i64 call, .int .i64 thread, .bool inv, .int .i64 kind, .int .i64 txn, .int .i64 t, .int .i64 r, .int .i64 mode, .int .i64 code] :: rs)) [(0, true), (1, true), (2, true), (3, true), (4, true), (5, true), (6, true), (7, true), (8, true), (9, true), (10, false), (11, false), (12, true)] (by kernel_rfl) (by kernel_rfl) (by kernel_rfl) rfl (fun _ _ _ _ _ h => h) hS.out ?_
  change HL _ _ _ _ _ _ (World.drew _)
  generalize World.drew _ = wd at *
  refine hl_take ?v70 rfl (by kernel_rfl) ?y70 ?z70
  case y70 => intro W hW; skip; replace hW := Lib.hid hW; go_simp; try rfl
  case z70 =>
  simp only [Act.put, List.setIfInBounds_toArray, List.set_cons_succ, List.set_cons_zero, List.getElem_toArray, List.getElem_cons_zero, List.getElem_cons_succ]
  refine hl_take ?v71 rfl (by kernel_rfl) ?y71 ?z71
  case y71 => intro W hW; skip; replace hW := Lib.hid hW; go_simp; try rfl
  case z71 =>
  simp only [Act.put, List.setIfInBounds_toArray, List.set_cons_succ, List.set_cons_zero, List.getElem_toArray, List.getElem_cons_zero, List.getElem_cons_succ]
  refine hl_take ?v72 rfl (by kernel_rfl) ?y72 ?z72
  case y72 => intro W hW; skip; replace hW := Lib.hid hW; go_simp; try rfl
  case z72 =>
  simp only [Act.put, List.setIfInBounds_toArray, List.set_cons_succ, List.set_cons_zero, List.getElem_toArray, List.getElem_cons_zero, List.getElem_cons_succ]
  refine hl_take ?v73 rfl (by kernel_rfl) ?y73 ?z73
  case y73 => intro W hW; change Sep W _ at hW; obtain ⟨_, c0, c1, c2, _⟩ := hW.b3; obtain ⟨_, e0, e1, e2, e3, e4, e5, e6, e7, e8, _⟩ := hW.to4.b9; replace hW := Lib.hid hW; go_simp; try rfl
  case z73 =>
  simp only [Act.put, List.setIfInBounds_toArray, List.set_cons_succ, List.set_cons_zero, List.getElem_toArray, List.getElem_cons_zero, List.getElem_cons_succ]
  refine hl_take ?v74 rfl (by kernel_rfl) ?y74 ?z74
  case y74 => intro W hW; skip; replace hW := Lib.hid hW; go_simp; try rfl
  case z74 =>
  simp only [Act.put, List.setIfInBounds_toArray, List.set_cons_succ, List.set_cons_zero, List.getElem_toArray, List.getElem_cons_zero, List.getElem_cons_succ]
  refine hl_take ?v75 rfl (by kernel_rfl) ?y75 ?z75
  case y75 => intro W hW; change Sep W _ at hW; obtain ⟨_, c0, c1, c2, _⟩ := hW.b3; obtain ⟨_, e0, e1, e2, e3, e4, e5, e6, e7, e8, _⟩ := hW.to4.b9; replace hW := Lib.hid hW; go_simp; try rfl
  case z75 =>
  simp only [Act.put, List.setIfInBounds_toArray, List.set_cons_succ, List.set_cons_zero, List.getElem_toArray, List.getElem_cons_zero, List.getElem_cons_succ]
  refine hl_take ?v76 rfl (by kernel_rfl) ?y76 ?z76
  case y76 => intro W hW; change Sep W _ at hW; have hk := run_lookup_map lawI Tryd.underlying68 hW.to2 (zeroC W) call true; rw [HC.out, HE.out] at hk; simp only [ekI, Option.map_some, Option.map_none, Option.getD_some, Option.getD_none, evC, if_true] at hk; replace hW := Lib.hid hW; go_simp; try rfl
  case z76 =>
  simp only [Act.put, List.setIfInBounds_toArray, List.set_cons_succ, List.set_cons_zero, List.getElem_toArray, List.getElem_cons_zero, List.getElem_cons_succ]
  refine hl_take ?v77 rfl (by kernel_rfl) ?y77 ?z77
  case y77 => intro W hW; skip; replace hW := Lib.hid hW; go_simp; try rfl
  case z77 =>
  simp only [Act.put, List.setIfInBounds_toArray, List.set_cons_succ, List.set_cons_zero, List.getElem_toArray, List.getElem_cons_zero, List.getElem_cons_succ]
  refine hl_take ?v78 rfl (by kernel_rfl) ?y78 ?z78
  case y78 => intro W hW; skip; replace hW := Lib.hid hW; go_simp; try rfl
  case z78 =>
  simp only [Act.put, List.setIfInBounds_toArray, List.set_cons_succ, List.set_cons_zero, List.getElem_toArray, List.getElem_cons_zero, List.getElem_cons_succ]
  refine hl_take ?v79 rfl (by kernel_rfl) ?y79 ?z79
  case y79 => intro W hW; skip; replace hW := Lib.hid hW; go_simp; try rfl
  case z79 =>
  simp only [Act.put, List.setIfInBounds_toArray, List.set_cons_succ, List.set_cons_zero, List.getElem_toArray, List.getElem_cons_zero, List.getElem_cons_succ]
  refine hl_one rfl (by kernel_rfl) (fun K hK => ?_)
  go_simp
  have hP := hS
  have hT := Lib.hid (hS.out.alloc #[.int .i64 0, .bool false] 90)
  replace hS := Lib.hid (show (fun W : World => Sep W (blk p 70 #[.slice (some ⟨g, 0, none⟩) n sc, .map (some mc), .map (some mb)] :: vec 45 10 (.slice (some ⟨g, 0, none⟩) n sc) n ss :: mapr ekI evC mc C :: mapr ekI evU mb B :: blk w.heap.size 31 #[.int .i64 call, .int .i64 thread, .bool inv, .int .i64 kind, .int .i64 txn, .int .i64 t, .int .i64 r, .int .i64 mode, .int .i64 code] :: rs)) _ from hT.out.tail)
  refine hK.out _ _ hS.out ?_
  clear hK K
  try simp only [Act.put, List.setIfInBounds_toArray, List.set_cons_succ, List.set_cons_zero, List.getElem_toArray, List.getElem_cons_zero, List.getElem_cons_succ]
  refine hl_one rfl (by kernel_rfl) (fun K hK => ?_)
  obtain ⟨_, x0, x1, x2, x3⟩ := hT.out.b2
  go_simp
  replace hB := Lib.hid (hP.out.alloc #[.int .i64 (q : Int), .bool true] 90)
  replace hS := Lib.hid (show (fun W : World => Sep W (blk p 70 #[.slice (some ⟨g, 0, none⟩) n sc, .map (some mc), .map (some mb)] :: vec 45 10 (.slice (some ⟨g, 0, none⟩) n sc) n ss :: mapr ekI evC mc C :: mapr ekI evU mb B :: blk w.heap.size 31 #[.int .i64 call, .int .i64 thread, .bool inv, .int .i64 kind, .int .i64 txn, .int .i64 t, .int .i64 r, .int .i64 mode, .int .i64 code] :: rs)) _ from hB.out.tail)
  clear x0 x1 x2 x3 hT hP
  refine hK.out _ _ hS.out ?_
  clear hK K
  try simp only [Act.put, List.setIfInBounds_toArray, List.set_cons_succ, List.set_cons_zero, List.getElem_toArray, List.getElem_cons_zero, List.getElem_cons_succ]
  refine hl_take ?v80 rfl (by kernel_rfl) ?y80 ?z80
  case y80 => intro W hW; skip; replace hW := Lib.hid hW; go_simp; try rfl
  case z80 =>
  simp only [Act.put, List.setIfInBounds_toArray, List.set_cons_succ, List.set_cons_zero, List.getElem_toArray, List.getElem_cons_zero, List.getElem_cons_succ]
  refine hl_done ?_
  clear hS
  generalize wd.heap.size = lb at *
  go_wp2_with fail
  have hS := Lib.hid (show (fun W : World => Sep W (blk lb 90 #[.int .i64 (q : Int), .bool true] :: blk p 70 #[.slice (some ⟨g, 0, none⟩) n sc, .map (some mc), .map (some mb)] :: vec 45 10 (.slice (some ⟨g, 0, none⟩) n sc) n ss :: mapr ekI evC mc C :: mapr ekI evU mb B :: blk w.heap.size 31 #[.int .i64 call, .int .i64 thread, .bool inv, .int .i64 kind, .int .i64 txn, .int .i64 t, .int .i64 r, .int .i64 mode, .int .i64 code] :: rs)) _ from hB.out.drew)
  refine hl_begin (fun W : World => Sep W (blk lb 90 #[.int .i64 (q : Int), .bool true] :: blk p 70 #[.slice (some ⟨g, 0, none⟩) n sc, .map (some mc), .map (some mb)] :: vec 45 10 (.slice (some ⟨g, 0, none⟩) n sc) n ss :: mapr ekI evC mc C :: mapr ekI evU mb B :: blk w.heap.size 31 #[.int .i64 call, .int .i64 thread, .bool inv, .int .i64 kind, .int .i64 txn, .int .i64 t, .int .i64 r, .int .i64 mode, .int .i64 code] :: rs)) [(0, true), (1, true), (2, true), (3, true), (4, true), (5, true), (6, true), (7, true), (8, true), (9, true), (10, true), (11, true), (12, true), (13, true), (14, true), (15, true), (16, true), (17, true), (18, true), (19, true), (20, true)] (by kernel_rfl) (by kernel_rfl) (by kernel_rfl) rfl (fun _ _ _ _ _ h => h) hS.out ?_
  change HL _ _ _ _ _ _ (World.drew _)
  generalize World.drew _ = wd at *
  refine hl_take ?v81 rfl (by kernel_rfl) ?y81 ?z81
  case y81 => intro W hW; skip; replace hW := Lib.hid hW; go_simp; try rfl
  case z81 =>
  simp only [Act.put, List.setIfInBounds_toArray, List.set_cons_succ, List.set_cons_zero, List.getElem_toArray, List.getElem_cons_zero, List.getElem_cons_succ]
  refine hl_take ?v82 rfl (by kernel_rfl) ?y82 ?z82
  case y82 => intro W hW; skip; replace hW := Lib.hid hW; go_simp; try rfl
  case z82 =>
  simp only [Act.put, List.setIfInBounds_toArray, List.set_cons_succ, List.set_cons_zero, List.getElem_toArray, List.getElem_cons_zero, List.getElem_cons_succ]
  refine hl_take ?v83 rfl (by kernel_rfl) ?y83 ?z83
  case y83 => intro W hW; skip; replace hW := Lib.hid hW; go_simp; try rfl
  case z83 =>
  simp only [Act.put, List.setIfInBounds_toArray, List.set_cons_succ, List.set_cons_zero, List.getElem_toArray, List.getElem_cons_zero, List.getElem_cons_succ]
  refine hl_take ?v84 rfl (by kernel_rfl) ?y84 ?z84
  case y84 => intro W hW; skip; replace hW := Lib.hid hW; go_simp; try rfl
  case z84 =>
  simp only [Act.put, List.setIfInBounds_toArray, List.set_cons_succ, List.set_cons_zero, List.getElem_toArray, List.getElem_cons_zero, List.getElem_cons_succ]
  refine hl_take ?v85 rfl (by kernel_rfl) ?y85 ?z85
  case y85 => intro W hW; change Sep W _ at hW; obtain ⟨_, l0, l1, _⟩ := hW.b2; obtain ⟨_, c0, c1, c2, _⟩ := hW.to1.b3; obtain ⟨_, e0, e1, e2, e3, e4, e5, e6, e7, e8, _⟩ := hW.to5.b9; replace hW := Lib.hid hW; go_simp; try rfl
  case z85 =>
  simp only [Act.put, List.setIfInBounds_toArray, List.set_cons_succ, List.set_cons_zero, List.getElem_toArray, List.getElem_cons_zero, List.getElem_cons_succ]
  refine hl_take ?v86 rfl (by kernel_rfl) ?y86 ?z86
  case y86 => intro W hW; skip; replace hW := Lib.hid hW; go_simp; try rfl
  case z86 =>
  simp only [Act.put, List.setIfInBounds_toArray, List.set_cons_succ, List.set_cons_zero, List.getElem_toArray, List.getElem_cons_zero, List.getElem_cons_succ]
  refine hl_take ?v87 rfl (by kernel_rfl) ?y87 ?z87
  case y87 => intro W hW; skip; replace hW := Lib.hid hW; go_simp; try rfl
  case z87 =>
  simp only [Act.put, List.setIfInBounds_toArray, List.set_cons_succ, List.set_cons_zero, List.getElem_toArray, List.getElem_cons_zero, List.getElem_cons_succ]
  refine hl_take ?v88 rfl (by kernel_rfl) ?y88 ?z88
  case y88 => intro W hW; skip; replace hW := Lib.hid hW; go_simp; try rfl
  case z88 =>
  simp only [Act.put, List.setIfInBounds_toArray, List.set_cons_succ, List.set_cons_zero, List.getElem_toArray, List.getElem_cons_zero, List.getElem_cons_succ]
  refine hl_take ?v89 rfl (by kernel_rfl) ?y89 ?z89
  case y89 => intro W hW; skip; replace hW := Lib.hid hW; go_simp; try rfl
  case z89 =>
  simp only [Act.put, List.setIfInBounds_toArray, List.set_cons_succ, List.set_cons_zero, List.getElem_toArray, List.getElem_cons_zero, List.getElem_cons_succ]
  refine hl_take ?v90 rfl (by kernel_rfl) ?y90 ?z90
  case y90 => intro W hW; skip; replace hW := Lib.hid hW; go_simp; try rfl
  case z90 =>
  simp only [Act.put, List.setIfInBounds_toArray, List.set_cons_succ, List.set_cons_zero, List.getElem_toArray, List.getElem_cons_zero, List.getElem_cons_succ]
  refine hl_take ?v91 rfl (by kernel_rfl) ?y91 ?z91
  case y91 => intro W hW; skip; replace hW := Lib.hid hW; go_simp; try rfl
  case z91 =>
  simp only [Act.put, List.setIfInBounds_toArray, List.set_cons_succ, List.set_cons_zero, List.getElem_toArray, List.getElem_cons_zero, List.getElem_cons_succ]
  refine hl_take ?v92 rfl (by kernel_rfl) ?y92 ?z92
  case y92 => intro W hW; change Sep W _ at hW; obtain ⟨_, l0, l1, _⟩ := hW.b2; obtain ⟨_, c0, c1, c2, _⟩ := hW.to1.b3; obtain ⟨_, e0, e1, e2, e3, e4, e5, e6, e7, e8, _⟩ := hW.to5.b9; replace hW := Lib.hid hW; go_simp; try rfl
  case z92 =>
  simp only [Act.put, List.setIfInBounds_toArray, List.set_cons_succ, List.set_cons_zero, List.getElem_toArray, List.getElem_cons_zero, List.getElem_cons_succ]
  refine hl_take ?v93 rfl (by kernel_rfl) ?y93 ?z93
  case y93 => intro W hW; skip; replace hW := Lib.hid hW; go_simp; try rfl
  case z93 =>
  simp only [Act.put, List.setIfInBounds_toArray, List.set_cons_succ, List.set_cons_zero, List.getElem_toArray, List.getElem_cons_zero, List.getElem_cons_succ]
  refine hl_take ?v94 rfl (by kernel_rfl) ?y94 ?z94
  case y94 => intro W hW; change Sep W _ at hW; obtain ⟨_, l0, l1, _⟩ := hW.b2; obtain ⟨_, c0, c1, c2, _⟩ := hW.to1.b3; obtain ⟨_, e0, e1, e2, e3, e4, e5, e6, e7, e8, _⟩ := hW.to5.b9; replace hW := Lib.hid hW; go_simp; try rfl
  case z94 =>
  simp only [Act.put, List.setIfInBounds_toArray, List.set_cons_succ, List.set_cons_zero, List.getElem_toArray, List.getElem_cons_zero, List.getElem_cons_succ]
  refine hl_take ?v95 rfl (by kernel_rfl) ?y95 ?z95
  case y95 => intro W hW; skip; replace hW := Lib.hid hW; go_simp; try rfl
  case z95 =>
  simp only [Act.put, List.setIfInBounds_toArray, List.set_cons_succ, List.set_cons_zero, List.getElem_toArray, List.getElem_cons_zero, List.getElem_cons_succ]
  refine hl_take ?v96 rfl (by kernel_rfl) ?y96 ?z96
  case y96 => intro W hW; skip; replace hW := Lib.hid hW; go_simp; try rfl
  case z96 =>
  simp only [Act.put, List.setIfInBounds_toArray, List.set_cons_succ, List.set_cons_zero, List.getElem_toArray, List.getElem_cons_zero, List.getElem_cons_succ]
  refine hl_take ?v97 rfl (by kernel_rfl) ?y97 ?z97
  case y97 => intro W hW; change Sep W _ at hW; obtain ⟨_, l0, l1, _⟩ := hW.b2; obtain ⟨_, c0, c1, c2, _⟩ := hW.to1.b3; obtain ⟨_, e0, e1, e2, e3, e4, e5, e6, e7, e8, _⟩ := hW.to5.b9; have s1 := (hW.to2.vec_cell hth.out).1; replace hW := Lib.hid hW; go_simp; try rfl
  case z97 =>
  simp only [Act.put, List.setIfInBounds_toArray, List.set_cons_succ, List.set_cons_zero, List.getElem_toArray, List.getElem_cons_zero, List.getElem_cons_succ]
  refine hl_take ?v98 rfl (by kernel_rfl) ?y98 ?z98
  case y98 => intro W hW; skip; replace hW := Lib.hid hW; go_simp; try rfl
  case z98 =>
  simp only [Act.put, List.setIfInBounds_toArray, List.set_cons_succ, List.set_cons_zero, List.getElem_toArray, List.getElem_cons_zero, List.getElem_cons_succ]
  refine hl_take ?v99 rfl (by kernel_rfl) ?y99 ?z99
  case y99 => intro W hW; change Sep W _ at hW; obtain ⟨_, l0, l1, _⟩ := hW.b2; obtain ⟨_, c0, c1, c2, _⟩ := hW.to1.b3; obtain ⟨_, e0, e1, e2, e3, e4, e5, e6, e7, e8, _⟩ := hW.to5.b9; replace hW := Lib.hid hW; go_simp; try rfl
  case z99 =>
  simp only [Act.put, List.setIfInBounds_toArray, List.set_cons_succ, List.set_cons_zero, List.getElem_toArray, List.getElem_cons_zero, List.getElem_cons_succ]
  refine hl_take ?v100 rfl (by kernel_rfl) ?y100 ?z100
  case y100 => intro W hW; skip; replace hW := Lib.hid hW; go_simp; try rfl
  case z100 =>
  simp only [Act.put, List.setIfInBounds_toArray, List.set_cons_succ, List.set_cons_zero, List.getElem_toArray, List.getElem_cons_zero, List.getElem_cons_succ]
  refine hl_take ?v101 rfl (by kernel_rfl) ?y101 ?z101
  case y101 => intro W hW; skip; replace hW := Lib.hid hW; go_simp; try rfl
  case z101 =>
  simp only [Act.put, List.setIfInBounds_toArray, List.set_cons_succ, List.set_cons_zero, List.getElem_toArray, List.getElem_cons_zero, List.getElem_cons_succ]
  refine hl_done ?_
  clear hB
  replace hB := hS
  clear hS
  go_wp2_with fail
  replace hB := Lib.hid hB.out.drew
  have hS := Lib.hid (show (fun W : World => ∃ C' B' ss', Sep W (blk lb 90 #[.int .i64 (q : Int), .bool true] :: blk p 70 #[.slice (some ⟨g, 0, none⟩) n sc, .map (some mc), .map (some mb)] :: vec 45 10 (.slice (some ⟨g, 0, none⟩) n sc) n ss' :: mapr ekI evC mc C' :: mapr ekI evU mb B' :: blk w.heap.size 31 #[.int .i64 call, .int .i64 thread, .bool inv, .int .i64 kind, .int .i64 txn, .int .i64 t, .int .i64 r, .int .i64 mode, .int .i64 code] :: rs)) _ from ⟨_, _, _, hB.out⟩)
  refine hl_begin (fun W : World => ∃ C' B' ss', Sep W (blk lb 90 #[.int .i64 (q : Int), .bool true] :: blk p 70 #[.slice (some ⟨g, 0, none⟩) n sc, .map (some mc), .map (some mb)] :: vec 45 10 (.slice (some ⟨g, 0, none⟩) n sc) n ss' :: mapr ekI evC mc C' :: mapr ekI evU mb B' :: blk w.heap.size 31 #[.int .i64 call, .int .i64 thread, .bool inv, .int .i64 kind, .int .i64 txn, .int .i64 t, .int .i64 r, .int .i64 mode, .int .i64 code] :: rs)) [(0, true), (1, true), (2, true), (3, true), (4, true), (5, true), (6, true), (7, true), (8, true), (9, false)] (by kernel_rfl) (by kernel_rfl) (by kernel_rfl) rfl (fun _ _ _ _ _ h => h) hS.out ?_
  change HL _ _ _ _ _ _ (World.drew _)
  generalize World.drew _ = wd at *
  refine hl_take ?v102 rfl (by kernel_rfl) ?y102 ?z102
  case y102 => intro W hW; skip; replace hW := Lib.hid hW; go_simp; try rfl
  case z102 =>
  simp only [Act.put, List.setIfInBounds_toArray, List.set_cons_succ, List.set_cons_zero, List.getElem_toArray, List.getElem_cons_zero, List.getElem_cons_succ]
  refine hl_take ?v103 rfl (by kernel_rfl) ?y103 ?z103
  case y103 => intro W hW; skip; replace hW := Lib.hid hW; go_simp; try rfl
  case z103 =>
  simp only [Act.put, List.setIfInBounds_toArray, List.set_cons_succ, List.set_cons_zero, List.getElem_toArray, List.getElem_cons_zero, List.getElem_cons_succ]
  refine hl_take ?v104 rfl (by kernel_rfl) ?y104 ?z104
  case y104 => intro W hW; skip; replace hW := Lib.hid hW; go_simp; try rfl
  case z104 =>
  simp only [Act.put, List.setIfInBounds_toArray, List.set_cons_succ, List.set_cons_zero, List.getElem_toArray, List.getElem_cons_zero, List.getElem_cons_succ]
  refine hl_take ?v105 rfl (by kernel_rfl) ?y105 ?z105
  case y105 => intro W hW; obtain ⟨_, _, _, hW⟩ := hW; obtain ⟨_, l0, l1, _⟩ := hW.b2; obtain ⟨_, c0, c1, c2, _⟩ := hW.to1.b3; obtain ⟨_, e0, e1, e2, e3, e4, e5, e6, e7, e8, _⟩ := hW.to5.b9; replace hW := Lib.hid hW; go_simp; try rfl
  case z105 =>
  simp only [Act.put, List.setIfInBounds_toArray, List.set_cons_succ, List.set_cons_zero, List.getElem_toArray, List.getElem_cons_zero, List.getElem_cons_succ]
  refine hl_take ?v106 rfl (by kernel_rfl) ?y106 ?z106
  case y106 => intro W hW; skip; replace hW := Lib.hid hW; go_simp; try rfl
  case z106 =>
  simp only [Act.put, List.setIfInBounds_toArray, List.set_cons_succ, List.set_cons_zero, List.getElem_toArray, List.getElem_cons_zero, List.getElem_cons_succ]
  refine hl_take ?v107 rfl (by kernel_rfl) ?y107 ?z107
  case y107 => intro W hW; obtain ⟨_, _, _, hW⟩ := hW; obtain ⟨_, l0, l1, _⟩ := hW.b2; obtain ⟨_, c0, c1, c2, _⟩ := hW.to1.b3; obtain ⟨_, e0, e1, e2, e3, e4, e5, e6, e7, e8, _⟩ := hW.to5.b9; replace hW := Lib.hid hW; go_simp; try rfl
  case z107 =>
  simp only [Act.put, List.setIfInBounds_toArray, List.set_cons_succ, List.set_cons_zero, List.getElem_toArray, List.getElem_cons_zero, List.getElem_cons_succ]
  refine hl_take ?v108 rfl (by kernel_rfl) ?y108 ?z108
  case y108 => intro W hW; skip; replace hW := Lib.hid hW; go_simp; try rfl
  case z108 =>
  simp only [Act.put, List.setIfInBounds_toArray, List.set_cons_succ, List.set_cons_zero, List.getElem_toArray, List.getElem_cons_zero, List.getElem_cons_succ]
  refine hl_take ?v109 rfl (by kernel_rfl) ?y109 ?z109
  case y109 => intro W hW; obtain ⟨_, _, _, hW⟩ := hW; obtain ⟨_, l0, l1, _⟩ := hW.b2; obtain ⟨_, c0, c1, c2, _⟩ := hW.to1.b3; obtain ⟨_, e0, e1, e2, e3, e4, e5, e6, e7, e8, _⟩ := hW.to5.b9; replace hW := Lib.hid hW; go_simp; try rfl
  case z109 =>
  simp only [Act.put, List.setIfInBounds_toArray, List.set_cons_succ, List.set_cons_zero, List.getElem_toArray, List.getElem_cons_zero, List.getElem_cons_succ]
  refine hl_take ?v110 rfl (by kernel_rfl) ?y110 ?z110
  case y110 => intro W hW; skip; replace hW := Lib.hid hW; go_simp; try rfl
  case z110 =>
  simp only [Act.put, List.setIfInBounds_toArray, List.set_cons_succ, List.set_cons_zero, List.getElem_toArray, List.getElem_cons_zero, List.getElem_cons_succ]
  refine hl_one rfl (by kernel_rfl) (fun K hK => ?_)
  refine wp_mapUpdate_map hB.out.to3 lawI Tryd.underlying68 (.tmp 44) (.tmp 46) (.tmp 49) (by rfl) (by rfl) call ((q : Int), false) (by rfl) (by rfl) ?_
  intro w1 qq
  replace hB := Lib.hid (show (fun W : World => Sep W (blk lb 90 #[.int .i64 (q : Int), .bool true] :: blk p 70 #[.slice (some ⟨g, 0, none⟩) n sc, .map (some mc), .map (some mb)] :: vec 45 10 (.slice (some ⟨g, 0, none⟩) n sc) n ss :: mapr ekI evC mc (putL C call ((q : Int), false)) :: mapr ekI evU mb B :: blk w.heap.size 31 #[.int .i64 call, .int .i64 thread, .bool inv, .int .i64 kind, .int .i64 txn, .int .i64 t, .int .i64 r, .int .i64 mode, .int .i64 code] :: rs)) _ from qq.to3.to3.to3)
  clear qq
  refine hK.out _ _ ⟨_, _, _, hB.out⟩ ?_
  clear hK K
  try simp only [Act.put, List.setIfInBounds_toArray, List.set_cons_succ, List.set_cons_zero, List.getElem_toArray, List.getElem_cons_zero, List.getElem_cons_succ]
  refine hl_done ?_
  clear hS
  go_wp2_with fail
  replace hB := Lib.hid hB.out.drew
  have hS := Lib.hid (show (fun W : World => ∃ C' B' ss', Sep W (blk lb 90 #[.int .i64 (q : Int), .bool true] :: blk p 70 #[.slice (some ⟨g, 0, none⟩) n sc, .map (some mc), .map (some mb)] :: vec 45 10 (.slice (some ⟨g, 0, none⟩) n sc) n ss' :: mapr ekI evC mc C' :: mapr ekI evU mb B' :: blk w.heap.size 31 #[.int .i64 call, .int .i64 thread, .bool inv, .int .i64 kind, .int .i64 txn, .int .i64 t, .int .i64 r, .int .i64 mode, .int .i64 code] :: rs)) _ from ⟨_, _, _, hB.out⟩)
  refine hl_begin (fun W : World => ∃ C' B' ss', Sep W (blk lb 90 #[.int .i64 (q : Int), .bool true] :: blk p 70 #[.slice (some ⟨g, 0, none⟩) n sc, .map (some mc), .map (some mb)] :: vec 45 10 (.slice (some ⟨g, 0, none⟩) n sc) n ss' :: mapr ekI evC mc C' :: mapr ekI evU mb B' :: blk w.heap.size 31 #[.int .i64 call, .int .i64 thread, .bool inv, .int .i64 kind, .int .i64 txn, .int .i64 t, .int .i64 r, .int .i64 mode, .int .i64 code] :: rs)) [(0, true), (1, true), (2, true), (3, true), (4, true), (5, true), (6, false)] (by kernel_rfl) (by kernel_rfl) (by kernel_rfl) rfl (fun _ _ _ _ _ h => h) hS.out ?_
  change HL _ _ _ _ _ _ (World.drew _)
  generalize World.drew _ = wd at *
  refine hl_take ?v111 rfl (by kernel_rfl) ?y111 ?z111
  case y111 => intro W hW; skip; replace hW := Lib.hid hW; go_simp; try rfl
  case z111 =>
  simp only [Act.put, List.setIfInBounds_toArray, List.set_cons_succ, List.set_cons_zero, List.getElem_toArray, List.getElem_cons_zero, List.getElem_cons_succ]
  refine hl_take ?v112 rfl (by kernel_rfl) ?y112 ?z112
  case y112 => intro W hW; skip; replace hW := Lib.hid hW; go_simp; try rfl
  case z112 =>
  simp only [Act.put, List.setIfInBounds_toArray, List.set_cons_succ, List.set_cons_zero, List.getElem_toArray, List.getElem_cons_zero, List.getElem_cons_succ]
  refine hl_take ?v113 rfl (by kernel_rfl) ?y113 ?z113
  case y113 => intro W hW; skip; replace hW := Lib.hid hW; go_simp; try rfl
  case z113 =>
  simp only [Act.put, List.setIfInBounds_toArray, List.set_cons_succ, List.set_cons_zero, List.getElem_toArray, List.getElem_cons_zero, List.getElem_cons_succ]
  refine hl_take ?v114 rfl (by kernel_rfl) ?y114 ?z114
  case y114 => intro W hW; obtain ⟨_, _, _, hW⟩ := hW; obtain ⟨_, l0, l1, _⟩ := hW.b2; obtain ⟨_, c0, c1, c2, _⟩ := hW.to1.b3; obtain ⟨_, e0, e1, e2, e3, e4, e5, e6, e7, e8, _⟩ := hW.to5.b9; replace hW := Lib.hid hW; go_simp; try rfl
  case z114 =>
  simp only [Act.put, List.setIfInBounds_toArray, List.set_cons_succ, List.set_cons_zero, List.getElem_toArray, List.getElem_cons_zero, List.getElem_cons_succ]
  refine hl_take ?v115 rfl (by kernel_rfl) ?y115 ?z115
  case y115 => intro W hW; skip; replace hW := Lib.hid hW; go_simp; try rfl
  case z115 =>
  simp only [Act.put, List.setIfInBounds_toArray, List.set_cons_succ, List.set_cons_zero, List.getElem_toArray, List.getElem_cons_zero, List.getElem_cons_succ]
  refine hl_take ?v116 rfl (by kernel_rfl) ?y116 ?z116
  case y116 => intro W hW; obtain ⟨_, _, _, hW⟩ := hW; obtain ⟨_, l0, l1, _⟩ := hW.b2; obtain ⟨_, c0, c1, c2, _⟩ := hW.to1.b3; obtain ⟨_, e0, e1, e2, e3, e4, e5, e6, e7, e8, _⟩ := hW.to5.b9; replace hW := Lib.hid hW; go_simp; try rfl
  case z116 =>
  simp only [Act.put, List.setIfInBounds_toArray, List.set_cons_succ, List.set_cons_zero, List.getElem_toArray, List.getElem_cons_zero, List.getElem_cons_succ]
  refine hl_one rfl (by kernel_rfl) (fun K hK => ?_)
  refine wp_delete_map hB.out.to4 lawI Tryd.underlying54 (.tmp 53) (.tmp 55) (by rfl) (by rfl) thread (by rfl) ?_
  intro w1 qq
  replace hB := Lib.hid (show (fun W : World => Sep W (blk lb 90 #[.int .i64 (q : Int), .bool true] :: blk p 70 #[.slice (some ⟨g, 0, none⟩) n sc, .map (some mc), .map (some mb)] :: vec 45 10 (.slice (some ⟨g, 0, none⟩) n sc) n ss :: mapr ekI evC mc (putL C call ((q : Int), false)) :: mapr ekI evU mb (delL B thread) :: blk w.heap.size 31 #[.int .i64 call, .int .i64 thread, .bool inv, .int .i64 kind, .int .i64 txn, .int .i64 t, .int .i64 r, .int .i64 mode, .int .i64 code] :: rs)) _ from qq.to4.to4.to4.to4)
  clear qq
  refine hK.out _ _ ⟨_, _, _, hB.out⟩ ?_
  clear hK K
  try simp only [Act.put, List.setIfInBounds_toArray, List.set_cons_succ, List.set_cons_zero, List.getElem_toArray, List.getElem_cons_zero, List.getElem_cons_succ]
  refine hl_done ?_
  clear hS
  go_wp2_with fail
  replace hB := Lib.hid hB.out.drew
  have hS := Lib.hid (show (fun W : World => ∃ C' B' ss', Sep W (blk lb 90 #[.int .i64 (q : Int), .bool true] :: blk p 70 #[.slice (some ⟨g, 0, none⟩) n sc, .map (some mc), .map (some mb)] :: vec 45 10 (.slice (some ⟨g, 0, none⟩) n sc) n ss' :: mapr ekI evC mc C' :: mapr ekI evU mb B' :: blk w.heap.size 31 #[.int .i64 call, .int .i64 thread, .bool inv, .int .i64 kind, .int .i64 txn, .int .i64 t, .int .i64 r, .int .i64 mode, .int .i64 code] :: rs)) _ from ⟨_, _, _, hB.out⟩)
  refine hl_begin (fun W : World => ∃ C' B' ss', Sep W (blk lb 90 #[.int .i64 (q : Int), .bool true] :: blk p 70 #[.slice (some ⟨g, 0, none⟩) n sc, .map (some mc), .map (some mb)] :: vec 45 10 (.slice (some ⟨g, 0, none⟩) n sc) n ss' :: mapr ekI evC mc C' :: mapr ekI evU mb B' :: blk w.heap.size 31 #[.int .i64 call, .int .i64 thread, .bool inv, .int .i64 kind, .int .i64 txn, .int .i64 t, .int .i64 r, .int .i64 mode, .int .i64 code] :: rs)) [(0, true), (1, true), (2, true), (3, true), (4, true), (5, true), (6, true), (7, true)] (by kernel_rfl) (by kernel_rfl) (by kernel_rfl) rfl (fun _ _ _ _ _ h => h) hS.out ?_
  change HL _ _ _ _ _ _ (World.drew _)
  generalize World.drew _ = wd at *
  refine hl_take ?v117 rfl (by kernel_rfl) ?y117 ?z117
  case y117 => intro W hW; skip; replace hW := Lib.hid hW; go_simp; try rfl
  case z117 =>
  simp only [Act.put, List.setIfInBounds_toArray, List.set_cons_succ, List.set_cons_zero, List.getElem_toArray, List.getElem_cons_zero, List.getElem_cons_succ]
  refine hl_take ?v118 rfl (by kernel_rfl) ?y118 ?z118
  case y118 => intro W hW; skip; replace hW := Lib.hid hW; go_simp; try rfl
  case z118 =>
  simp only [Act.put, List.setIfInBounds_toArray, List.set_cons_succ, List.set_cons_zero, List.getElem_toArray, List.getElem_cons_zero, List.getElem_cons_succ]
  refine hl_take ?v119 rfl (by kernel_rfl) ?y119 ?z119
  case y119 => intro W hW; skip; replace hW := Lib.hid hW; go_simp; try rfl
  case z119 =>
  simp only [Act.put, List.setIfInBounds_toArray, List.set_cons_succ, List.set_cons_zero, List.getElem_toArray, List.getElem_cons_zero, List.getElem_cons_succ]
  refine hl_take ?v120 rfl (by kernel_rfl) ?y120 ?z120
  case y120 => intro W hW; obtain ⟨_, _, _, hW⟩ := hW; obtain ⟨_, l0, l1, _⟩ := hW.b2; obtain ⟨_, c0, c1, c2, _⟩ := hW.to1.b3; obtain ⟨_, e0, e1, e2, e3, e4, e5, e6, e7, e8, _⟩ := hW.to5.b9; replace hW := Lib.hid hW; go_simp; try rfl
  case z120 =>
  simp only [Act.put, List.setIfInBounds_toArray, List.set_cons_succ, List.set_cons_zero, List.getElem_toArray, List.getElem_cons_zero, List.getElem_cons_succ]
  refine hl_take ?v121 rfl (by kernel_rfl) ?y121 ?z121
  case y121 => intro W hW; skip; replace hW := Lib.hid hW; go_simp; try rfl
  case z121 =>
  simp only [Act.put, List.setIfInBounds_toArray, List.set_cons_succ, List.set_cons_zero, List.getElem_toArray, List.getElem_cons_zero, List.getElem_cons_succ]
  refine hl_take ?v122 rfl (by kernel_rfl) ?y122 ?z122
  case y122 => intro W hW; obtain ⟨_, _, _, hW⟩ := hW; obtain ⟨_, l0, l1, _⟩ := hW.b2; obtain ⟨_, c0, c1, c2, _⟩ := hW.to1.b3; obtain ⟨_, e0, e1, e2, e3, e4, e5, e6, e7, e8, _⟩ := hW.to5.b9; replace hW := Lib.hid hW; go_simp; try rfl
  case z122 =>
  simp only [Act.put, List.setIfInBounds_toArray, List.set_cons_succ, List.set_cons_zero, List.getElem_toArray, List.getElem_cons_zero, List.getElem_cons_succ]
  refine hl_take ?v123 rfl (by kernel_rfl) ?y123 ?z123
  case y123 => intro W hW; skip; replace hW := Lib.hid hW; go_simp; try rfl
  case z123 =>
  simp only [Act.put, List.setIfInBounds_toArray, List.set_cons_succ, List.set_cons_zero, List.getElem_toArray, List.getElem_cons_zero, List.getElem_cons_succ]
  refine hl_take ?v124 rfl (by kernel_rfl) ?y124 ?z124
  case y124 => intro W hW; skip; replace hW := Lib.hid hW; go_simp; try rfl
  case z124 =>
  simp only [Act.put, List.setIfInBounds_toArray, List.set_cons_succ, List.set_cons_zero, List.getElem_toArray, List.getElem_cons_zero, List.getElem_cons_succ]
  refine hl_done ?_
  clear hS
  go_wp2_with fail
  replace hB := Lib.hid hB.out.drew
  have hS := Lib.hid (show (fun W : World => ∃ C' B' ss', Sep W (blk lb 90 #[.int .i64 (q : Int), .bool true] :: blk p 70 #[.slice (some ⟨g, 0, none⟩) n sc, .map (some mc), .map (some mb)] :: vec 45 10 (.slice (some ⟨g, 0, none⟩) n sc) n ss' :: mapr ekI evC mc C' :: mapr ekI evU mb B' :: blk w.heap.size 31 #[.int .i64 call, .int .i64 thread, .bool inv, .int .i64 kind, .int .i64 txn, .int .i64 t, .int .i64 r, .int .i64 mode, .int .i64 code] :: rs)) _ from ⟨_, _, _, hB.out⟩)
  refine hl_begin (fun W : World => ∃ C' B' ss', Sep W (blk lb 90 #[.int .i64 (q : Int), .bool true] :: blk p 70 #[.slice (some ⟨g, 0, none⟩) n sc, .map (some mc), .map (some mb)] :: vec 45 10 (.slice (some ⟨g, 0, none⟩) n sc) n ss' :: mapr ekI evC mc C' :: mapr ekI evU mb B' :: blk w.heap.size 31 #[.int .i64 call, .int .i64 thread, .bool inv, .int .i64 kind, .int .i64 txn, .int .i64 t, .int .i64 r, .int .i64 mode, .int .i64 code] :: rs)) [(0, true), (1, true), (2, true), (3, true), (4, true), (5, true), (6, true), (7, true), (8, false), (9, true), (10, true), (11, true), (12, false)] (by kernel_rfl) (by kernel_rfl) (by kernel_rfl) rfl (fun _ _ _ _ _ h => h) hS.out ?_
  change HL _ _ _ _ _ _ (World.drew _)
  generalize World.drew _ = wd at *
  refine hl_take ?v125 rfl (by kernel_rfl) ?y125 ?z125
  case y125 => intro W hW; skip; replace hW := Lib.hid hW; go_simp; try rfl
  case z125 =>
  simp only [Act.put, List.setIfInBounds_toArray, List.set_cons_succ, List.set_cons_zero, List.getElem_toArray, List.getElem_cons_zero, List.getElem_cons_succ]
  refine hl_take ?v126 rfl (by kernel_rfl) ?y126 ?z126
  case y126 => intro W hW; skip; replace hW := Lib.hid hW; go_simp; try rfl
  case z126 =>
  simp only [Act.put, List.setIfInBounds_toArray, List.set_cons_succ, List.set_cons_zero, List.getElem_toArray, List.getElem_cons_zero, List.getElem_cons_succ]
  refine hl_take ?v127 rfl (by kernel_rfl) ?y127 ?z127
  case y127 => intro W hW; skip; replace hW := Lib.hid hW; go_simp; try rfl
  case z127 =>
  simp only [Act.put, List.setIfInBounds_toArray, List.set_cons_succ, List.set_cons_zero, List.getElem_toArray, List.getElem_cons_zero, List.getElem_cons_succ]
  refine hl_take ?v128 rfl (by kernel_rfl) ?y128 ?z128
  case y128 => intro W hW; skip; replace hW := Lib.hid hW; go_simp; try rfl
  case z128 =>
  simp only [Act.put, List.setIfInBounds_toArray, List.set_cons_succ, List.set_cons_zero, List.getElem_toArray, List.getElem_cons_zero, List.getElem_cons_succ]
  refine hl_take ?v129 rfl (by kernel_rfl) ?y129 ?z129
  case y129 => intro W hW; skip; replace hW := Lib.hid hW; go_simp; try rfl
  case z129 =>
  simp only [Act.put, List.setIfInBounds_toArray, List.set_cons_succ, List.set_cons_zero, List.getElem_toArray, List.getElem_cons_zero, List.getElem_cons_succ]
  refine hl_take ?v130 rfl (by kernel_rfl) ?y130 ?z130
  case y130 => intro W hW; obtain ⟨_, _, _, hW⟩ := hW; obtain ⟨_, l0, l1, _⟩ := hW.b2; obtain ⟨_, c0, c1, c2, _⟩ := hW.to1.b3; obtain ⟨_, e0, e1, e2, e3, e4, e5, e6, e7, e8, _⟩ := hW.to5.b9; replace hW := Lib.hid hW; go_simp; try rfl
  case z130 =>
  simp only [Act.put, List.setIfInBounds_toArray, List.set_cons_succ, List.set_cons_zero, List.getElem_toArray, List.getElem_cons_zero, List.getElem_cons_succ]
  refine hl_take ?v131 rfl (by kernel_rfl) ?y131 ?z131
  case y131 => intro W hW; skip; replace hW := Lib.hid hW; go_simp; try rfl
  case z131 =>
  simp only [Act.put, List.setIfInBounds_toArray, List.set_cons_succ, List.set_cons_zero, List.getElem_toArray, List.getElem_cons_zero, List.getElem_cons_succ]
  refine hl_take ?v132 rfl (by kernel_rfl) ?y132 ?z132
  case y132 => intro W hW; skip; replace hW := Lib.hid hW; go_simp; try rfl
  case z132 =>
  simp only [Act.put, List.setIfInBounds_toArray, List.set_cons_succ, List.set_cons_zero, List.getElem_toArray, List.getElem_cons_zero, List.getElem_cons_succ]
  refine hl_one rfl (by kernel_rfl) (fun K hK => ?_)
  obtain ⟨y0, f0, _⟩ := hB.out.to2.vec_cell h3.out
  go_simp
  replace hB := Lib.hid (show Sep _ _ from (hB.out.to2.vec_set (k := q * 10 + 3) (by have := hl.out; have := hqn.out; omega) (.int .i64 at_)).to2.to2)
  clear y0 f0
  refine hK.out _ _ ⟨_, _, _, hB.out⟩ ?_
  clear hK K
  try simp only [Act.put, List.setIfInBounds_toArray, List.set_cons_succ, List.set_cons_zero, List.getElem_toArray, List.getElem_cons_zero, List.getElem_cons_succ]
  refine hl_take ?v133 rfl (by kernel_rfl) ?y133 ?z133
  case y133 => intro W hW; skip; replace hW := Lib.hid hW; go_simp; try rfl
  case z133 =>
  simp only [Act.put, List.setIfInBounds_toArray, List.set_cons_succ, List.set_cons_zero, List.getElem_toArray, List.getElem_cons_zero, List.getElem_cons_succ]
  refine hl_take ?v134 rfl (by kernel_rfl) ?y134 ?z134
  case y134 => intro W hW; skip; replace hW := Lib.hid hW; go_simp; try rfl
  case z134 =>
  simp only [Act.put, List.setIfInBounds_toArray, List.set_cons_succ, List.set_cons_zero, List.getElem_toArray, List.getElem_cons_zero, List.getElem_cons_succ]
  refine hl_take ?v135 rfl (by kernel_rfl) ?y135 ?z135
  case y135 => intro W hW; skip; replace hW := Lib.hid hW; go_simp; try rfl
  case z135 =>
  simp only [Act.put, List.setIfInBounds_toArray, List.set_cons_succ, List.set_cons_zero, List.getElem_toArray, List.getElem_cons_zero, List.getElem_cons_succ]
  refine hl_one rfl (by kernel_rfl) (fun K hK => ?_)
  obtain ⟨y0, f0, _⟩ := hB.out.to2.vec_cell h9.out
  go_simp
  replace hB := Lib.hid (show Sep _ _ from (hB.out.to2.vec_set (k := q * 10 + 4 + 5) (by rw [List.length_set]; have := hl.out; have := hqn.out; omega) (.int .i64 code)).to2.to2)
  clear y0 f0
  refine hK.out _ _ ⟨_, _, _, hB.out⟩ ?_
  clear hK K
  try simp only [Act.put, List.setIfInBounds_toArray, List.set_cons_succ, List.set_cons_zero, List.getElem_toArray, List.getElem_cons_zero, List.getElem_cons_succ]
  refine hl_done ?_
  clear hS
  go_wp2_with fail
  go_ret
  exact ⟨rfl, hB.out.tail.to4.tail⟩
end Go.Proofs.YtechagciefhpbaaDoor
