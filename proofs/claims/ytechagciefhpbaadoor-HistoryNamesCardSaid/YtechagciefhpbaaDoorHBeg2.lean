/-
  The walker of histories: begin. No condition beside memory that can be read.
-/
import Derived.Test.YtechagciefhpbaaDoorHBeg
namespace Go.Proofs.YtechagciefhpbaaDoor
set_option linter.unusedSimpArgs false
set_option linter.unusedVariables false
set_option linter.unnecessarySimpa false
open Go.RowKit
theorem srcA_cells (w : World) (cs : Array Value) (t : TypeId) (c sz : Nat) (hz : cs.size = sz) : SrcA (w.alloc (.cells cs t)) sz (.slice (some ⟨w.heap.size, 0, none⟩) 1 c) 1 cs.toList := by
  refine .inr ⟨_, _, rfl, by simp [hz], fun j u hu => ?_⟩
  have h := ((Sep.start w).alloc cs t).gblk.cell j
  rw [Addr.add_lit, Nat.zero_add]
  rw [h, ← hu]
  simp
set_option maxHeartbeats 4000000 in
set_option maxRecDepth 100000 in
theorem begin_twice (p n sc mc mb : Nat) (sa : Option Addr) (ss : List Value) (C : List (Int × (Int × Bool))) (B : List (Int × Unit)) (e : Ev) (at_ : Int) (w : World) (rs : List Res) (hS : Sep w (blk p 70 #[.slice sa n sc, .map (some mc), .map (some mb)] :: vec 45 10 (.slice sa n sc) n ss :: mapr ekI evC mc C :: mapr ekI evU mb B :: rs)) (x : Int × Bool) (hc : getL C e.call = some x) :
    Calls Tryd.prog 31 #[.pointer (some ⟨p, 0, none⟩), e.val, .int .i64 at_] w fun r w' => r = .returned (.int .i64 4) ∧ Sep w' (blk p 70 #[.slice sa n sc, .map (some mc), .map (some mb)] :: vec 45 10 (.slice sa n sc) n ss :: mapr ekI evC mc C :: mapr ekI evU mb B :: rs) := by
  obtain ⟨call, thread, inv, ⟨kind, txn, t, r, mode, code⟩⟩ := e
  simp only [Ev.val]
  have hB := Lib.hid (show Sep _ (blk p 70 #[.slice sa n sc, .map (some mc), .map (some mb)] :: vec 45 10 (.slice sa n sc) n ss :: mapr ekI evC mc C :: mapr ekI evU mb B :: blk w.heap.size 31 #[.int .i64 call, .int .i64 thread, .bool inv, .int .i64 kind, .int .i64 txn, .int .i64 t, .int .i64 r, .int .i64 mode, .int .i64 code] :: rs) from (hS.alloc #[.int .i64 call, .int .i64 thread, .bool inv, .int .i64 kind, .int .i64 txn, .int .i64 t, .int .i64 r, .int .i64 mode, .int .i64 code] 31).to4.to4.to4.to4)
  have HC := Lib.hid (show getL C call = some x from hc)
  clear hc hS
  obtain ⟨xp, xo⟩ := x
  have HE := Lib.hid (show hasL C call = true by rw [← getL_isSome, HC.out]; rfl)
  go_enter Tryd.func31, Tryd.ntmps31
  go_wp2_with fail
  have hS := Lib.hid (show (fun W : World => Sep W (blk p 70 #[.slice sa n sc, .map (some mc), .map (some mb)] :: vec 45 10 (.slice sa n sc) n ss :: mapr ekI evC mc C :: mapr ekI evU mb B :: blk w.heap.size 31 #[.int .i64 call, .int .i64 thread, .bool inv, .int .i64 kind, .int .i64 txn, .int .i64 t, .int .i64 r, .int .i64 mode, .int .i64 code] :: rs)) _ from hB.out.drew)
  refine hl_begin (fun W : World => Sep W (blk p 70 #[.slice sa n sc, .map (some mc), .map (some mb)] :: vec 45 10 (.slice sa n sc) n ss :: mapr ekI evC mc C :: mapr ekI evU mb B :: blk w.heap.size 31 #[.int .i64 call, .int .i64 thread, .bool inv, .int .i64 kind, .int .i64 txn, .int .i64 t, .int .i64 r, .int .i64 mode, .int .i64 code] :: rs)) [(0, true), (1, true), (2, true), (3, true), (4, true), (5, true), (6, true), (7, true), (8, true), (9, true), (10, false), (11, false), (12, true)] (by kernel_rfl) (by kernel_rfl) (by kernel_rfl) rfl (fun _ _ _ _ _ h => h) hS.out ?_
  change HL _ _ _ _ _ _ (World.drew _)
  generalize World.drew _ = wd at *
  refine hl_take ?v1 rfl (by kernel_rfl) ?y1 ?z1
  case y1 => intro W hW; skip; replace hW := Lib.hid hW; go_simp; try rfl
  case z1 =>
  simp only [Act.put, List.setIfInBounds_toArray, List.set_cons_succ, List.set_cons_zero, List.getElem_toArray, List.getElem_cons_zero, List.getElem_cons_succ]
  refine hl_take ?v2 rfl (by kernel_rfl) ?y2 ?z2
  case y2 => intro W hW; skip; replace hW := Lib.hid hW; go_simp; try rfl
  case z2 =>
  simp only [Act.put, List.setIfInBounds_toArray, List.set_cons_succ, List.set_cons_zero, List.getElem_toArray, List.getElem_cons_zero, List.getElem_cons_succ]
  refine hl_take ?v3 rfl (by kernel_rfl) ?y3 ?z3
  case y3 => intro W hW; skip; replace hW := Lib.hid hW; go_simp; try rfl
  case z3 =>
  simp only [Act.put, List.setIfInBounds_toArray, List.set_cons_succ, List.set_cons_zero, List.getElem_toArray, List.getElem_cons_zero, List.getElem_cons_succ]
  refine hl_take ?v4 rfl (by kernel_rfl) ?y4 ?z4
  case y4 => intro W hW; change Sep W _ at hW; obtain ⟨_, c0, c1, c2, _⟩ := hW.b3; obtain ⟨_, e0, e1, e2, e3, e4, e5, e6, e7, e8, _⟩ := hW.to4.b9; replace hW := Lib.hid hW; go_simp; try rfl
  case z4 =>
  simp only [Act.put, List.setIfInBounds_toArray, List.set_cons_succ, List.set_cons_zero, List.getElem_toArray, List.getElem_cons_zero, List.getElem_cons_succ]
  refine hl_take ?v5 rfl (by kernel_rfl) ?y5 ?z5
  case y5 => intro W hW; skip; replace hW := Lib.hid hW; go_simp; try rfl
  case z5 =>
  simp only [Act.put, List.setIfInBounds_toArray, List.set_cons_succ, List.set_cons_zero, List.getElem_toArray, List.getElem_cons_zero, List.getElem_cons_succ]
  refine hl_take ?v6 rfl (by kernel_rfl) ?y6 ?z6
  case y6 => intro W hW; change Sep W _ at hW; obtain ⟨_, c0, c1, c2, _⟩ := hW.b3; obtain ⟨_, e0, e1, e2, e3, e4, e5, e6, e7, e8, _⟩ := hW.to4.b9; replace hW := Lib.hid hW; go_simp; try rfl
  case z6 =>
  simp only [Act.put, List.setIfInBounds_toArray, List.set_cons_succ, List.set_cons_zero, List.getElem_toArray, List.getElem_cons_zero, List.getElem_cons_succ]
  refine hl_take ?v7 rfl (by kernel_rfl) ?y7 ?z7
  case y7 => intro W hW; change Sep W _ at hW; have hk := run_lookup_map lawI Tryd.underlying68 hW.to2 (zeroC W) call true; rw [HC.out, HE.out] at hk; simp only [ekI, Option.map_some, Option.map_none, Option.getD_some, Option.getD_none, evC, if_true] at hk; replace hW := Lib.hid hW; go_simp; try rfl
  case z7 =>
  simp only [Act.put, List.setIfInBounds_toArray, List.set_cons_succ, List.set_cons_zero, List.getElem_toArray, List.getElem_cons_zero, List.getElem_cons_succ]
  refine hl_take ?v8 rfl (by kernel_rfl) ?y8 ?z8
  case y8 => intro W hW; skip; replace hW := Lib.hid hW; go_simp; try rfl
  case z8 =>
  simp only [Act.put, List.setIfInBounds_toArray, List.set_cons_succ, List.set_cons_zero, List.getElem_toArray, List.getElem_cons_zero, List.getElem_cons_succ]
  refine hl_take ?v9 rfl (by kernel_rfl) ?y9 ?z9
  case y9 => intro W hW; skip; replace hW := Lib.hid hW; go_simp; try rfl
  case z9 =>
  simp only [Act.put, List.setIfInBounds_toArray, List.set_cons_succ, List.set_cons_zero, List.getElem_toArray, List.getElem_cons_zero, List.getElem_cons_succ]
  refine hl_take ?v10 rfl (by kernel_rfl) ?y10 ?z10
  case y10 => intro W hW; skip; replace hW := Lib.hid hW; go_simp; try rfl
  case z10 =>
  simp only [Act.put, List.setIfInBounds_toArray, List.set_cons_succ, List.set_cons_zero, List.getElem_toArray, List.getElem_cons_zero, List.getElem_cons_succ]
  refine hl_one rfl (by kernel_rfl) (fun K hK => ?_)
  go_simp
  have hP := hS
  have hT := Lib.hid (hS.out.alloc #[.int .i64 0, .bool false] 90)
  replace hS := Lib.hid (show (fun W : World => Sep W (blk p 70 #[.slice sa n sc, .map (some mc), .map (some mb)] :: vec 45 10 (.slice sa n sc) n ss :: mapr ekI evC mc C :: mapr ekI evU mb B :: blk w.heap.size 31 #[.int .i64 call, .int .i64 thread, .bool inv, .int .i64 kind, .int .i64 txn, .int .i64 t, .int .i64 r, .int .i64 mode, .int .i64 code] :: rs)) _ from hT.out.tail)
  refine hK.out _ _ hS.out ?_
  clear hK K
  try simp only [Act.put, List.setIfInBounds_toArray, List.set_cons_succ, List.set_cons_zero, List.getElem_toArray, List.getElem_cons_zero, List.getElem_cons_succ]
  refine hl_one rfl (by kernel_rfl) (fun K hK => ?_)
  obtain ⟨_, x0, x1, x2, x3⟩ := hT.out.b2
  go_simp
  replace hS := Lib.hid (show (fun W : World => Sep W (blk p 70 #[.slice sa n sc, .map (some mc), .map (some mb)] :: vec 45 10 (.slice sa n sc) n ss :: mapr ekI evC mc C :: mapr ekI evU mb B :: blk w.heap.size 31 #[.int .i64 call, .int .i64 thread, .bool inv, .int .i64 kind, .int .i64 txn, .int .i64 t, .int .i64 r, .int .i64 mode, .int .i64 code] :: rs)) _ from (hP.out.alloc #[.int .i64 xp, .bool xo] 90).tail)
  clear x0 x1 x2 x3 hT hP
  refine hK.out _ _ hS.out ?_
  clear hK K
  try simp only [Act.put, List.setIfInBounds_toArray, List.set_cons_succ, List.set_cons_zero, List.getElem_toArray, List.getElem_cons_zero, List.getElem_cons_succ]
  refine hl_take ?v11 rfl (by kernel_rfl) ?y11 ?z11
  case y11 => intro W hW; skip; replace hW := Lib.hid hW; go_simp; try rfl
  case z11 =>
  simp only [Act.put, List.setIfInBounds_toArray, List.set_cons_succ, List.set_cons_zero, List.getElem_toArray, List.getElem_cons_zero, List.getElem_cons_succ]
  refine hl_done ?_
  replace hB := hS
  clear hS
  go_wp2_with fail
  go_ret
  exact ⟨rfl, hB.out.to4.tail⟩
set_option maxHeartbeats 4000000 in
set_option maxRecDepth 100000 in
theorem begin_busy (p n sc mc mb : Nat) (sa : Option Addr) (ss : List Value) (C : List (Int × (Int × Bool))) (B : List (Int × Unit)) (e : Ev) (at_ : Int) (w : World) (rs : List Res) (hS : Sep w (blk p 70 #[.slice sa n sc, .map (some mc), .map (some mb)] :: vec 45 10 (.slice sa n sc) n ss :: mapr ekI evC mc C :: mapr ekI evU mb B :: rs)) (hc : getL C e.call = none) (hd : getL B e.thread = some ()) :
    Calls Tryd.prog 31 #[.pointer (some ⟨p, 0, none⟩), e.val, .int .i64 at_] w fun r w' => r = .returned (.int .i64 7) ∧ Sep w' (blk p 70 #[.slice sa n sc, .map (some mc), .map (some mb)] :: vec 45 10 (.slice sa n sc) n ss :: mapr ekI evC mc C :: mapr ekI evU mb B :: rs) := by
  obtain ⟨call, thread, inv, ⟨kind, txn, t, r, mode, code⟩⟩ := e
  simp only [Ev.val]
  have hB := Lib.hid (show Sep _ (blk p 70 #[.slice sa n sc, .map (some mc), .map (some mb)] :: vec 45 10 (.slice sa n sc) n ss :: mapr ekI evC mc C :: mapr ekI evU mb B :: blk w.heap.size 31 #[.int .i64 call, .int .i64 thread, .bool inv, .int .i64 kind, .int .i64 txn, .int .i64 t, .int .i64 r, .int .i64 mode, .int .i64 code] :: rs) from (hS.alloc #[.int .i64 call, .int .i64 thread, .bool inv, .int .i64 kind, .int .i64 txn, .int .i64 t, .int .i64 r, .int .i64 mode, .int .i64 code] 31).to4.to4.to4.to4)
  have HC := Lib.hid (show getL C call = none from hc)
  have HE := Lib.hid (show hasL C call = false from getL_none_iff.1 hc)
  clear hc hS
  have HD := Lib.hid (show getL B thread = some () from hd)
  have HF := Lib.hid (show hasL B thread = true by rw [← getL_isSome, HD.out]; rfl)
  clear hd
  go_enter Tryd.func31, Tryd.ntmps31
  go_wp2_with fail
  have hS := Lib.hid (show (fun W : World => Sep W (blk p 70 #[.slice sa n sc, .map (some mc), .map (some mb)] :: vec 45 10 (.slice sa n sc) n ss :: mapr ekI evC mc C :: mapr ekI evU mb B :: blk w.heap.size 31 #[.int .i64 call, .int .i64 thread, .bool inv, .int .i64 kind, .int .i64 txn, .int .i64 t, .int .i64 r, .int .i64 mode, .int .i64 code] :: rs)) _ from hB.out.drew)
  refine hl_begin (fun W : World => Sep W (blk p 70 #[.slice sa n sc, .map (some mc), .map (some mb)] :: vec 45 10 (.slice sa n sc) n ss :: mapr ekI evC mc C :: mapr ekI evU mb B :: blk w.heap.size 31 #[.int .i64 call, .int .i64 thread, .bool inv, .int .i64 kind, .int .i64 txn, .int .i64 t, .int .i64 r, .int .i64 mode, .int .i64 code] :: rs)) [(0, true), (1, true), (2, true), (3, true), (4, true), (5, true), (6, true), (7, true), (8, true), (9, true), (10, false), (11, false), (12, true)] (by kernel_rfl) (by kernel_rfl) (by kernel_rfl) rfl (fun _ _ _ _ _ h => h) hS.out ?_
  change HL _ _ _ _ _ _ (World.drew _)
  generalize World.drew _ = wd at *
  refine hl_take ?v12 rfl (by kernel_rfl) ?y12 ?z12
  case y12 => intro W hW; skip; replace hW := Lib.hid hW; go_simp; try rfl
  case z12 =>
  simp only [Act.put, List.setIfInBounds_toArray, List.set_cons_succ, List.set_cons_zero, List.getElem_toArray, List.getElem_cons_zero, List.getElem_cons_succ]
  refine hl_take ?v13 rfl (by kernel_rfl) ?y13 ?z13
  case y13 => intro W hW; skip; replace hW := Lib.hid hW; go_simp; try rfl
  case z13 =>
  simp only [Act.put, List.setIfInBounds_toArray, List.set_cons_succ, List.set_cons_zero, List.getElem_toArray, List.getElem_cons_zero, List.getElem_cons_succ]
  refine hl_take ?v14 rfl (by kernel_rfl) ?y14 ?z14
  case y14 => intro W hW; skip; replace hW := Lib.hid hW; go_simp; try rfl
  case z14 =>
  simp only [Act.put, List.setIfInBounds_toArray, List.set_cons_succ, List.set_cons_zero, List.getElem_toArray, List.getElem_cons_zero, List.getElem_cons_succ]
  refine hl_take ?v15 rfl (by kernel_rfl) ?y15 ?z15
  case y15 => intro W hW; change Sep W _ at hW; obtain ⟨_, c0, c1, c2, _⟩ := hW.b3; obtain ⟨_, e0, e1, e2, e3, e4, e5, e6, e7, e8, _⟩ := hW.to4.b9; replace hW := Lib.hid hW; go_simp; try rfl
  case z15 =>
  simp only [Act.put, List.setIfInBounds_toArray, List.set_cons_succ, List.set_cons_zero, List.getElem_toArray, List.getElem_cons_zero, List.getElem_cons_succ]
  refine hl_take ?v16 rfl (by kernel_rfl) ?y16 ?z16
  case y16 => intro W hW; skip; replace hW := Lib.hid hW; go_simp; try rfl
  case z16 =>
  simp only [Act.put, List.setIfInBounds_toArray, List.set_cons_succ, List.set_cons_zero, List.getElem_toArray, List.getElem_cons_zero, List.getElem_cons_succ]
  refine hl_take ?v17 rfl (by kernel_rfl) ?y17 ?z17
  case y17 => intro W hW; change Sep W _ at hW; obtain ⟨_, c0, c1, c2, _⟩ := hW.b3; obtain ⟨_, e0, e1, e2, e3, e4, e5, e6, e7, e8, _⟩ := hW.to4.b9; replace hW := Lib.hid hW; go_simp; try rfl
  case z17 =>
  simp only [Act.put, List.setIfInBounds_toArray, List.set_cons_succ, List.set_cons_zero, List.getElem_toArray, List.getElem_cons_zero, List.getElem_cons_succ]
  refine hl_take ?v18 rfl (by kernel_rfl) ?y18 ?z18
  case y18 => intro W hW; change Sep W _ at hW; have hk := run_lookup_map lawI Tryd.underlying68 hW.to2 (zeroC W) call true; rw [HC.out, HE.out] at hk; simp only [ekI, Option.map_some, Option.map_none, Option.getD_some, Option.getD_none, evC, if_true] at hk; replace hW := Lib.hid hW; go_simp; try rfl
  case z18 =>
  simp only [Act.put, List.setIfInBounds_toArray, List.set_cons_succ, List.set_cons_zero, List.getElem_toArray, List.getElem_cons_zero, List.getElem_cons_succ]
  refine hl_take ?v19 rfl (by kernel_rfl) ?y19 ?z19
  case y19 => intro W hW; skip; replace hW := Lib.hid hW; go_simp; try rfl
  case z19 =>
  simp only [Act.put, List.setIfInBounds_toArray, List.set_cons_succ, List.set_cons_zero, List.getElem_toArray, List.getElem_cons_zero, List.getElem_cons_succ]
  refine hl_take ?v20 rfl (by kernel_rfl) ?y20 ?z20
  case y20 => intro W hW; skip; replace hW := Lib.hid hW; go_simp; try rfl
  case z20 =>
  simp only [Act.put, List.setIfInBounds_toArray, List.set_cons_succ, List.set_cons_zero, List.getElem_toArray, List.getElem_cons_zero, List.getElem_cons_succ]
  refine hl_take ?v21 rfl (by kernel_rfl) ?y21 ?z21
  case y21 => intro W hW; skip; replace hW := Lib.hid hW; go_simp; try rfl
  case z21 =>
  simp only [Act.put, List.setIfInBounds_toArray, List.set_cons_succ, List.set_cons_zero, List.getElem_toArray, List.getElem_cons_zero, List.getElem_cons_succ]
  refine hl_one rfl (by kernel_rfl) (fun K hK => ?_)
  go_simp
  have hP := hS
  have hT := Lib.hid (hS.out.alloc #[.int .i64 0, .bool false] 90)
  replace hS := Lib.hid (show (fun W : World => Sep W (blk p 70 #[.slice sa n sc, .map (some mc), .map (some mb)] :: vec 45 10 (.slice sa n sc) n ss :: mapr ekI evC mc C :: mapr ekI evU mb B :: blk w.heap.size 31 #[.int .i64 call, .int .i64 thread, .bool inv, .int .i64 kind, .int .i64 txn, .int .i64 t, .int .i64 r, .int .i64 mode, .int .i64 code] :: rs)) _ from hT.out.tail)
  refine hK.out _ _ hS.out ?_
  clear hK K
  try simp only [Act.put, List.setIfInBounds_toArray, List.set_cons_succ, List.set_cons_zero, List.getElem_toArray, List.getElem_cons_zero, List.getElem_cons_succ]
  refine hl_one rfl (by kernel_rfl) (fun K hK => ?_)
  obtain ⟨_, x0, x1, x2, x3⟩ := hT.out.b2
  go_simp
  replace hS := Lib.hid (show (fun W : World => Sep W (blk p 70 #[.slice sa n sc, .map (some mc), .map (some mb)] :: vec 45 10 (.slice sa n sc) n ss :: mapr ekI evC mc C :: mapr ekI evU mb B :: blk w.heap.size 31 #[.int .i64 call, .int .i64 thread, .bool inv, .int .i64 kind, .int .i64 txn, .int .i64 t, .int .i64 r, .int .i64 mode, .int .i64 code] :: rs)) _ from (hP.out.alloc #[.int .i64 0, .bool false] 90).tail)
  clear x0 x1 x2 x3 hT hP
  refine hK.out _ _ hS.out ?_
  clear hK K
  try simp only [Act.put, List.setIfInBounds_toArray, List.set_cons_succ, List.set_cons_zero, List.getElem_toArray, List.getElem_cons_zero, List.getElem_cons_succ]
  refine hl_take ?v22 rfl (by kernel_rfl) ?y22 ?z22
  case y22 => intro W hW; skip; replace hW := Lib.hid hW; go_simp; try rfl
  case z22 =>
  simp only [Act.put, List.setIfInBounds_toArray, List.set_cons_succ, List.set_cons_zero, List.getElem_toArray, List.getElem_cons_zero, List.getElem_cons_succ]
  refine hl_done ?_
  replace hB := hS
  clear hS
  go_wp2_with fail
  have hS := Lib.hid (show (fun W : World => Sep W (blk p 70 #[.slice sa n sc, .map (some mc), .map (some mb)] :: vec 45 10 (.slice sa n sc) n ss :: mapr ekI evC mc C :: mapr ekI evU mb B :: blk w.heap.size 31 #[.int .i64 call, .int .i64 thread, .bool inv, .int .i64 kind, .int .i64 txn, .int .i64 t, .int .i64 r, .int .i64 mode, .int .i64 code] :: rs)) _ from hB.out.drew)
  refine hl_begin (fun W : World => Sep W (blk p 70 #[.slice sa n sc, .map (some mc), .map (some mb)] :: vec 45 10 (.slice sa n sc) n ss :: mapr ekI evC mc C :: mapr ekI evU mb B :: blk w.heap.size 31 #[.int .i64 call, .int .i64 thread, .bool inv, .int .i64 kind, .int .i64 txn, .int .i64 t, .int .i64 r, .int .i64 mode, .int .i64 code] :: rs)) [(0, true), (1, true), (2, true), (3, true), (4, true), (5, true), (6, true), (7, true), (8, true), (9, true), (10, false), (11, false), (12, true)] (by kernel_rfl) (by kernel_rfl) (by kernel_rfl) rfl (fun _ _ _ _ _ h => h) hS.out ?_
  change HL _ _ _ _ _ _ (World.drew _)
  generalize World.drew _ = wd at *
  refine hl_take ?v23 rfl (by kernel_rfl) ?y23 ?z23
  case y23 => intro W hW; skip; replace hW := Lib.hid hW; go_simp; try rfl
  case z23 =>
  simp only [Act.put, List.setIfInBounds_toArray, List.set_cons_succ, List.set_cons_zero, List.getElem_toArray, List.getElem_cons_zero, List.getElem_cons_succ]
  refine hl_take ?v24 rfl (by kernel_rfl) ?y24 ?z24
  case y24 => intro W hW; skip; replace hW := Lib.hid hW; go_simp; try rfl
  case z24 =>
  simp only [Act.put, List.setIfInBounds_toArray, List.set_cons_succ, List.set_cons_zero, List.getElem_toArray, List.getElem_cons_zero, List.getElem_cons_succ]
  refine hl_take ?v25 rfl (by kernel_rfl) ?y25 ?z25
  case y25 => intro W hW; skip; replace hW := Lib.hid hW; go_simp; try rfl
  case z25 =>
  simp only [Act.put, List.setIfInBounds_toArray, List.set_cons_succ, List.set_cons_zero, List.getElem_toArray, List.getElem_cons_zero, List.getElem_cons_succ]
  refine hl_take ?v26 rfl (by kernel_rfl) ?y26 ?z26
  case y26 => intro W hW; change Sep W _ at hW; obtain ⟨_, c0, c1, c2, _⟩ := hW.b3; obtain ⟨_, e0, e1, e2, e3, e4, e5, e6, e7, e8, _⟩ := hW.to4.b9; replace hW := Lib.hid hW; go_simp; try rfl
  case z26 =>
  simp only [Act.put, List.setIfInBounds_toArray, List.set_cons_succ, List.set_cons_zero, List.getElem_toArray, List.getElem_cons_zero, List.getElem_cons_succ]
  refine hl_take ?v27 rfl (by kernel_rfl) ?y27 ?z27
  case y27 => intro W hW; skip; replace hW := Lib.hid hW; go_simp; try rfl
  case z27 =>
  simp only [Act.put, List.setIfInBounds_toArray, List.set_cons_succ, List.set_cons_zero, List.getElem_toArray, List.getElem_cons_zero, List.getElem_cons_succ]
  refine hl_take ?v28 rfl (by kernel_rfl) ?y28 ?z28
  case y28 => intro W hW; change Sep W _ at hW; obtain ⟨_, c0, c1, c2, _⟩ := hW.b3; obtain ⟨_, e0, e1, e2, e3, e4, e5, e6, e7, e8, _⟩ := hW.to4.b9; replace hW := Lib.hid hW; go_simp; try rfl
  case z28 =>
  simp only [Act.put, List.setIfInBounds_toArray, List.set_cons_succ, List.set_cons_zero, List.getElem_toArray, List.getElem_cons_zero, List.getElem_cons_succ]
  refine hl_take ?v29 rfl (by kernel_rfl) ?y29 ?z29
  case y29 => intro W hW; change Sep W _ at hW; have hk := run_lookup_map lawI Tryd.underlying54 hW.to3 (zeroU W) thread true; rw [HD.out, HF.out] at hk; simp only [ekI, Option.map_some, Option.map_none, Option.getD_some, Option.getD_none, evU, if_true] at hk; replace hW := Lib.hid hW; go_simp; try rfl
  case z29 =>
  simp only [Act.put, List.setIfInBounds_toArray, List.set_cons_succ, List.set_cons_zero, List.getElem_toArray, List.getElem_cons_zero, List.getElem_cons_succ]
  refine hl_take ?v30 rfl (by kernel_rfl) ?y30 ?z30
  case y30 => intro W hW; skip; replace hW := Lib.hid hW; go_simp; try rfl
  case z30 =>
  simp only [Act.put, List.setIfInBounds_toArray, List.set_cons_succ, List.set_cons_zero, List.getElem_toArray, List.getElem_cons_zero, List.getElem_cons_succ]
  refine hl_take ?v31 rfl (by kernel_rfl) ?y31 ?z31
  case y31 => intro W hW; skip; replace hW := Lib.hid hW; go_simp; try rfl
  case z31 =>
  simp only [Act.put, List.setIfInBounds_toArray, List.set_cons_succ, List.set_cons_zero, List.getElem_toArray, List.getElem_cons_zero, List.getElem_cons_succ]
  refine hl_take ?v32 rfl (by kernel_rfl) ?y32 ?z32
  case y32 => intro W hW; skip; replace hW := Lib.hid hW; go_simp; try rfl
  case z32 =>
  simp only [Act.put, List.setIfInBounds_toArray, List.set_cons_succ, List.set_cons_zero, List.getElem_toArray, List.getElem_cons_zero, List.getElem_cons_succ]
  refine hl_one rfl (by kernel_rfl) (fun K hK => ?_)
  go_simp
  have hP := hS
  have hT := Lib.hid (hS.out.alloc #[] 55)
  replace hS := Lib.hid (show (fun W : World => Sep W (blk p 70 #[.slice sa n sc, .map (some mc), .map (some mb)] :: vec 45 10 (.slice sa n sc) n ss :: mapr ekI evC mc C :: mapr ekI evU mb B :: blk w.heap.size 31 #[.int .i64 call, .int .i64 thread, .bool inv, .int .i64 kind, .int .i64 txn, .int .i64 t, .int .i64 r, .int .i64 mode, .int .i64 code] :: rs)) _ from hT.out.tail)
  refine hK.out _ _ hS.out ?_
  clear hK K
  try simp only [Act.put, List.setIfInBounds_toArray, List.set_cons_succ, List.set_cons_zero, List.getElem_toArray, List.getElem_cons_zero, List.getElem_cons_succ]
  refine hl_one rfl (by kernel_rfl) (fun K hK => ?_)
  go_simp
  clear hT hP
  refine hK.out _ _ hS.out ?_
  clear hK K
  try simp only [Act.put, List.setIfInBounds_toArray, List.set_cons_succ, List.set_cons_zero, List.getElem_toArray, List.getElem_cons_zero, List.getElem_cons_succ]
  refine hl_take ?v33 rfl (by kernel_rfl) ?y33 ?z33
  case y33 => intro W hW; skip; replace hW := Lib.hid hW; go_simp; try rfl
  case z33 =>
  simp only [Act.put, List.setIfInBounds_toArray, List.set_cons_succ, List.set_cons_zero, List.getElem_toArray, List.getElem_cons_zero, List.getElem_cons_succ]
  refine hl_done ?_
  replace hB := hS
  clear hS
  go_wp2_with fail
  go_ret
  exact ⟨rfl, hB.out.to4.tail⟩
set_option maxHeartbeats 4000000 in
set_option maxRecDepth 100000 in
theorem begin_ok (p n sc mc mb : Nat) (sa : Option Addr) (ss : List Value) (C : List (Int × (Int × Bool))) (B : List (Int × Unit)) (e : Ev) (at_ : Int) (w : World) (rs : List Res) (hS : Sep w (blk p 70 #[.slice sa n sc, .map (some mc), .map (some mb)] :: vec 45 10 (.slice sa n sc) n ss :: mapr ekI evC mc C :: mapr ekI evU mb B :: rs)) (hn : n ≤ 1000) (hc : getL C e.call = none) (hd : getL B e.thread = none) :
    Calls Tryd.prog 31 #[.pointer (some ⟨p, 0, none⟩), e.val, .int .i64 at_] w fun r w' => ∃ na nc, r = .returned (.int .i64 0) ∧ Sep w' (blk p 70 #[.slice na (n + 1) nc, .map (some mc), .map (some mb)] :: vec 45 10 (.slice na (n + 1) nc) (n + 1) (ss ++ (Sp.mk e.call e.thread at_ (-1) e.act).cells) :: mapr ekI evC mc (putL C e.call ((n : Int), true)) :: mapr ekI evU mb (putL B e.thread ()) :: rs) := by
  obtain ⟨call, thread, inv, ⟨kind, txn, t, r, mode, code⟩⟩ := e
  simp only [Ev.val]
  have hB := Lib.hid (show Sep _ (blk p 70 #[.slice sa n sc, .map (some mc), .map (some mb)] :: vec 45 10 (.slice sa n sc) n ss :: mapr ekI evC mc C :: mapr ekI evU mb B :: blk w.heap.size 31 #[.int .i64 call, .int .i64 thread, .bool inv, .int .i64 kind, .int .i64 txn, .int .i64 t, .int .i64 r, .int .i64 mode, .int .i64 code] :: rs) from (hS.alloc #[.int .i64 call, .int .i64 thread, .bool inv, .int .i64 kind, .int .i64 txn, .int .i64 t, .int .i64 r, .int .i64 mode, .int .i64 code] 31).to4.to4.to4.to4)
  have HC := Lib.hid (show getL C call = none from hc)
  have HE := Lib.hid (show hasL C call = false from getL_none_iff.1 hc)
  clear hc hS
  have HD := Lib.hid (show getL B thread = none from hd)
  have HF := Lib.hid (show hasL B thread = false from getL_none_iff.1 hd)
  clear hd
  replace hn := Lib.hid hn
  obtain ⟨i0, hi0, hz0, hz1, hz2⟩ := info_parts info_span
  have h1c : Hid (∀ u ∈ ([.int .i64 call, .int .i64 thread, .int .i64 at_, .int .i64 (-1), .int .i64 kind, .int .i64 txn, .int .i64 t, .int .i64 r, .int .i64 mode, .int .i64 code] : List Value), u.oneCell' = true) := Lib.hid (by simp [Value.oneCell'])
  go_enter Tryd.func31, Tryd.ntmps31
  go_wp2_with fail
  have hS := Lib.hid (show (fun W : World => Sep W (blk p 70 #[.slice sa n sc, .map (some mc), .map (some mb)] :: vec 45 10 (.slice sa n sc) n ss :: mapr ekI evC mc C :: mapr ekI evU mb B :: blk w.heap.size 31 #[.int .i64 call, .int .i64 thread, .bool inv, .int .i64 kind, .int .i64 txn, .int .i64 t, .int .i64 r, .int .i64 mode, .int .i64 code] :: rs)) _ from hB.out.drew)
  refine hl_begin (fun W : World => Sep W (blk p 70 #[.slice sa n sc, .map (some mc), .map (some mb)] :: vec 45 10 (.slice sa n sc) n ss :: mapr ekI evC mc C :: mapr ekI evU mb B :: blk w.heap.size 31 #[.int .i64 call, .int .i64 thread, .bool inv, .int .i64 kind, .int .i64 txn, .int .i64 t, .int .i64 r, .int .i64 mode, .int .i64 code] :: rs)) [(0, true), (1, true), (2, true), (3, true), (4, true), (5, true), (6, true), (7, true), (8, true), (9, true), (10, false), (11, false), (12, true)] (by kernel_rfl) (by kernel_rfl) (by kernel_rfl) rfl (fun _ _ _ _ _ h => h) hS.out ?_
  change HL _ _ _ _ _ _ (World.drew _)
  generalize World.drew _ = wd at *
  refine hl_take ?v34 rfl (by kernel_rfl) ?y34 ?z34
  case y34 => intro W hW; skip; replace hW := Lib.hid hW; go_simp; try rfl
  case z34 =>
  simp only [Act.put, List.setIfInBounds_toArray, List.set_cons_succ, List.set_cons_zero, List.getElem_toArray, List.getElem_cons_zero, List.getElem_cons_succ]
  refine hl_take ?v35 rfl (by kernel_rfl) ?y35 ?z35
  case y35 => intro W hW; skip; replace hW := Lib.hid hW; go_simp; try rfl
  case z35 =>
  simp only [Act.put, List.setIfInBounds_toArray, List.set_cons_succ, List.set_cons_zero, List.getElem_toArray, List.getElem_cons_zero, List.getElem_cons_succ]
  refine hl_take ?v36 rfl (by kernel_rfl) ?y36 ?z36
  case y36 => intro W hW; skip; replace hW := Lib.hid hW; go_simp; try rfl
  case z36 =>
  simp only [Act.put, List.setIfInBounds_toArray, List.set_cons_succ, List.set_cons_zero, List.getElem_toArray, List.getElem_cons_zero, List.getElem_cons_succ]
  refine hl_take ?v37 rfl (by kernel_rfl) ?y37 ?z37
  case y37 => intro W hW; change Sep W _ at hW; obtain ⟨_, c0, c1, c2, _⟩ := hW.b3; obtain ⟨_, e0, e1, e2, e3, e4, e5, e6, e7, e8, _⟩ := hW.to4.b9; replace hW := Lib.hid hW; go_simp; try rfl
  case z37 =>
  simp only [Act.put, List.setIfInBounds_toArray, List.set_cons_succ, List.set_cons_zero, List.getElem_toArray, List.getElem_cons_zero, List.getElem_cons_succ]
  refine hl_take ?v38 rfl (by kernel_rfl) ?y38 ?z38
  case y38 => intro W hW; skip; replace hW := Lib.hid hW; go_simp; try rfl
  case z38 =>
  simp only [Act.put, List.setIfInBounds_toArray, List.set_cons_succ, List.set_cons_zero, List.getElem_toArray, List.getElem_cons_zero, List.getElem_cons_succ]
  refine hl_take ?v39 rfl (by kernel_rfl) ?y39 ?z39
  case y39 => intro W hW; change Sep W _ at hW; obtain ⟨_, c0, c1, c2, _⟩ := hW.b3; obtain ⟨_, e0, e1, e2, e3, e4, e5, e6, e7, e8, _⟩ := hW.to4.b9; replace hW := Lib.hid hW; go_simp; try rfl
  case z39 =>
  simp only [Act.put, List.setIfInBounds_toArray, List.set_cons_succ, List.set_cons_zero, List.getElem_toArray, List.getElem_cons_zero, List.getElem_cons_succ]
  refine hl_take ?v40 rfl (by kernel_rfl) ?y40 ?z40
  case y40 => intro W hW; change Sep W _ at hW; have hk := run_lookup_map lawI Tryd.underlying68 hW.to2 (zeroC W) call true; rw [HC.out, HE.out] at hk; simp only [ekI, Option.map_some, Option.map_none, Option.getD_some, Option.getD_none, evC, if_true] at hk; replace hW := Lib.hid hW; go_simp; try rfl
  case z40 =>
  simp only [Act.put, List.setIfInBounds_toArray, List.set_cons_succ, List.set_cons_zero, List.getElem_toArray, List.getElem_cons_zero, List.getElem_cons_succ]
  refine hl_take ?v41 rfl (by kernel_rfl) ?y41 ?z41
  case y41 => intro W hW; skip; replace hW := Lib.hid hW; go_simp; try rfl
  case z41 =>
  simp only [Act.put, List.setIfInBounds_toArray, List.set_cons_succ, List.set_cons_zero, List.getElem_toArray, List.getElem_cons_zero, List.getElem_cons_succ]
  refine hl_take ?v42 rfl (by kernel_rfl) ?y42 ?z42
  case y42 => intro W hW; skip; replace hW := Lib.hid hW; go_simp; try rfl
  case z42 =>
  simp only [Act.put, List.setIfInBounds_toArray, List.set_cons_succ, List.set_cons_zero, List.getElem_toArray, List.getElem_cons_zero, List.getElem_cons_succ]
  refine hl_take ?v43 rfl (by kernel_rfl) ?y43 ?z43
  case y43 => intro W hW; skip; replace hW := Lib.hid hW; go_simp; try rfl
  case z43 =>
  simp only [Act.put, List.setIfInBounds_toArray, List.set_cons_succ, List.set_cons_zero, List.getElem_toArray, List.getElem_cons_zero, List.getElem_cons_succ]
  refine hl_one rfl (by kernel_rfl) (fun K hK => ?_)
  go_simp
  have hP := hS
  have hT := Lib.hid (hS.out.alloc #[.int .i64 0, .bool false] 90)
  replace hS := Lib.hid (show (fun W : World => Sep W (blk p 70 #[.slice sa n sc, .map (some mc), .map (some mb)] :: vec 45 10 (.slice sa n sc) n ss :: mapr ekI evC mc C :: mapr ekI evU mb B :: blk w.heap.size 31 #[.int .i64 call, .int .i64 thread, .bool inv, .int .i64 kind, .int .i64 txn, .int .i64 t, .int .i64 r, .int .i64 mode, .int .i64 code] :: rs)) _ from hT.out.tail)
  refine hK.out _ _ hS.out ?_
  clear hK K
  try simp only [Act.put, List.setIfInBounds_toArray, List.set_cons_succ, List.set_cons_zero, List.getElem_toArray, List.getElem_cons_zero, List.getElem_cons_succ]
  refine hl_one rfl (by kernel_rfl) (fun K hK => ?_)
  obtain ⟨_, x0, x1, x2, x3⟩ := hT.out.b2
  go_simp
  replace hS := Lib.hid (show (fun W : World => Sep W (blk p 70 #[.slice sa n sc, .map (some mc), .map (some mb)] :: vec 45 10 (.slice sa n sc) n ss :: mapr ekI evC mc C :: mapr ekI evU mb B :: blk w.heap.size 31 #[.int .i64 call, .int .i64 thread, .bool inv, .int .i64 kind, .int .i64 txn, .int .i64 t, .int .i64 r, .int .i64 mode, .int .i64 code] :: rs)) _ from (hP.out.alloc #[.int .i64 0, .bool false] 90).tail)
  clear x0 x1 x2 x3 hT hP
  refine hK.out _ _ hS.out ?_
  clear hK K
  try simp only [Act.put, List.setIfInBounds_toArray, List.set_cons_succ, List.set_cons_zero, List.getElem_toArray, List.getElem_cons_zero, List.getElem_cons_succ]
  refine hl_take ?v44 rfl (by kernel_rfl) ?y44 ?z44
  case y44 => intro W hW; skip; replace hW := Lib.hid hW; go_simp; try rfl
  case z44 =>
  simp only [Act.put, List.setIfInBounds_toArray, List.set_cons_succ, List.set_cons_zero, List.getElem_toArray, List.getElem_cons_zero, List.getElem_cons_succ]
  refine hl_done ?_
  replace hB := hS
  clear hS
  go_wp2_with fail
  have hS := Lib.hid (show (fun W : World => Sep W (blk p 70 #[.slice sa n sc, .map (some mc), .map (some mb)] :: vec 45 10 (.slice sa n sc) n ss :: mapr ekI evC mc C :: mapr ekI evU mb B :: blk w.heap.size 31 #[.int .i64 call, .int .i64 thread, .bool inv, .int .i64 kind, .int .i64 txn, .int .i64 t, .int .i64 r, .int .i64 mode, .int .i64 code] :: rs)) _ from hB.out.drew)
  refine hl_begin (fun W : World => Sep W (blk p 70 #[.slice sa n sc, .map (some mc), .map (some mb)] :: vec 45 10 (.slice sa n sc) n ss :: mapr ekI evC mc C :: mapr ekI evU mb B :: blk w.heap.size 31 #[.int .i64 call, .int .i64 thread, .bool inv, .int .i64 kind, .int .i64 txn, .int .i64 t, .int .i64 r, .int .i64 mode, .int .i64 code] :: rs)) [(0, true), (1, true), (2, true), (3, true), (4, true), (5, true), (6, true), (7, true), (8, true), (9, true), (10, false), (11, false), (12, true)] (by kernel_rfl) (by kernel_rfl) (by kernel_rfl) rfl (fun _ _ _ _ _ h => h) hS.out ?_
  change HL _ _ _ _ _ _ (World.drew _)
  generalize World.drew _ = wd at *
  refine hl_take ?v45 rfl (by kernel_rfl) ?y45 ?z45
  case y45 => intro W hW; skip; replace hW := Lib.hid hW; go_simp; try rfl
  case z45 =>
  simp only [Act.put, List.setIfInBounds_toArray, List.set_cons_succ, List.set_cons_zero, List.getElem_toArray, List.getElem_cons_zero, List.getElem_cons_succ]
  refine hl_take ?v46 rfl (by kernel_rfl) ?y46 ?z46
  case y46 => intro W hW; skip; replace hW := Lib.hid hW; go_simp; try rfl
  case z46 =>
  simp only [Act.put, List.setIfInBounds_toArray, List.set_cons_succ, List.set_cons_zero, List.getElem_toArray, List.getElem_cons_zero, List.getElem_cons_succ]
  refine hl_take ?v47 rfl (by kernel_rfl) ?y47 ?z47
  case y47 => intro W hW; skip; replace hW := Lib.hid hW; go_simp; try rfl
  case z47 =>
  simp only [Act.put, List.setIfInBounds_toArray, List.set_cons_succ, List.set_cons_zero, List.getElem_toArray, List.getElem_cons_zero, List.getElem_cons_succ]
  refine hl_take ?v48 rfl (by kernel_rfl) ?y48 ?z48
  case y48 => intro W hW; change Sep W _ at hW; obtain ⟨_, c0, c1, c2, _⟩ := hW.b3; obtain ⟨_, e0, e1, e2, e3, e4, e5, e6, e7, e8, _⟩ := hW.to4.b9; replace hW := Lib.hid hW; go_simp; try rfl
  case z48 =>
  simp only [Act.put, List.setIfInBounds_toArray, List.set_cons_succ, List.set_cons_zero, List.getElem_toArray, List.getElem_cons_zero, List.getElem_cons_succ]
  refine hl_take ?v49 rfl (by kernel_rfl) ?y49 ?z49
  case y49 => intro W hW; skip; replace hW := Lib.hid hW; go_simp; try rfl
  case z49 =>
  simp only [Act.put, List.setIfInBounds_toArray, List.set_cons_succ, List.set_cons_zero, List.getElem_toArray, List.getElem_cons_zero, List.getElem_cons_succ]
  refine hl_take ?v50 rfl (by kernel_rfl) ?y50 ?z50
  case y50 => intro W hW; change Sep W _ at hW; obtain ⟨_, c0, c1, c2, _⟩ := hW.b3; obtain ⟨_, e0, e1, e2, e3, e4, e5, e6, e7, e8, _⟩ := hW.to4.b9; replace hW := Lib.hid hW; go_simp; try rfl
  case z50 =>
  simp only [Act.put, List.setIfInBounds_toArray, List.set_cons_succ, List.set_cons_zero, List.getElem_toArray, List.getElem_cons_zero, List.getElem_cons_succ]
  refine hl_take ?v51 rfl (by kernel_rfl) ?y51 ?z51
  case y51 => intro W hW; change Sep W _ at hW; have hk := run_lookup_map lawI Tryd.underlying54 hW.to3 (zeroU W) thread true; rw [HD.out, HF.out] at hk; simp only [ekI, Option.map_some, Option.map_none, Option.getD_some, Option.getD_none, evU, if_true] at hk; replace hW := Lib.hid hW; go_simp; try rfl
  case z51 =>
  simp only [Act.put, List.setIfInBounds_toArray, List.set_cons_succ, List.set_cons_zero, List.getElem_toArray, List.getElem_cons_zero, List.getElem_cons_succ]
  refine hl_take ?v52 rfl (by kernel_rfl) ?y52 ?z52
  case y52 => intro W hW; skip; replace hW := Lib.hid hW; go_simp; try rfl
  case z52 =>
  simp only [Act.put, List.setIfInBounds_toArray, List.set_cons_succ, List.set_cons_zero, List.getElem_toArray, List.getElem_cons_zero, List.getElem_cons_succ]
  refine hl_take ?v53 rfl (by kernel_rfl) ?y53 ?z53
  case y53 => intro W hW; skip; replace hW := Lib.hid hW; go_simp; try rfl
  case z53 =>
  simp only [Act.put, List.setIfInBounds_toArray, List.set_cons_succ, List.set_cons_zero, List.getElem_toArray, List.getElem_cons_zero, List.getElem_cons_succ]
  refine hl_take ?v54 rfl (by kernel_rfl) ?y54 ?z54
  case y54 => intro W hW; skip; replace hW := Lib.hid hW; go_simp; try rfl
  case z54 =>
  simp only [Act.put, List.setIfInBounds_toArray, List.set_cons_succ, List.set_cons_zero, List.getElem_toArray, List.getElem_cons_zero, List.getElem_cons_succ]
  refine hl_one rfl (by kernel_rfl) (fun K hK => ?_)
  go_simp
  have hP := hS
  have hT := Lib.hid (hS.out.alloc #[] 55)
  replace hS := Lib.hid (show (fun W : World => Sep W (blk p 70 #[.slice sa n sc, .map (some mc), .map (some mb)] :: vec 45 10 (.slice sa n sc) n ss :: mapr ekI evC mc C :: mapr ekI evU mb B :: blk w.heap.size 31 #[.int .i64 call, .int .i64 thread, .bool inv, .int .i64 kind, .int .i64 txn, .int .i64 t, .int .i64 r, .int .i64 mode, .int .i64 code] :: rs)) _ from hT.out.tail)
  refine hK.out _ _ hS.out ?_
  clear hK K
  try simp only [Act.put, List.setIfInBounds_toArray, List.set_cons_succ, List.set_cons_zero, List.getElem_toArray, List.getElem_cons_zero, List.getElem_cons_succ]
  refine hl_one rfl (by kernel_rfl) (fun K hK => ?_)
  go_simp
  clear hT hP
  refine hK.out _ _ hS.out ?_
  clear hK K
  try simp only [Act.put, List.setIfInBounds_toArray, List.set_cons_succ, List.set_cons_zero, List.getElem_toArray, List.getElem_cons_zero, List.getElem_cons_succ]
  refine hl_take ?v55 rfl (by kernel_rfl) ?y55 ?z55
  case y55 => intro W hW; skip; replace hW := Lib.hid hW; go_simp; try rfl
  case z55 =>
  simp only [Act.put, List.setIfInBounds_toArray, List.set_cons_succ, List.set_cons_zero, List.getElem_toArray, List.getElem_cons_zero, List.getElem_cons_succ]
  refine hl_done ?_
  replace hB := hS
  clear hS
  go_wp2_with fail
  replace hB := Lib.hid hB.out.drew
  have hS := Lib.hid (show (fun W : World => ∃ C' B', Sep W (blk p 70 #[.slice sa n sc, .map (some mc), .map (some mb)] :: vec 45 10 (.slice sa n sc) n ss :: mapr ekI evC mc C' :: mapr ekI evU mb B' :: blk w.heap.size 31 #[.int .i64 call, .int .i64 thread, .bool inv, .int .i64 kind, .int .i64 txn, .int .i64 t, .int .i64 r, .int .i64 mode, .int .i64 code] :: rs)) _ from ⟨_, _, hB.out⟩)
  refine hl_begin (fun W : World => ∃ C' B', Sep W (blk p 70 #[.slice sa n sc, .map (some mc), .map (some mb)] :: vec 45 10 (.slice sa n sc) n ss :: mapr ekI evC mc C' :: mapr ekI evU mb B' :: blk w.heap.size 31 #[.int .i64 call, .int .i64 thread, .bool inv, .int .i64 kind, .int .i64 txn, .int .i64 t, .int .i64 r, .int .i64 mode, .int .i64 code] :: rs)) [(0, true), (1, true), (2, true), (3, true), (4, true), (5, true), (6, true), (7, true), (8, true), (9, true), (10, true), (11, true), (12, false)] (by kernel_rfl) (by kernel_rfl) (by kernel_rfl) rfl (fun _ _ _ _ _ h => h) hS.out ?_
  change HL _ _ _ _ _ _ (World.drew _)
  generalize World.drew _ = wd at *
  refine hl_take ?v56 rfl (by kernel_rfl) ?y56 ?z56
  case y56 => intro W hW; skip; replace hW := Lib.hid hW; go_simp; try rfl
  case z56 =>
  simp only [Act.put, List.setIfInBounds_toArray, List.set_cons_succ, List.set_cons_zero, List.getElem_toArray, List.getElem_cons_zero, List.getElem_cons_succ]
  refine hl_take ?v57 rfl (by kernel_rfl) ?y57 ?z57
  case y57 => intro W hW; skip; replace hW := Lib.hid hW; go_simp; try rfl
  case z57 =>
  simp only [Act.put, List.setIfInBounds_toArray, List.set_cons_succ, List.set_cons_zero, List.getElem_toArray, List.getElem_cons_zero, List.getElem_cons_succ]
  refine hl_take ?v58 rfl (by kernel_rfl) ?y58 ?z58
  case y58 => intro W hW; skip; replace hW := Lib.hid hW; go_simp; try rfl
  case z58 =>
  simp only [Act.put, List.setIfInBounds_toArray, List.set_cons_succ, List.set_cons_zero, List.getElem_toArray, List.getElem_cons_zero, List.getElem_cons_succ]
  refine hl_take ?v59 rfl (by kernel_rfl) ?y59 ?z59
  case y59 => intro W hW; obtain ⟨_, _, hW⟩ := hW; obtain ⟨_, c0, c1, c2, _⟩ := hW.b3; obtain ⟨_, e0, e1, e2, e3, e4, e5, e6, e7, e8, _⟩ := hW.to4.b9; replace hW := Lib.hid hW; go_simp; try rfl
  case z59 =>
  simp only [Act.put, List.setIfInBounds_toArray, List.set_cons_succ, List.set_cons_zero, List.getElem_toArray, List.getElem_cons_zero, List.getElem_cons_succ]
  refine hl_take ?v60 rfl (by kernel_rfl) ?y60 ?z60
  case y60 => intro W hW; skip; replace hW := Lib.hid hW; go_simp; try rfl
  case z60 =>
  simp only [Act.put, List.setIfInBounds_toArray, List.set_cons_succ, List.set_cons_zero, List.getElem_toArray, List.getElem_cons_zero, List.getElem_cons_succ]
  refine hl_take ?v61 rfl (by kernel_rfl) ?y61 ?z61
  case y61 => intro W hW; obtain ⟨_, _, hW⟩ := hW; obtain ⟨_, c0, c1, c2, _⟩ := hW.b3; obtain ⟨_, e0, e1, e2, e3, e4, e5, e6, e7, e8, _⟩ := hW.to4.b9; replace hW := Lib.hid hW; go_simp; try rfl
  case z61 =>
  simp only [Act.put, List.setIfInBounds_toArray, List.set_cons_succ, List.set_cons_zero, List.getElem_toArray, List.getElem_cons_zero, List.getElem_cons_succ]
  refine hl_take ?v62 rfl (by kernel_rfl) ?y62 ?z62
  case y62 => intro W hW; skip; replace hW := Lib.hid hW; go_simp; try rfl
  case z62 =>
  simp only [Act.put, List.setIfInBounds_toArray, List.set_cons_succ, List.set_cons_zero, List.getElem_toArray, List.getElem_cons_zero, List.getElem_cons_succ]
  refine hl_take ?v63 rfl (by kernel_rfl) ?y63 ?z63
  case y63 => intro W hW; skip; replace hW := Lib.hid hW; go_simp; try rfl
  case z63 =>
  simp only [Act.put, List.setIfInBounds_toArray, List.set_cons_succ, List.set_cons_zero, List.getElem_toArray, List.getElem_cons_zero, List.getElem_cons_succ]
  refine hl_take ?v64 rfl (by kernel_rfl) ?y64 ?z64
  case y64 => intro W hW; skip; replace hW := Lib.hid hW; go_simp; try rfl
  case z64 =>
  simp only [Act.put, List.setIfInBounds_toArray, List.set_cons_succ, List.set_cons_zero, List.getElem_toArray, List.getElem_cons_zero, List.getElem_cons_succ]
  refine hl_take ?v65 rfl (by kernel_rfl) ?y65 ?z65
  case y65 => intro W hW; obtain ⟨_, _, hW⟩ := hW; obtain ⟨_, c0, c1, c2, _⟩ := hW.b3; obtain ⟨_, e0, e1, e2, e3, e4, e5, e6, e7, e8, _⟩ := hW.to4.b9; replace hW := Lib.hid hW; go_simp; try rfl
  case z65 =>
  simp only [Act.put, List.setIfInBounds_toArray, List.set_cons_succ, List.set_cons_zero, List.getElem_toArray, List.getElem_cons_zero, List.getElem_cons_succ]
  refine hl_take ?v66 rfl (by kernel_rfl) ?y66 ?z66
  case y66 => intro W hW; skip; replace hW := Lib.hid hW; go_simp; try rfl
  case z66 =>
  simp only [Act.put, List.setIfInBounds_toArray, List.set_cons_succ, List.set_cons_zero, List.getElem_toArray, List.getElem_cons_zero, List.getElem_cons_succ]
  refine hl_take ?v67 rfl (by kernel_rfl) ?y67 ?z67
  case y67 => intro W hW; skip; replace hW := Lib.hid hW; go_simp; try rfl
  case z67 =>
  simp only [Act.put, List.setIfInBounds_toArray, List.set_cons_succ, List.set_cons_zero, List.getElem_toArray, List.getElem_cons_zero, List.getElem_cons_succ]
  refine hl_one rfl (by kernel_rfl) (fun K hK => ?_)
  refine wp_mapUpdate_map hB.out.to2 lawI Tryd.underlying68 (.tmp 36) (.tmp 38) (.tmp 44) (by rfl) (by rfl) call ((n : Int), true) (by rfl) (by rfl) ?_
  intro w1 q
  replace hB := Lib.hid (show (fun W : World => Sep W (blk p 70 #[.slice sa n sc, .map (some mc), .map (some mb)] :: vec 45 10 (.slice sa n sc) n ss :: mapr ekI evC mc (putL C call ((n : Int), true)) :: mapr ekI evU mb B :: blk w.heap.size 31 #[.int .i64 call, .int .i64 thread, .bool inv, .int .i64 kind, .int .i64 txn, .int .i64 t, .int .i64 r, .int .i64 mode, .int .i64 code] :: rs)) _ from q.to2.to2)
  clear q
  refine hK.out _ _ ⟨_, _, hB.out⟩ ?_
  clear hK K
  try simp only [Act.put, List.setIfInBounds_toArray, List.set_cons_succ, List.set_cons_zero, List.getElem_toArray, List.getElem_cons_zero, List.getElem_cons_succ]
  refine hl_done ?_
  clear hS
  go_wp2_with fail
  replace hB := Lib.hid hB.out.drew
  have hS := Lib.hid (show (fun W : World => ∃ C' B', Sep W (blk p 70 #[.slice sa n sc, .map (some mc), .map (some mb)] :: vec 45 10 (.slice sa n sc) n ss :: mapr ekI evC mc C' :: mapr ekI evU mb B' :: blk w.heap.size 31 #[.int .i64 call, .int .i64 thread, .bool inv, .int .i64 kind, .int .i64 txn, .int .i64 t, .int .i64 r, .int .i64 mode, .int .i64 code] :: rs)) _ from ⟨_, _, hB.out⟩)
  refine hl_begin (fun W : World => ∃ C' B', Sep W (blk p 70 #[.slice sa n sc, .map (some mc), .map (some mb)] :: vec 45 10 (.slice sa n sc) n ss :: mapr ekI evC mc C' :: mapr ekI evU mb B' :: blk w.heap.size 31 #[.int .i64 call, .int .i64 thread, .bool inv, .int .i64 kind, .int .i64 txn, .int .i64 t, .int .i64 r, .int .i64 mode, .int .i64 code] :: rs)) [(0, true), (1, true), (2, true), (3, true), (4, true), (5, true), (6, true), (7, false)] (by kernel_rfl) (by kernel_rfl) (by kernel_rfl) rfl (fun _ _ _ _ _ h => h) hS.out ?_
  change HL _ _ _ _ _ _ (World.drew _)
  generalize World.drew _ = wd at *
  refine hl_take ?v68 rfl (by kernel_rfl) ?y68 ?z68
  case y68 => intro W hW; skip; replace hW := Lib.hid hW; go_simp; try rfl
  case z68 =>
  simp only [Act.put, List.setIfInBounds_toArray, List.set_cons_succ, List.set_cons_zero, List.getElem_toArray, List.getElem_cons_zero, List.getElem_cons_succ]
  refine hl_take ?v69 rfl (by kernel_rfl) ?y69 ?z69
  case y69 => intro W hW; skip; replace hW := Lib.hid hW; go_simp; try rfl
  case z69 =>
  simp only [Act.put, List.setIfInBounds_toArray, List.set_cons_succ, List.set_cons_zero, List.getElem_toArray, List.getElem_cons_zero, List.getElem_cons_succ]
  refine hl_take ?v70 rfl (by kernel_rfl) ?y70 ?z70
  case y70 => intro W hW; skip; replace hW := Lib.hid hW; go_simp; try rfl
  case z70 =>
  simp only [Act.put, List.setIfInBounds_toArray, List.set_cons_succ, List.set_cons_zero, List.getElem_toArray, List.getElem_cons_zero, List.getElem_cons_succ]
  refine hl_take ?v71 rfl (by kernel_rfl) ?y71 ?z71
  case y71 => intro W hW; obtain ⟨_, _, hW⟩ := hW; obtain ⟨_, c0, c1, c2, _⟩ := hW.b3; obtain ⟨_, e0, e1, e2, e3, e4, e5, e6, e7, e8, _⟩ := hW.to4.b9; replace hW := Lib.hid hW; go_simp; try rfl
  case z71 =>
  simp only [Act.put, List.setIfInBounds_toArray, List.set_cons_succ, List.set_cons_zero, List.getElem_toArray, List.getElem_cons_zero, List.getElem_cons_succ]
  refine hl_take ?v72 rfl (by kernel_rfl) ?y72 ?z72
  case y72 => intro W hW; skip; replace hW := Lib.hid hW; go_simp; try rfl
  case z72 =>
  simp only [Act.put, List.setIfInBounds_toArray, List.set_cons_succ, List.set_cons_zero, List.getElem_toArray, List.getElem_cons_zero, List.getElem_cons_succ]
  refine hl_take ?v73 rfl (by kernel_rfl) ?y73 ?z73
  case y73 => intro W hW; obtain ⟨_, _, hW⟩ := hW; obtain ⟨_, c0, c1, c2, _⟩ := hW.b3; obtain ⟨_, e0, e1, e2, e3, e4, e5, e6, e7, e8, _⟩ := hW.to4.b9; replace hW := Lib.hid hW; go_simp; try rfl
  case z73 =>
  simp only [Act.put, List.setIfInBounds_toArray, List.set_cons_succ, List.set_cons_zero, List.getElem_toArray, List.getElem_cons_zero, List.getElem_cons_succ]
  refine hl_take ?v74 rfl (by kernel_rfl) ?y74 ?z74
  case y74 => intro W hW; skip; replace hW := Lib.hid hW; go_simp; try rfl
  case z74 =>
  simp only [Act.put, List.setIfInBounds_toArray, List.set_cons_succ, List.set_cons_zero, List.getElem_toArray, List.getElem_cons_zero, List.getElem_cons_succ]
  refine hl_one rfl (by kernel_rfl) (fun K hK => ?_)
  refine wp_mapUpdate_map hB.out.to3 lawI Tryd.underlying54 (.tmp 48) (.tmp 50) (.tmp 51) (by rfl) (by rfl) thread () (by rfl) (by rfl) ?_
  intro w1 q
  replace hB := Lib.hid (show (fun W : World => Sep W (blk p 70 #[.slice sa n sc, .map (some mc), .map (some mb)] :: vec 45 10 (.slice sa n sc) n ss :: mapr ekI evC mc (putL C call ((n : Int), true)) :: mapr ekI evU mb (putL B thread ()) :: blk w.heap.size 31 #[.int .i64 call, .int .i64 thread, .bool inv, .int .i64 kind, .int .i64 txn, .int .i64 t, .int .i64 r, .int .i64 mode, .int .i64 code] :: rs)) _ from q.to3.to3.to3)
  clear q
  refine hK.out _ _ ⟨_, _, hB.out⟩ ?_
  clear hK K
  try simp only [Act.put, List.setIfInBounds_toArray, List.set_cons_succ, List.set_cons_zero, List.getElem_toArray, List.getElem_cons_zero, List.getElem_cons_succ]
  refine hl_done ?_
  clear hS
  go_wp2_with fail
  replace hB := Lib.hid hB.out.drew
  have hS := Lib.hid (show (fun W : World => ∃ v m cs, Sep W (blk p 70 #[.slice sa n sc, .map (some mc), .map (some mb)] :: vec 45 10 v m cs :: mapr ekI evC mc (putL C call ((n : Int), true)) :: mapr ekI evU mb (putL B thread ()) :: blk w.heap.size 31 #[.int .i64 call, .int .i64 thread, .bool inv, .int .i64 kind, .int .i64 txn, .int .i64 t, .int .i64 r, .int .i64 mode, .int .i64 code] :: rs)) _ from ⟨_, _, _, hB.out⟩)
  refine hx_begin (fun W : World => ∃ v m cs, Sep W (blk p 70 #[.slice sa n sc, .map (some mc), .map (some mb)] :: vec 45 10 v m cs :: mapr ekI evC mc (putL C call ((n : Int), true)) :: mapr ekI evU mb (putL B thread ()) :: blk w.heap.size 31 #[.int .i64 call, .int .i64 thread, .bool inv, .int .i64 kind, .int .i64 txn, .int .i64 t, .int .i64 r, .int .i64 mode, .int .i64 code] :: rs)) 17 [(0, true), (1, true), (2, true), (3, true), (4, true), (5, true), (6, true), (7, true), (8, true), (9, true), (10, true), (11, true), (12, true), (13, false), (14, false), (15, true), (16, true), (17, false)] [(16, 17), (14, 17), (0, 17), (1, 17), (2, 17), (3, 17), (4, 17), (5, 17), (6, 17), (7, 17), (8, 17), (9, 17), (10, 17), (11, 17), (12, 17), (13, 17), (15, 16)] (by kernel_rfl) (by kernel_rfl) (by kernel_rfl) (by kernel_rfl) rfl (by kernel_rfl) (by kernel_rfl) (fun _ _ _ _ _ h => h) hS.out ?_
  change HX _ _ _ _ _ _ _ (World.drew _)
  generalize World.drew _ = wd at *
  refine hx_take ?v75 rfl (by kernel_rfl) ?y75 ?z75
  case y75 => intro W hW; skip; replace hW := Lib.hid hW; go_simp; try rfl
  case z75 =>
  simp only [Act.put, List.setIfInBounds_toArray, List.set_cons_succ, List.set_cons_zero, List.getElem_toArray, List.getElem_cons_zero, List.getElem_cons_succ]
  refine hx_take ?v76 rfl (by kernel_rfl) ?y76 ?z76
  case y76 => intro W hW; skip; replace hW := Lib.hid hW; go_simp; try rfl
  case z76 =>
  simp only [Act.put, List.setIfInBounds_toArray, List.set_cons_succ, List.set_cons_zero, List.getElem_toArray, List.getElem_cons_zero, List.getElem_cons_succ]
  refine hx_take ?v77 rfl (by kernel_rfl) ?y77 ?z77
  case y77 => intro W hW; skip; replace hW := Lib.hid hW; go_simp; try rfl
  case z77 =>
  simp only [Act.put, List.setIfInBounds_toArray, List.set_cons_succ, List.set_cons_zero, List.getElem_toArray, List.getElem_cons_zero, List.getElem_cons_succ]
  refine hx_take ?v78 rfl (by kernel_rfl) ?y78 ?z78
  case y78 => intro W hW; skip; replace hW := Lib.hid hW; go_simp; try rfl
  case z78 =>
  simp only [Act.put, List.setIfInBounds_toArray, List.set_cons_succ, List.set_cons_zero, List.getElem_toArray, List.getElem_cons_zero, List.getElem_cons_succ]
  refine hx_take ?v79 rfl (by kernel_rfl) ?y79 ?z79
  case y79 => intro W hW; obtain ⟨_, _, _, hW⟩ := hW; obtain ⟨_, c0, c1, c2, _⟩ := hW.b3; obtain ⟨_, e0, e1, e2, e3, e4, e5, e6, e7, e8, _⟩ := hW.to4.b9; replace hW := Lib.hid hW; go_simp; try rfl
  case z79 =>
  simp only [Act.put, List.setIfInBounds_toArray, List.set_cons_succ, List.set_cons_zero, List.getElem_toArray, List.getElem_cons_zero, List.getElem_cons_succ]
  refine hx_take ?v80 rfl (by kernel_rfl) ?y80 ?z80
  case y80 => intro W hW; skip; replace hW := Lib.hid hW; go_simp; try rfl
  case z80 =>
  simp only [Act.put, List.setIfInBounds_toArray, List.set_cons_succ, List.set_cons_zero, List.getElem_toArray, List.getElem_cons_zero, List.getElem_cons_succ]
  refine hx_take ?v81 rfl (by kernel_rfl) ?y81 ?z81
  case y81 => intro W hW; obtain ⟨_, _, _, hW⟩ := hW; obtain ⟨_, c0, c1, c2, _⟩ := hW.b3; obtain ⟨_, e0, e1, e2, e3, e4, e5, e6, e7, e8, _⟩ := hW.to4.b9; replace hW := Lib.hid hW; go_simp; try rfl
  case z81 =>
  simp only [Act.put, List.setIfInBounds_toArray, List.set_cons_succ, List.set_cons_zero, List.getElem_toArray, List.getElem_cons_zero, List.getElem_cons_succ]
  refine hx_take ?v82 rfl (by kernel_rfl) ?y82 ?z82
  case y82 => intro W hW; skip; replace hW := Lib.hid hW; go_simp; try rfl
  case z82 =>
  simp only [Act.put, List.setIfInBounds_toArray, List.set_cons_succ, List.set_cons_zero, List.getElem_toArray, List.getElem_cons_zero, List.getElem_cons_succ]
  refine hx_take ?v83 rfl (by kernel_rfl) ?y83 ?z83
  case y83 => intro W hW; obtain ⟨_, _, _, hW⟩ := hW; obtain ⟨_, c0, c1, c2, _⟩ := hW.b3; obtain ⟨_, e0, e1, e2, e3, e4, e5, e6, e7, e8, _⟩ := hW.to4.b9; replace hW := Lib.hid hW; go_simp; try rfl
  case z83 =>
  simp only [Act.put, List.setIfInBounds_toArray, List.set_cons_succ, List.set_cons_zero, List.getElem_toArray, List.getElem_cons_zero, List.getElem_cons_succ]
  refine hx_take ?v84 rfl (by kernel_rfl) ?y84 ?z84
  case y84 => intro W hW; skip; replace hW := Lib.hid hW; go_simp; try rfl
  case z84 =>
  simp only [Act.put, List.setIfInBounds_toArray, List.set_cons_succ, List.set_cons_zero, List.getElem_toArray, List.getElem_cons_zero, List.getElem_cons_succ]
  refine hx_take ?v85 rfl (by kernel_rfl) ?y85 ?z85
  case y85 => intro W hW; skip; replace hW := Lib.hid hW; go_simp; try rfl
  case z85 =>
  simp only [Act.put, List.setIfInBounds_toArray, List.set_cons_succ, List.set_cons_zero, List.getElem_toArray, List.getElem_cons_zero, List.getElem_cons_succ]
  refine hx_take ?v86 rfl (by kernel_rfl) ?y86 ?z86
  case y86 => intro W hW; obtain ⟨_, _, _, hW⟩ := hW; obtain ⟨_, c0, c1, c2, _⟩ := hW.b3; obtain ⟨_, e0, e1, e2, e3, e4, e5, e6, e7, e8, _⟩ := hW.to4.b9; replace hW := Lib.hid hW; go_simp; try rfl
  case z86 =>
  simp only [Act.put, List.setIfInBounds_toArray, List.set_cons_succ, List.set_cons_zero, List.getElem_toArray, List.getElem_cons_zero, List.getElem_cons_succ]
  refine hx_take ?v87 rfl (by kernel_rfl) ?y87 ?z87
  case y87 => intro W hW; skip; replace hW := Lib.hid hW; go_simp; try rfl
  case z87 =>
  simp only [Act.put, List.setIfInBounds_toArray, List.set_cons_succ, List.set_cons_zero, List.getElem_toArray, List.getElem_cons_zero, List.getElem_cons_succ]
  refine hx_one (by decide) rfl (by kernel_rfl) (fun K hK => ?_)
  go_simp
  replace hB := Lib.hid (hB.out.allocG (.cells #[.int .i64 call, .int .i64 thread, .int .i64 at_, .int .i64 (-1), .int .i64 kind, .int .i64 txn, .int .i64 t, .int .i64 r, .int .i64 mode, .int .i64 code] 45))
  have hsrc := Lib.hid (srcA_cells wd #[.int .i64 call, .int .i64 thread, .int .i64 at_, .int .i64 (-1), .int .i64 kind, .int .i64 txn, .int .i64 t, .int .i64 r, .int .i64 mode, .int .i64 code] 45 1 10 rfl)
  refine hK.out _ _ ⟨_, _, _, hB.out⟩ ?_
  clear hK K
  try simp only [Act.put, List.setIfInBounds_toArray, List.set_cons_succ, List.set_cons_zero, List.getElem_toArray, List.getElem_cons_zero, List.getElem_cons_succ]
  refine hx_one (by decide) rfl (by kernel_rfl) (fun K hK => ?_)
  refine wp_append_sep hB.out.to1 (.tmp 56) (.tmp 65) 36 (by rfl) i0 _ 80 Tryd.underlying36 hi0 hz0 hz1 hz2 rfl (by decide) (by rfl) 1 [.int .i64 call, .int .i64 thread, .int .i64 at_, .int .i64 (-1), .int .i64 kind, .int .i64 txn, .int .i64 t, .int .i64 r, .int .i64 mode, .int .i64 code] (by exact hsrc.out) h1c.out ?c901 ?d901 ?_
  case c901 => have := hn.out; simp only [maxLen]; omega
  case d901 => have := hn.out; omega
  intro na nc w1 q
  replace hB := Lib.hid (show Sep _ _ from q.to1)
  clear q hsrc
  refine hK.out _ _ ⟨_, _, _, hB.out⟩ ?_
  clear hK K
  try simp only [Act.put, List.setIfInBounds_toArray, List.set_cons_succ, List.set_cons_zero, List.getElem_toArray, List.getElem_cons_zero, List.getElem_cons_succ]
  refine hx_take ?v88 rfl (by kernel_rfl) ?y88 ?z88
  case y88 => intro W hW; skip; replace hW := Lib.hid hW; go_simp; try rfl
  case z88 =>
  simp only [Act.put, List.setIfInBounds_toArray, List.set_cons_succ, List.set_cons_zero, List.getElem_toArray, List.getElem_cons_zero, List.getElem_cons_succ]
  refine hx_take ?v89 rfl (by kernel_rfl) ?y89 ?z89
  case y89 => intro W hW; skip; replace hW := Lib.hid hW; go_simp; try rfl
  case z89 =>
  simp only [Act.put, List.setIfInBounds_toArray, List.set_cons_succ, List.set_cons_zero, List.getElem_toArray, List.getElem_cons_zero, List.getElem_cons_succ]
  refine hx_last rfl (by kernel_rfl) (fun K hK => ?_)
  obtain ⟨_, y0, y1, y2, f0, f1, f2⟩ := hB.out.b3
  go_simp
  replace hB := Lib.hid (hB.out.set 0 (.slice na (n + 1) nc))
  refine hK.out _ _ ?_
  clear hK K
  try simp only [Act.put, List.setIfInBounds_toArray, List.set_cons_succ, List.set_cons_zero, List.getElem_toArray, List.getElem_cons_zero, List.getElem_cons_succ]
  refine hx_done ?_
  clear hS
  go_wp2_with fail
  go_ret
  exact ⟨na, nc, rfl, hB.out.to4.tail⟩
end Go.Proofs.YtechagciefhpbaaDoor
