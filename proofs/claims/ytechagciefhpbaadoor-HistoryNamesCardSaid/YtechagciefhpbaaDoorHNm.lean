/-
  HistoryNames, walked: the events that are not as they should be. Condition: RdH.
-/
import Derived.Test.YtechagciefhpbaaDoorHTb
import Derived.Test.YtechagciefhpbaaDoorHTc
import Derived.Test.YtechagciefhpbaaDoorHlM
namespace Go.Proofs.YtechagciefhpbaaDoor
set_option linter.unusedSimpArgs false
set_option linter.unusedVariables false
set_option linter.unnecessarySimpa false
open Go.RowKit
def oddL : List Ev := [⟨-1, 0, true, ⟨1, 0, 0, 0, 0, 0⟩⟩, ⟨2, 2, true, ⟨0, 0, 0, 0, 0, 0⟩⟩, ⟨2, 2, true, ⟨1, 0, 0, 0, 0, 1⟩⟩, ⟨1, 1, false, ⟨0, 0, 0, 0, 0, 7⟩⟩, ⟨1, 1, false, ⟨0, 1, 0, 0, 0, 1⟩⟩, ⟨1, 3, true, ⟨1, 0, 0, 0, 0, 0⟩⟩, ⟨2, 1, true, ⟨1, 0, 0, 0, 0, 0⟩⟩, ⟨0, 0, false, ⟨0, 0, 0, 0, 0, 1⟩⟩, ⟨1, 0, false, ⟨0, 0, 0, 0, 0, 1⟩⟩]
def wantL : List Int := [2, 2, 2, 2, 2, 4, 7, 5, 5]
def oddC : List Value := [.int .i64 (-1), .int .i64 0, .bool true, .int .i64 1, .int .i64 0, .int .i64 0, .int .i64 0, .int .i64 0, .int .i64 0, .int .i64 2, .int .i64 2, .bool true, .int .i64 0, .int .i64 0, .int .i64 0, .int .i64 0, .int .i64 0, .int .i64 0, .int .i64 2, .int .i64 2, .bool true, .int .i64 1, .int .i64 0, .int .i64 0, .int .i64 0, .int .i64 0, .int .i64 1, .int .i64 1, .int .i64 1, .bool false, .int .i64 0, .int .i64 0, .int .i64 0, .int .i64 0, .int .i64 0, .int .i64 7, .int .i64 1, .int .i64 1, .bool false, .int .i64 0, .int .i64 1, .int .i64 0, .int .i64 0, .int .i64 0, .int .i64 1, .int .i64 1, .int .i64 3, .bool true, .int .i64 1, .int .i64 0, .int .i64 0, .int .i64 0, .int .i64 0, .int .i64 0, .int .i64 2, .int .i64 1, .bool true, .int .i64 1, .int .i64 0, .int .i64 0, .int .i64 0, .int .i64 0, .int .i64 0, .int .i64 0, .int .i64 0, .bool false, .int .i64 0, .int .i64 0, .int .i64 0, .int .i64 0, .int .i64 0, .int .i64 1, .int .i64 1, .int .i64 0, .bool false, .int .i64 0, .int .i64 0, .int .i64 0, .int .i64 0, .int .i64 0, .int .i64 1]
def wantC : List Value := [.int .i64 2, .int .i64 2, .int .i64 2, .int .i64 2, .int .i64 2, .int .i64 4, .int .i64 7, .int .i64 5, .int .i64 5]
theorem oddC_eq : oddC = oddL.flatMap Ev.cells := rfl
theorem odd_all : ((oddL.zip wantL).all fun x => decide (walkS (three ++ [x.1]) 0 [] = (threeS, 3, x.2))) = true := by decide +kernel
theorem odd_at (k : Nat) (h : k < 9) : ∃ o n, oddL[k]? = some o ∧ wantC[k]? = some (.int .i64 n) ∧ walkS (three ++ [o]) 0 [] = (threeS, 3, n) := by
  have hz : k < (oddL.zip wantL).length := by simp [oddL, wantL]; omega
  have h1 := List.all_eq_true.1 odd_all _ (List.getElem_mem hz)
  refine ⟨(oddL.zip wantL)[k].1, (oddL.zip wantL)[k].2, ?_, ?_, of_decide_eq_true h1⟩
  · rw [List.getElem_zip]; exact List.getElem?_eq_getElem _
  · rw [List.getElem_zip, show wantC = wantL.map (Value.int .i64) from rfl, List.getElem?_map, List.getElem?_eq_getElem (show k < wantL.length by simp [wantL]; omega)]
    rfl
theorem flat9 {o : Ev} {k : Nat} (h : oddL[k]? = some o) (j : Nat) (hj : j < 9) : oddC.toArray[k * 9 + j]? = (Ev.cells o)[j]? := by
  rw [List.getElem?_toArray, oddC_eq]
  exact flat_at Ev.cells 9 ev_len oddL k j o h hj
theorem src_one9 {w : World} {g : Nat} {t : TypeId} {a b c d e f x y z : Value} {rs : List Res} (h : Sep w (blk g t #[a, b, c, d, e, f, x, y, z] :: rs)) : SrcA w 9 (.slice (some ⟨g, 0, none⟩) 1 1) 1 [a, b, c, d, e, f, x, y, z] :=
  .inr ⟨_, _, rfl, rfl, fun j u hu => by rw [Addr.add_lit, Nat.zero_add, h.gblk.cell j]; simpa using hu⟩
theorem odd_check (o : Ev) (n : Int) (v : Value) (w : World) (hw : walkS (three ++ [o]) 0 [] = (threeS, 3, n)) (hv : RL w v 9 (three ++ [o]).length (ecells (three ++ [o]))) :
    Calls Tryd.prog 6 #[v] w fun r w' => r = .returned (.tuple #[.int .i64 3, .int .i64 n]) ∧ Below w.heap.size w w' := by
  have := check_any v (three ++ [o]) w hv (by show 4 ≤ 1000; decide)
  rwa [hw] at this
theorem odd_spans (o : Ev) (n : Int) (v : Value) (w : World) (hw : walkS (three ++ [o]) 0 [] = (threeS, 3, n)) (hv : RL w v 9 (three ++ [o]).length (ecells (three ++ [o]))) :
    Calls Tryd.prog 7 #[v] w fun r w' => ∃ sa sc, r = .returned (.slice sa 2 sc) ∧ Below w.heap.size w w' := by
  have := spans_any v (three ++ [o]) w hv (by show 4 ≤ 1000; decide)
  rw [hw] at this
  refine this.mono ?_
  rintro e w1 ⟨sa, sc, rfl, q⟩
  exact ⟨sa, sc, rfl, q.tail.gold⟩
theorem rl_bk {w : World} {g sz n : Nat} {t : TypeId} {cs : Array Value} {rs : List Res} (h : Sep w (blk g t cs :: rs)) (hn : cs.size = n * sz) : RL w (.slice (some ⟨g, 0, none⟩) n n) sz n cs.toList :=
  ⟨by simpa using hn, _, _, rfl, Nat.le_refl _, (fun h => by cases h), fun _ => ⟨g, 0, rfl, h.gblk.lt, fun j u hu => by
    have := h.gblk.cell j
    rw [Nat.zero_add, this]
    simpa using hu⟩⟩
def two3 : List Ev := [⟨0, 0, true, ⟨1, 4, 1, -1, 3, 0⟩⟩, ⟨0, 0, false, ⟨0, 0, 0, 0, 0, 1⟩⟩]
theorem pend3 (v : Value) (w : World) (hv : RL w v 9 three.length (ecells three)) : Calls Tryd.prog 9 #[v] w fun r w' => ∃ a c, r = .returned (.slice a 1 c) ∧ RL w' (.slice a 1 c) 1 ([1] : List Int).length (([1] : List Int).flatMap icell) ∧ Below w.heap.size w w' := by
  have := pendings_any v three w hv (by decide)
  rw [three_walk, show pendC (threeS, (0 : Int), (0 : Int)).1 = [1] by decide] at this
  refine this.mono ?_
  rintro e w1 ⟨a, c, rfl, q⟩
  exact ⟨a, c, rfl, q.vec_rl, q.tail.gold⟩
theorem comp3 (v : Value) (w : World) (hv : RL w v 9 three.length (ecells three)) : Calls Tryd.prog 11 #[v] w fun r w' => ∃ a c, r = .returned (.slice a 2 c) ∧ RL w' (.slice a 2 c) 9 two3.length (two3.flatMap Ev.cells) ∧ Below w.heap.size w w' := by
  have := complete_any v three w hv (by decide)
  rw [three_walk, show complE (threeS, (0 : Int), (0 : Int)).1 three 0 = two3 by decide] at this
  refine this.mono ?_
  rintro e w1 ⟨a, c, rfl, q⟩
  exact ⟨a, c, rfl, q.vec_rl, q.tail.gold⟩
theorem of3 (v : Value) (w : World) (hv : RL w v 9 three.length (ecells three)) : Calls Tryd.prog 12 #[v, .int .i64 0] w fun r w' => ∃ a c, r = .returned (.slice a 2 c) ∧ RL w' (.slice a 2 c) 9 two3.length (two3.flatMap Ev.cells) ∧ Below w.heap.size w w' := by
  have := of_any v three 0 w hv (by decide)
  rw [show (three.filter fun e => e.thread == 0) = two3 by decide] at this
  refine this.mono ?_
  rintro e w1 ⟨a, c, rfl, q⟩
  exact ⟨a, c, rfl, q.vec_rl, q.tail.gold⟩
theorem tx_at (e : Ev) (s : ByteArray) (hs : txE e = s) (w : World) (hR : RdH w) (ht : okI e.thread) (hc : okI e.call) (hx : okI e.act.txn) (hm0 : 0 ≤ e.act.mode) (hm6 : e.act.mode ≤ 6) (hJ : (joinE e).length ≤ 1000) :
    Calls Tryd.prog 15 #[e.val] w fun r w' => r = .returned (.string s) ∧ Below w.heap.size w w' := hs ▸ textE_any e w hR ht hc hx hm0 hm6 hJ
set_option maxHeartbeats 8000000 in
set_option maxRecDepth 100000 in
theorem names_walk (w : World) (hR : RdH w) : Calls Tryd.prog 3 #[] w fun e w' => e = .returned (.bool true) ∧ Below w.heap.size w w' := by
  replace hR := Lib.hid hR
  obtain ⟨i0, hi0, hz0, hz1, hz2⟩ := info_parts info_event
  go_enter Tryd.func3, Tryd.ntmps3
  go_wp2_with (go_at_call 4; refine (lives_any _).mono ?_; rintro e w1 ⟨rfl, q⟩; have hX := Lib.hid ((Sep.start w).below q); clear q)
  refine (three_any _).mono ?_
  rintro e w2 ⟨E, rfl, q⟩
  have hE := (q.graft hX.out).alloc oddC.toArray 31
  have hE2 := hE.alloc wantC.toArray 32
  rw [World.size_alloc] at hE2
  replace hX := Lib.hid hE2.to1
  clear q hE hE2
  go_wp2_with fail
  generalize hOD : w2.heap.size = OD at *
  generalize hWA : OD + 1 = WA at *
  go_loopw [4] (fun s wr => ∃ k : Nat, k ≤ 9 ∧ s = .int .i64 k ∧ Hid (Sep wr (blk OD 31 oddC.toArray :: blk WA 32 wantC.toArray :: vec 31 9 (.slice (some ⟨E, 0, none⟩) 3 3) 3 (ecells three) :: old w :: []))) (fun s _ => 9 - (intOf s).toNat)
  case atStart => exact ⟨0, by omega, rfl, hX⟩
  case round =>
    clear hX
    obtain ⟨k, hk, rfl, hX⟩ := hrel
    by_cases hlt : k < 9
    · obtain ⟨o_, n, ho, hwt, hwk⟩ := odd_at k hlt
      replace hwk := Lib.hid hwk
      obtain ⟨call, thread, inv, ⟨kind, txn, t, r, mode, code⟩⟩ := o_
      have i0' : (0 : Int) ≤ (k : Int) := by omega
      have i3 : (k : Int) < 9 := by omega
      have hk1 := Lib.hid (show k + 1 ≤ 9 from hlt)
      go_wp2_with fail
      obtain ⟨wd, hwd⟩ : ∃ x, World.drew wr = x := ⟨_, rfl⟩
      have hXd := Lib.hid (show Sep wd _ from hwd ▸ hX.out.drew)
      have c0 : wd.cell? ⟨OD, k * 9 + 0, none⟩ = some (.int .i64 call) := (hXd.out.gblk.cell (k * 9 + 0)).trans (flat9 ho 0 (by decide))
      have c1 : wd.cell? ⟨OD, k * 9 + 1, none⟩ = some (.int .i64 thread) := (hXd.out.gblk.cell (k * 9 + 1)).trans (flat9 ho 1 (by decide))
      have c2 : wd.cell? ⟨OD, k * 9 + 2, none⟩ = some (.bool inv) := (hXd.out.gblk.cell (k * 9 + 2)).trans (flat9 ho 2 (by decide))
      have c3 : wd.cell? ⟨OD, k * 9 + 3, none⟩ = some (.int .i64 kind) := (hXd.out.gblk.cell (k * 9 + 3)).trans (flat9 ho 3 (by decide))
      have c4 : wd.cell? ⟨OD, k * 9 + 4, none⟩ = some (.int .i64 txn) := (hXd.out.gblk.cell (k * 9 + 4)).trans (flat9 ho 4 (by decide))
      have c5 : wd.cell? ⟨OD, k * 9 + 5, none⟩ = some (.int .i64 t) := (hXd.out.gblk.cell (k * 9 + 5)).trans (flat9 ho 5 (by decide))
      have c6 : wd.cell? ⟨OD, k * 9 + 6, none⟩ = some (.int .i64 r) := (hXd.out.gblk.cell (k * 9 + 6)).trans (flat9 ho 6 (by decide))
      have c7 : wd.cell? ⟨OD, k * 9 + 7, none⟩ = some (.int .i64 mode) := (hXd.out.gblk.cell (k * 9 + 7)).trans (flat9 ho 7 (by decide))
      have c8 : wd.cell? ⟨OD, k * 9 + 8, none⟩ = some (.int .i64 code) := (hXd.out.gblk.cell (k * 9 + 8)).trans (flat9 ho 8 (by decide))
      simp only [Nat.add_zero] at c0
      have cw : wd.cell? ⟨WA, k, none⟩ = some (.int .i64 n) := by rw [hXd.out.to1.gblk.cell k, List.getElem?_toArray]; exact hwt
      have hOD : OD < wd.heap.size := hXd.out.gblk.lt
      have hWA : WA < wd.heap.size := hXd.out.to1.gblk.lt
      have hS := Lib.hid (show (fun W : World => Below wd.heap.size wd W) _ from (by rw [hwd]; exact Below.refl _ _ : Below wd.heap.size wd (World.drew wr)))
      try dsimp only [List.append]
      refine hm_begin (fun W : World => Below wd.heap.size wd W) (.take 1 :: .take 2 :: .take 3 :: .take 4 :: .two 0 5 :: .one 6 :: .one 7 :: .take 8 :: .take 9 :: .take 10 :: .take 11 :: .take 12 :: []) (([], [], 40) :: ([], [2], 41) :: ([], [4], 42) :: ([1, 2], [40, 41], 43) :: ([3], [42], 44) :: ([4], [43], 45) :: ([0, 5, 0], [39, 44], 46) :: ([6, 6], [45], 47) :: ([7], [46], 39) :: ([8], [38], 48) :: ([8], [38], 49) :: ([9, 7, 0, 1, 2, 3, 4, 5, 6, 7, 8, 9], [47], 6) :: ([10, 11, 0, 1, 2, 3, 4, 5, 6, 7, 8, 9, 10, 11], [48], 7) :: []) (by kernel_rfl) (by kernel_rfl) (by kernel_rfl) (by kernel_rfl) rfl (by intro _ _ _ _ _ h; exact h) hS.out ?_
      change HM _ _ _ _ _ _ (World.drew _)
      rw [hwd]
      refine hm_take ?v1 rfl (by kernel_rfl) ?y1 ?z1
      case y1 => intro W hW; skip; replace hW := Lib.hid hW; go_simp; try rfl
      case z1 =>
      simp only [Act.put, List.setIfInBounds_toArray, List.set_cons_succ, List.set_cons_zero, List.getElem_toArray, List.getElem_cons_zero, List.getElem_cons_succ]
      refine hm_take ?v2 rfl (by kernel_rfl) ?y2 ?z2
      case y2 => intro W hW; skip; replace hW := Lib.hid hW; go_simp; try rfl
      case z2 =>
      simp only [Act.put, List.setIfInBounds_toArray, List.set_cons_succ, List.set_cons_zero, List.getElem_toArray, List.getElem_cons_zero, List.getElem_cons_succ]
      refine hm_take ?v3 rfl (by kernel_rfl) ?y3 ?z3
      case y3 => intro W hW; skip; replace hW := Lib.hid hW; go_simp; try rfl
      case z3 =>
      simp only [Act.put, List.setIfInBounds_toArray, List.set_cons_succ, List.set_cons_zero, List.getElem_toArray, List.getElem_cons_zero, List.getElem_cons_succ]
      refine hm_take ?v4 rfl (by kernel_rfl) ?y4 ?z4
      case y4 => intro W hW; have d0 := ((show Below _ _ _ from hW).cell (p := ⟨OD, k * 9, none⟩) hOD).trans c0; have d1 := ((show Below _ _ _ from hW).cell (p := ⟨OD, k * 9 + 1, none⟩) hOD).trans c1; have d2 := ((show Below _ _ _ from hW).cell (p := ⟨OD, k * 9 + 2, none⟩) hOD).trans c2; have d3 := ((show Below _ _ _ from hW).cell (p := ⟨OD, k * 9 + 3, none⟩) hOD).trans c3; have d4 := ((show Below _ _ _ from hW).cell (p := ⟨OD, k * 9 + 4, none⟩) hOD).trans c4; have d5 := ((show Below _ _ _ from hW).cell (p := ⟨OD, k * 9 + 5, none⟩) hOD).trans c5; have d6 := ((show Below _ _ _ from hW).cell (p := ⟨OD, k * 9 + 6, none⟩) hOD).trans c6; have d7 := ((show Below _ _ _ from hW).cell (p := ⟨OD, k * 9 + 7, none⟩) hOD).trans c7; have d8 := ((show Below _ _ _ from hW).cell (p := ⟨OD, k * 9 + 8, none⟩) hOD).trans c8; replace hW := Lib.hid hW; go_simp; try rfl
      case z4 =>
      simp only [Act.put, List.setIfInBounds_toArray, List.set_cons_succ, List.set_cons_zero, List.getElem_toArray, List.getElem_cons_zero, List.getElem_cons_succ]
      refine hm_two (fun u v W => ∃ g B, u = .slice (some ⟨g, 0, none⟩) 3 3 ∧ v = .slice (some ⟨B, 0, none⟩) 1 1 ∧ Sep W (vec 31 9 (.slice (some ⟨g, 0, none⟩) 3 3) 3 (ecells three) :: blk B 31 #[.int .i64 call, .int .i64 thread, .bool inv, .int .i64 kind, .int .i64 txn, .int .i64 t, .int .i64 r, .int .i64 mode, .int .i64 code] :: old wd :: [])) rfl rfl rfl rfl (by decide) (by kernel_rfl) (by kernel_rfl) (fun _ => by kernel_rfl) (fun _ => by kernel_rfl) (fun K hK => ?_) (fun K hK => ?_) (fun u v W hV => ?_)
      · skip
        go_simp
        go_at_call 5
        refine (three_any _).mono ?_
        rintro e w3 ⟨g, rfl, q⟩
        have hY := Lib.hid (q.graft (Sep.start wd))
        clear q
        refine hK.out _ (.slice (some ⟨g, 0, none⟩) 3 3) _ (by simp only [Act.put, List.setIfInBounds_toArray, List.set_cons_succ, List.set_cons_zero, List.getElem_toArray, List.getElem_cons_zero, List.getElem_cons_succ]) hY.out.tail.gold ?_
        clear hK K
        intro K2 hK2
        try simp only [Act.put, List.setIfInBounds_toArray, List.set_cons_succ, List.set_cons_zero, List.getElem_toArray, List.getElem_cons_zero, List.getElem_cons_succ]
        go_simp
        have hZ := (hY.out.alloc #[.int .i64 call, .int .i64 thread, .bool inv, .int .i64 kind, .int .i64 txn, .int .i64 t, .int .i64 r, .int .i64 mode, .int .i64 code] 31).to1
        exact hK2.out _ (.slice (some ⟨w3.heap.size, 0, none⟩) 1 1) _ (by simp only [Act.put, List.setIfInBounds_toArray, List.set_cons_succ, List.set_cons_zero, List.getElem_toArray, List.getElem_cons_zero, List.getElem_cons_succ]) hZ.tail.tail.gold ⟨_, _, rfl, rfl, hZ⟩
      · skip
        go_simp
        have hY := Lib.hid ((Sep.start wd).alloc #[.int .i64 call, .int .i64 thread, .bool inv, .int .i64 kind, .int .i64 txn, .int .i64 t, .int .i64 r, .int .i64 mode, .int .i64 code] 31)
        refine hK.out _ (.slice (some ⟨wd.heap.size, 0, none⟩) 1 1) _ (by simp only [Act.put, List.setIfInBounds_toArray, List.set_cons_succ, List.set_cons_zero, List.getElem_toArray, List.getElem_cons_zero, List.getElem_cons_succ]) hY.out.tail.gold ?_
        clear hK K
        intro K2 hK2
        try simp only [Act.put, List.setIfInBounds_toArray, List.set_cons_succ, List.set_cons_zero, List.getElem_toArray, List.getElem_cons_zero, List.getElem_cons_succ]
        go_simp
        go_at_call 5
        refine (three_any _).mono ?_
        rintro e w3 ⟨g, rfl, q⟩
        have hZ := q.graft hY.out
        exact hK2.out _ (.slice (some ⟨g, 0, none⟩) 3 3) _ (by simp only [Act.put, List.setIfInBounds_toArray, List.set_cons_succ, List.set_cons_zero, List.getElem_toArray, List.getElem_cons_zero, List.getElem_cons_succ]) hZ.tail.tail.gold ⟨_, _, rfl, rfl, hZ⟩
      obtain ⟨g, B, rfl, rfl, hV⟩ := hV
      replace hV := Lib.hid hV
      try simp only [Act.put, List.setIfInBounds_toArray, List.set_cons_succ, List.set_cons_zero, List.getElem_toArray, List.getElem_cons_zero, List.getElem_cons_succ]
      refine hm_one rfl (by kernel_rfl) (fun K hK => ?_)
      refine wp_append_sep hV.out (.tmp 39) (.tmp 44) 23 (by rfl) i0 _ 72 Tryd.underlying23 hi0 hz0 hz1 hz2 rfl (by decide) (by rfl) 1 [.int .i64 call, .int .i64 thread, .bool inv, .int .i64 kind, .int .i64 txn, .int .i64 t, .int .i64 r, .int .i64 mode, .int .i64 code] (by exact src_one9 hV.out.to1) (by simp [Value.oneCell']) (by decide) (by decide) ?_
      intro na nc w4 q
      have hrl := Lib.hid (show RL w4 (.slice na 4 nc) 9 ((three ++ [⟨call, thread, inv, ⟨kind, txn, t, r, mode, code⟩⟩]) : List Ev).length (ecells (three ++ [⟨call, thread, inv, ⟨kind, txn, t, r, mode, code⟩⟩])) from q.vec_rl)
      have hg4 := Lib.hid q.tail.tail.gold
      clear q hV
      refine hK.out _ _ hg4.out ?_
      clear hK K
      try simp only [Act.put, List.setIfInBounds_toArray, List.set_cons_succ, List.set_cons_zero, List.getElem_toArray, List.getElem_cons_zero, List.getElem_cons_succ]
      refine hm_one rfl (by kernel_rfl) (fun K hK => ?_)
      go_simp
      go_at_call 6
      refine (odd_check _ n _ _ hwk.out hrl.out).mono ?_
      rintro e w5 ⟨rfl, q⟩
      replace hg4 := Lib.hid (hg4.out.trans (q.mono hg4.out.size))
      clear q hrl
      refine hK.out _ _ hg4.out ?_
      clear hK K
      try simp only [Act.put, List.setIfInBounds_toArray, List.set_cons_succ, List.set_cons_zero, List.getElem_toArray, List.getElem_cons_zero, List.getElem_cons_succ]
      refine hm_take ?v5 rfl (by kernel_rfl) ?y5 ?z5
      case y5 => intro W hW; skip; replace hW := Lib.hid hW; go_simp; try rfl
      case z5 =>
      simp only [Act.put, List.setIfInBounds_toArray, List.set_cons_succ, List.set_cons_zero, List.getElem_toArray, List.getElem_cons_zero, List.getElem_cons_succ]
      refine hm_take ?v6 rfl (by kernel_rfl) ?y6 ?z6
      case y6 => intro W hW; skip; replace hW := Lib.hid hW; go_simp; try rfl
      case z6 =>
      simp only [Act.put, List.setIfInBounds_toArray, List.set_cons_succ, List.set_cons_zero, List.getElem_toArray, List.getElem_cons_zero, List.getElem_cons_succ]
      refine hm_take ?v7 rfl (by kernel_rfl) ?y7 ?z7
      case y7 => intro W hW; skip; replace hW := Lib.hid hW; go_simp; try rfl
      case z7 =>
      simp only [Act.put, List.setIfInBounds_toArray, List.set_cons_succ, List.set_cons_zero, List.getElem_toArray, List.getElem_cons_zero, List.getElem_cons_succ]
      refine hm_take ?v8 rfl (by kernel_rfl) ?y8 ?z8
      case y8 => intro W hW; skip; replace hW := Lib.hid hW; go_simp; try rfl
      case z8 =>
      simp only [Act.put, List.setIfInBounds_toArray, List.set_cons_succ, List.set_cons_zero, List.getElem_toArray, List.getElem_cons_zero, List.getElem_cons_succ]
      refine hm_take ?v9 rfl (by kernel_rfl) ?y9 ?z9
      case y9 => intro W hW; skip; replace hW := Lib.hid hW; go_simp; try rfl
      case z9 =>
      simp only [Act.put, List.setIfInBounds_toArray, List.set_cons_succ, List.set_cons_zero, List.getElem_toArray, List.getElem_cons_zero, List.getElem_cons_succ]
      refine hm_done ?_
      replace hX := Lib.hid (hXd.out.below hg4.out)
      clear hg4 hXd c0 c1 c2 c3 c4 c5 c6 c7 c8 cw hOD hWA hS
      clear hwd
      go_wp2_with fail
      obtain ⟨wd, hwd⟩ : ∃ x, World.drew w5 = x := ⟨_, rfl⟩
      have hXd := Lib.hid (show Sep wd _ from hwd ▸ hX.out.drew)
      have c0 : wd.cell? ⟨OD, k * 9 + 0, none⟩ = some (.int .i64 call) := (hXd.out.gblk.cell (k * 9 + 0)).trans (flat9 ho 0 (by decide))
      have c1 : wd.cell? ⟨OD, k * 9 + 1, none⟩ = some (.int .i64 thread) := (hXd.out.gblk.cell (k * 9 + 1)).trans (flat9 ho 1 (by decide))
      have c2 : wd.cell? ⟨OD, k * 9 + 2, none⟩ = some (.bool inv) := (hXd.out.gblk.cell (k * 9 + 2)).trans (flat9 ho 2 (by decide))
      have c3 : wd.cell? ⟨OD, k * 9 + 3, none⟩ = some (.int .i64 kind) := (hXd.out.gblk.cell (k * 9 + 3)).trans (flat9 ho 3 (by decide))
      have c4 : wd.cell? ⟨OD, k * 9 + 4, none⟩ = some (.int .i64 txn) := (hXd.out.gblk.cell (k * 9 + 4)).trans (flat9 ho 4 (by decide))
      have c5 : wd.cell? ⟨OD, k * 9 + 5, none⟩ = some (.int .i64 t) := (hXd.out.gblk.cell (k * 9 + 5)).trans (flat9 ho 5 (by decide))
      have c6 : wd.cell? ⟨OD, k * 9 + 6, none⟩ = some (.int .i64 r) := (hXd.out.gblk.cell (k * 9 + 6)).trans (flat9 ho 6 (by decide))
      have c7 : wd.cell? ⟨OD, k * 9 + 7, none⟩ = some (.int .i64 mode) := (hXd.out.gblk.cell (k * 9 + 7)).trans (flat9 ho 7 (by decide))
      have c8 : wd.cell? ⟨OD, k * 9 + 8, none⟩ = some (.int .i64 code) := (hXd.out.gblk.cell (k * 9 + 8)).trans (flat9 ho 8 (by decide))
      simp only [Nat.add_zero] at c0
      have cw : wd.cell? ⟨WA, k, none⟩ = some (.int .i64 n) := by rw [hXd.out.to1.gblk.cell k, List.getElem?_toArray]; exact hwt
      have hOD : OD < wd.heap.size := hXd.out.gblk.lt
      have hWA : WA < wd.heap.size := hXd.out.to1.gblk.lt
      have hS := Lib.hid (show (fun W : World => Below wd.heap.size wd W) _ from (by rw [hwd]; exact Below.refl _ _ : Below wd.heap.size wd (World.drew w5)))
      try dsimp only [List.append]
      refine hm_begin (fun W : World => Below wd.heap.size wd W) (.take 0 :: .take 1 :: .take 2 :: .take 3 :: .take 4 :: .take 5 :: .take 6 :: .take 7 :: .take 8 :: .take 9 :: .take 10 :: .take 12 :: .take 13 :: .take 14 :: .take 15 :: .two 11 16 :: .one 17 :: .one 18 :: .take 19 :: .take 20 :: .take 21 :: []) (([], [6], 50) :: ([], [3], 51) :: ([], [4], 52) :: ([1, 2], [50, 51], 53) :: ([3], [52], 54) :: ([0, 4], [49, 53], 55) :: ([5], [54], 56) :: ([6], [5, 55], 57) :: ([7, 6], [56, 55], 58) :: ([6, 8], [55, 57], 59) :: ([9, 6], [58], 60) :: ([10, 10], [59], 61) :: ([10], [2, 59], 62) :: ([10], [4, 59], 63) :: ([12, 13, 10], [61, 62, 59], 64) :: ([14, 10], [63, 59], 65) :: ([15, 10], [64, 59], 66) :: ([11, 16, 11, 10], [60, 65, 59], 67) :: ([17, 17, 10], [66, 59], 68) :: ([18, 10], [67, 59], 69) :: ([19, 10], [68, 59], 70) :: ([10, 20], [59, 69], 71) :: []) (by kernel_rfl) (by kernel_rfl) (by kernel_rfl) (by kernel_rfl) rfl (by intro _ _ _ _ _ h; exact h) hS.out ?_
      change HM _ _ _ _ _ _ (World.drew _)
      rw [hwd]
      refine hm_take ?v10 rfl (by kernel_rfl) ?y10 ?z10
      case y10 => intro W hW; skip; replace hW := Lib.hid hW; go_simp; try rfl
      case z10 =>
      simp only [Act.put, List.setIfInBounds_toArray, List.set_cons_succ, List.set_cons_zero, List.getElem_toArray, List.getElem_cons_zero, List.getElem_cons_succ]
      refine hm_take ?v11 rfl (by kernel_rfl) ?y11 ?z11
      case y11 => intro W hW; skip; replace hW := Lib.hid hW; go_simp; try rfl
      case z11 =>
      simp only [Act.put, List.setIfInBounds_toArray, List.set_cons_succ, List.set_cons_zero, List.getElem_toArray, List.getElem_cons_zero, List.getElem_cons_succ]
      refine hm_take ?v12 rfl (by kernel_rfl) ?y12 ?z12
      case y12 => intro W hW; skip; replace hW := Lib.hid hW; go_simp; try rfl
      case z12 =>
      simp only [Act.put, List.setIfInBounds_toArray, List.set_cons_succ, List.set_cons_zero, List.getElem_toArray, List.getElem_cons_zero, List.getElem_cons_succ]
      refine hm_take ?v13 rfl (by kernel_rfl) ?y13 ?z13
      case y13 => intro W hW; skip; replace hW := Lib.hid hW; go_simp; try rfl
      case z13 =>
      simp only [Act.put, List.setIfInBounds_toArray, List.set_cons_succ, List.set_cons_zero, List.getElem_toArray, List.getElem_cons_zero, List.getElem_cons_succ]
      refine hm_take ?v14 rfl (by kernel_rfl) ?y14 ?z14
      case y14 => intro W hW; have d0 := ((show Below _ _ _ from hW).cell (p := ⟨WA, k, none⟩) hWA).trans cw; replace hW := Lib.hid hW; go_simp; try rfl
      case z14 =>
      simp only [Act.put, List.setIfInBounds_toArray, List.set_cons_succ, List.set_cons_zero, List.getElem_toArray, List.getElem_cons_zero, List.getElem_cons_succ]
      refine hm_take ?v15 rfl (by kernel_rfl) ?y15 ?z15
      case y15 => intro W hW; skip; replace hW := Lib.hid hW; go_simp; try rfl
      case z15 =>
      simp only [Act.put, List.setIfInBounds_toArray, List.set_cons_succ, List.set_cons_zero, List.getElem_toArray, List.getElem_cons_zero, List.getElem_cons_succ]
      refine hm_take ?v16 rfl (by kernel_rfl) ?y16 ?z16
      case y16 => intro W hW; skip; replace hW := Lib.hid hW; go_simp; try rfl
      case z16 =>
      simp only [Act.put, List.setIfInBounds_toArray, List.set_cons_succ, List.set_cons_zero, List.getElem_toArray, List.getElem_cons_zero, List.getElem_cons_succ]
      refine hm_take ?v17 rfl (by kernel_rfl) ?y17 ?z17
      case y17 => intro W hW; skip; replace hW := Lib.hid hW; go_simp; try rfl
      case z17 =>
      simp only [Act.put, List.setIfInBounds_toArray, List.set_cons_succ, List.set_cons_zero, List.getElem_toArray, List.getElem_cons_zero, List.getElem_cons_succ]
      refine hm_take ?v18 rfl (by kernel_rfl) ?y18 ?z18
      case y18 => intro W hW; skip; replace hW := Lib.hid hW; go_simp; try rfl
      case z18 =>
      simp only [Act.put, List.setIfInBounds_toArray, List.set_cons_succ, List.set_cons_zero, List.getElem_toArray, List.getElem_cons_zero, List.getElem_cons_succ]
      refine hm_take ?v19 rfl (by kernel_rfl) ?y19 ?z19
      case y19 => intro W hW; skip; replace hW := Lib.hid hW; go_simp; try rfl
      case z19 =>
      simp only [Act.put, List.setIfInBounds_toArray, List.set_cons_succ, List.set_cons_zero, List.getElem_toArray, List.getElem_cons_zero, List.getElem_cons_succ]
      refine hm_take ?v20 rfl (by kernel_rfl) ?y20 ?z20
      case y20 => intro W hW; skip; replace hW := Lib.hid hW; go_simp; try rfl
      case z20 =>
      simp only [Act.put, List.setIfInBounds_toArray, List.set_cons_succ, List.set_cons_zero, List.getElem_toArray, List.getElem_cons_zero, List.getElem_cons_succ]
      refine hm_take ?v21 rfl (by kernel_rfl) ?y21 ?z21
      case y21 => intro W hW; skip; replace hW := Lib.hid hW; go_simp; try rfl
      case z21 =>
      simp only [Act.put, List.setIfInBounds_toArray, List.set_cons_succ, List.set_cons_zero, List.getElem_toArray, List.getElem_cons_zero, List.getElem_cons_succ]
      refine hm_take ?v22 rfl (by kernel_rfl) ?y22 ?z22
      case y22 => intro W hW; skip; replace hW := Lib.hid hW; go_simp; try rfl
      case z22 =>
      simp only [Act.put, List.setIfInBounds_toArray, List.set_cons_succ, List.set_cons_zero, List.getElem_toArray, List.getElem_cons_zero, List.getElem_cons_succ]
      refine hm_take ?v23 rfl (by kernel_rfl) ?y23 ?z23
      case y23 => intro W hW; skip; replace hW := Lib.hid hW; go_simp; try rfl
      case z23 =>
      simp only [Act.put, List.setIfInBounds_toArray, List.set_cons_succ, List.set_cons_zero, List.getElem_toArray, List.getElem_cons_zero, List.getElem_cons_succ]
      refine hm_take ?v24 rfl (by kernel_rfl) ?y24 ?z24
      case y24 => intro W hW; have d0 := ((show Below _ _ _ from hW).cell (p := ⟨OD, k * 9, none⟩) hOD).trans c0; have d1 := ((show Below _ _ _ from hW).cell (p := ⟨OD, k * 9 + 1, none⟩) hOD).trans c1; have d2 := ((show Below _ _ _ from hW).cell (p := ⟨OD, k * 9 + 2, none⟩) hOD).trans c2; have d3 := ((show Below _ _ _ from hW).cell (p := ⟨OD, k * 9 + 3, none⟩) hOD).trans c3; have d4 := ((show Below _ _ _ from hW).cell (p := ⟨OD, k * 9 + 4, none⟩) hOD).trans c4; have d5 := ((show Below _ _ _ from hW).cell (p := ⟨OD, k * 9 + 5, none⟩) hOD).trans c5; have d6 := ((show Below _ _ _ from hW).cell (p := ⟨OD, k * 9 + 6, none⟩) hOD).trans c6; have d7 := ((show Below _ _ _ from hW).cell (p := ⟨OD, k * 9 + 7, none⟩) hOD).trans c7; have d8 := ((show Below _ _ _ from hW).cell (p := ⟨OD, k * 9 + 8, none⟩) hOD).trans c8; replace hW := Lib.hid hW; go_simp; try rfl
      case z24 =>
      simp only [Act.put, List.setIfInBounds_toArray, List.set_cons_succ, List.set_cons_zero, List.getElem_toArray, List.getElem_cons_zero, List.getElem_cons_succ]
      refine hm_two (fun u v W => ∃ g B, u = .slice (some ⟨g, 0, none⟩) 3 3 ∧ v = .slice (some ⟨B, 0, none⟩) 1 1 ∧ Sep W (vec 31 9 (.slice (some ⟨g, 0, none⟩) 3 3) 3 (ecells three) :: blk B 31 #[.int .i64 call, .int .i64 thread, .bool inv, .int .i64 kind, .int .i64 txn, .int .i64 t, .int .i64 r, .int .i64 mode, .int .i64 code] :: old wd :: [])) rfl rfl rfl rfl (by decide) (by kernel_rfl) (by kernel_rfl) (fun _ => by kernel_rfl) (fun _ => by kernel_rfl) (fun K hK => ?_) (fun K hK => ?_) (fun u v W hV => ?_)
      · skip
        go_simp
        go_at_call 5
        refine (three_any _).mono ?_
        rintro e w3 ⟨g, rfl, q⟩
        have hY := Lib.hid (q.graft (Sep.start wd))
        clear q
        refine hK.out _ (.slice (some ⟨g, 0, none⟩) 3 3) _ (by simp only [Act.put, List.setIfInBounds_toArray, List.set_cons_succ, List.set_cons_zero, List.getElem_toArray, List.getElem_cons_zero, List.getElem_cons_succ]) hY.out.tail.gold ?_
        clear hK K
        intro K2 hK2
        try simp only [Act.put, List.setIfInBounds_toArray, List.set_cons_succ, List.set_cons_zero, List.getElem_toArray, List.getElem_cons_zero, List.getElem_cons_succ]
        go_simp
        have hZ := (hY.out.alloc #[.int .i64 call, .int .i64 thread, .bool inv, .int .i64 kind, .int .i64 txn, .int .i64 t, .int .i64 r, .int .i64 mode, .int .i64 code] 31).to1
        exact hK2.out _ (.slice (some ⟨w3.heap.size, 0, none⟩) 1 1) _ (by simp only [Act.put, List.setIfInBounds_toArray, List.set_cons_succ, List.set_cons_zero, List.getElem_toArray, List.getElem_cons_zero, List.getElem_cons_succ]) hZ.tail.tail.gold ⟨_, _, rfl, rfl, hZ⟩
      · skip
        go_simp
        have hY := Lib.hid ((Sep.start wd).alloc #[.int .i64 call, .int .i64 thread, .bool inv, .int .i64 kind, .int .i64 txn, .int .i64 t, .int .i64 r, .int .i64 mode, .int .i64 code] 31)
        refine hK.out _ (.slice (some ⟨wd.heap.size, 0, none⟩) 1 1) _ (by simp only [Act.put, List.setIfInBounds_toArray, List.set_cons_succ, List.set_cons_zero, List.getElem_toArray, List.getElem_cons_zero, List.getElem_cons_succ]) hY.out.tail.gold ?_
        clear hK K
        intro K2 hK2
        try simp only [Act.put, List.setIfInBounds_toArray, List.set_cons_succ, List.set_cons_zero, List.getElem_toArray, List.getElem_cons_zero, List.getElem_cons_succ]
        go_simp
        go_at_call 5
        refine (three_any _).mono ?_
        rintro e w3 ⟨g, rfl, q⟩
        have hZ := q.graft hY.out
        exact hK2.out _ (.slice (some ⟨g, 0, none⟩) 3 3) _ (by simp only [Act.put, List.setIfInBounds_toArray, List.set_cons_succ, List.set_cons_zero, List.getElem_toArray, List.getElem_cons_zero, List.getElem_cons_succ]) hZ.tail.tail.gold ⟨_, _, rfl, rfl, hZ⟩
      obtain ⟨g, B, rfl, rfl, hV⟩ := hV
      replace hV := Lib.hid hV
      try simp only [Act.put, List.setIfInBounds_toArray, List.set_cons_succ, List.set_cons_zero, List.getElem_toArray, List.getElem_cons_zero, List.getElem_cons_succ]
      refine hm_one rfl (by kernel_rfl) (fun K hK => ?_)
      refine wp_append_sep hV.out (.tmp 60) (.tmp 65) 23 (by rfl) i0 _ 72 Tryd.underlying23 hi0 hz0 hz1 hz2 rfl (by decide) (by rfl) 1 [.int .i64 call, .int .i64 thread, .bool inv, .int .i64 kind, .int .i64 txn, .int .i64 t, .int .i64 r, .int .i64 mode, .int .i64 code] (by exact src_one9 hV.out.to1) (by simp [Value.oneCell']) (by decide) (by decide) ?_
      intro na nc w4 q
      have hrl := Lib.hid (show RL w4 (.slice na 4 nc) 9 ((three ++ [⟨call, thread, inv, ⟨kind, txn, t, r, mode, code⟩⟩]) : List Ev).length (ecells (three ++ [⟨call, thread, inv, ⟨kind, txn, t, r, mode, code⟩⟩])) from q.vec_rl)
      have hg4 := Lib.hid q.tail.tail.gold
      clear q hV
      refine hK.out _ _ hg4.out ?_
      clear hK K
      try simp only [Act.put, List.setIfInBounds_toArray, List.set_cons_succ, List.set_cons_zero, List.getElem_toArray, List.getElem_cons_zero, List.getElem_cons_succ]
      refine hm_one rfl (by kernel_rfl) (fun K hK => ?_)
      go_simp
      go_at_call 7
      refine (odd_spans _ n _ _ hwk.out hrl.out).mono ?_
      rintro e w5 ⟨sa, sc, rfl, q⟩
      replace hg4 := Lib.hid (hg4.out.trans (q.mono hg4.out.size))
      clear q hrl
      refine hK.out _ _ hg4.out ?_
      clear hK K
      try simp only [Act.put, List.setIfInBounds_toArray, List.set_cons_succ, List.set_cons_zero, List.getElem_toArray, List.getElem_cons_zero, List.getElem_cons_succ]
      refine hm_take ?v25 rfl (by kernel_rfl) ?y25 ?z25
      case y25 => intro W hW; skip; replace hW := Lib.hid hW; go_simp; try rfl
      case z25 =>
      simp only [Act.put, List.setIfInBounds_toArray, List.set_cons_succ, List.set_cons_zero, List.getElem_toArray, List.getElem_cons_zero, List.getElem_cons_succ]
      refine hm_take ?v26 rfl (by kernel_rfl) ?y26 ?z26
      case y26 => intro W hW; skip; replace hW := Lib.hid hW; go_simp; try rfl
      case z26 =>
      simp only [Act.put, List.setIfInBounds_toArray, List.set_cons_succ, List.set_cons_zero, List.getElem_toArray, List.getElem_cons_zero, List.getElem_cons_succ]
      refine hm_take ?v27 rfl (by kernel_rfl) ?y27 ?z27
      case y27 => intro W hW; skip; replace hW := Lib.hid hW; go_simp; try rfl
      case z27 =>
      simp only [Act.put, List.setIfInBounds_toArray, List.set_cons_succ, List.set_cons_zero, List.getElem_toArray, List.getElem_cons_zero, List.getElem_cons_succ]
      refine hm_done ?_
      replace hX := Lib.hid (hXd.out.below hg4.out)
      clear hg4 hXd c0 c1 c2 c3 c4 c5 c6 c7 c8 cw hOD hWA hS
      clear hwd
      go_wp2_with fail
      go_roundw
      case rel => exact ⟨k + 1, hk1.out, by go_num, hX⟩
      case measure => have := hk1.out; simp [intOf]; omega
    · obtain rfl : k = 9 := by omega
      replace hX := Lib.hid hX.out.tail.tail
      have H1 := Lib.hid (check_any _ three _ hX.out.vec_rl (by decide))
      simp only [three_walk] at H1
      replace H1 := Lib.hid H1.out
      go_wp2_with fail
      refine H1.out.mono ?_
      rintro e w6 ⟨rfl, q⟩
      replace hX := Lib.hid (hX.out.below q)
      clear q H1
      have H2 := Lib.hid (spans_any _ three _ hX.out.vec_rl (by decide))
      simp only [three_walk] at H2
      replace H2 := Lib.hid H2.out
      go_wp2_with fail
      refine H2.out.mono ?_
      rintro e w7 ⟨sa, sc, rfl, q⟩
      simp only [show threeS.length = 2 from rfl] at q ⊢
      obtain ⟨G, rfl⟩ : ∃ g, sa = some ⟨g, 0, none⟩ := by
        rcases q.gvec.2 with ⟨_, h1⟩ | ⟨g, cap, cur, hv, _⟩
        · exact absurd h1 (by decide)
        · injection hv with e1 _ _
          exact ⟨g, e1⟩
      replace hX := Lib.hid (q.graft hX.out)
      clear q H2
      go_wp2_with fail
      obtain ⟨wd, hwd⟩ : ∃ x, World.drew w7 = x := ⟨_, rfl⟩
      have hXd := Lib.hid (show Sep wd _ from hwd ▸ hX.out.drew)
      have HE0 : Hid (∀ W, Below wd.heap.size wd W → W.cell? ⟨E, 0, none⟩ = some (.int .i64 0) ∧ W.cell? ⟨E, 1, none⟩ = some (.int .i64 0) ∧ W.cell? ⟨E, 2, none⟩ = some (.bool true) ∧ W.cell? ⟨E, 3, none⟩ = some (.int .i64 1) ∧ W.cell? ⟨E, 4, none⟩ = some (.int .i64 4) ∧ W.cell? ⟨E, 5, none⟩ = some (.int .i64 1) ∧ W.cell? ⟨E, 6, none⟩ = some (.int .i64 (-1)) ∧ W.cell? ⟨E, 7, none⟩ = some (.int .i64 3) ∧ W.cell? ⟨E, 8, none⟩ = some (.int .i64 0)) := Lib.hid (fun W hb => ⟨((show Below _ _ _ from hb).cell (p := ⟨E, 0, none⟩) (hXd.out.to1.vec_cell (k := 0) (u := .int .i64 0) rfl).2.2).trans (hXd.out.to1.vec_cell (k := 0) (u := .int .i64 0) rfl).1, ((show Below _ _ _ from hb).cell (p := ⟨E, 1, none⟩) (hXd.out.to1.vec_cell (k := 1) (u := .int .i64 0) rfl).2.2).trans (hXd.out.to1.vec_cell (k := 1) (u := .int .i64 0) rfl).1, ((show Below _ _ _ from hb).cell (p := ⟨E, 2, none⟩) (hXd.out.to1.vec_cell (k := 2) (u := .bool true) rfl).2.2).trans (hXd.out.to1.vec_cell (k := 2) (u := .bool true) rfl).1, ((show Below _ _ _ from hb).cell (p := ⟨E, 3, none⟩) (hXd.out.to1.vec_cell (k := 3) (u := .int .i64 1) rfl).2.2).trans (hXd.out.to1.vec_cell (k := 3) (u := .int .i64 1) rfl).1, ((show Below _ _ _ from hb).cell (p := ⟨E, 4, none⟩) (hXd.out.to1.vec_cell (k := 4) (u := .int .i64 4) rfl).2.2).trans (hXd.out.to1.vec_cell (k := 4) (u := .int .i64 4) rfl).1, ((show Below _ _ _ from hb).cell (p := ⟨E, 5, none⟩) (hXd.out.to1.vec_cell (k := 5) (u := .int .i64 1) rfl).2.2).trans (hXd.out.to1.vec_cell (k := 5) (u := .int .i64 1) rfl).1, ((show Below _ _ _ from hb).cell (p := ⟨E, 6, none⟩) (hXd.out.to1.vec_cell (k := 6) (u := .int .i64 (-1)) rfl).2.2).trans (hXd.out.to1.vec_cell (k := 6) (u := .int .i64 (-1)) rfl).1, ((show Below _ _ _ from hb).cell (p := ⟨E, 7, none⟩) (hXd.out.to1.vec_cell (k := 7) (u := .int .i64 3) rfl).2.2).trans (hXd.out.to1.vec_cell (k := 7) (u := .int .i64 3) rfl).1, ((show Below _ _ _ from hb).cell (p := ⟨E, 8, none⟩) (hXd.out.to1.vec_cell (k := 8) (u := .int .i64 0) rfl).2.2).trans (hXd.out.to1.vec_cell (k := 8) (u := .int .i64 0) rfl).1⟩)
      have HE2 : Hid (∀ W, Below wd.heap.size wd W → W.cell? ⟨E, 18, none⟩ = some (.int .i64 0) ∧ W.cell? ⟨E, 19, none⟩ = some (.int .i64 0) ∧ W.cell? ⟨E, 20, none⟩ = some (.bool false) ∧ W.cell? ⟨E, 21, none⟩ = some (.int .i64 0) ∧ W.cell? ⟨E, 22, none⟩ = some (.int .i64 0) ∧ W.cell? ⟨E, 23, none⟩ = some (.int .i64 0) ∧ W.cell? ⟨E, 24, none⟩ = some (.int .i64 0) ∧ W.cell? ⟨E, 25, none⟩ = some (.int .i64 0) ∧ W.cell? ⟨E, 26, none⟩ = some (.int .i64 1)) := Lib.hid (fun W hb => ⟨((show Below _ _ _ from hb).cell (p := ⟨E, 18, none⟩) (hXd.out.to1.vec_cell (k := 18) (u := .int .i64 0) rfl).2.2).trans (hXd.out.to1.vec_cell (k := 18) (u := .int .i64 0) rfl).1, ((show Below _ _ _ from hb).cell (p := ⟨E, 19, none⟩) (hXd.out.to1.vec_cell (k := 19) (u := .int .i64 0) rfl).2.2).trans (hXd.out.to1.vec_cell (k := 19) (u := .int .i64 0) rfl).1, ((show Below _ _ _ from hb).cell (p := ⟨E, 20, none⟩) (hXd.out.to1.vec_cell (k := 20) (u := .bool false) rfl).2.2).trans (hXd.out.to1.vec_cell (k := 20) (u := .bool false) rfl).1, ((show Below _ _ _ from hb).cell (p := ⟨E, 21, none⟩) (hXd.out.to1.vec_cell (k := 21) (u := .int .i64 0) rfl).2.2).trans (hXd.out.to1.vec_cell (k := 21) (u := .int .i64 0) rfl).1, ((show Below _ _ _ from hb).cell (p := ⟨E, 22, none⟩) (hXd.out.to1.vec_cell (k := 22) (u := .int .i64 0) rfl).2.2).trans (hXd.out.to1.vec_cell (k := 22) (u := .int .i64 0) rfl).1, ((show Below _ _ _ from hb).cell (p := ⟨E, 23, none⟩) (hXd.out.to1.vec_cell (k := 23) (u := .int .i64 0) rfl).2.2).trans (hXd.out.to1.vec_cell (k := 23) (u := .int .i64 0) rfl).1, ((show Below _ _ _ from hb).cell (p := ⟨E, 24, none⟩) (hXd.out.to1.vec_cell (k := 24) (u := .int .i64 0) rfl).2.2).trans (hXd.out.to1.vec_cell (k := 24) (u := .int .i64 0) rfl).1, ((show Below _ _ _ from hb).cell (p := ⟨E, 25, none⟩) (hXd.out.to1.vec_cell (k := 25) (u := .int .i64 0) rfl).2.2).trans (hXd.out.to1.vec_cell (k := 25) (u := .int .i64 0) rfl).1, ((show Below _ _ _ from hb).cell (p := ⟨E, 26, none⟩) (hXd.out.to1.vec_cell (k := 26) (u := .int .i64 1) rfl).2.2).trans (hXd.out.to1.vec_cell (k := 26) (u := .int .i64 1) rfl).1⟩)
      have HS0 : Hid (∀ W, Below wd.heap.size wd W → W.cell? ⟨G, 0, none⟩ = some (.int .i64 0) ∧ W.cell? ⟨G, 1, none⟩ = some (.int .i64 0) ∧ W.cell? ⟨G, 2, none⟩ = some (.int .i64 0) ∧ W.cell? ⟨G, 3, none⟩ = some (.int .i64 2) ∧ W.cell? ⟨G, 4, none⟩ = some (.int .i64 1) ∧ W.cell? ⟨G, 5, none⟩ = some (.int .i64 4) ∧ W.cell? ⟨G, 6, none⟩ = some (.int .i64 1) ∧ W.cell? ⟨G, 7, none⟩ = some (.int .i64 (-1)) ∧ W.cell? ⟨G, 8, none⟩ = some (.int .i64 3) ∧ W.cell? ⟨G, 9, none⟩ = some (.int .i64 1)) := Lib.hid (fun W hb => ⟨((show Below _ _ _ from hb).cell (p := ⟨G, 0, none⟩) (hXd.out.vec_cell (k := 0) (u := .int .i64 0) rfl).2.2).trans (hXd.out.vec_cell (k := 0) (u := .int .i64 0) rfl).1, ((show Below _ _ _ from hb).cell (p := ⟨G, 1, none⟩) (hXd.out.vec_cell (k := 1) (u := .int .i64 0) rfl).2.2).trans (hXd.out.vec_cell (k := 1) (u := .int .i64 0) rfl).1, ((show Below _ _ _ from hb).cell (p := ⟨G, 2, none⟩) (hXd.out.vec_cell (k := 2) (u := .int .i64 0) rfl).2.2).trans (hXd.out.vec_cell (k := 2) (u := .int .i64 0) rfl).1, ((show Below _ _ _ from hb).cell (p := ⟨G, 3, none⟩) (hXd.out.vec_cell (k := 3) (u := .int .i64 2) rfl).2.2).trans (hXd.out.vec_cell (k := 3) (u := .int .i64 2) rfl).1, ((show Below _ _ _ from hb).cell (p := ⟨G, 4, none⟩) (hXd.out.vec_cell (k := 4) (u := .int .i64 1) rfl).2.2).trans (hXd.out.vec_cell (k := 4) (u := .int .i64 1) rfl).1, ((show Below _ _ _ from hb).cell (p := ⟨G, 5, none⟩) (hXd.out.vec_cell (k := 5) (u := .int .i64 4) rfl).2.2).trans (hXd.out.vec_cell (k := 5) (u := .int .i64 4) rfl).1, ((show Below _ _ _ from hb).cell (p := ⟨G, 6, none⟩) (hXd.out.vec_cell (k := 6) (u := .int .i64 1) rfl).2.2).trans (hXd.out.vec_cell (k := 6) (u := .int .i64 1) rfl).1, ((show Below _ _ _ from hb).cell (p := ⟨G, 7, none⟩) (hXd.out.vec_cell (k := 7) (u := .int .i64 (-1)) rfl).2.2).trans (hXd.out.vec_cell (k := 7) (u := .int .i64 (-1)) rfl).1, ((show Below _ _ _ from hb).cell (p := ⟨G, 8, none⟩) (hXd.out.vec_cell (k := 8) (u := .int .i64 3) rfl).2.2).trans (hXd.out.vec_cell (k := 8) (u := .int .i64 3) rfl).1, ((show Below _ _ _ from hb).cell (p := ⟨G, 9, none⟩) (hXd.out.vec_cell (k := 9) (u := .int .i64 1) rfl).2.2).trans (hXd.out.vec_cell (k := 9) (u := .int .i64 1) rfl).1⟩)
      have HS1 : Hid (∀ W, Below wd.heap.size wd W → W.cell? ⟨G, 10, none⟩ = some (.int .i64 1) ∧ W.cell? ⟨G, 11, none⟩ = some (.int .i64 1) ∧ W.cell? ⟨G, 12, none⟩ = some (.int .i64 1) ∧ W.cell? ⟨G, 13, none⟩ = some (.int .i64 (-1)) ∧ W.cell? ⟨G, 14, none⟩ = some (.int .i64 2) ∧ W.cell? ⟨G, 15, none⟩ = some (.int .i64 0) ∧ W.cell? ⟨G, 16, none⟩ = some (.int .i64 1) ∧ W.cell? ⟨G, 17, none⟩ = some (.int .i64 (-1)) ∧ W.cell? ⟨G, 18, none⟩ = some (.int .i64 0) ∧ W.cell? ⟨G, 19, none⟩ = some (.int .i64 0)) := Lib.hid (fun W hb => ⟨((show Below _ _ _ from hb).cell (p := ⟨G, 10, none⟩) (hXd.out.vec_cell (k := 10) (u := .int .i64 1) rfl).2.2).trans (hXd.out.vec_cell (k := 10) (u := .int .i64 1) rfl).1, ((show Below _ _ _ from hb).cell (p := ⟨G, 11, none⟩) (hXd.out.vec_cell (k := 11) (u := .int .i64 1) rfl).2.2).trans (hXd.out.vec_cell (k := 11) (u := .int .i64 1) rfl).1, ((show Below _ _ _ from hb).cell (p := ⟨G, 12, none⟩) (hXd.out.vec_cell (k := 12) (u := .int .i64 1) rfl).2.2).trans (hXd.out.vec_cell (k := 12) (u := .int .i64 1) rfl).1, ((show Below _ _ _ from hb).cell (p := ⟨G, 13, none⟩) (hXd.out.vec_cell (k := 13) (u := .int .i64 (-1)) rfl).2.2).trans (hXd.out.vec_cell (k := 13) (u := .int .i64 (-1)) rfl).1, ((show Below _ _ _ from hb).cell (p := ⟨G, 14, none⟩) (hXd.out.vec_cell (k := 14) (u := .int .i64 2) rfl).2.2).trans (hXd.out.vec_cell (k := 14) (u := .int .i64 2) rfl).1, ((show Below _ _ _ from hb).cell (p := ⟨G, 15, none⟩) (hXd.out.vec_cell (k := 15) (u := .int .i64 0) rfl).2.2).trans (hXd.out.vec_cell (k := 15) (u := .int .i64 0) rfl).1, ((show Below _ _ _ from hb).cell (p := ⟨G, 16, none⟩) (hXd.out.vec_cell (k := 16) (u := .int .i64 1) rfl).2.2).trans (hXd.out.vec_cell (k := 16) (u := .int .i64 1) rfl).1, ((show Below _ _ _ from hb).cell (p := ⟨G, 17, none⟩) (hXd.out.vec_cell (k := 17) (u := .int .i64 (-1)) rfl).2.2).trans (hXd.out.vec_cell (k := 17) (u := .int .i64 (-1)) rfl).1, ((show Below _ _ _ from hb).cell (p := ⟨G, 18, none⟩) (hXd.out.vec_cell (k := 18) (u := .int .i64 0) rfl).2.2).trans (hXd.out.vec_cell (k := 18) (u := .int .i64 0) rfl).1, ((show Below _ _ _ from hb).cell (p := ⟨G, 19, none⟩) (hXd.out.vec_cell (k := 19) (u := .int .i64 0) rfl).2.2).trans (hXd.out.vec_cell (k := 19) (u := .int .i64 0) rfl).1⟩)
      have HRL3 := Lib.hid (fun W (hb : Below wd.heap.size wd W) => (show RL wd (.slice (some ⟨E, 0, none⟩) 3 3) 9 three.length (ecells three) from hXd.out.to1.vec_rl).below hb)
      have HRS := Lib.hid (fun W (hb : Below wd.heap.size wd W) => (show RL wd (.slice (some ⟨G, 0, none⟩) 2 sc) 10 threeS.length (scells threeS) from hXd.out.vec_rl).below hb)
      have hRd := Lib.hid (hR.out.below hXd.out.tail.tail.gold)
      have hgd := Lib.hid hXd.out.tail.tail.gold
      have hB := Lib.hid (Below.refl wd.heap.size wd)
      clear hXd hX
      have hS := Lib.hid (show (fun W : World => Below wd.heap.size wd W) _ from (by rw [hwd]; exact Below.refl _ _ : Below wd.heap.size wd (World.drew w7)))
      try dsimp only [List.append]
      refine hm_begin (fun W : World => Below wd.heap.size wd W) (.take 0 :: .take 1 :: .take 2 :: .take 3 :: .two 4 5 :: .one 6 :: .take 7 :: .take 8 :: .take 9 :: .take 11 :: .take 12 :: .take 13 :: .take 14 :: .take 15 :: .take 16 :: .two 10 17 :: .one 18 :: .take 19 :: .take 20 :: .take 21 :: .take 23 :: .take 24 :: .take 25 :: .take 26 :: .take 27 :: .take 28 :: .two 22 29 :: .one 30 :: .take 31 :: .take 32 :: .take 33 :: .take 34 :: .take 35 :: .take 36 :: .take 37 :: .take 38 :: .take 39 :: .take 40 :: .take 41 :: .take 42 :: .take 43 :: .take 44 :: .take 45 :: .take 46 :: .take 47 :: .take 48 :: .take 49 :: .take 50 :: .take 51 :: .take 52 :: .take 53 :: .take 54 :: .one 55 :: .take 56 :: .take 57 :: .take 58 :: .take 59 :: .take 60 :: .take 61 :: .take 62 :: .one 63 :: .take 64 :: .take 65 :: .take 66 :: .one 67 :: .one 68 :: .take 69 :: .take 70 :: .take 71 :: .one 72 :: .one 73 :: .take 74 :: .take 75 :: .take 76 :: .take 77 :: .one 78 :: .one 79 :: .take 80 :: .take 81 :: .take 82 :: .take 83 :: .take 84 :: .take 85 :: .one 86 :: .take 87 :: .take 88 :: .take 89 :: .take 90 :: .take 91 :: .take 92 :: .one 93 :: .take 94 :: .take 95 :: .take 96 :: .take 97 :: .take 98 :: .one 99 :: .take 100 :: .take 101 :: .take 102 :: .one 103 :: .take 104 :: .take 105 :: .one 106 :: .take 107 :: .take 108 :: .take 109 :: []) (([], [8], 79) :: ([0], [78], 80) :: ([1], [79], 81) :: ([2], [1, 80], 82) :: ([3, 2, 2], [81, 80], 83) :: ([2], [80], 84) :: ([4, 5, 4, 2], [82, 83, 80], 85) :: ([2, 6], [80, 84], 86) :: ([7, 6], [85], 87) :: ([8], [1, 86], 88) :: ([9, 8, 8], [87, 86], 89) :: ([8], [1, 86], 90) :: ([11, 8], [89, 86], 91) :: ([12, 8], [90, 86], 92) :: ([8], [1, 86], 93) :: ([14, 8], [92, 86], 94) :: ([15, 8], [93, 86], 95) :: ([13, 16, 8], [91, 94, 86], 96) :: ([10, 17, 10, 8], [88, 95, 86], 97) :: ([8, 18], [86, 96], 98) :: ([19, 18], [97], 99) :: ([20], [1, 98], 100) :: ([21, 20, 20], [99, 98], 101) :: ([20], [1, 98], 102) :: ([23, 20], [101, 98], 103) :: ([24, 20], [102, 98], 104) :: ([20], [1, 98], 105) :: ([26, 20], [104, 98], 106) :: ([27, 20], [105, 98], 107) :: ([25, 28, 20], [103, 106, 98], 108) :: ([22, 29, 22, 20], [100, 107, 98], 109) :: ([20, 30], [98, 108], 110) :: ([31, 30], [109], 111) :: ([32], [9, 110], 112) :: ([33, 32], [111, 110], 113) :: ([34, 32], [112, 110], 114) :: ([35, 32], [113, 110], 115) :: ([36, 32], [114, 110], 116) :: ([37, 32], [115, 110], 117) :: ([32, 38], [110, 116], 118) :: ([39, 32], [117], 119) :: ([40], [9, 118], 120) :: ([41, 40], [119, 118], 121) :: ([42, 40], [120, 118], 122) :: ([43, 40], [121, 118], 123) :: ([44, 40], [122, 118], 124) :: ([45, 40], [123, 118], 125) :: ([40, 46], [118, 124], 126) :: ([47, 40], [125], 127) :: ([48], [9, 126], 128) :: ([49, 48], [127, 126], 129) :: ([50, 48], [128, 126], 130) :: ([48], [9, 126], 131) :: ([52, 48], [130, 126], 132) :: ([53, 48], [131, 126], 133) :: ([51, 54, 48, 48], [129, 132, 126], 134) :: ([55, 48], [133, 126], 135) :: ([48, 56], [126, 134], 136) :: ([57, 55], [135], 137) :: ([58], [9, 136], 138) :: ([59, 58], [137, 136], 139) :: ([60, 58], [138, 136], 140) :: ([58], [136], 141) :: ([61, 62, 58, 58], [139, 140, 136], 142) :: ([58, 63], [136, 141], 143) :: ([64, 63], [142], 144) :: ([65], [9, 143], 145) :: ([65], [143], 146) :: ([66, 67, 65, 65], [144, 145, 143], 147) :: ([65, 68], [143, 146], 148) :: ([69, 68], [147], 149) :: ([70], [9, 148], 150) :: ([70], [148], 151) :: ([71, 72, 70, 70], [149, 150, 148], 152) :: ([73, 70], [151, 148], 153) :: ([70, 74], [148, 152], 154) :: ([75, 73], [153], 155) :: ([76], [9, 154], 156) :: ([76], [154], 157) :: ([77, 78, 76, 76], [155, 156, 154], 158) :: ([79, 76], [157, 154], 159) :: ([76, 80], [154, 158], 160) :: ([81, 79], [159], 161) :: ([82], [1, 160], 162) :: ([83, 82], [161, 160], 163) :: ([84, 82], [162, 160], 164) :: ([85, 82, 82], [163, 160], 165) :: ([86, 82], [164, 160], 166) :: ([82, 87], [160, 165], 167) :: ([88, 86], [166], 168) :: ([89], [1, 167], 169) :: ([90, 89], [168, 167], 170) :: ([91, 89], [169, 167], 171) :: ([92, 89, 89], [170, 167], 172) :: ([93, 89], [171, 167], 173) :: ([89, 94], [167, 172], 174) :: ([95, 93], [173], 175) :: ([96], [174], 176) :: ([97, 96], [175, 174], 177) :: ([98, 96, 96], [176, 174], 178) :: ([99, 96], [177, 174], 179) :: ([96, 100], [174, 178], 180) :: ([101, 99], [179], 181) :: ([102, 102], [180], 182) :: ([103, 102], [181, 180], 183) :: ([104, 102], [182, 180], 184) :: ([105, 103, 102], [183, 180], 185) :: ([106, 102], [184, 180], 186) :: ([102, 107], [180, 185], 187) :: ([108, 106, 0, 1, 2, 3, 4, 5, 6, 7, 8, 9, 10, 11, 12, 13, 14, 15, 16, 17, 18, 19, 20, 21, 22, 23, 24, 25, 26, 27, 28, 29, 30, 31, 32, 33, 34, 35, 36, 37, 38, 39, 40, 41, 42, 43, 44, 45, 46, 47, 48, 49, 50, 51, 52, 53, 54, 55, 56, 57, 58, 59, 60, 61, 62, 63, 64, 65, 66, 67, 68, 69, 70, 71, 72, 73, 74, 75, 76, 77, 78, 79, 80, 81, 82, 83, 84, 85, 86, 87, 88, 89, 90, 91, 92, 93, 94, 95, 96, 97, 98, 99, 100, 101, 102, 103, 104, 105, 106, 107, 108], [186], 1) :: []) (by kernel_rfl) (by kernel_rfl) (by kernel_rfl) (by kernel_rfl) rfl (by intro _ _ _ _ _ h; exact h) hS.out ?_
      change HM _ _ _ _ _ _ (World.drew _)
      rw [hwd]
      refine hm_take ?v28 rfl (by kernel_rfl) ?y28 ?z28
      case y28 => intro W hW; skip; replace hW := Lib.hid hW; go_simp; try rfl
      case z28 =>
      simp only [Act.put, List.setIfInBounds_toArray, List.set_cons_succ, List.set_cons_zero, List.getElem_toArray, List.getElem_cons_zero, List.getElem_cons_succ]
      refine hm_take ?v29 rfl (by kernel_rfl) ?y29 ?z29
      case y29 => intro W hW; skip; replace hW := Lib.hid hW; go_simp; try rfl
      case z29 =>
      simp only [Act.put, List.setIfInBounds_toArray, List.set_cons_succ, List.set_cons_zero, List.getElem_toArray, List.getElem_cons_zero, List.getElem_cons_succ]
      refine hm_take ?v30 rfl (by kernel_rfl) ?y30 ?z30
      case y30 => intro W hW; skip; replace hW := Lib.hid hW; go_simp; try rfl
      case z30 =>
      simp only [Act.put, List.setIfInBounds_toArray, List.set_cons_succ, List.set_cons_zero, List.getElem_toArray, List.getElem_cons_zero, List.getElem_cons_succ]
      refine hm_take ?v31 rfl (by kernel_rfl) ?y31 ?z31
      case y31 => intro W hW; skip; replace hW := Lib.hid hW; go_simp; try rfl
      case z31 =>
      simp only [Act.put, List.setIfInBounds_toArray, List.set_cons_succ, List.set_cons_zero, List.getElem_toArray, List.getElem_cons_zero, List.getElem_cons_succ]
      refine hm_two (fun u v W => RL W u 1 ([1] : List Int).length (([1] : List Int).flatMap icell) ∧ RL W v 1 ([1] : List Int).length (([1] : List Int).flatMap icell) ∧ Below wd.heap.size wd W) rfl rfl rfl rfl (by decide) (by kernel_rfl) (by kernel_rfl) (fun _ => by kernel_rfl) (fun _ => by kernel_rfl) (fun K hK => ?_) (fun K hK => ?_) (fun u v W hV => ?_)
      · skip
        go_simp
        go_at_call 9
        refine (pend3 _ _ (HRL3.out _ hB.out)).mono ?_
        rintro e w8 ⟨a8, c8, rfl, r8, q⟩
        have hB8 := Lib.hid (hB.out.trans (q.mono hB.out.size))
        replace r8 := Lib.hid r8
        clear q
        refine hK.out _ (.slice a8 1 c8) _ (by simp only [Act.put, List.setIfInBounds_toArray, List.set_cons_succ, List.set_cons_zero, List.getElem_toArray, List.getElem_cons_zero, List.getElem_cons_succ]) hB8.out ?_
        clear hK K
        intro K2 hK2
        try simp only [Act.put, List.setIfInBounds_toArray, List.set_cons_succ, List.set_cons_zero, List.getElem_toArray, List.getElem_cons_zero, List.getElem_cons_succ]
        go_simp
        have hZ := (Sep.start w8).alloc #[.int .i64 1] 3
        have hb9 := hB8.out.trans (hZ.tail.gold.mono hB8.out.size)
        exact hK2.out _ (.slice (some ⟨w8.heap.size, 0, none⟩) 1 1) _ (by simp only [Act.put, List.setIfInBounds_toArray, List.set_cons_succ, List.set_cons_zero, List.getElem_toArray, List.getElem_cons_zero, List.getElem_cons_succ]) hb9 ⟨r8.out.below hZ.tail.gold, rl_bk hZ rfl, hb9⟩
      · skip
        go_simp
        have hZ := Lib.hid ((Sep.start wd).alloc #[.int .i64 1] 3)
        have hB8 := Lib.hid (hB.out.trans (hZ.out.tail.gold.mono hB.out.size))
        refine hK.out _ (.slice (some ⟨wd.heap.size, 0, none⟩) 1 1) _ (by simp only [Act.put, List.setIfInBounds_toArray, List.set_cons_succ, List.set_cons_zero, List.getElem_toArray, List.getElem_cons_zero, List.getElem_cons_succ]) hB8.out ?_
        clear hK K
        intro K2 hK2
        try simp only [Act.put, List.setIfInBounds_toArray, List.set_cons_succ, List.set_cons_zero, List.getElem_toArray, List.getElem_cons_zero, List.getElem_cons_succ]
        go_simp
        go_at_call 9
        refine (pend3 _ _ (HRL3.out _ hB8.out)).mono ?_
        rintro e w8 ⟨a8, c8, rfl, r8, q⟩
        have hb9 := hB8.out.trans (q.mono hB8.out.size)
        exact hK2.out _ (.slice a8 1 c8) _ (by simp only [Act.put, List.setIfInBounds_toArray, List.set_cons_succ, List.set_cons_zero, List.getElem_toArray, List.getElem_cons_zero, List.getElem_cons_succ]) hb9 ⟨r8, (rl_bk hZ.out rfl).below q, hb9⟩
      obtain ⟨r1, r2, hB2⟩ := hV
      replace r1 := Lib.hid r1
      replace r2 := Lib.hid r2
      replace hB := Lib.hid hB2
      clear hB2
      try simp only [Act.put, List.setIfInBounds_toArray, List.set_cons_succ, List.set_cons_zero, List.getElem_toArray, List.getElem_cons_zero, List.getElem_cons_succ]
      refine hm_one rfl (by kernel_rfl) (fun K hK => ?_)
      go_simp
      go_at_call 8
      refine (same_int _ _ _ _ r1.out r2.out (by decide)).mono ?_
      rintro e _ ⟨rfl, m, rfl⟩
      clear r1 r2
      replace hB := Lib.hid (below_drewN' hB.out m)
      generalize World.drewN _ m = W10 at *
      refine hK.out _ _ hB.out ?_
      clear hK K
      try simp only [Act.put, List.setIfInBounds_toArray, List.set_cons_succ, List.set_cons_zero, List.getElem_toArray, List.getElem_cons_zero, List.getElem_cons_succ]
      refine hm_take ?v32 rfl (by kernel_rfl) ?y32 ?z32
      case y32 => intro W hW; skip; replace hW := Lib.hid hW; go_simp; try rfl
      case z32 =>
      simp only [Act.put, List.setIfInBounds_toArray, List.set_cons_succ, List.set_cons_zero, List.getElem_toArray, List.getElem_cons_zero, List.getElem_cons_succ]
      refine hm_take ?v33 rfl (by kernel_rfl) ?y33 ?z33
      case y33 => intro W hW; skip; replace hW := Lib.hid hW; go_simp; try rfl
      case z33 =>
      simp only [Act.put, List.setIfInBounds_toArray, List.set_cons_succ, List.set_cons_zero, List.getElem_toArray, List.getElem_cons_zero, List.getElem_cons_succ]
      refine hm_take ?v34 rfl (by kernel_rfl) ?y34 ?z34
      case y34 => intro W hW; skip; replace hW := Lib.hid hW; go_simp; try rfl
      case z34 =>
      simp only [Act.put, List.setIfInBounds_toArray, List.set_cons_succ, List.set_cons_zero, List.getElem_toArray, List.getElem_cons_zero, List.getElem_cons_succ]
      refine hm_take ?v35 rfl (by kernel_rfl) ?y35 ?z35
      case y35 => intro W hW; skip; replace hW := Lib.hid hW; go_simp; try rfl
      case z35 =>
      simp only [Act.put, List.setIfInBounds_toArray, List.set_cons_succ, List.set_cons_zero, List.getElem_toArray, List.getElem_cons_zero, List.getElem_cons_succ]
      refine hm_take ?v36 rfl (by kernel_rfl) ?y36 ?z36
      case y36 => intro W hW; skip; replace hW := Lib.hid hW; go_simp; try rfl
      case z36 =>
      simp only [Act.put, List.setIfInBounds_toArray, List.set_cons_succ, List.set_cons_zero, List.getElem_toArray, List.getElem_cons_zero, List.getElem_cons_succ]
      refine hm_take ?v37 rfl (by kernel_rfl) ?y37 ?z37
      case y37 => intro W hW; obtain ⟨d0, d1, d2, d3, d4, d5, d6, d7, d8⟩ := HE0.out _ (show Below _ _ _ from hW); replace hW := Lib.hid hW; go_simp; try rfl
      case z37 =>
      simp only [Act.put, List.setIfInBounds_toArray, List.set_cons_succ, List.set_cons_zero, List.getElem_toArray, List.getElem_cons_zero, List.getElem_cons_succ]
      refine hm_take ?v38 rfl (by kernel_rfl) ?y38 ?z38
      case y38 => intro W hW; skip; replace hW := Lib.hid hW; go_simp; try rfl
      case z38 =>
      simp only [Act.put, List.setIfInBounds_toArray, List.set_cons_succ, List.set_cons_zero, List.getElem_toArray, List.getElem_cons_zero, List.getElem_cons_succ]
      refine hm_take ?v39 rfl (by kernel_rfl) ?y39 ?z39
      case y39 => intro W hW; skip; replace hW := Lib.hid hW; go_simp; try rfl
      case z39 =>
      simp only [Act.put, List.setIfInBounds_toArray, List.set_cons_succ, List.set_cons_zero, List.getElem_toArray, List.getElem_cons_zero, List.getElem_cons_succ]
      refine hm_take ?v40 rfl (by kernel_rfl) ?y40 ?z40
      case y40 => intro W hW; obtain ⟨d0, d1, d2, d3, d4, d5, d6, d7, d8⟩ := HE2.out _ (show Below _ _ _ from hW); replace hW := Lib.hid hW; go_simp; try rfl
      case z40 =>
      simp only [Act.put, List.setIfInBounds_toArray, List.set_cons_succ, List.set_cons_zero, List.getElem_toArray, List.getElem_cons_zero, List.getElem_cons_succ]
      refine hm_two (fun u v W => RL W u 9 two3.length (two3.flatMap Ev.cells) ∧ RL W v 9 two3.length (two3.flatMap Ev.cells) ∧ Below wd.heap.size wd W) rfl rfl rfl rfl (by decide) (by kernel_rfl) (by kernel_rfl) (fun _ => by kernel_rfl) (fun _ => by kernel_rfl) (fun K hK => ?_) (fun K hK => ?_) (fun u v W hV => ?_)
      · skip
        go_simp
        go_at_call 11
        refine (comp3 _ _ (HRL3.out _ hB.out)).mono ?_
        rintro e w8 ⟨a8, c8, rfl, r8, q⟩
        have hB8 := Lib.hid (hB.out.trans (q.mono hB.out.size))
        replace r8 := Lib.hid r8
        clear q
        refine hK.out _ (.slice a8 2 c8) _ (by simp only [Act.put, List.setIfInBounds_toArray, List.set_cons_succ, List.set_cons_zero, List.getElem_toArray, List.getElem_cons_zero, List.getElem_cons_succ]) hB8.out ?_
        clear hK K
        intro K2 hK2
        try simp only [Act.put, List.setIfInBounds_toArray, List.set_cons_succ, List.set_cons_zero, List.getElem_toArray, List.getElem_cons_zero, List.getElem_cons_succ]
        go_simp
        have hZ := (Sep.start w8).alloc #[.int .i64 0, .int .i64 0, .bool true, .int .i64 1, .int .i64 4, .int .i64 1, .int .i64 (-1), .int .i64 3, .int .i64 0, .int .i64 0, .int .i64 0, .bool false, .int .i64 0, .int .i64 0, .int .i64 0, .int .i64 0, .int .i64 0, .int .i64 1] 31
        have hb9 := hB8.out.trans (hZ.tail.gold.mono hB8.out.size)
        exact hK2.out _ (.slice (some ⟨w8.heap.size, 0, none⟩) 2 2) _ (by simp only [Act.put, List.setIfInBounds_toArray, List.set_cons_succ, List.set_cons_zero, List.getElem_toArray, List.getElem_cons_zero, List.getElem_cons_succ]) hb9 ⟨r8.out.below hZ.tail.gold, rl_bk hZ rfl, hb9⟩
      · skip
        go_simp
        have hZ := Lib.hid ((Sep.start W10).alloc #[.int .i64 0, .int .i64 0, .bool true, .int .i64 1, .int .i64 4, .int .i64 1, .int .i64 (-1), .int .i64 3, .int .i64 0, .int .i64 0, .int .i64 0, .bool false, .int .i64 0, .int .i64 0, .int .i64 0, .int .i64 0, .int .i64 0, .int .i64 1] 31)
        have hB8 := Lib.hid (hB.out.trans (hZ.out.tail.gold.mono hB.out.size))
        refine hK.out _ (.slice (some ⟨W10.heap.size, 0, none⟩) 2 2) _ (by simp only [Act.put, List.setIfInBounds_toArray, List.set_cons_succ, List.set_cons_zero, List.getElem_toArray, List.getElem_cons_zero, List.getElem_cons_succ]) hB8.out ?_
        clear hK K
        intro K2 hK2
        try simp only [Act.put, List.setIfInBounds_toArray, List.set_cons_succ, List.set_cons_zero, List.getElem_toArray, List.getElem_cons_zero, List.getElem_cons_succ]
        go_simp
        go_at_call 11
        refine (comp3 _ _ (HRL3.out _ hB8.out)).mono ?_
        rintro e w8 ⟨a8, c8, rfl, r8, q⟩
        have hb9 := hB8.out.trans (q.mono hB8.out.size)
        exact hK2.out _ (.slice a8 2 c8) _ (by simp only [Act.put, List.setIfInBounds_toArray, List.set_cons_succ, List.set_cons_zero, List.getElem_toArray, List.getElem_cons_zero, List.getElem_cons_succ]) hb9 ⟨r8, (rl_bk hZ.out rfl).below q, hb9⟩
      obtain ⟨r1, r2, hB2⟩ := hV
      replace r1 := Lib.hid r1
      replace r2 := Lib.hid r2
      replace hB := Lib.hid hB2
      clear hB2
      try simp only [Act.put, List.setIfInBounds_toArray, List.set_cons_succ, List.set_cons_zero, List.getElem_toArray, List.getElem_cons_zero, List.getElem_cons_succ]
      refine hm_one rfl (by kernel_rfl) (fun K hK => ?_)
      go_simp
      go_at_call 10
      refine (same_ev _ _ _ _ r1.out r2.out (by decide)).mono ?_
      rintro e _ ⟨rfl, m, rfl⟩
      clear r1 r2
      replace hB := Lib.hid (below_drewN' hB.out m)
      generalize World.drewN _ m = W22 at *
      refine hK.out _ _ hB.out ?_
      clear hK K
      try simp only [Act.put, List.setIfInBounds_toArray, List.set_cons_succ, List.set_cons_zero, List.getElem_toArray, List.getElem_cons_zero, List.getElem_cons_succ]
      refine hm_take ?v41 rfl (by kernel_rfl) ?y41 ?z41
      case y41 => intro W hW; skip; replace hW := Lib.hid hW; go_simp; try rfl
      case z41 =>
      simp only [Act.put, List.setIfInBounds_toArray, List.set_cons_succ, List.set_cons_zero, List.getElem_toArray, List.getElem_cons_zero, List.getElem_cons_succ]
      refine hm_take ?v42 rfl (by kernel_rfl) ?y42 ?z42
      case y42 => intro W hW; skip; replace hW := Lib.hid hW; go_simp; try rfl
      case z42 =>
      simp only [Act.put, List.setIfInBounds_toArray, List.set_cons_succ, List.set_cons_zero, List.getElem_toArray, List.getElem_cons_zero, List.getElem_cons_succ]
      refine hm_take ?v43 rfl (by kernel_rfl) ?y43 ?z43
      case y43 => intro W hW; skip; replace hW := Lib.hid hW; go_simp; try rfl
      case z43 =>
      simp only [Act.put, List.setIfInBounds_toArray, List.set_cons_succ, List.set_cons_zero, List.getElem_toArray, List.getElem_cons_zero, List.getElem_cons_succ]
      refine hm_take ?v44 rfl (by kernel_rfl) ?y44 ?z44
      case y44 => intro W hW; skip; replace hW := Lib.hid hW; go_simp; try rfl
      case z44 =>
      simp only [Act.put, List.setIfInBounds_toArray, List.set_cons_succ, List.set_cons_zero, List.getElem_toArray, List.getElem_cons_zero, List.getElem_cons_succ]
      refine hm_take ?v45 rfl (by kernel_rfl) ?y45 ?z45
      case y45 => intro W hW; skip; replace hW := Lib.hid hW; go_simp; try rfl
      case z45 =>
      simp only [Act.put, List.setIfInBounds_toArray, List.set_cons_succ, List.set_cons_zero, List.getElem_toArray, List.getElem_cons_zero, List.getElem_cons_succ]
      refine hm_take ?v46 rfl (by kernel_rfl) ?y46 ?z46
      case y46 => intro W hW; obtain ⟨d0, d1, d2, d3, d4, d5, d6, d7, d8⟩ := HE0.out _ (show Below _ _ _ from hW); replace hW := Lib.hid hW; go_simp; try rfl
      case z46 =>
      simp only [Act.put, List.setIfInBounds_toArray, List.set_cons_succ, List.set_cons_zero, List.getElem_toArray, List.getElem_cons_zero, List.getElem_cons_succ]
      refine hm_take ?v47 rfl (by kernel_rfl) ?y47 ?z47
      case y47 => intro W hW; skip; replace hW := Lib.hid hW; go_simp; try rfl
      case z47 =>
      simp only [Act.put, List.setIfInBounds_toArray, List.set_cons_succ, List.set_cons_zero, List.getElem_toArray, List.getElem_cons_zero, List.getElem_cons_succ]
      refine hm_take ?v48 rfl (by kernel_rfl) ?y48 ?z48
      case y48 => intro W hW; skip; replace hW := Lib.hid hW; go_simp; try rfl
      case z48 =>
      simp only [Act.put, List.setIfInBounds_toArray, List.set_cons_succ, List.set_cons_zero, List.getElem_toArray, List.getElem_cons_zero, List.getElem_cons_succ]
      refine hm_take ?v49 rfl (by kernel_rfl) ?y49 ?z49
      case y49 => intro W hW; obtain ⟨d0, d1, d2, d3, d4, d5, d6, d7, d8⟩ := HE2.out _ (show Below _ _ _ from hW); replace hW := Lib.hid hW; go_simp; try rfl
      case z49 =>
      simp only [Act.put, List.setIfInBounds_toArray, List.set_cons_succ, List.set_cons_zero, List.getElem_toArray, List.getElem_cons_zero, List.getElem_cons_succ]
      refine hm_two (fun u v W => RL W u 9 two3.length (two3.flatMap Ev.cells) ∧ RL W v 9 two3.length (two3.flatMap Ev.cells) ∧ Below wd.heap.size wd W) rfl rfl rfl rfl (by decide) (by kernel_rfl) (by kernel_rfl) (fun _ => by kernel_rfl) (fun _ => by kernel_rfl) (fun K hK => ?_) (fun K hK => ?_) (fun u v W hV => ?_)
      · skip
        go_simp
        go_at_call 12
        refine (of3 _ _ (HRL3.out _ hB.out)).mono ?_
        rintro e w8 ⟨a8, c8, rfl, r8, q⟩
        have hB8 := Lib.hid (hB.out.trans (q.mono hB.out.size))
        replace r8 := Lib.hid r8
        clear q
        refine hK.out _ (.slice a8 2 c8) _ (by simp only [Act.put, List.setIfInBounds_toArray, List.set_cons_succ, List.set_cons_zero, List.getElem_toArray, List.getElem_cons_zero, List.getElem_cons_succ]) hB8.out ?_
        clear hK K
        intro K2 hK2
        try simp only [Act.put, List.setIfInBounds_toArray, List.set_cons_succ, List.set_cons_zero, List.getElem_toArray, List.getElem_cons_zero, List.getElem_cons_succ]
        go_simp
        have hZ := (Sep.start w8).alloc #[.int .i64 0, .int .i64 0, .bool true, .int .i64 1, .int .i64 4, .int .i64 1, .int .i64 (-1), .int .i64 3, .int .i64 0, .int .i64 0, .int .i64 0, .bool false, .int .i64 0, .int .i64 0, .int .i64 0, .int .i64 0, .int .i64 0, .int .i64 1] 31
        have hb9 := hB8.out.trans (hZ.tail.gold.mono hB8.out.size)
        exact hK2.out _ (.slice (some ⟨w8.heap.size, 0, none⟩) 2 2) _ (by simp only [Act.put, List.setIfInBounds_toArray, List.set_cons_succ, List.set_cons_zero, List.getElem_toArray, List.getElem_cons_zero, List.getElem_cons_succ]) hb9 ⟨r8.out.below hZ.tail.gold, rl_bk hZ rfl, hb9⟩
      · skip
        go_simp
        have hZ := Lib.hid ((Sep.start W22).alloc #[.int .i64 0, .int .i64 0, .bool true, .int .i64 1, .int .i64 4, .int .i64 1, .int .i64 (-1), .int .i64 3, .int .i64 0, .int .i64 0, .int .i64 0, .bool false, .int .i64 0, .int .i64 0, .int .i64 0, .int .i64 0, .int .i64 0, .int .i64 1] 31)
        have hB8 := Lib.hid (hB.out.trans (hZ.out.tail.gold.mono hB.out.size))
        refine hK.out _ (.slice (some ⟨W22.heap.size, 0, none⟩) 2 2) _ (by simp only [Act.put, List.setIfInBounds_toArray, List.set_cons_succ, List.set_cons_zero, List.getElem_toArray, List.getElem_cons_zero, List.getElem_cons_succ]) hB8.out ?_
        clear hK K
        intro K2 hK2
        try simp only [Act.put, List.setIfInBounds_toArray, List.set_cons_succ, List.set_cons_zero, List.getElem_toArray, List.getElem_cons_zero, List.getElem_cons_succ]
        go_simp
        go_at_call 12
        refine (of3 _ _ (HRL3.out _ hB8.out)).mono ?_
        rintro e w8 ⟨a8, c8, rfl, r8, q⟩
        have hb9 := hB8.out.trans (q.mono hB8.out.size)
        exact hK2.out _ (.slice a8 2 c8) _ (by simp only [Act.put, List.setIfInBounds_toArray, List.set_cons_succ, List.set_cons_zero, List.getElem_toArray, List.getElem_cons_zero, List.getElem_cons_succ]) hb9 ⟨r8, (rl_bk hZ.out rfl).below q, hb9⟩
      obtain ⟨r1, r2, hB2⟩ := hV
      replace r1 := Lib.hid r1
      replace r2 := Lib.hid r2
      replace hB := Lib.hid hB2
      clear hB2
      try simp only [Act.put, List.setIfInBounds_toArray, List.set_cons_succ, List.set_cons_zero, List.getElem_toArray, List.getElem_cons_zero, List.getElem_cons_succ]
      refine hm_one rfl (by kernel_rfl) (fun K hK => ?_)
      go_simp
      go_at_call 10
      refine (same_ev _ _ _ _ r1.out r2.out (by decide)).mono ?_
      rintro e _ ⟨rfl, m, rfl⟩
      clear r1 r2
      replace hB := Lib.hid (below_drewN' hB.out m)
      generalize World.drewN _ m = W31 at *
      refine hK.out _ _ hB.out ?_
      clear hK K
      try simp only [Act.put, List.setIfInBounds_toArray, List.set_cons_succ, List.set_cons_zero, List.getElem_toArray, List.getElem_cons_zero, List.getElem_cons_succ]
      refine hm_take ?v50 rfl (by kernel_rfl) ?y50 ?z50
      case y50 => intro W hW; skip; replace hW := Lib.hid hW; go_simp; try rfl
      case z50 =>
      simp only [Act.put, List.setIfInBounds_toArray, List.set_cons_succ, List.set_cons_zero, List.getElem_toArray, List.getElem_cons_zero, List.getElem_cons_succ]
      refine hm_take ?v51 rfl (by kernel_rfl) ?y51 ?z51
      case y51 => intro W hW; skip; replace hW := Lib.hid hW; go_simp; try rfl
      case z51 =>
      simp only [Act.put, List.setIfInBounds_toArray, List.set_cons_succ, List.set_cons_zero, List.getElem_toArray, List.getElem_cons_zero, List.getElem_cons_succ]
      refine hm_take ?v52 rfl (by kernel_rfl) ?y52 ?z52
      case y52 => intro W hW; skip; replace hW := Lib.hid hW; go_simp; try rfl
      case z52 =>
      simp only [Act.put, List.setIfInBounds_toArray, List.set_cons_succ, List.set_cons_zero, List.getElem_toArray, List.getElem_cons_zero, List.getElem_cons_succ]
      refine hm_take ?v53 rfl (by kernel_rfl) ?y53 ?z53
      case y53 => intro W hW; skip; replace hW := Lib.hid hW; go_simp; try rfl
      case z53 =>
      simp only [Act.put, List.setIfInBounds_toArray, List.set_cons_succ, List.set_cons_zero, List.getElem_toArray, List.getElem_cons_zero, List.getElem_cons_succ]
      refine hm_take ?v54 rfl (by kernel_rfl) ?y54 ?z54
      case y54 => intro W hW; skip; replace hW := Lib.hid hW; go_simp; try rfl
      case z54 =>
      simp only [Act.put, List.setIfInBounds_toArray, List.set_cons_succ, List.set_cons_zero, List.getElem_toArray, List.getElem_cons_zero, List.getElem_cons_succ]
      refine hm_take ?v55 rfl (by kernel_rfl) ?y55 ?z55
      case y55 => intro W hW; skip; replace hW := Lib.hid hW; go_simp; try rfl
      case z55 =>
      simp only [Act.put, List.setIfInBounds_toArray, List.set_cons_succ, List.set_cons_zero, List.getElem_toArray, List.getElem_cons_zero, List.getElem_cons_succ]
      refine hm_take ?v56 rfl (by kernel_rfl) ?y56 ?z56
      case y56 => intro W hW; obtain ⟨d0, d1, d2, d3, d4, d5, d6, d7, d8, d9⟩ := HS0.out _ (show Below _ _ _ from hW); replace hW := Lib.hid hW; go_simp; try rfl
      case z56 =>
      simp only [Act.put, List.setIfInBounds_toArray, List.set_cons_succ, List.set_cons_zero, List.getElem_toArray, List.getElem_cons_zero, List.getElem_cons_succ]
      refine hm_take ?v57 rfl (by kernel_rfl) ?y57 ?z57
      case y57 => intro W hW; skip; replace hW := Lib.hid hW; go_simp; try rfl
      case z57 =>
      simp only [Act.put, List.setIfInBounds_toArray, List.set_cons_succ, List.set_cons_zero, List.getElem_toArray, List.getElem_cons_zero, List.getElem_cons_succ]
      refine hm_take ?v58 rfl (by kernel_rfl) ?y58 ?z58
      case y58 => intro W hW; skip; replace hW := Lib.hid hW; go_simp; try rfl
      case z58 =>
      simp only [Act.put, List.setIfInBounds_toArray, List.set_cons_succ, List.set_cons_zero, List.getElem_toArray, List.getElem_cons_zero, List.getElem_cons_succ]
      refine hm_take ?v59 rfl (by kernel_rfl) ?y59 ?z59
      case y59 => intro W hW; skip; replace hW := Lib.hid hW; go_simp; try rfl
      case z59 =>
      simp only [Act.put, List.setIfInBounds_toArray, List.set_cons_succ, List.set_cons_zero, List.getElem_toArray, List.getElem_cons_zero, List.getElem_cons_succ]
      refine hm_take ?v60 rfl (by kernel_rfl) ?y60 ?z60
      case y60 => intro W hW; skip; replace hW := Lib.hid hW; go_simp; try rfl
      case z60 =>
      simp only [Act.put, List.setIfInBounds_toArray, List.set_cons_succ, List.set_cons_zero, List.getElem_toArray, List.getElem_cons_zero, List.getElem_cons_succ]
      refine hm_take ?v61 rfl (by kernel_rfl) ?y61 ?z61
      case y61 => intro W hW; skip; replace hW := Lib.hid hW; go_simp; try rfl
      case z61 =>
      simp only [Act.put, List.setIfInBounds_toArray, List.set_cons_succ, List.set_cons_zero, List.getElem_toArray, List.getElem_cons_zero, List.getElem_cons_succ]
      refine hm_take ?v62 rfl (by kernel_rfl) ?y62 ?z62
      case y62 => intro W hW; skip; replace hW := Lib.hid hW; go_simp; try rfl
      case z62 =>
      simp only [Act.put, List.setIfInBounds_toArray, List.set_cons_succ, List.set_cons_zero, List.getElem_toArray, List.getElem_cons_zero, List.getElem_cons_succ]
      refine hm_take ?v63 rfl (by kernel_rfl) ?y63 ?z63
      case y63 => intro W hW; skip; replace hW := Lib.hid hW; go_simp; try rfl
      case z63 =>
      simp only [Act.put, List.setIfInBounds_toArray, List.set_cons_succ, List.set_cons_zero, List.getElem_toArray, List.getElem_cons_zero, List.getElem_cons_succ]
      refine hm_take ?v64 rfl (by kernel_rfl) ?y64 ?z64
      case y64 => intro W hW; obtain ⟨d0, d1, d2, d3, d4, d5, d6, d7, d8, d9⟩ := HS0.out _ (show Below _ _ _ from hW); replace hW := Lib.hid hW; go_simp; try rfl
      case z64 =>
      simp only [Act.put, List.setIfInBounds_toArray, List.set_cons_succ, List.set_cons_zero, List.getElem_toArray, List.getElem_cons_zero, List.getElem_cons_succ]
      refine hm_take ?v65 rfl (by kernel_rfl) ?y65 ?z65
      case y65 => intro W hW; skip; replace hW := Lib.hid hW; go_simp; try rfl
      case z65 =>
      simp only [Act.put, List.setIfInBounds_toArray, List.set_cons_succ, List.set_cons_zero, List.getElem_toArray, List.getElem_cons_zero, List.getElem_cons_succ]
      refine hm_take ?v66 rfl (by kernel_rfl) ?y66 ?z66
      case y66 => intro W hW; skip; replace hW := Lib.hid hW; go_simp; try rfl
      case z66 =>
      simp only [Act.put, List.setIfInBounds_toArray, List.set_cons_succ, List.set_cons_zero, List.getElem_toArray, List.getElem_cons_zero, List.getElem_cons_succ]
      refine hm_take ?v67 rfl (by kernel_rfl) ?y67 ?z67
      case y67 => intro W hW; skip; replace hW := Lib.hid hW; go_simp; try rfl
      case z67 =>
      simp only [Act.put, List.setIfInBounds_toArray, List.set_cons_succ, List.set_cons_zero, List.getElem_toArray, List.getElem_cons_zero, List.getElem_cons_succ]
      refine hm_take ?v68 rfl (by kernel_rfl) ?y68 ?z68
      case y68 => intro W hW; skip; replace hW := Lib.hid hW; go_simp; try rfl
      case z68 =>
      simp only [Act.put, List.setIfInBounds_toArray, List.set_cons_succ, List.set_cons_zero, List.getElem_toArray, List.getElem_cons_zero, List.getElem_cons_succ]
      refine hm_take ?v69 rfl (by kernel_rfl) ?y69 ?z69
      case y69 => intro W hW; skip; replace hW := Lib.hid hW; go_simp; try rfl
      case z69 =>
      simp only [Act.put, List.setIfInBounds_toArray, List.set_cons_succ, List.set_cons_zero, List.getElem_toArray, List.getElem_cons_zero, List.getElem_cons_succ]
      refine hm_take ?v70 rfl (by kernel_rfl) ?y70 ?z70
      case y70 => intro W hW; obtain ⟨d0, d1, d2, d3, d4, d5, d6, d7, d8, d9⟩ := HS0.out _ (show Below _ _ _ from hW); replace hW := Lib.hid hW; go_simp; try rfl
      case z70 =>
      simp only [Act.put, List.setIfInBounds_toArray, List.set_cons_succ, List.set_cons_zero, List.getElem_toArray, List.getElem_cons_zero, List.getElem_cons_succ]
      refine hm_take ?v71 rfl (by kernel_rfl) ?y71 ?z71
      case y71 => intro W hW; skip; replace hW := Lib.hid hW; go_simp; try rfl
      case z71 =>
      simp only [Act.put, List.setIfInBounds_toArray, List.set_cons_succ, List.set_cons_zero, List.getElem_toArray, List.getElem_cons_zero, List.getElem_cons_succ]
      refine hm_take ?v72 rfl (by kernel_rfl) ?y72 ?z72
      case y72 => intro W hW; skip; replace hW := Lib.hid hW; go_simp; try rfl
      case z72 =>
      simp only [Act.put, List.setIfInBounds_toArray, List.set_cons_succ, List.set_cons_zero, List.getElem_toArray, List.getElem_cons_zero, List.getElem_cons_succ]
      refine hm_take ?v73 rfl (by kernel_rfl) ?y73 ?z73
      case y73 => intro W hW; obtain ⟨d0, d1, d2, d3, d4, d5, d6, d7, d8, d9⟩ := HS1.out _ (show Below _ _ _ from hW); replace hW := Lib.hid hW; go_simp; try rfl
      case z73 =>
      simp only [Act.put, List.setIfInBounds_toArray, List.set_cons_succ, List.set_cons_zero, List.getElem_toArray, List.getElem_cons_zero, List.getElem_cons_succ]
      refine hm_one rfl (by kernel_rfl) (fun K hK => ?_)
      go_simp
      go_at_call 13
      have hq := before_any ⟨0, 0, 0, 2, ⟨1, 4, 1, -1, 3, 1⟩⟩ ⟨1, 1, 1, -1, ⟨2, 0, 1, -1, 0, 0⟩⟩
      rw [show befB ⟨0, 0, 0, 2, ⟨1, 4, 1, -1, 3, 1⟩⟩ ⟨1, 1, 1, -1, ⟨2, 0, 1, -1, 0, 0⟩⟩ = false by decide] at hq
      refine (hq _).mono ?_
      clear hq
      rintro e w55 ⟨rfl, q⟩
      replace hB := Lib.hid (hB.out.trans (q.mono hB.out.size))
      clear q
      refine hK.out _ _ hB.out ?_
      clear hK K
      try simp only [Act.put, List.setIfInBounds_toArray, List.set_cons_succ, List.set_cons_zero, List.getElem_toArray, List.getElem_cons_zero, List.getElem_cons_succ]
      refine hm_take ?v74 rfl (by kernel_rfl) ?y74 ?z74
      case y74 => intro W hW; skip; replace hW := Lib.hid hW; go_simp; try rfl
      case z74 =>
      simp only [Act.put, List.setIfInBounds_toArray, List.set_cons_succ, List.set_cons_zero, List.getElem_toArray, List.getElem_cons_zero, List.getElem_cons_succ]
      refine hm_take ?v75 rfl (by kernel_rfl) ?y75 ?z75
      case y75 => intro W hW; skip; replace hW := Lib.hid hW; go_simp; try rfl
      case z75 =>
      simp only [Act.put, List.setIfInBounds_toArray, List.set_cons_succ, List.set_cons_zero, List.getElem_toArray, List.getElem_cons_zero, List.getElem_cons_succ]
      refine hm_take ?v76 rfl (by kernel_rfl) ?y76 ?z76
      case y76 => intro W hW; skip; replace hW := Lib.hid hW; go_simp; try rfl
      case z76 =>
      simp only [Act.put, List.setIfInBounds_toArray, List.set_cons_succ, List.set_cons_zero, List.getElem_toArray, List.getElem_cons_zero, List.getElem_cons_succ]
      refine hm_take ?v77 rfl (by kernel_rfl) ?y77 ?z77
      case y77 => intro W hW; skip; replace hW := Lib.hid hW; go_simp; try rfl
      case z77 =>
      simp only [Act.put, List.setIfInBounds_toArray, List.set_cons_succ, List.set_cons_zero, List.getElem_toArray, List.getElem_cons_zero, List.getElem_cons_succ]
      refine hm_take ?v78 rfl (by kernel_rfl) ?y78 ?z78
      case y78 => intro W hW; skip; replace hW := Lib.hid hW; go_simp; try rfl
      case z78 =>
      simp only [Act.put, List.setIfInBounds_toArray, List.set_cons_succ, List.set_cons_zero, List.getElem_toArray, List.getElem_cons_zero, List.getElem_cons_succ]
      refine hm_take ?v79 rfl (by kernel_rfl) ?y79 ?z79
      case y79 => intro W hW; obtain ⟨d0, d1, d2, d3, d4, d5, d6, d7, d8, d9⟩ := HS0.out _ (show Below _ _ _ from hW); replace hW := Lib.hid hW; go_simp; try rfl
      case z79 =>
      simp only [Act.put, List.setIfInBounds_toArray, List.set_cons_succ, List.set_cons_zero, List.getElem_toArray, List.getElem_cons_zero, List.getElem_cons_succ]
      refine hm_take ?v80 rfl (by kernel_rfl) ?y80 ?z80
      case y80 => intro W hW; skip; replace hW := Lib.hid hW; go_simp; try rfl
      case z80 =>
      simp only [Act.put, List.setIfInBounds_toArray, List.set_cons_succ, List.set_cons_zero, List.getElem_toArray, List.getElem_cons_zero, List.getElem_cons_succ]
      refine hm_one rfl (by kernel_rfl) (fun K hK => ?_)
      go_simp
      go_at_call 13
      have hq := before_any ⟨0, 0, 0, 2, ⟨1, 4, 1, -1, 3, 1⟩⟩ ⟨0, 0, 3, 0, ⟨0, 0, 0, 0, 0, 0⟩⟩
      rw [show befB ⟨0, 0, 0, 2, ⟨1, 4, 1, -1, 3, 1⟩⟩ ⟨0, 0, 3, 0, ⟨0, 0, 0, 0, 0, 0⟩⟩ = true by decide] at hq
      refine (hq _).mono ?_
      clear hq
      rintro e w63 ⟨rfl, q⟩
      replace hB := Lib.hid (hB.out.trans (q.mono hB.out.size))
      clear q
      refine hK.out _ _ hB.out ?_
      clear hK K
      try simp only [Act.put, List.setIfInBounds_toArray, List.set_cons_succ, List.set_cons_zero, List.getElem_toArray, List.getElem_cons_zero, List.getElem_cons_succ]
      refine hm_take ?v81 rfl (by kernel_rfl) ?y81 ?z81
      case y81 => intro W hW; skip; replace hW := Lib.hid hW; go_simp; try rfl
      case z81 =>
      simp only [Act.put, List.setIfInBounds_toArray, List.set_cons_succ, List.set_cons_zero, List.getElem_toArray, List.getElem_cons_zero, List.getElem_cons_succ]
      refine hm_take ?v82 rfl (by kernel_rfl) ?y82 ?z82
      case y82 => intro W hW; skip; replace hW := Lib.hid hW; go_simp; try rfl
      case z82 =>
      simp only [Act.put, List.setIfInBounds_toArray, List.set_cons_succ, List.set_cons_zero, List.getElem_toArray, List.getElem_cons_zero, List.getElem_cons_succ]
      refine hm_take ?v83 rfl (by kernel_rfl) ?y83 ?z83
      case y83 => intro W hW; skip; replace hW := Lib.hid hW; go_simp; try rfl
      case z83 =>
      simp only [Act.put, List.setIfInBounds_toArray, List.set_cons_succ, List.set_cons_zero, List.getElem_toArray, List.getElem_cons_zero, List.getElem_cons_succ]
      refine hm_one rfl (by kernel_rfl) (fun K hK => ?_)
      go_simp
      have hZ := Lib.hid ((Sep.start w63).alloc #[.int .i64 1, .int .i64 0] 3)
      have hB8 := Lib.hid (hB.out.trans (hZ.out.tail.gold.mono hB.out.size))
      have r1 := Lib.hid (rl_bk (sz := 1) (n := 2) hZ.out rfl)
      clear hB
      have hB := hB8
      clear hB8 hZ
      refine hK.out _ _ hB.out ?_
      clear hK K
      try simp only [Act.put, List.setIfInBounds_toArray, List.set_cons_succ, List.set_cons_zero, List.getElem_toArray, List.getElem_cons_zero, List.getElem_cons_succ]
      refine hm_one rfl (by kernel_rfl) (fun K hK => ?_)
      go_simp
      go_at_call 14
      have hq := respects_any _ _ threeS [1, 0] _ (HRS.out _ hB.out) r1.out (by decide) (by decide)
      rw [show respB threeS [1, 0] = true by decide] at hq
      refine hq.mono ?_
      clear hq r1
      rintro e w68 ⟨rfl, q⟩
      replace hB := Lib.hid (hB.out.trans (q.mono hB.out.size))
      clear q
      refine hK.out _ _ hB.out ?_
      clear hK K
      try simp only [Act.put, List.setIfInBounds_toArray, List.set_cons_succ, List.set_cons_zero, List.getElem_toArray, List.getElem_cons_zero, List.getElem_cons_succ]
      refine hm_take ?v84 rfl (by kernel_rfl) ?y84 ?z84
      case y84 => intro W hW; skip; replace hW := Lib.hid hW; go_simp; try rfl
      case z84 =>
      simp only [Act.put, List.setIfInBounds_toArray, List.set_cons_succ, List.set_cons_zero, List.getElem_toArray, List.getElem_cons_zero, List.getElem_cons_succ]
      refine hm_take ?v85 rfl (by kernel_rfl) ?y85 ?z85
      case y85 => intro W hW; skip; replace hW := Lib.hid hW; go_simp; try rfl
      case z85 =>
      simp only [Act.put, List.setIfInBounds_toArray, List.set_cons_succ, List.set_cons_zero, List.getElem_toArray, List.getElem_cons_zero, List.getElem_cons_succ]
      refine hm_take ?v86 rfl (by kernel_rfl) ?y86 ?z86
      case y86 => intro W hW; skip; replace hW := Lib.hid hW; go_simp; try rfl
      case z86 =>
      simp only [Act.put, List.setIfInBounds_toArray, List.set_cons_succ, List.set_cons_zero, List.getElem_toArray, List.getElem_cons_zero, List.getElem_cons_succ]
      refine hm_one rfl (by kernel_rfl) (fun K hK => ?_)
      go_simp
      have hZ := Lib.hid ((Sep.start w68).alloc #[.int .i64 0, .int .i64 0] 3)
      have hB8 := Lib.hid (hB.out.trans (hZ.out.tail.gold.mono hB.out.size))
      have r1 := Lib.hid (rl_bk (sz := 1) (n := 2) hZ.out rfl)
      clear hB
      have hB := hB8
      clear hB8 hZ
      refine hK.out _ _ hB.out ?_
      clear hK K
      try simp only [Act.put, List.setIfInBounds_toArray, List.set_cons_succ, List.set_cons_zero, List.getElem_toArray, List.getElem_cons_zero, List.getElem_cons_succ]
      refine hm_one rfl (by kernel_rfl) (fun K hK => ?_)
      go_simp
      go_at_call 14
      have hq := respects_any _ _ threeS [0, 0] _ (HRS.out _ hB.out) r1.out (by decide) (by decide)
      rw [show respB threeS [0, 0] = false by decide] at hq
      refine hq.mono ?_
      clear hq r1
      rintro e w73 ⟨rfl, q⟩
      replace hB := Lib.hid (hB.out.trans (q.mono hB.out.size))
      clear q
      refine hK.out _ _ hB.out ?_
      clear hK K
      try simp only [Act.put, List.setIfInBounds_toArray, List.set_cons_succ, List.set_cons_zero, List.getElem_toArray, List.getElem_cons_zero, List.getElem_cons_succ]
      refine hm_take ?v87 rfl (by kernel_rfl) ?y87 ?z87
      case y87 => intro W hW; skip; replace hW := Lib.hid hW; go_simp; try rfl
      case z87 =>
      simp only [Act.put, List.setIfInBounds_toArray, List.set_cons_succ, List.set_cons_zero, List.getElem_toArray, List.getElem_cons_zero, List.getElem_cons_succ]
      refine hm_take ?v88 rfl (by kernel_rfl) ?y88 ?z88
      case y88 => intro W hW; skip; replace hW := Lib.hid hW; go_simp; try rfl
      case z88 =>
      simp only [Act.put, List.setIfInBounds_toArray, List.set_cons_succ, List.set_cons_zero, List.getElem_toArray, List.getElem_cons_zero, List.getElem_cons_succ]
      refine hm_take ?v89 rfl (by kernel_rfl) ?y89 ?z89
      case y89 => intro W hW; skip; replace hW := Lib.hid hW; go_simp; try rfl
      case z89 =>
      simp only [Act.put, List.setIfInBounds_toArray, List.set_cons_succ, List.set_cons_zero, List.getElem_toArray, List.getElem_cons_zero, List.getElem_cons_succ]
      refine hm_take ?v90 rfl (by kernel_rfl) ?y90 ?z90
      case y90 => intro W hW; skip; replace hW := Lib.hid hW; go_simp; try rfl
      case z90 =>
      simp only [Act.put, List.setIfInBounds_toArray, List.set_cons_succ, List.set_cons_zero, List.getElem_toArray, List.getElem_cons_zero, List.getElem_cons_succ]
      refine hm_one rfl (by kernel_rfl) (fun K hK => ?_)
      go_simp
      have hZ := Lib.hid ((Sep.start w73).alloc #[.int .i64 0] 3)
      have hB8 := Lib.hid (hB.out.trans (hZ.out.tail.gold.mono hB.out.size))
      have r1 := Lib.hid (rl_bk (sz := 1) (n := 1) hZ.out rfl)
      clear hB
      have hB := hB8
      clear hB8 hZ
      refine hK.out _ _ hB.out ?_
      clear hK K
      try simp only [Act.put, List.setIfInBounds_toArray, List.set_cons_succ, List.set_cons_zero, List.getElem_toArray, List.getElem_cons_zero, List.getElem_cons_succ]
      refine hm_one rfl (by kernel_rfl) (fun K hK => ?_)
      go_simp
      go_at_call 14
      have hq := respects_any _ _ threeS [0] _ (HRS.out _ hB.out) r1.out (by decide) (by decide)
      rw [show respB threeS [0] = false by decide] at hq
      refine hq.mono ?_
      clear hq r1
      rintro e w79 ⟨rfl, q⟩
      replace hB := Lib.hid (hB.out.trans (q.mono hB.out.size))
      clear q
      refine hK.out _ _ hB.out ?_
      clear hK K
      try simp only [Act.put, List.setIfInBounds_toArray, List.set_cons_succ, List.set_cons_zero, List.getElem_toArray, List.getElem_cons_zero, List.getElem_cons_succ]
      refine hm_take ?v91 rfl (by kernel_rfl) ?y91 ?z91
      case y91 => intro W hW; skip; replace hW := Lib.hid hW; go_simp; try rfl
      case z91 =>
      simp only [Act.put, List.setIfInBounds_toArray, List.set_cons_succ, List.set_cons_zero, List.getElem_toArray, List.getElem_cons_zero, List.getElem_cons_succ]
      refine hm_take ?v92 rfl (by kernel_rfl) ?y92 ?z92
      case y92 => intro W hW; skip; replace hW := Lib.hid hW; go_simp; try rfl
      case z92 =>
      simp only [Act.put, List.setIfInBounds_toArray, List.set_cons_succ, List.set_cons_zero, List.getElem_toArray, List.getElem_cons_zero, List.getElem_cons_succ]
      refine hm_take ?v93 rfl (by kernel_rfl) ?y93 ?z93
      case y93 => intro W hW; skip; replace hW := Lib.hid hW; go_simp; try rfl
      case z93 =>
      simp only [Act.put, List.setIfInBounds_toArray, List.set_cons_succ, List.set_cons_zero, List.getElem_toArray, List.getElem_cons_zero, List.getElem_cons_succ]
      refine hm_take ?v94 rfl (by kernel_rfl) ?y94 ?z94
      case y94 => intro W hW; skip; replace hW := Lib.hid hW; go_simp; try rfl
      case z94 =>
      simp only [Act.put, List.setIfInBounds_toArray, List.set_cons_succ, List.set_cons_zero, List.getElem_toArray, List.getElem_cons_zero, List.getElem_cons_succ]
      refine hm_take ?v95 rfl (by kernel_rfl) ?y95 ?z95
      case y95 => intro W hW; skip; replace hW := Lib.hid hW; go_simp; try rfl
      case z95 =>
      simp only [Act.put, List.setIfInBounds_toArray, List.set_cons_succ, List.set_cons_zero, List.getElem_toArray, List.getElem_cons_zero, List.getElem_cons_succ]
      refine hm_take ?v96 rfl (by kernel_rfl) ?y96 ?z96
      case y96 => intro W hW; obtain ⟨d0, d1, d2, d3, d4, d5, d6, d7, d8⟩ := HE0.out _ (show Below _ _ _ from hW); replace hW := Lib.hid hW; go_simp; try rfl
      case z96 =>
      simp only [Act.put, List.setIfInBounds_toArray, List.set_cons_succ, List.set_cons_zero, List.getElem_toArray, List.getElem_cons_zero, List.getElem_cons_succ]
      refine hm_one rfl (by kernel_rfl) (fun K hK => ?_)
      go_simp
      go_at_call 15
      refine (tx_at ⟨0, 0, true, ⟨1, 4, 1, -1, 3, 0⟩⟩ ⟨#[116, 48, 32, 99, 48, 32, 97, 99, 113, 117, 105, 114, 101, 32, 120, 52, 32, 116, 49, 32, 83]⟩ (by decide +kernel) _ (hRd.out.below hB.out) (by unfold okI; decide) (by unfold okI; decide) (by unfold okI; decide) (by decide) (by decide) (by decide +kernel)).mono ?_
      rintro e w86 ⟨rfl, q⟩
      replace hB := Lib.hid (hB.out.trans (q.mono hB.out.size))
      clear q
      refine hK.out _ _ hB.out ?_
      clear hK K
      try simp only [Act.put, List.setIfInBounds_toArray, List.set_cons_succ, List.set_cons_zero, List.getElem_toArray, List.getElem_cons_zero, List.getElem_cons_succ]
      refine hm_take ?v97 rfl (by kernel_rfl) ?y97 ?z97
      case y97 => intro W hW; skip; replace hW := Lib.hid hW; go_simp; try rfl
      case z97 =>
      simp only [Act.put, List.setIfInBounds_toArray, List.set_cons_succ, List.set_cons_zero, List.getElem_toArray, List.getElem_cons_zero, List.getElem_cons_succ]
      refine hm_take ?v98 rfl (by kernel_rfl) ?y98 ?z98
      case y98 => intro W hW; skip; replace hW := Lib.hid hW; go_simp; try rfl
      case z98 =>
      simp only [Act.put, List.setIfInBounds_toArray, List.set_cons_succ, List.set_cons_zero, List.getElem_toArray, List.getElem_cons_zero, List.getElem_cons_succ]
      refine hm_take ?v99 rfl (by kernel_rfl) ?y99 ?z99
      case y99 => intro W hW; skip; replace hW := Lib.hid hW; go_simp; try rfl
      case z99 =>
      simp only [Act.put, List.setIfInBounds_toArray, List.set_cons_succ, List.set_cons_zero, List.getElem_toArray, List.getElem_cons_zero, List.getElem_cons_succ]
      refine hm_take ?v100 rfl (by kernel_rfl) ?y100 ?z100
      case y100 => intro W hW; skip; replace hW := Lib.hid hW; go_simp; try rfl
      case z100 =>
      simp only [Act.put, List.setIfInBounds_toArray, List.set_cons_succ, List.set_cons_zero, List.getElem_toArray, List.getElem_cons_zero, List.getElem_cons_succ]
      refine hm_take ?v101 rfl (by kernel_rfl) ?y101 ?z101
      case y101 => intro W hW; skip; replace hW := Lib.hid hW; go_simp; try rfl
      case z101 =>
      simp only [Act.put, List.setIfInBounds_toArray, List.set_cons_succ, List.set_cons_zero, List.getElem_toArray, List.getElem_cons_zero, List.getElem_cons_succ]
      refine hm_take ?v102 rfl (by kernel_rfl) ?y102 ?z102
      case y102 => intro W hW; obtain ⟨d0, d1, d2, d3, d4, d5, d6, d7, d8⟩ := HE2.out _ (show Below _ _ _ from hW); replace hW := Lib.hid hW; go_simp; try rfl
      case z102 =>
      simp only [Act.put, List.setIfInBounds_toArray, List.set_cons_succ, List.set_cons_zero, List.getElem_toArray, List.getElem_cons_zero, List.getElem_cons_succ]
      refine hm_one rfl (by kernel_rfl) (fun K hK => ?_)
      go_simp
      go_at_call 15
      refine (tx_at ⟨0, 0, false, ⟨0, 0, 0, 0, 0, 1⟩⟩ ⟨#[116, 48, 32, 99, 48, 32, 103, 114, 97, 110, 116, 101, 100]⟩ (by decide +kernel) _ (hRd.out.below hB.out) (by unfold okI; decide) (by unfold okI; decide) (by unfold okI; decide) (by decide) (by decide) (by decide +kernel)).mono ?_
      rintro e w93 ⟨rfl, q⟩
      replace hB := Lib.hid (hB.out.trans (q.mono hB.out.size))
      clear q
      refine hK.out _ _ hB.out ?_
      clear hK K
      try simp only [Act.put, List.setIfInBounds_toArray, List.set_cons_succ, List.set_cons_zero, List.getElem_toArray, List.getElem_cons_zero, List.getElem_cons_succ]
      refine hm_take ?v103 rfl (by kernel_rfl) ?y103 ?z103
      case y103 => intro W hW; skip; replace hW := Lib.hid hW; go_simp; try rfl
      case z103 =>
      simp only [Act.put, List.setIfInBounds_toArray, List.set_cons_succ, List.set_cons_zero, List.getElem_toArray, List.getElem_cons_zero, List.getElem_cons_succ]
      refine hm_take ?v104 rfl (by kernel_rfl) ?y104 ?z104
      case y104 => intro W hW; skip; replace hW := Lib.hid hW; go_simp; try rfl
      case z104 =>
      simp only [Act.put, List.setIfInBounds_toArray, List.set_cons_succ, List.set_cons_zero, List.getElem_toArray, List.getElem_cons_zero, List.getElem_cons_succ]
      refine hm_take ?v105 rfl (by kernel_rfl) ?y105 ?z105
      case y105 => intro W hW; skip; replace hW := Lib.hid hW; go_simp; try rfl
      case z105 =>
      simp only [Act.put, List.setIfInBounds_toArray, List.set_cons_succ, List.set_cons_zero, List.getElem_toArray, List.getElem_cons_zero, List.getElem_cons_succ]
      refine hm_take ?v106 rfl (by kernel_rfl) ?y106 ?z106
      case y106 => intro W hW; skip; replace hW := Lib.hid hW; go_simp; try rfl
      case z106 =>
      simp only [Act.put, List.setIfInBounds_toArray, List.set_cons_succ, List.set_cons_zero, List.getElem_toArray, List.getElem_cons_zero, List.getElem_cons_succ]
      refine hm_take ?v107 rfl (by kernel_rfl) ?y107 ?z107
      case y107 => intro W hW; skip; replace hW := Lib.hid hW; go_simp; try rfl
      case z107 =>
      simp only [Act.put, List.setIfInBounds_toArray, List.set_cons_succ, List.set_cons_zero, List.getElem_toArray, List.getElem_cons_zero, List.getElem_cons_succ]
      refine hm_one rfl (by kernel_rfl) (fun K hK => ?_)
      go_simp
      go_at_call 15
      refine (tx_at ⟨0, 0, false, ⟨0, 0, 0, 0, 0, 9⟩⟩ ⟨#[116, 48, 32, 99, 48, 32, 63]⟩ (by decide +kernel) _ (hRd.out.below hB.out) (by unfold okI; decide) (by unfold okI; decide) (by unfold okI; decide) (by decide) (by decide) (by decide +kernel)).mono ?_
      rintro e w99 ⟨rfl, q⟩
      replace hB := Lib.hid (hB.out.trans (q.mono hB.out.size))
      clear q
      refine hK.out _ _ hB.out ?_
      clear hK K
      try simp only [Act.put, List.setIfInBounds_toArray, List.set_cons_succ, List.set_cons_zero, List.getElem_toArray, List.getElem_cons_zero, List.getElem_cons_succ]
      refine hm_take ?v108 rfl (by kernel_rfl) ?y108 ?z108
      case y108 => intro W hW; skip; replace hW := Lib.hid hW; go_simp; try rfl
      case z108 =>
      simp only [Act.put, List.setIfInBounds_toArray, List.set_cons_succ, List.set_cons_zero, List.getElem_toArray, List.getElem_cons_zero, List.getElem_cons_succ]
      refine hm_take ?v109 rfl (by kernel_rfl) ?y109 ?z109
      case y109 => intro W hW; skip; replace hW := Lib.hid hW; go_simp; try rfl
      case z109 =>
      simp only [Act.put, List.setIfInBounds_toArray, List.set_cons_succ, List.set_cons_zero, List.getElem_toArray, List.getElem_cons_zero, List.getElem_cons_succ]
      refine hm_take ?v110 rfl (by kernel_rfl) ?y110 ?z110
      case y110 => intro W hW; skip; replace hW := Lib.hid hW; go_simp; try rfl
      case z110 =>
      simp only [Act.put, List.setIfInBounds_toArray, List.set_cons_succ, List.set_cons_zero, List.getElem_toArray, List.getElem_cons_zero, List.getElem_cons_succ]
      refine hm_one rfl (by kernel_rfl) (fun K hK => ?_)
      go_simp
      go_at_call 16
      refine (db_any _).mono ?_
      rintro e w103 ⟨rfl, q⟩
      replace hB := Lib.hid (hB.out.trans (q.mono hB.out.size))
      clear q
      refine hK.out _ _ hB.out ?_
      clear hK K
      try simp only [Act.put, List.setIfInBounds_toArray, List.set_cons_succ, List.set_cons_zero, List.getElem_toArray, List.getElem_cons_zero, List.getElem_cons_succ]
      refine hm_take ?v111 rfl (by kernel_rfl) ?y111 ?z111
      case y111 => intro W hW; skip; replace hW := Lib.hid hW; go_simp; try rfl
      case z111 =>
      simp only [Act.put, List.setIfInBounds_toArray, List.set_cons_succ, List.set_cons_zero, List.getElem_toArray, List.getElem_cons_zero, List.getElem_cons_succ]
      refine hm_take ?v112 rfl (by kernel_rfl) ?y112 ?z112
      case y112 => intro W hW; skip; replace hW := Lib.hid hW; go_simp; try rfl
      case z112 =>
      simp only [Act.put, List.setIfInBounds_toArray, List.set_cons_succ, List.set_cons_zero, List.getElem_toArray, List.getElem_cons_zero, List.getElem_cons_succ]
      refine hm_one rfl (by kernel_rfl) (fun K hK => ?_)
      go_simp
      go_at_call 15
      refine (tx_at ⟨-3, 0, true, ⟨9, 0, -1, -1, 0, 0⟩⟩ ⟨#[116, 48, 32, 99, 45, 51, 32, 63, 32, 120, 48, 32, 100, 98, 32, 110, 111, 110, 101]⟩ (by decide +kernel) _ (hRd.out.below hB.out) (by unfold okI; decide) (by unfold okI; decide) (by unfold okI; decide) (by decide) (by decide) (by decide +kernel)).mono ?_
      rintro e w106 ⟨rfl, q⟩
      replace hB := Lib.hid (hB.out.trans (q.mono hB.out.size))
      clear q
      refine hK.out _ _ hB.out ?_
      clear hK K
      try simp only [Act.put, List.setIfInBounds_toArray, List.set_cons_succ, List.set_cons_zero, List.getElem_toArray, List.getElem_cons_zero, List.getElem_cons_succ]
      refine hm_take ?v113 rfl (by kernel_rfl) ?y113 ?z113
      case y113 => intro W hW; skip; replace hW := Lib.hid hW; go_simp; try rfl
      case z113 =>
      simp only [Act.put, List.setIfInBounds_toArray, List.set_cons_succ, List.set_cons_zero, List.getElem_toArray, List.getElem_cons_zero, List.getElem_cons_succ]
      refine hm_take ?v114 rfl (by kernel_rfl) ?y114 ?z114
      case y114 => intro W hW; skip; replace hW := Lib.hid hW; go_simp; try rfl
      case z114 =>
      simp only [Act.put, List.setIfInBounds_toArray, List.set_cons_succ, List.set_cons_zero, List.getElem_toArray, List.getElem_cons_zero, List.getElem_cons_succ]
      refine hm_take ?v115 rfl (by kernel_rfl) ?y115 ?z115
      case y115 => intro W hW; skip; replace hW := Lib.hid hW; go_simp; try rfl
      case z115 =>
      simp only [Act.put, List.setIfInBounds_toArray, List.set_cons_succ, List.set_cons_zero, List.getElem_toArray, List.getElem_cons_zero, List.getElem_cons_succ]
      refine hm_done ?_
      clear hwd
      go_wp2_with fail
      go_ret
      exact ⟨rfl, hgd.out.trans (hB.out.mono hgd.out.size)⟩
end Go.Proofs.YtechagciefhpbaaDoor
