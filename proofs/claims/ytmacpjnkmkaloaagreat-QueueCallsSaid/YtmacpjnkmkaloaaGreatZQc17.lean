/-
  Contracts and plain laws that the walk leans on, part 17. No condition.
-/
import Derived.Test.YtmacpjnkmkaloaaGreatZQc16
namespace Go.Proofs.YtmacpjnkmkaloaaGreat
set_option linter.unusedSimpArgs false
set_option linter.unusedVariables false
set_option linter.unnecessarySimpa false
open Go.RowKit
theorem hd_two {w : World} {g : Nat} {tp : TypeId} {t r n t' r' n' : Int} {v v' : Value} {l l' : List Rq} {rs : List Res} (h : Sep w (blk g tp #[.int .i64 t, .int .i64 r, v, .int .i64 n, .int .i64 t', .int .i64 r', v', .int .i64 n'] :: rs)) (hq : RQ w v l) (hq' : RQ w v' l') :
    HD w (.slice (some ⟨g, 0, none⟩) 2 2) [⟨t, r, n, v, l⟩, ⟨t', r', n', v', l'⟩] := by
  refine ⟨_, _, rfl, fun _ => ⟨g, 0, rfl, h.gblk.lt, fun i hi => ?_⟩, fun i hi => ?_⟩
  · have h2 : i = 0 ∨ i = 1 := by simp at hi; omega
    rcases h2 with rfl | rfl
    · exact ⟨h.gblk.cell 0, h.gblk.cell 1, h.gblk.cell 2, h.gblk.cell 3⟩
    · exact ⟨h.gblk.cell 4, h.gblk.cell 5, h.gblk.cell 6, h.gblk.cell 7⟩
  · have h2 : i = 0 ∨ i = 1 := by simp at hi; omega
    rcases h2 with rfl | rfl
    · exact hq
    · exact hq'
theorem checkQ_any (t r n : Int) (v : Value) (l : List Rq) (w : World) (hv : RQ w v l) (hl : l.length ≤ 1000) :
    Calls Tryz.prog 6 #[hval t r v n] w fun e w' => e = .returned (.int .i64 (if checkB n l then 0 else 2)) ∧ Below w.heap.size w w' := by
  have := checkP_any t r n v l w hv hl
  rwa [checkPB_eq] at this
theorem nrm_lenQ (xs : List Int) : (nrm xs).length ≤ xs.length := by
  have h := (List.mergeSort_perm xs fun a b => decide (a ≤ b)).length_eq
  unfold nrm
  rw [← h]
  unfold Lib.compact Lib.compactUpTo
  rw [List.length_map]
  exact Nat.le_trans (List.length_filter_le _ _) (by simp)
theorem blkV_lenQ (l : List Rq) (id : Int) : (blkV l id).length ≤ l.length := by
  unfold blkV
  split
  · simp
  · split
    · exact Nat.le_trans (nrm_lenQ _) (blkL_len _ _)
    · simp
theorem val_cells (q : Rq) : q.val = .agg #[.int .i64 q.id, .int .i64 q.txn, .int .i64 q.mode, .int .i64 q.want, .int .i64 q.since] := rfl
set_option maxHeartbeats 16000000 in
set_option maxRecDepth 100000 in
theorem calls_walk (t r n : Int) (a : Option Addr) (m c : Nat) (l : List Rq) (t' r' n' : Int) (a' : Option Addr) (m' c' : Nat) (l' : List Rq) (id txn mo : Int) (w : World) (hv : RQ w (.slice a m c) l) (hlm : l.length = m) (hv' : RQ w (.slice a' m' c') l') (hlm' : l'.length = m') :
    Calls Tryz.prog 3 #[hval t r (.slice a m c) n, hval t' r' (.slice a' m' c') n', .int .i64 id, .int .i64 txn, .int .i64 mo] w fun e w' => e = .returned (.bool true) ∧ Below w.heap.size w w' := by
  subst hlm hlm'
  have HRH := Lib.hid (fun W (hb : Below w.heap.size w W) => hv.below hb)
  have HRO := Lib.hid (fun W (hb : Below w.heap.size w W) => hv'.below hb)
  have hS := Lib.hid (boxes2 w 26 26 #[.int .i64 t, .int .i64 r, .slice a l.length c, .int .i64 n] #[.int .i64 t', .int .i64 r', .slice a' l'.length c', .int .i64 n'])
  clear hv hv'
  unfold hval
  go_enter Tryz.func3, Tryz.ntmps3
  go_wp2_with (go_at_call 4; refine (lives_any _).mono ?_; rintro e w1 ⟨rfl, q⟩; replace hS := Lib.hid (hS.out.below q); clear q; obtain ⟨_, e0, e1, e2, e3, _⟩ := hS.out.b4; obtain ⟨_, k0, k1, k2, k3, _⟩ := hS.out.to1.b4)
  have hT := Lib.hid (hS.out.alloc #[.int .i64 t, .int .i64 r, .slice a l.length c, .int .i64 n, .int .i64 t', .int .i64 r', .slice a' l'.length c', .int .i64 n'] 26)
  have hgT := hT.out.tail.tail.tail.gold
  refine (light_any _ _ 2 _ (hd_two hT.out (HRH.out _ hgT) (HRO.out _ hgT)) (by decide)).mono ?_
  clear hgT e0 e1 e2 e3 k0 k1 k2 k3
  rintro e w2 ⟨rfl, rfl⟩
  replace hS := Lib.hid hT.out.tail
  clear hT
  generalize World.alloc _ _ = w3 at *
  cases hL : lightH [⟨t, r, n, .slice a l.length c, l⟩, ⟨t', r', n', .slice a' l'.length c', l'⟩] 2 with
  | false =>
    go_wp2_with fail
    go_ret
    exact ⟨rfl, hS.out.tail.tail.gold⟩
  | true =>
  have h12 : l.length ≤ 12 ∧ l'.length ≤ 12 := by simpa [lightH] using hL
  have hl := Lib.hid (show l.length ≤ 1000 from Nat.le_trans h12.1 (by decide))
  have hl2 := Lib.hid (show l'.length ≤ 1000 from Nat.le_trans h12.2 (by decide))
  have hl12 := Lib.hid h12.1
  clear h12 hL
  go_wp2_with fail
  obtain ⟨sv, hsv⟩ : ∃ sv, Hid (sameV t r n l t' r' n' l' = sv) := ⟨_, Lib.hid rfl⟩
  cases hck0 : checkB n l with
  | false =>
    have hck := Lib.hid hck0
    clear hck0
    obtain ⟨wd, hwd⟩ : ∃ x, World.drew w3 = x := ⟨_, rfl⟩
    have hXd := Lib.hid (show Sep wd _ from hwd ▸ hS.out.drew)
    have HBH : Hid (∀ W, Below wd.heap.size wd W → W.cell? ⟨w.heap.size, 0, none⟩ = some (.int .i64 t) ∧ W.cell? ⟨w.heap.size, 1, none⟩ = some (.int .i64 r) ∧ W.cell? ⟨w.heap.size, 2, none⟩ = some (.slice a l.length c) ∧ W.cell? ⟨w.heap.size, 3, none⟩ = some (.int .i64 n)) := Lib.hid (fun W hb => by
      obtain ⟨hlt, c0, c1, c2, c3, _⟩ := (hXd.out.bring 1 rfl).b4
      exact ⟨(hb.cell (p := ⟨w.heap.size, 0, none⟩) hlt).trans c0, (hb.cell (p := ⟨w.heap.size, 1, none⟩) hlt).trans c1, (hb.cell (p := ⟨w.heap.size, 2, none⟩) hlt).trans c2, (hb.cell (p := ⟨w.heap.size, 3, none⟩) hlt).trans c3⟩)
    have HBO : Hid (∀ W, Below wd.heap.size wd W → W.cell? ⟨w.heap.size + 1, 0, none⟩ = some (.int .i64 t') ∧ W.cell? ⟨w.heap.size + 1, 1, none⟩ = some (.int .i64 r') ∧ W.cell? ⟨w.heap.size + 1, 2, none⟩ = some (.slice a' l'.length c') ∧ W.cell? ⟨w.heap.size + 1, 3, none⟩ = some (.int .i64 n')) := Lib.hid (fun W hb => by
      obtain ⟨hlt, c0, c1, c2, c3, _⟩ := (hXd.out.bring 0 rfl).b4
      exact ⟨(hb.cell (p := ⟨w.heap.size + 1, 0, none⟩) hlt).trans c0, (hb.cell (p := ⟨w.heap.size + 1, 1, none⟩) hlt).trans c1, (hb.cell (p := ⟨w.heap.size + 1, 2, none⟩) hlt).trans c2, (hb.cell (p := ⟨w.heap.size + 1, 3, none⟩) hlt).trans c3⟩)
    have hgd := Lib.hid hXd.out.tail.tail.gold
    have hB := Lib.hid (Below.refl wd.heap.size wd)
    have hS := Lib.hid (show (fun W : World => Below wd.heap.size wd W) _ from (by rw [hwd]; exact Below.refl _ _ : Below wd.heap.size wd (World.drew w3)))
    refine hl_begin (fun W : World => Below wd.heap.size wd W) [(0, true), (2, true), (1, false), (3, false), (4, true), (5, true), (6, true), (7, true), (9, true), (10, true), (8, false), (11, false), (12, true), (13, true)] (by kernel_rfl) (by kernel_rfl) (by kernel_rfl) rfl (fun _ _ _ _ _ h => h) hS.out ?_
    change HL _ _ _ _ _ _ (World.drew _)
    rw [hwd]
    refine hl_take ?v1 rfl (by kernel_rfl) ?y1 ?z1
    case y1 => intro W hW; obtain ⟨d0, d1, d2, d3⟩ := HBH.out _ (show Below _ _ _ from hW); replace hW := Lib.hid hW; go_simp; try rfl
    case z1 =>
    simp only [Act.put, List.setIfInBounds_toArray, List.set_cons_succ, List.set_cons_zero, List.getElem_toArray, List.getElem_cons_zero, List.getElem_cons_succ]
    refine hl_take ?v2 rfl (by kernel_rfl) ?y2 ?z2
    case y2 => intro W hW; obtain ⟨d0, d1, d2, d3⟩ := HBH.out _ (show Below _ _ _ from hW); replace hW := Lib.hid hW; go_simp; try rfl
    case z2 =>
    simp only [Act.put, List.setIfInBounds_toArray, List.set_cons_succ, List.set_cons_zero, List.getElem_toArray, List.getElem_cons_zero, List.getElem_cons_succ]
    refine hl_one rfl (by kernel_rfl) (fun K hK => ?_)
    go_simp
    go_at_call 6
    have hq := checkQ_any t r n (.slice a l.length c) l _ (HRH.out _ (hgd.out.trans (hB.out.mono hgd.out.size))) hl.out
    rw [hck.out] at hq
    refine hq.mono ?_
    clear hq
    rintro e x1 ⟨rfl, q⟩
    replace hB := Lib.hid (hB.out.trans (q.mono hB.out.size))
    clear q
    refine hK.out _ _ hB.out ?_
    clear hK K
    try simp only [Act.put, List.setIfInBounds_toArray, List.set_cons_succ, List.set_cons_zero, List.getElem_toArray, List.getElem_cons_zero, List.getElem_cons_succ]
    refine hl_one rfl (by kernel_rfl) (fun K hK => ?_)
    go_simp
    go_at_call 7
    have hq := checkR_any t r n (.slice a l.length c) l _ (HRH.out _ (hgd.out.trans (hB.out.mono hgd.out.size))) hl.out
    rw [hck.out] at hq
    refine hq.mono ?_
    clear hq
    rintro e x2 ⟨rfl, q⟩
    replace hB := Lib.hid (hB.out.trans (q.mono hB.out.size))
    clear q
    refine hK.out _ _ hB.out ?_
    clear hK K
    try simp only [Act.put, List.setIfInBounds_toArray, List.set_cons_succ, List.set_cons_zero, List.getElem_toArray, List.getElem_cons_zero, List.getElem_cons_succ]
    refine hl_take ?v3 rfl (by kernel_rfl) ?y3 ?z3
    case y3 => intro W hW; skip; replace hW := Lib.hid hW; go_simp; try rfl
    case z3 =>
    simp only [Act.put, List.setIfInBounds_toArray, List.set_cons_succ, List.set_cons_zero, List.getElem_toArray, List.getElem_cons_zero, List.getElem_cons_succ]
    refine hl_take ?v4 rfl (by kernel_rfl) ?y4 ?z4
    case y4 => intro W hW; skip; replace hW := Lib.hid hW; go_simp; try rfl
    case z4 =>
    simp only [Act.put, List.setIfInBounds_toArray, List.set_cons_succ, List.set_cons_zero, List.getElem_toArray, List.getElem_cons_zero, List.getElem_cons_succ]
    refine hl_take ?v5 rfl (by kernel_rfl) ?y5 ?z5
    case y5 => intro W hW; obtain ⟨d0, d1, d2, d3⟩ := HBH.out _ (show Below _ _ _ from hW); replace hW := Lib.hid hW; go_simp; try rfl
    case z5 =>
    simp only [Act.put, List.setIfInBounds_toArray, List.set_cons_succ, List.set_cons_zero, List.getElem_toArray, List.getElem_cons_zero, List.getElem_cons_succ]
    refine hl_take ?v6 rfl (by kernel_rfl) ?y6 ?z6
    case y6 => intro W hW; obtain ⟨d0, d1, d2, d3⟩ := HBO.out _ (show Below _ _ _ from hW); replace hW := Lib.hid hW; go_simp; try rfl
    case z6 =>
    simp only [Act.put, List.setIfInBounds_toArray, List.set_cons_succ, List.set_cons_zero, List.getElem_toArray, List.getElem_cons_zero, List.getElem_cons_succ]
    refine hl_take ?v7 rfl (by kernel_rfl) ?y7 ?z7
    case y7 => intro W hW; obtain ⟨d0, d1, d2, d3⟩ := HBH.out _ (show Below _ _ _ from hW); replace hW := Lib.hid hW; go_simp; try rfl
    case z7 =>
    simp only [Act.put, List.setIfInBounds_toArray, List.set_cons_succ, List.set_cons_zero, List.getElem_toArray, List.getElem_cons_zero, List.getElem_cons_succ]
    refine hl_take ?v8 rfl (by kernel_rfl) ?y8 ?z8
    case y8 => intro W hW; obtain ⟨d0, d1, d2, d3⟩ := HBO.out _ (show Below _ _ _ from hW); replace hW := Lib.hid hW; go_simp; try rfl
    case z8 =>
    simp only [Act.put, List.setIfInBounds_toArray, List.set_cons_succ, List.set_cons_zero, List.getElem_toArray, List.getElem_cons_zero, List.getElem_cons_succ]
    refine hl_one rfl (by kernel_rfl) (fun K hK => ?_)
    go_simp
    go_at_call 8
    have hq := sameP_any t r n t' r' n' (.slice a l.length c) (.slice a' l'.length c') l l' _ (HRH.out _ (hgd.out.trans (hB.out.mono hgd.out.size))) (HRO.out _ (hgd.out.trans (hB.out.mono hgd.out.size))) hl.out
    rw [hsv.out] at hq
    refine hq.mono ?_
    clear hq
    rintro e x3 ⟨rfl, q⟩
    replace hB := Lib.hid (hB.out.trans (q.mono hB.out.size))
    clear q
    refine hK.out _ _ hB.out ?_
    clear hK K
    try simp only [Act.put, List.setIfInBounds_toArray, List.set_cons_succ, List.set_cons_zero, List.getElem_toArray, List.getElem_cons_zero, List.getElem_cons_succ]
    refine hl_one rfl (by kernel_rfl) (fun K hK => ?_)
    go_simp
    go_at_call 9
    have hq := sameRG_any t r n t' r' n' (.slice a l.length c) (.slice a' l'.length c') l l' _ (HRH.out _ (hgd.out.trans (hB.out.mono hgd.out.size))) (HRO.out _ (hgd.out.trans (hB.out.mono hgd.out.size))) hl.out
    rw [hsv.out] at hq
    refine hq.mono ?_
    clear hq
    rintro e x4 ⟨rfl, q⟩
    replace hB := Lib.hid (hB.out.trans (q.mono hB.out.size))
    clear q
    refine hK.out _ _ hB.out ?_
    clear hK K
    try simp only [Act.put, List.setIfInBounds_toArray, List.set_cons_succ, List.set_cons_zero, List.getElem_toArray, List.getElem_cons_zero, List.getElem_cons_succ]
    refine hl_take ?v9 rfl (by kernel_rfl) ?y9 ?z9
    case y9 => intro W hW; skip; replace hW := Lib.hid hW; go_simp; try rfl
    case z9 =>
    simp only [Act.put, List.setIfInBounds_toArray, List.set_cons_succ, List.set_cons_zero, List.getElem_toArray, List.getElem_cons_zero, List.getElem_cons_succ]
    refine hl_take ?v10 rfl (by kernel_rfl) ?y10 ?z10
    case y10 => intro W hW; skip; replace hW := Lib.hid hW; go_simp; try rfl
    case z10 =>
    simp only [Act.put, List.setIfInBounds_toArray, List.set_cons_succ, List.set_cons_zero, List.getElem_toArray, List.getElem_cons_zero, List.getElem_cons_succ]
    refine hl_done ?_
    replace hS := Lib.hid (hXd.out.below hB.out)
    clear hB hgd hXd HBH HBO hwd
    obtain ⟨_, k0, k1, k2, k3, _⟩ := hS.out.to1.b4
    have A := checkR_any t r n (.slice a l.length c) l _ (HRH.out _ hS.out.tail.tail.gold) hl.out
    rw [hck.out] at A
    unfold hval at A
    replace A := Lib.hid A
    go_wp2_with fail
    refine A.out.mono ?_
    rintro e w5 ⟨rfl, q⟩
    replace hS := Lib.hid (hS.out.below q)
    clear q A k0 k1 k2 k3
    go_wp2_with fail
    go_ret
    exact ⟨rfl, hS.out.tail.tail.gold⟩
  | true =>
    have hck := Lib.hid hck0
    have hD := Lib.hid (checkB_ids n l hck0)
    obtain ⟨hn0', hn1'⟩ := checkB_n n l hck0
    have hn0 := Lib.hid hn0'
    have hn1 := Lib.hid hn1'
    clear hck0 hn0' hn1'
    obtain ⟨wd, hwd⟩ : ∃ x, World.drew w3 = x := ⟨_, rfl⟩
    have hXd := Lib.hid (show Sep wd _ from hwd ▸ hS.out.drew)
    have HBH : Hid (∀ W, Below wd.heap.size wd W → W.cell? ⟨w.heap.size, 0, none⟩ = some (.int .i64 t) ∧ W.cell? ⟨w.heap.size, 1, none⟩ = some (.int .i64 r) ∧ W.cell? ⟨w.heap.size, 2, none⟩ = some (.slice a l.length c) ∧ W.cell? ⟨w.heap.size, 3, none⟩ = some (.int .i64 n)) := Lib.hid (fun W hb => by
      obtain ⟨hlt, c0, c1, c2, c3, _⟩ := (hXd.out.bring 1 rfl).b4
      exact ⟨(hb.cell (p := ⟨w.heap.size, 0, none⟩) hlt).trans c0, (hb.cell (p := ⟨w.heap.size, 1, none⟩) hlt).trans c1, (hb.cell (p := ⟨w.heap.size, 2, none⟩) hlt).trans c2, (hb.cell (p := ⟨w.heap.size, 3, none⟩) hlt).trans c3⟩)
    have HBO : Hid (∀ W, Below wd.heap.size wd W → W.cell? ⟨w.heap.size + 1, 0, none⟩ = some (.int .i64 t') ∧ W.cell? ⟨w.heap.size + 1, 1, none⟩ = some (.int .i64 r') ∧ W.cell? ⟨w.heap.size + 1, 2, none⟩ = some (.slice a' l'.length c') ∧ W.cell? ⟨w.heap.size + 1, 3, none⟩ = some (.int .i64 n')) := Lib.hid (fun W hb => by
      obtain ⟨hlt, c0, c1, c2, c3, _⟩ := (hXd.out.bring 0 rfl).b4
      exact ⟨(hb.cell (p := ⟨w.heap.size + 1, 0, none⟩) hlt).trans c0, (hb.cell (p := ⟨w.heap.size + 1, 1, none⟩) hlt).trans c1, (hb.cell (p := ⟨w.heap.size + 1, 2, none⟩) hlt).trans c2, (hb.cell (p := ⟨w.heap.size + 1, 3, none⟩) hlt).trans c3⟩)
    have hgd := Lib.hid hXd.out.tail.tail.gold
    have hB := Lib.hid (Below.refl wd.heap.size wd)
    have hS := Lib.hid (show (fun W : World => Below wd.heap.size wd W) _ from (by rw [hwd]; exact Below.refl _ _ : Below wd.heap.size wd (World.drew w3)))
    refine hl_begin (fun W : World => Below wd.heap.size wd W) [(0, true), (2, true), (1, false), (3, false), (4, true), (5, true), (6, true), (7, true), (9, true), (10, true), (8, false), (11, false), (12, true), (13, true)] (by kernel_rfl) (by kernel_rfl) (by kernel_rfl) rfl (fun _ _ _ _ _ h => h) hS.out ?_
    change HL _ _ _ _ _ _ (World.drew _)
    rw [hwd]
    refine hl_take ?v11 rfl (by kernel_rfl) ?y11 ?z11
    case y11 => intro W hW; obtain ⟨d0, d1, d2, d3⟩ := HBH.out _ (show Below _ _ _ from hW); replace hW := Lib.hid hW; go_simp; try rfl
    case z11 =>
    simp only [Act.put, List.setIfInBounds_toArray, List.set_cons_succ, List.set_cons_zero, List.getElem_toArray, List.getElem_cons_zero, List.getElem_cons_succ]
    refine hl_take ?v12 rfl (by kernel_rfl) ?y12 ?z12
    case y12 => intro W hW; obtain ⟨d0, d1, d2, d3⟩ := HBH.out _ (show Below _ _ _ from hW); replace hW := Lib.hid hW; go_simp; try rfl
    case z12 =>
    simp only [Act.put, List.setIfInBounds_toArray, List.set_cons_succ, List.set_cons_zero, List.getElem_toArray, List.getElem_cons_zero, List.getElem_cons_succ]
    refine hl_one rfl (by kernel_rfl) (fun K hK => ?_)
    go_simp
    go_at_call 6
    have hq := checkQ_any t r n (.slice a l.length c) l _ (HRH.out _ (hgd.out.trans (hB.out.mono hgd.out.size))) hl.out
    rw [hck.out] at hq
    refine hq.mono ?_
    clear hq
    rintro e x1 ⟨rfl, q⟩
    replace hB := Lib.hid (hB.out.trans (q.mono hB.out.size))
    clear q
    refine hK.out _ _ hB.out ?_
    clear hK K
    try simp only [Act.put, List.setIfInBounds_toArray, List.set_cons_succ, List.set_cons_zero, List.getElem_toArray, List.getElem_cons_zero, List.getElem_cons_succ]
    refine hl_one rfl (by kernel_rfl) (fun K hK => ?_)
    go_simp
    go_at_call 7
    have hq := checkR_any t r n (.slice a l.length c) l _ (HRH.out _ (hgd.out.trans (hB.out.mono hgd.out.size))) hl.out
    rw [hck.out] at hq
    refine hq.mono ?_
    clear hq
    rintro e x2 ⟨rfl, q⟩
    replace hB := Lib.hid (hB.out.trans (q.mono hB.out.size))
    clear q
    refine hK.out _ _ hB.out ?_
    clear hK K
    try simp only [Act.put, List.setIfInBounds_toArray, List.set_cons_succ, List.set_cons_zero, List.getElem_toArray, List.getElem_cons_zero, List.getElem_cons_succ]
    refine hl_take ?v13 rfl (by kernel_rfl) ?y13 ?z13
    case y13 => intro W hW; skip; replace hW := Lib.hid hW; go_simp; try rfl
    case z13 =>
    simp only [Act.put, List.setIfInBounds_toArray, List.set_cons_succ, List.set_cons_zero, List.getElem_toArray, List.getElem_cons_zero, List.getElem_cons_succ]
    refine hl_take ?v14 rfl (by kernel_rfl) ?y14 ?z14
    case y14 => intro W hW; skip; replace hW := Lib.hid hW; go_simp; try rfl
    case z14 =>
    simp only [Act.put, List.setIfInBounds_toArray, List.set_cons_succ, List.set_cons_zero, List.getElem_toArray, List.getElem_cons_zero, List.getElem_cons_succ]
    refine hl_take ?v15 rfl (by kernel_rfl) ?y15 ?z15
    case y15 => intro W hW; obtain ⟨d0, d1, d2, d3⟩ := HBH.out _ (show Below _ _ _ from hW); replace hW := Lib.hid hW; go_simp; try rfl
    case z15 =>
    simp only [Act.put, List.setIfInBounds_toArray, List.set_cons_succ, List.set_cons_zero, List.getElem_toArray, List.getElem_cons_zero, List.getElem_cons_succ]
    refine hl_take ?v16 rfl (by kernel_rfl) ?y16 ?z16
    case y16 => intro W hW; obtain ⟨d0, d1, d2, d3⟩ := HBO.out _ (show Below _ _ _ from hW); replace hW := Lib.hid hW; go_simp; try rfl
    case z16 =>
    simp only [Act.put, List.setIfInBounds_toArray, List.set_cons_succ, List.set_cons_zero, List.getElem_toArray, List.getElem_cons_zero, List.getElem_cons_succ]
    refine hl_take ?v17 rfl (by kernel_rfl) ?y17 ?z17
    case y17 => intro W hW; obtain ⟨d0, d1, d2, d3⟩ := HBH.out _ (show Below _ _ _ from hW); replace hW := Lib.hid hW; go_simp; try rfl
    case z17 =>
    simp only [Act.put, List.setIfInBounds_toArray, List.set_cons_succ, List.set_cons_zero, List.getElem_toArray, List.getElem_cons_zero, List.getElem_cons_succ]
    refine hl_take ?v18 rfl (by kernel_rfl) ?y18 ?z18
    case y18 => intro W hW; obtain ⟨d0, d1, d2, d3⟩ := HBO.out _ (show Below _ _ _ from hW); replace hW := Lib.hid hW; go_simp; try rfl
    case z18 =>
    simp only [Act.put, List.setIfInBounds_toArray, List.set_cons_succ, List.set_cons_zero, List.getElem_toArray, List.getElem_cons_zero, List.getElem_cons_succ]
    refine hl_one rfl (by kernel_rfl) (fun K hK => ?_)
    go_simp
    go_at_call 8
    have hq := sameP_any t r n t' r' n' (.slice a l.length c) (.slice a' l'.length c') l l' _ (HRH.out _ (hgd.out.trans (hB.out.mono hgd.out.size))) (HRO.out _ (hgd.out.trans (hB.out.mono hgd.out.size))) hl.out
    rw [hsv.out] at hq
    refine hq.mono ?_
    clear hq
    rintro e x3 ⟨rfl, q⟩
    replace hB := Lib.hid (hB.out.trans (q.mono hB.out.size))
    clear q
    refine hK.out _ _ hB.out ?_
    clear hK K
    try simp only [Act.put, List.setIfInBounds_toArray, List.set_cons_succ, List.set_cons_zero, List.getElem_toArray, List.getElem_cons_zero, List.getElem_cons_succ]
    refine hl_one rfl (by kernel_rfl) (fun K hK => ?_)
    go_simp
    go_at_call 9
    have hq := sameRG_any t r n t' r' n' (.slice a l.length c) (.slice a' l'.length c') l l' _ (HRH.out _ (hgd.out.trans (hB.out.mono hgd.out.size))) (HRO.out _ (hgd.out.trans (hB.out.mono hgd.out.size))) hl.out
    rw [hsv.out] at hq
    refine hq.mono ?_
    clear hq
    rintro e x4 ⟨rfl, q⟩
    replace hB := Lib.hid (hB.out.trans (q.mono hB.out.size))
    clear q
    refine hK.out _ _ hB.out ?_
    clear hK K
    try simp only [Act.put, List.setIfInBounds_toArray, List.set_cons_succ, List.set_cons_zero, List.getElem_toArray, List.getElem_cons_zero, List.getElem_cons_succ]
    refine hl_take ?v19 rfl (by kernel_rfl) ?y19 ?z19
    case y19 => intro W hW; skip; replace hW := Lib.hid hW; go_simp; try rfl
    case z19 =>
    simp only [Act.put, List.setIfInBounds_toArray, List.set_cons_succ, List.set_cons_zero, List.getElem_toArray, List.getElem_cons_zero, List.getElem_cons_succ]
    refine hl_take ?v20 rfl (by kernel_rfl) ?y20 ?z20
    case y20 => intro W hW; skip; replace hW := Lib.hid hW; go_simp; try rfl
    case z20 =>
    simp only [Act.put, List.setIfInBounds_toArray, List.set_cons_succ, List.set_cons_zero, List.getElem_toArray, List.getElem_cons_zero, List.getElem_cons_succ]
    refine hl_done ?_
    replace hS := Lib.hid (hXd.out.below hB.out)
    clear hB hgd hXd HBH HBO hwd
    obtain ⟨_, k0, k1, k2, k3, _⟩ := hS.out.to1.b4
    have A := checkR_any t r n (.slice a l.length c) l _ (HRH.out _ hS.out.tail.tail.gold) hl.out
    rw [hck.out] at A
    unfold hval at A
    replace A := Lib.hid A
    go_wp2_with fail
    refine A.out.mono ?_
    rintro e w5 ⟨rfl, q⟩
    replace hS := Lib.hid (hS.out.below q)
    clear q A k0 k1 k2 k3
    obtain ⟨o1, ho1⟩ : ∃ o, Hid (askO t r n l id txn mo = o) := ⟨_, Lib.hid rfl⟩
    have hlno1 := Lib.hid (show o1.l.length ≤ 1000 by rw [← ho1.out]; exact askO_len t r n l id txn mo hl12.out)
    obtain ⟨_, k0, k1, k2, k3, _⟩ := (hS.out.bring 1 rfl).b4
    have A := Lib.hid (ownHead_any t r n (.slice a l.length c) l _ (HRH.out _ (hS.out.bring 2 rfl).gold) hl.out)
    unfold hval at A
    go_wp2_with fail
    refine A.out.mono ?_
    rintro e w6 ⟨a6, c6, rfl, q⟩
    replace hS := Lib.hid (q.graft hS.out)
    clear q A k0 k1 k2 k3
    have B := Lib.hid (askP_all t r n (.slice a6 l.length c6) l id txn mo _ hS.out.vq_rq hl.out hn0.out hn1.out)
    unfold Tell3 hval at B
    rw [ho1.out] at B
    go_wp2_with fail
    refine B.out.mono ?_
    rintro e w7 ⟨a7, c7, rfl, q⟩
    replace hS := Lib.hid (show Sep _ [blk w7.heap.size 26 #[.int .i64 o1.t, .int .i64 o1.r, .slice a7 o1.l.length c7, .int .i64 o1.n], vq (.slice a7 o1.l.length c7) o1.l, blk (w.heap.size + 1) 26 #[.int .i64 t', .int .i64 r', .slice a' l'.length c', .int .i64 n'], blk w.heap.size 26 #[.int .i64 t, .int .i64 r, .slice a l.length c, .int .i64 n], old w] from (q.graft hS.out.tail).alloc _ _)
    clear q B
    obtain ⟨_, k0, k1, k2, k3, _⟩ := (hS.out.bring 3 rfl).b4
    have B := Lib.hid (askR_all t r n (.slice a l.length c) l id txn mo _ (HRH.out _ (hS.out.bring 4 rfl).gold) hl.out hn0.out hn1.out)
    unfold Tell3 hval at B
    rw [ho1.out] at B
    go_wp2_with fail
    refine B.out.mono ?_
    rintro e w8 ⟨a8, c8, rfl, q⟩
    replace hS := Lib.hid (show Sep _ [blk w8.heap.size 26 #[.int .i64 o1.t, .int .i64 o1.r, .slice a8 o1.l.length c8, .int .i64 o1.n], vq (.slice a8 o1.l.length c8) o1.l, blk w7.heap.size 26 #[.int .i64 o1.t, .int .i64 o1.r, .slice a7 o1.l.length c7, .int .i64 o1.n], vq (.slice a7 o1.l.length c7) o1.l, blk (w.heap.size + 1) 26 #[.int .i64 t', .int .i64 r', .slice a' l'.length c', .int .i64 n'], blk w.heap.size 26 #[.int .i64 t, .int .i64 r, .slice a l.length c, .int .i64 n], old w] from (q.graft hS.out).alloc _ _)
    clear q B k0 k1 k2 k3
    obtain ⟨o2, ho2⟩ : ∃ o, Hid (upO t r n l id mo = o) := ⟨_, Lib.hid rfl⟩
    have hlno2 := Lib.hid (show o2.l.length ≤ 1000 by rw [← ho2.out]; exact upO_len t r n l id mo hl12.out)
    obtain ⟨_, k0, k1, k2, k3, _⟩ := (hS.out.bring 5 rfl).b4
    have A := Lib.hid (ownHead_any t r n (.slice a l.length c) l _ (HRH.out _ (hS.out.bring 6 rfl).gold) hl.out)
    unfold hval at A
    go_wp2_with fail
    refine A.out.mono ?_
    rintro e w9 ⟨a9, c9, rfl, q⟩
    replace hS := Lib.hid (q.graft hS.out)
    clear q A k0 k1 k2 k3
    have B := Lib.hid (upP_all t r n (.slice a9 l.length c9) l id mo _ hS.out.vq_rq hl.out hn0.out hn1.out)
    unfold Tell3 hval at B
    rw [ho2.out] at B
    go_wp2_with fail
    refine B.out.mono ?_
    rintro e w10 ⟨a10, c10, rfl, q⟩
    replace hS := Lib.hid (show Sep _ [blk w10.heap.size 26 #[.int .i64 o2.t, .int .i64 o2.r, .slice a10 o2.l.length c10, .int .i64 o2.n], vq (.slice a10 o2.l.length c10) o2.l, blk w8.heap.size 26 #[.int .i64 o1.t, .int .i64 o1.r, .slice a8 o1.l.length c8, .int .i64 o1.n], vq (.slice a8 o1.l.length c8) o1.l, blk w7.heap.size 26 #[.int .i64 o1.t, .int .i64 o1.r, .slice a7 o1.l.length c7, .int .i64 o1.n], vq (.slice a7 o1.l.length c7) o1.l, blk (w.heap.size + 1) 26 #[.int .i64 t', .int .i64 r', .slice a' l'.length c', .int .i64 n'], blk w.heap.size 26 #[.int .i64 t, .int .i64 r, .slice a l.length c, .int .i64 n], old w] from (q.graft hS.out.tail).alloc _ _)
    clear q B
    obtain ⟨_, k0, k1, k2, k3, _⟩ := (hS.out.bring 7 rfl).b4
    have B := Lib.hid (upR_all t r n (.slice a l.length c) l id mo _ (HRH.out _ (hS.out.bring 8 rfl).gold) hl.out hD.out hn0.out hn1.out)
    unfold Tell3 hval at B
    rw [ho2.out] at B
    go_wp2_with fail
    refine B.out.mono ?_
    rintro e w11 ⟨a11, c11, rfl, q⟩
    replace hS := Lib.hid (show Sep _ [blk w11.heap.size 26 #[.int .i64 o2.t, .int .i64 o2.r, .slice a11 o2.l.length c11, .int .i64 o2.n], vq (.slice a11 o2.l.length c11) o2.l, blk w10.heap.size 26 #[.int .i64 o2.t, .int .i64 o2.r, .slice a10 o2.l.length c10, .int .i64 o2.n], vq (.slice a10 o2.l.length c10) o2.l, blk w8.heap.size 26 #[.int .i64 o1.t, .int .i64 o1.r, .slice a8 o1.l.length c8, .int .i64 o1.n], vq (.slice a8 o1.l.length c8) o1.l, blk w7.heap.size 26 #[.int .i64 o1.t, .int .i64 o1.r, .slice a7 o1.l.length c7, .int .i64 o1.n], vq (.slice a7 o1.l.length c7) o1.l, blk (w.heap.size + 1) 26 #[.int .i64 t', .int .i64 r', .slice a' l'.length c', .int .i64 n'], blk w.heap.size 26 #[.int .i64 t, .int .i64 r, .slice a l.length c, .int .i64 n], old w] from (q.graft hS.out).alloc _ _)
    clear q B k0 k1 k2 k3
    obtain ⟨_, d0, d1, d2, d3, _⟩ := (hS.out.bring 6 rfl).b4
    obtain ⟨_, f0, f1, f2, f3, _⟩ := (hS.out.bring 4 rfl).b4
    have A := Lib.hid (sameR_true o1.t o1.r o1.n (.slice a7 o1.l.length c7) (.slice a8 o1.l.length c8) o1.l _ (hS.out.bring 7 rfl).vq_rq (hS.out.bring 5 rfl).vq_rq hlno1.out)
    unfold hval at A
    go_wp2_with fail
    refine A.out.mono ?_
    rintro e w12 ⟨rfl, q⟩
    replace hS := Lib.hid (hS.out.below q)
    clear q A d0 d1 d2 d3 f0 f1 f2 f3
    obtain ⟨_, d0, d1, d2, d3, _⟩ := (hS.out.bring 2 rfl).b4
    obtain ⟨_, f0, f1, f2, f3, _⟩ := (hS.out.bring 0 rfl).b4
    have A := Lib.hid (sameR_true o2.t o2.r o2.n (.slice a10 o2.l.length c10) (.slice a11 o2.l.length c11) o2.l _ (hS.out.bring 3 rfl).vq_rq (hS.out.bring 1 rfl).vq_rq hlno2.out)
    unfold hval at A
    go_wp2_with fail
    refine A.out.mono ?_
    rintro e w13 ⟨rfl, q⟩
    replace hS := Lib.hid (hS.out.below q)
    clear q A d0 d1 d2 d3 f0 f1 f2 f3
    obtain ⟨o3, ho3⟩ : ∃ o, Hid (lvO t r n l id = o) := ⟨_, Lib.hid rfl⟩
    have hlno3 := Lib.hid (show o3.l.length ≤ 1000 by rw [← ho3.out]; exact lvO_len t r n l id hl12.out)
    obtain ⟨_, k0, k1, k2, k3, _⟩ := (hS.out.bring 9 rfl).b4
    have A := Lib.hid (ownHead_any t r n (.slice a l.length c) l _ (HRH.out _ (hS.out.bring 10 rfl).gold) hl.out)
    unfold hval at A
    go_wp2_with fail
    refine A.out.mono ?_
    rintro e w14 ⟨a14, c14, rfl, q⟩
    replace hS := Lib.hid (q.graft hS.out)
    clear q A k0 k1 k2 k3
    have B := Lib.hid (lvP_all t r n (.slice a14 l.length c14) l id _ hS.out.vq_rq hl.out hD.out)
    unfold Tell2 hval at B
    rw [ho3.out] at B
    go_wp2_with fail
    refine B.out.mono ?_
    rintro e w15 ⟨a15, c15, rfl, q⟩
    replace hS := Lib.hid (show Sep _ [blk w15.heap.size 26 #[.int .i64 o3.t, .int .i64 o3.r, .slice a15 o3.l.length c15, .int .i64 o3.n], vq (.slice a15 o3.l.length c15) o3.l, blk w11.heap.size 26 #[.int .i64 o2.t, .int .i64 o2.r, .slice a11 o2.l.length c11, .int .i64 o2.n], vq (.slice a11 o2.l.length c11) o2.l, blk w10.heap.size 26 #[.int .i64 o2.t, .int .i64 o2.r, .slice a10 o2.l.length c10, .int .i64 o2.n], vq (.slice a10 o2.l.length c10) o2.l, blk w8.heap.size 26 #[.int .i64 o1.t, .int .i64 o1.r, .slice a8 o1.l.length c8, .int .i64 o1.n], vq (.slice a8 o1.l.length c8) o1.l, blk w7.heap.size 26 #[.int .i64 o1.t, .int .i64 o1.r, .slice a7 o1.l.length c7, .int .i64 o1.n], vq (.slice a7 o1.l.length c7) o1.l, blk (w.heap.size + 1) 26 #[.int .i64 t', .int .i64 r', .slice a' l'.length c', .int .i64 n'], blk w.heap.size 26 #[.int .i64 t, .int .i64 r, .slice a l.length c, .int .i64 n], old w] from (q.graft hS.out.tail).alloc _ _)
    clear q B
    obtain ⟨_, k0, k1, k2, k3, _⟩ := (hS.out.bring 11 rfl).b4
    have B := Lib.hid (lvR_all t r n (.slice a l.length c) l id _ (HRH.out _ (hS.out.bring 12 rfl).gold) hl.out)
    unfold Tell2 hval at B
    rw [ho3.out] at B
    go_wp2_with fail
    refine B.out.mono ?_
    rintro e w16 ⟨a16, c16, rfl, q⟩
    replace hS := Lib.hid (show Sep _ [blk w16.heap.size 26 #[.int .i64 o3.t, .int .i64 o3.r, .slice a16 o3.l.length c16, .int .i64 o3.n], vq (.slice a16 o3.l.length c16) o3.l, blk w15.heap.size 26 #[.int .i64 o3.t, .int .i64 o3.r, .slice a15 o3.l.length c15, .int .i64 o3.n], vq (.slice a15 o3.l.length c15) o3.l, blk w11.heap.size 26 #[.int .i64 o2.t, .int .i64 o2.r, .slice a11 o2.l.length c11, .int .i64 o2.n], vq (.slice a11 o2.l.length c11) o2.l, blk w10.heap.size 26 #[.int .i64 o2.t, .int .i64 o2.r, .slice a10 o2.l.length c10, .int .i64 o2.n], vq (.slice a10 o2.l.length c10) o2.l, blk w8.heap.size 26 #[.int .i64 o1.t, .int .i64 o1.r, .slice a8 o1.l.length c8, .int .i64 o1.n], vq (.slice a8 o1.l.length c8) o1.l, blk w7.heap.size 26 #[.int .i64 o1.t, .int .i64 o1.r, .slice a7 o1.l.length c7, .int .i64 o1.n], vq (.slice a7 o1.l.length c7) o1.l, blk (w.heap.size + 1) 26 #[.int .i64 t', .int .i64 r', .slice a' l'.length c', .int .i64 n'], blk w.heap.size 26 #[.int .i64 t, .int .i64 r, .slice a l.length c, .int .i64 n], old w] from (q.graft hS.out).alloc _ _)
    clear q B k0 k1 k2 k3
    obtain ⟨o4, ho4⟩ : ∃ o, Hid (abO t r n l id = o) := ⟨_, Lib.hid rfl⟩
    have hlno4 := Lib.hid (show o4.l.length ≤ 1000 by rw [← ho4.out]; exact abO_len t r n l id hl12.out)
    obtain ⟨_, k0, k1, k2, k3, _⟩ := (hS.out.bring 13 rfl).b4
    have A := Lib.hid (ownHead_any t r n (.slice a l.length c) l _ (HRH.out _ (hS.out.bring 14 rfl).gold) hl.out)
    unfold hval at A
    go_wp2_with fail
    refine A.out.mono ?_
    rintro e w17 ⟨a17, c17, rfl, q⟩
    replace hS := Lib.hid (q.graft hS.out)
    clear q A k0 k1 k2 k3
    have B := Lib.hid (abP_all t r n (.slice a17 l.length c17) l id _ hS.out.vq_rq hl.out hD.out)
    unfold Tell2 hval at B
    rw [ho4.out] at B
    go_wp2_with fail
    refine B.out.mono ?_
    rintro e w18 ⟨a18, c18, rfl, q⟩
    replace hS := Lib.hid (show Sep _ [blk w18.heap.size 26 #[.int .i64 o4.t, .int .i64 o4.r, .slice a18 o4.l.length c18, .int .i64 o4.n], vq (.slice a18 o4.l.length c18) o4.l, blk w16.heap.size 26 #[.int .i64 o3.t, .int .i64 o3.r, .slice a16 o3.l.length c16, .int .i64 o3.n], vq (.slice a16 o3.l.length c16) o3.l, blk w15.heap.size 26 #[.int .i64 o3.t, .int .i64 o3.r, .slice a15 o3.l.length c15, .int .i64 o3.n], vq (.slice a15 o3.l.length c15) o3.l, blk w11.heap.size 26 #[.int .i64 o2.t, .int .i64 o2.r, .slice a11 o2.l.length c11, .int .i64 o2.n], vq (.slice a11 o2.l.length c11) o2.l, blk w10.heap.size 26 #[.int .i64 o2.t, .int .i64 o2.r, .slice a10 o2.l.length c10, .int .i64 o2.n], vq (.slice a10 o2.l.length c10) o2.l, blk w8.heap.size 26 #[.int .i64 o1.t, .int .i64 o1.r, .slice a8 o1.l.length c8, .int .i64 o1.n], vq (.slice a8 o1.l.length c8) o1.l, blk w7.heap.size 26 #[.int .i64 o1.t, .int .i64 o1.r, .slice a7 o1.l.length c7, .int .i64 o1.n], vq (.slice a7 o1.l.length c7) o1.l, blk (w.heap.size + 1) 26 #[.int .i64 t', .int .i64 r', .slice a' l'.length c', .int .i64 n'], blk w.heap.size 26 #[.int .i64 t, .int .i64 r, .slice a l.length c, .int .i64 n], old w] from (q.graft hS.out.tail).alloc _ _)
    clear q B
    obtain ⟨_, k0, k1, k2, k3, _⟩ := (hS.out.bring 15 rfl).b4
    have B := Lib.hid (abR_all t r n (.slice a l.length c) l id _ (HRH.out _ (hS.out.bring 16 rfl).gold) hl.out)
    unfold Tell2 hval at B
    rw [ho4.out] at B
    go_wp2_with fail
    refine B.out.mono ?_
    rintro e w19 ⟨a19, c19, rfl, q⟩
    replace hS := Lib.hid (show Sep _ [blk w19.heap.size 26 #[.int .i64 o4.t, .int .i64 o4.r, .slice a19 o4.l.length c19, .int .i64 o4.n], vq (.slice a19 o4.l.length c19) o4.l, blk w18.heap.size 26 #[.int .i64 o4.t, .int .i64 o4.r, .slice a18 o4.l.length c18, .int .i64 o4.n], vq (.slice a18 o4.l.length c18) o4.l, blk w16.heap.size 26 #[.int .i64 o3.t, .int .i64 o3.r, .slice a16 o3.l.length c16, .int .i64 o3.n], vq (.slice a16 o3.l.length c16) o3.l, blk w15.heap.size 26 #[.int .i64 o3.t, .int .i64 o3.r, .slice a15 o3.l.length c15, .int .i64 o3.n], vq (.slice a15 o3.l.length c15) o3.l, blk w11.heap.size 26 #[.int .i64 o2.t, .int .i64 o2.r, .slice a11 o2.l.length c11, .int .i64 o2.n], vq (.slice a11 o2.l.length c11) o2.l, blk w10.heap.size 26 #[.int .i64 o2.t, .int .i64 o2.r, .slice a10 o2.l.length c10, .int .i64 o2.n], vq (.slice a10 o2.l.length c10) o2.l, blk w8.heap.size 26 #[.int .i64 o1.t, .int .i64 o1.r, .slice a8 o1.l.length c8, .int .i64 o1.n], vq (.slice a8 o1.l.length c8) o1.l, blk w7.heap.size 26 #[.int .i64 o1.t, .int .i64 o1.r, .slice a7 o1.l.length c7, .int .i64 o1.n], vq (.slice a7 o1.l.length c7) o1.l, blk (w.heap.size + 1) 26 #[.int .i64 t', .int .i64 r', .slice a' l'.length c', .int .i64 n'], blk w.heap.size 26 #[.int .i64 t, .int .i64 r, .slice a l.length c, .int .i64 n], old w] from (q.graft hS.out).alloc _ _)
    clear q B k0 k1 k2 k3
    obtain ⟨o5, ho5⟩ : ∃ o, Hid (hdO t r n l id txn = o) := ⟨_, Lib.hid rfl⟩
    have hlno5 := Lib.hid (show o5.l.length ≤ 1000 by rw [← ho5.out]; exact hdO_len t r n l id txn hl12.out)
    obtain ⟨_, k0, k1, k2, k3, _⟩ := (hS.out.bring 17 rfl).b4
    have A := Lib.hid (ownHead_any t r n (.slice a l.length c) l _ (HRH.out _ (hS.out.bring 18 rfl).gold) hl.out)
    unfold hval at A
    go_wp2_with fail
    refine A.out.mono ?_
    rintro e w20 ⟨a20, c20, rfl, q⟩
    replace hS := Lib.hid (q.graft hS.out)
    clear q A k0 k1 k2 k3
    have B := Lib.hid (hdP_all t r n (.slice a20 l.length c20) l id txn _ hS.out.vq_rq hl.out)
    unfold Tell2 hval at B
    rw [ho5.out] at B
    go_wp2_with fail
    refine B.out.mono ?_
    rintro e w21 ⟨a21, c21, rfl, q⟩
    replace hS := Lib.hid (show Sep _ [blk w21.heap.size 26 #[.int .i64 o5.t, .int .i64 o5.r, .slice a21 o5.l.length c21, .int .i64 o5.n], vq (.slice a21 o5.l.length c21) o5.l, blk w19.heap.size 26 #[.int .i64 o4.t, .int .i64 o4.r, .slice a19 o4.l.length c19, .int .i64 o4.n], vq (.slice a19 o4.l.length c19) o4.l, blk w18.heap.size 26 #[.int .i64 o4.t, .int .i64 o4.r, .slice a18 o4.l.length c18, .int .i64 o4.n], vq (.slice a18 o4.l.length c18) o4.l, blk w16.heap.size 26 #[.int .i64 o3.t, .int .i64 o3.r, .slice a16 o3.l.length c16, .int .i64 o3.n], vq (.slice a16 o3.l.length c16) o3.l, blk w15.heap.size 26 #[.int .i64 o3.t, .int .i64 o3.r, .slice a15 o3.l.length c15, .int .i64 o3.n], vq (.slice a15 o3.l.length c15) o3.l, blk w11.heap.size 26 #[.int .i64 o2.t, .int .i64 o2.r, .slice a11 o2.l.length c11, .int .i64 o2.n], vq (.slice a11 o2.l.length c11) o2.l, blk w10.heap.size 26 #[.int .i64 o2.t, .int .i64 o2.r, .slice a10 o2.l.length c10, .int .i64 o2.n], vq (.slice a10 o2.l.length c10) o2.l, blk w8.heap.size 26 #[.int .i64 o1.t, .int .i64 o1.r, .slice a8 o1.l.length c8, .int .i64 o1.n], vq (.slice a8 o1.l.length c8) o1.l, blk w7.heap.size 26 #[.int .i64 o1.t, .int .i64 o1.r, .slice a7 o1.l.length c7, .int .i64 o1.n], vq (.slice a7 o1.l.length c7) o1.l, blk (w.heap.size + 1) 26 #[.int .i64 t', .int .i64 r', .slice a' l'.length c', .int .i64 n'], blk w.heap.size 26 #[.int .i64 t, .int .i64 r, .slice a l.length c, .int .i64 n], old w] from (q.graft hS.out.tail).alloc _ _)
    clear q B
    obtain ⟨_, k0, k1, k2, k3, _⟩ := (hS.out.bring 19 rfl).b4
    have B := Lib.hid (hdR_all t r n (.slice a l.length c) l id txn _ (HRH.out _ (hS.out.bring 20 rfl).gold) hl.out hD.out)
    unfold Tell2 hval at B
    rw [ho5.out] at B
    go_wp2_with fail
    refine B.out.mono ?_
    rintro e w22 ⟨a22, c22, rfl, q⟩
    replace hS := Lib.hid (show Sep _ [blk w22.heap.size 26 #[.int .i64 o5.t, .int .i64 o5.r, .slice a22 o5.l.length c22, .int .i64 o5.n], vq (.slice a22 o5.l.length c22) o5.l, blk w21.heap.size 26 #[.int .i64 o5.t, .int .i64 o5.r, .slice a21 o5.l.length c21, .int .i64 o5.n], vq (.slice a21 o5.l.length c21) o5.l, blk w19.heap.size 26 #[.int .i64 o4.t, .int .i64 o4.r, .slice a19 o4.l.length c19, .int .i64 o4.n], vq (.slice a19 o4.l.length c19) o4.l, blk w18.heap.size 26 #[.int .i64 o4.t, .int .i64 o4.r, .slice a18 o4.l.length c18, .int .i64 o4.n], vq (.slice a18 o4.l.length c18) o4.l, blk w16.heap.size 26 #[.int .i64 o3.t, .int .i64 o3.r, .slice a16 o3.l.length c16, .int .i64 o3.n], vq (.slice a16 o3.l.length c16) o3.l, blk w15.heap.size 26 #[.int .i64 o3.t, .int .i64 o3.r, .slice a15 o3.l.length c15, .int .i64 o3.n], vq (.slice a15 o3.l.length c15) o3.l, blk w11.heap.size 26 #[.int .i64 o2.t, .int .i64 o2.r, .slice a11 o2.l.length c11, .int .i64 o2.n], vq (.slice a11 o2.l.length c11) o2.l, blk w10.heap.size 26 #[.int .i64 o2.t, .int .i64 o2.r, .slice a10 o2.l.length c10, .int .i64 o2.n], vq (.slice a10 o2.l.length c10) o2.l, blk w8.heap.size 26 #[.int .i64 o1.t, .int .i64 o1.r, .slice a8 o1.l.length c8, .int .i64 o1.n], vq (.slice a8 o1.l.length c8) o1.l, blk w7.heap.size 26 #[.int .i64 o1.t, .int .i64 o1.r, .slice a7 o1.l.length c7, .int .i64 o1.n], vq (.slice a7 o1.l.length c7) o1.l, blk (w.heap.size + 1) 26 #[.int .i64 t', .int .i64 r', .slice a' l'.length c', .int .i64 n'], blk w.heap.size 26 #[.int .i64 t, .int .i64 r, .slice a l.length c, .int .i64 n], old w] from (q.graft hS.out).alloc _ _)
    clear q B k0 k1 k2 k3
    obtain ⟨fq, hfq⟩ : ∃ f, Hid (findV l id = f) := ⟨_, Lib.hid rfl⟩
    obtain ⟨_, k0, k1, k2, k3, _⟩ := (hS.out.bring 21 rfl).b4
    have B := Lib.hid (findP_all t r n (.slice a l.length c) l id _ (HRH.out _ (hS.out.bring 22 rfl).gold) hl.out)
    rw [hfq.out, val_cells] at B
    unfold hval at B
    go_wp2_with fail
    refine B.out.mono ?_
    rintro e w23 ⟨rfl, q⟩
    replace hS := Lib.hid (show Sep _ [blk w23.heap.size 42 #[.int .i64 fq.1.id, .int .i64 fq.1.txn, .int .i64 fq.1.mode, .int .i64 fq.1.want, .int .i64 fq.1.since], blk w22.heap.size 26 #[.int .i64 o5.t, .int .i64 o5.r, .slice a22 o5.l.length c22, .int .i64 o5.n], vq (.slice a22 o5.l.length c22) o5.l, blk w21.heap.size 26 #[.int .i64 o5.t, .int .i64 o5.r, .slice a21 o5.l.length c21, .int .i64 o5.n], vq (.slice a21 o5.l.length c21) o5.l, blk w19.heap.size 26 #[.int .i64 o4.t, .int .i64 o4.r, .slice a19 o4.l.length c19, .int .i64 o4.n], vq (.slice a19 o4.l.length c19) o4.l, blk w18.heap.size 26 #[.int .i64 o4.t, .int .i64 o4.r, .slice a18 o4.l.length c18, .int .i64 o4.n], vq (.slice a18 o4.l.length c18) o4.l, blk w16.heap.size 26 #[.int .i64 o3.t, .int .i64 o3.r, .slice a16 o3.l.length c16, .int .i64 o3.n], vq (.slice a16 o3.l.length c16) o3.l, blk w15.heap.size 26 #[.int .i64 o3.t, .int .i64 o3.r, .slice a15 o3.l.length c15, .int .i64 o3.n], vq (.slice a15 o3.l.length c15) o3.l, blk w11.heap.size 26 #[.int .i64 o2.t, .int .i64 o2.r, .slice a11 o2.l.length c11, .int .i64 o2.n], vq (.slice a11 o2.l.length c11) o2.l, blk w10.heap.size 26 #[.int .i64 o2.t, .int .i64 o2.r, .slice a10 o2.l.length c10, .int .i64 o2.n], vq (.slice a10 o2.l.length c10) o2.l, blk w8.heap.size 26 #[.int .i64 o1.t, .int .i64 o1.r, .slice a8 o1.l.length c8, .int .i64 o1.n], vq (.slice a8 o1.l.length c8) o1.l, blk w7.heap.size 26 #[.int .i64 o1.t, .int .i64 o1.r, .slice a7 o1.l.length c7, .int .i64 o1.n], vq (.slice a7 o1.l.length c7) o1.l, blk (w.heap.size + 1) 26 #[.int .i64 t', .int .i64 r', .slice a' l'.length c', .int .i64 n'], blk w.heap.size 26 #[.int .i64 t, .int .i64 r, .slice a l.length c, .int .i64 n], old w] from (hS.out.below q).alloc _ _)
    clear q B k0 k1 k2 k3
    obtain ⟨_, k0, k1, k2, k3, _⟩ := (hS.out.bring 22 rfl).b4
    have B := Lib.hid (findR_all t r n (.slice a l.length c) l id _ (HRH.out _ (hS.out.bring 23 rfl).gold) hl.out)
    rw [hfq.out, val_cells] at B
    unfold hval at B
    go_wp2_with fail
    refine B.out.mono ?_
    rintro e w24 ⟨rfl, q⟩
    replace hS := Lib.hid (show Sep _ [blk w24.heap.size 42 #[.int .i64 fq.1.id, .int .i64 fq.1.txn, .int .i64 fq.1.mode, .int .i64 fq.1.want, .int .i64 fq.1.since], blk w23.heap.size 42 #[.int .i64 fq.1.id, .int .i64 fq.1.txn, .int .i64 fq.1.mode, .int .i64 fq.1.want, .int .i64 fq.1.since], blk w22.heap.size 26 #[.int .i64 o5.t, .int .i64 o5.r, .slice a22 o5.l.length c22, .int .i64 o5.n], vq (.slice a22 o5.l.length c22) o5.l, blk w21.heap.size 26 #[.int .i64 o5.t, .int .i64 o5.r, .slice a21 o5.l.length c21, .int .i64 o5.n], vq (.slice a21 o5.l.length c21) o5.l, blk w19.heap.size 26 #[.int .i64 o4.t, .int .i64 o4.r, .slice a19 o4.l.length c19, .int .i64 o4.n], vq (.slice a19 o4.l.length c19) o4.l, blk w18.heap.size 26 #[.int .i64 o4.t, .int .i64 o4.r, .slice a18 o4.l.length c18, .int .i64 o4.n], vq (.slice a18 o4.l.length c18) o4.l, blk w16.heap.size 26 #[.int .i64 o3.t, .int .i64 o3.r, .slice a16 o3.l.length c16, .int .i64 o3.n], vq (.slice a16 o3.l.length c16) o3.l, blk w15.heap.size 26 #[.int .i64 o3.t, .int .i64 o3.r, .slice a15 o3.l.length c15, .int .i64 o3.n], vq (.slice a15 o3.l.length c15) o3.l, blk w11.heap.size 26 #[.int .i64 o2.t, .int .i64 o2.r, .slice a11 o2.l.length c11, .int .i64 o2.n], vq (.slice a11 o2.l.length c11) o2.l, blk w10.heap.size 26 #[.int .i64 o2.t, .int .i64 o2.r, .slice a10 o2.l.length c10, .int .i64 o2.n], vq (.slice a10 o2.l.length c10) o2.l, blk w8.heap.size 26 #[.int .i64 o1.t, .int .i64 o1.r, .slice a8 o1.l.length c8, .int .i64 o1.n], vq (.slice a8 o1.l.length c8) o1.l, blk w7.heap.size 26 #[.int .i64 o1.t, .int .i64 o1.r, .slice a7 o1.l.length c7, .int .i64 o1.n], vq (.slice a7 o1.l.length c7) o1.l, blk (w.heap.size + 1) 26 #[.int .i64 t', .int .i64 r', .slice a' l'.length c', .int .i64 n'], blk w.heap.size 26 #[.int .i64 t, .int .i64 r, .slice a l.length c, .int .i64 n], old w] from (hS.out.below q).alloc _ _)
    clear q B k0 k1 k2 k3
    go_wp2_with fail
    generalize World.alloc w24 _ = we at *
    obtain ⟨wd, hwd⟩ : ∃ x, World.drew we = x := ⟨_, rfl⟩
    have hXd := Lib.hid (show Sep wd _ from hwd ▸ hS.out.drew)
    have HBH : Hid (∀ W, Below wd.heap.size wd W → W.cell? ⟨w.heap.size, 0, none⟩ = some (.int .i64 t) ∧ W.cell? ⟨w.heap.size, 1, none⟩ = some (.int .i64 r) ∧ W.cell? ⟨w.heap.size, 2, none⟩ = some (.slice a l.length c) ∧ W.cell? ⟨w.heap.size, 3, none⟩ = some (.int .i64 n)) := Lib.hid (fun W hb => by
      obtain ⟨hlt, c0, c1, c2, c3, _⟩ := (hXd.out.bring 23 rfl).b4
      exact ⟨(hb.cell (p := ⟨w.heap.size, 0, none⟩) hlt).trans c0, (hb.cell (p := ⟨w.heap.size, 1, none⟩) hlt).trans c1, (hb.cell (p := ⟨w.heap.size, 2, none⟩) hlt).trans c2, (hb.cell (p := ⟨w.heap.size, 3, none⟩) hlt).trans c3⟩)
    have HBp : Hid (∀ W, Below wd.heap.size wd W → W.cell? ⟨w15.heap.size, 0, none⟩ = some (.int .i64 o3.t) ∧ W.cell? ⟨w15.heap.size, 1, none⟩ = some (.int .i64 o3.r) ∧ W.cell? ⟨w15.heap.size, 2, none⟩ = some ((.slice a15 o3.l.length c15)) ∧ W.cell? ⟨w15.heap.size, 3, none⟩ = some (.int .i64 o3.n)) := Lib.hid (fun W hb => by
      obtain ⟨hlt, c0, c1, c2, c3, _⟩ := (hXd.out.bring 12 rfl).b4
      exact ⟨(hb.cell (p := ⟨w15.heap.size, 0, none⟩) hlt).trans c0, (hb.cell (p := ⟨w15.heap.size, 1, none⟩) hlt).trans c1, (hb.cell (p := ⟨w15.heap.size, 2, none⟩) hlt).trans c2, (hb.cell (p := ⟨w15.heap.size, 3, none⟩) hlt).trans c3⟩)
    have HQp := Lib.hid (fun W (hb : Below wd.heap.size wd W) => ((hXd.out.bring 13 rfl).vq_rq).below hb)
    have HBr : Hid (∀ W, Below wd.heap.size wd W → W.cell? ⟨w16.heap.size, 0, none⟩ = some (.int .i64 o3.t) ∧ W.cell? ⟨w16.heap.size, 1, none⟩ = some (.int .i64 o3.r) ∧ W.cell? ⟨w16.heap.size, 2, none⟩ = some ((.slice a16 o3.l.length c16)) ∧ W.cell? ⟨w16.heap.size, 3, none⟩ = some (.int .i64 o3.n)) := Lib.hid (fun W hb => by
      obtain ⟨hlt, c0, c1, c2, c3, _⟩ := (hXd.out.bring 10 rfl).b4
      exact ⟨(hb.cell (p := ⟨w16.heap.size, 0, none⟩) hlt).trans c0, (hb.cell (p := ⟨w16.heap.size, 1, none⟩) hlt).trans c1, (hb.cell (p := ⟨w16.heap.size, 2, none⟩) hlt).trans c2, (hb.cell (p := ⟨w16.heap.size, 3, none⟩) hlt).trans c3⟩)
    have HQr := Lib.hid (fun W (hb : Below wd.heap.size wd W) => ((hXd.out.bring 11 rfl).vq_rq).below hb)
    have HBt : Hid (∀ W, Below wd.heap.size wd W → W.cell? ⟨w18.heap.size, 0, none⟩ = some (.int .i64 o4.t) ∧ W.cell? ⟨w18.heap.size, 1, none⟩ = some (.int .i64 o4.r) ∧ W.cell? ⟨w18.heap.size, 2, none⟩ = some ((.slice a18 o4.l.length c18)) ∧ W.cell? ⟨w18.heap.size, 3, none⟩ = some (.int .i64 o4.n)) := Lib.hid (fun W hb => by
      obtain ⟨hlt, c0, c1, c2, c3, _⟩ := (hXd.out.bring 8 rfl).b4
      exact ⟨(hb.cell (p := ⟨w18.heap.size, 0, none⟩) hlt).trans c0, (hb.cell (p := ⟨w18.heap.size, 1, none⟩) hlt).trans c1, (hb.cell (p := ⟨w18.heap.size, 2, none⟩) hlt).trans c2, (hb.cell (p := ⟨w18.heap.size, 3, none⟩) hlt).trans c3⟩)
    have HQt := Lib.hid (fun W (hb : Below wd.heap.size wd W) => ((hXd.out.bring 9 rfl).vq_rq).below hb)
    have HBv : Hid (∀ W, Below wd.heap.size wd W → W.cell? ⟨w19.heap.size, 0, none⟩ = some (.int .i64 o4.t) ∧ W.cell? ⟨w19.heap.size, 1, none⟩ = some (.int .i64 o4.r) ∧ W.cell? ⟨w19.heap.size, 2, none⟩ = some ((.slice a19 o4.l.length c19)) ∧ W.cell? ⟨w19.heap.size, 3, none⟩ = some (.int .i64 o4.n)) := Lib.hid (fun W hb => by
      obtain ⟨hlt, c0, c1, c2, c3, _⟩ := (hXd.out.bring 6 rfl).b4
      exact ⟨(hb.cell (p := ⟨w19.heap.size, 0, none⟩) hlt).trans c0, (hb.cell (p := ⟨w19.heap.size, 1, none⟩) hlt).trans c1, (hb.cell (p := ⟨w19.heap.size, 2, none⟩) hlt).trans c2, (hb.cell (p := ⟨w19.heap.size, 3, none⟩) hlt).trans c3⟩)
    have HQv := Lib.hid (fun W (hb : Below wd.heap.size wd W) => ((hXd.out.bring 7 rfl).vq_rq).below hb)
    have HBx : Hid (∀ W, Below wd.heap.size wd W → W.cell? ⟨w21.heap.size, 0, none⟩ = some (.int .i64 o5.t) ∧ W.cell? ⟨w21.heap.size, 1, none⟩ = some (.int .i64 o5.r) ∧ W.cell? ⟨w21.heap.size, 2, none⟩ = some ((.slice a21 o5.l.length c21)) ∧ W.cell? ⟨w21.heap.size, 3, none⟩ = some (.int .i64 o5.n)) := Lib.hid (fun W hb => by
      obtain ⟨hlt, c0, c1, c2, c3, _⟩ := (hXd.out.bring 4 rfl).b4
      exact ⟨(hb.cell (p := ⟨w21.heap.size, 0, none⟩) hlt).trans c0, (hb.cell (p := ⟨w21.heap.size, 1, none⟩) hlt).trans c1, (hb.cell (p := ⟨w21.heap.size, 2, none⟩) hlt).trans c2, (hb.cell (p := ⟨w21.heap.size, 3, none⟩) hlt).trans c3⟩)
    have HQx := Lib.hid (fun W (hb : Below wd.heap.size wd W) => ((hXd.out.bring 5 rfl).vq_rq).below hb)
    have HBz : Hid (∀ W, Below wd.heap.size wd W → W.cell? ⟨w22.heap.size, 0, none⟩ = some (.int .i64 o5.t) ∧ W.cell? ⟨w22.heap.size, 1, none⟩ = some (.int .i64 o5.r) ∧ W.cell? ⟨w22.heap.size, 2, none⟩ = some ((.slice a22 o5.l.length c22)) ∧ W.cell? ⟨w22.heap.size, 3, none⟩ = some (.int .i64 o5.n)) := Lib.hid (fun W hb => by
      obtain ⟨hlt, c0, c1, c2, c3, _⟩ := (hXd.out.bring 2 rfl).b4
      exact ⟨(hb.cell (p := ⟨w22.heap.size, 0, none⟩) hlt).trans c0, (hb.cell (p := ⟨w22.heap.size, 1, none⟩) hlt).trans c1, (hb.cell (p := ⟨w22.heap.size, 2, none⟩) hlt).trans c2, (hb.cell (p := ⟨w22.heap.size, 3, none⟩) hlt).trans c3⟩)
    have HQz := Lib.hid (fun W (hb : Below wd.heap.size wd W) => ((hXd.out.bring 3 rfl).vq_rq).below hb)
    have HBbb : Hid (∀ W, Below wd.heap.size wd W → W.cell? ⟨w23.heap.size, 0, none⟩ = some (.int .i64 fq.1.id) ∧ W.cell? ⟨w23.heap.size, 1, none⟩ = some (.int .i64 fq.1.txn) ∧ W.cell? ⟨w23.heap.size, 2, none⟩ = some (.int .i64 fq.1.mode) ∧ W.cell? ⟨w23.heap.size, 3, none⟩ = some (.int .i64 fq.1.want) ∧ W.cell? ⟨w23.heap.size, 4, none⟩ = some (.int .i64 fq.1.since)) := Lib.hid (fun W hb => by
      obtain ⟨hlt, c0, c1, c2, c3, c4, _⟩ := (hXd.out.bring 1 rfl).b5
      exact ⟨(hb.cell (p := ⟨w23.heap.size, 0, none⟩) hlt).trans c0, (hb.cell (p := ⟨w23.heap.size, 1, none⟩) hlt).trans c1, (hb.cell (p := ⟨w23.heap.size, 2, none⟩) hlt).trans c2, (hb.cell (p := ⟨w23.heap.size, 3, none⟩) hlt).trans c3, (hb.cell (p := ⟨w23.heap.size, 4, none⟩) hlt).trans c4⟩)
    have HBcc : Hid (∀ W, Below wd.heap.size wd W → W.cell? ⟨w24.heap.size, 0, none⟩ = some (.int .i64 fq.1.id) ∧ W.cell? ⟨w24.heap.size, 1, none⟩ = some (.int .i64 fq.1.txn) ∧ W.cell? ⟨w24.heap.size, 2, none⟩ = some (.int .i64 fq.1.mode) ∧ W.cell? ⟨w24.heap.size, 3, none⟩ = some (.int .i64 fq.1.want) ∧ W.cell? ⟨w24.heap.size, 4, none⟩ = some (.int .i64 fq.1.since)) := Lib.hid (fun W hb => by
      obtain ⟨hlt, c0, c1, c2, c3, c4, _⟩ := (hXd.out.bring 0 rfl).b5
      exact ⟨(hb.cell (p := ⟨w24.heap.size, 0, none⟩) hlt).trans c0, (hb.cell (p := ⟨w24.heap.size, 1, none⟩) hlt).trans c1, (hb.cell (p := ⟨w24.heap.size, 2, none⟩) hlt).trans c2, (hb.cell (p := ⟨w24.heap.size, 3, none⟩) hlt).trans c3, (hb.cell (p := ⟨w24.heap.size, 4, none⟩) hlt).trans c4⟩)
    have hgd := Lib.hid (hXd.out.bring 24 rfl).gold
    have hB := Lib.hid (Below.refl wd.heap.size wd)
    clear hXd hS
    obtain ⟨mv, hmv⟩ : ∃ x, Hid (modeOf l txn = x) := ⟨_, Lib.hid rfl⟩
    obtain ⟨gv, hgv⟩ : ∃ x, Hid (supL (l.map (·.mode)) = x) := ⟨_, Lib.hid rfl⟩
    have hbl := Lib.hid (Nat.le_trans (blkV_lenQ l id) hl.out)
    obtain ⟨bv, hbv⟩ : ∃ x, Hid (blkV l id = x) := ⟨_, Lib.hid rfl⟩
    rw [hbv.out] at hbl
    have hqe : ∀ W, (binOp .eql 42 (.agg #[.int .i64 fq.1.id, .int .i64 fq.1.txn, .int .i64 fq.1.mode, .int .i64 fq.1.want, .int .i64 fq.1.since]) (.agg #[.int .i64 fq.1.id, .int .i64 fq.1.txn, .int .i64 fq.1.mode, .int .i64 fq.1.want, .int .i64 fq.1.since])).run Tryz.prog W = .ok (.bool true) W := fun W => by
      rw [run_eql_req, show reqB fq.1.id fq.1.txn fq.1.mode fq.1.want fq.1.since fq.1.id fq.1.txn fq.1.mode fq.1.want fq.1.since = true by rw [reqB_eq]; exact decide_eq_true rfl]
    have hS := Lib.hid (show (fun W : World => Below wd.heap.size wd W) _ from (by rw [hwd]; exact Below.refl _ _ : Below wd.heap.size wd (World.drew we)))
    try dsimp only [List.append]
    refine hl_begin_n (fun W : World => Below wd.heap.size wd W) ((0, true) :: (1, true) :: (2, false) :: (3, true) :: (4, true) :: (5, true) :: (6, true) :: (7, true) :: (8, true) :: (9, true) :: (10, true) :: (11, false) :: (12, true) :: (13, true) :: (14, true) :: (15, true) :: (16, true) :: (17, true) :: (18, true) :: (19, true) :: (20, true) :: (21, false) :: (22, true) :: (23, true) :: (24, true) :: (25, true) :: (26, true) :: (27, true) :: (28, true) :: (29, true) :: (30, true) :: (31, true) :: (32, true) :: (33, true) :: (34, true) :: (35, true) :: (36, true) :: (37, true) :: (38, true) :: (39, true) :: (40, true) :: (42, true) :: (43, true) :: (41, false) :: (44, false) :: (45, true) :: (46, true) :: (47, true) :: (48, true) :: (50, true) :: (49, false) :: (51, false) :: (52, true) :: (53, true) :: (54, true) :: (55, true) :: (56, true) :: (58, true) :: (59, true) :: (57, false) :: (60, false) :: (61, false) :: (62, true) :: (63, true) :: []) (([], [23], 183) :: ([], [25], 184) :: ([0, 1], [182, 183], 185) :: ([2, 2], [184], 186) :: ([3], [24, 185], 187) :: ([3], [26, 185], 188) :: ([4, 5, 3], [186, 187, 185], 189) :: ([3, 6], [185, 188], 190) :: ([7, 3], [189], 191) :: ([8], [27, 190], 192) :: ([8], [29, 190], 193) :: ([9, 10, 8, 8], [191, 192, 190], 194) :: ([8, 11], [190, 193], 195) :: ([12, 11], [194], 196) :: ([13], [28, 195], 197) :: ([13], [30, 195], 198) :: ([14, 15, 13], [196, 197, 195], 199) :: ([13, 16], [195, 198], 200) :: ([17, 13], [199], 201) :: ([18], [31, 200], 202) :: ([18], [33, 200], 203) :: ([19, 20, 18, 18], [201, 202, 200], 204) :: ([18, 21], [200, 203], 205) :: ([22, 21], [204], 206) :: ([23], [32, 205], 207) :: ([23], [34, 205], 208) :: ([24, 25, 23], [206, 207, 205], 209) :: ([23, 26], [205, 208], 210) :: ([27, 23], [209], 211) :: ([28], [35, 210], 212) :: ([28], [37, 210], 213) :: ([29, 30, 28], [211, 212, 210], 214) :: ([28, 31], [210, 213], 215) :: ([32, 28], [214], 216) :: ([33], [36, 215], 217) :: ([33], [38, 215], 218) :: ([34, 35, 33], [216, 217, 215], 219) :: ([33, 36], [215, 218], 220) :: ([37, 33], [219], 221) :: ([38], [5, 220], 222) :: ([38], [3, 220], 223) :: ([39, 40, 38, 38], [221, 222, 220], 224) :: ([38], [5, 220], 225) :: ([38], [3, 220], 226) :: ([42, 43, 41, 38], [224, 225, 220], 227) :: ([41, 44, 38], [223, 226, 220], 228) :: ([38, 45], [220, 227], 229) :: ([46, 44], [228], 230) :: ([47], [5, 229], 231) :: ([48, 47, 47], [230, 229], 232) :: ([47], [5, 229], 233) :: ([50, 49, 47], [232, 229], 234) :: ([49, 51, 47], [231, 233, 229], 235) :: ([47, 52], [229, 234], 236) :: ([53, 51], [235], 237) :: ([54], [5, 236], 238) :: ([54], [2, 236], 239) :: ([55, 56, 54, 54], [237, 238, 236], 240) :: ([54], [5, 236], 241) :: ([54], [2, 236], 242) :: ([58, 59, 57, 54], [240, 241, 236], 243) :: ([57, 60, 60, 54], [239, 242, 236], 244) :: ([54, 61], [236, 243], 245) :: ([62, 61, 0, 1, 2, 3, 4, 5, 6, 7, 8, 9, 10, 11, 12, 13, 14, 15, 16, 17, 18, 19, 20, 21, 22, 23, 24, 25, 26, 27, 28, 29, 30, 31, 32, 33, 34, 35, 36, 37, 38, 39, 40, 41, 42, 43, 44, 45, 46, 47, 48, 49, 50, 51, 52, 53, 54, 55, 56, 57, 58, 59, 60, 61, 62], [244], 11) :: []) (by kernel_rfl) (by kernel_rfl) (by kernel_rfl) (by kernel_rfl) rfl (by intro _ _ _ _ _ h; exact h) hS.out ?_
    change HL _ _ _ _ _ _ (World.drew _)
    rw [hwd]
    refine hl_take ?v21 rfl (by kernel_rfl) ?y21 ?z21
    case y21 => intro W hW; obtain ⟨d0, d1, d2, d3⟩ := HBp.out _ (show Below _ _ _ from hW); replace hW := Lib.hid hW; go_simp; try rfl
    case z21 =>
    simp only [Act.put, List.setIfInBounds_toArray, List.set_cons_succ, List.set_cons_zero, List.getElem_toArray, List.getElem_cons_zero, List.getElem_cons_succ]
    refine hl_take ?v22 rfl (by kernel_rfl) ?y22 ?z22
    case y22 => intro W hW; obtain ⟨d0, d1, d2, d3⟩ := HBr.out _ (show Below _ _ _ from hW); replace hW := Lib.hid hW; go_simp; try rfl
    case z22 =>
    simp only [Act.put, List.setIfInBounds_toArray, List.set_cons_succ, List.set_cons_zero, List.getElem_toArray, List.getElem_cons_zero, List.getElem_cons_succ]
    refine hl_one rfl (by kernel_rfl) (fun K hK => ?_)
    go_simp
    go_at_call 9
    have hq := sameR_true o3.t o3.r o3.n (.slice a15 o3.l.length c15) (.slice a16 o3.l.length c16) o3.l _ (HQp.out _ hB.out) (HQr.out _ hB.out) hlno3.out
    unfold hval at hq
    refine hq.mono ?_
    clear hq
    rintro e y1 ⟨rfl, q⟩
    replace hB := Lib.hid (hB.out.trans (q.mono hB.out.size))
    clear q
    refine hK.out _ _ hB.out ?_
    clear hK K
    try simp only [Act.put, List.setIfInBounds_toArray, List.set_cons_succ, List.set_cons_zero, List.getElem_toArray, List.getElem_cons_zero, List.getElem_cons_succ]
    refine hl_take ?v23 rfl (by kernel_rfl) ?y23 ?z23
    case y23 => intro W hW; skip; replace hW := Lib.hid hW; go_simp; try rfl
    case z23 =>
    simp only [Act.put, List.setIfInBounds_toArray, List.set_cons_succ, List.set_cons_zero, List.getElem_toArray, List.getElem_cons_zero, List.getElem_cons_succ]
    refine hl_take ?v24 rfl (by kernel_rfl) ?y24 ?z24
    case y24 => intro W hW; skip; replace hW := Lib.hid hW; go_simp; try rfl
    case z24 =>
    simp only [Act.put, List.setIfInBounds_toArray, List.set_cons_succ, List.set_cons_zero, List.getElem_toArray, List.getElem_cons_zero, List.getElem_cons_succ]
    refine hl_take ?v25 rfl (by kernel_rfl) ?y25 ?z25
    case y25 => intro W hW; skip; replace hW := Lib.hid hW; go_simp; try rfl
    case z25 =>
    simp only [Act.put, List.setIfInBounds_toArray, List.set_cons_succ, List.set_cons_zero, List.getElem_toArray, List.getElem_cons_zero, List.getElem_cons_succ]
    refine hl_take ?v26 rfl (by kernel_rfl) ?y26 ?z26
    case y26 => intro W hW; skip; replace hW := Lib.hid hW; go_simp; try rfl
    case z26 =>
    simp only [Act.put, List.setIfInBounds_toArray, List.set_cons_succ, List.set_cons_zero, List.getElem_toArray, List.getElem_cons_zero, List.getElem_cons_succ]
    refine hl_take ?v27 rfl (by kernel_rfl) ?y27 ?z27
    case y27 => intro W hW; skip; replace hW := Lib.hid hW; go_simp; try rfl
    case z27 =>
    simp only [Act.put, List.setIfInBounds_toArray, List.set_cons_succ, List.set_cons_zero, List.getElem_toArray, List.getElem_cons_zero, List.getElem_cons_succ]
    refine hl_take ?v28 rfl (by kernel_rfl) ?y28 ?z28
    case y28 => intro W hW; skip; replace hW := Lib.hid hW; go_simp; try rfl
    case z28 =>
    simp only [Act.put, List.setIfInBounds_toArray, List.set_cons_succ, List.set_cons_zero, List.getElem_toArray, List.getElem_cons_zero, List.getElem_cons_succ]
    refine hl_take ?v29 rfl (by kernel_rfl) ?y29 ?z29
    case y29 => intro W hW; obtain ⟨d0, d1, d2, d3⟩ := HBt.out _ (show Below _ _ _ from hW); replace hW := Lib.hid hW; go_simp; try rfl
    case z29 =>
    simp only [Act.put, List.setIfInBounds_toArray, List.set_cons_succ, List.set_cons_zero, List.getElem_toArray, List.getElem_cons_zero, List.getElem_cons_succ]
    refine hl_take ?v30 rfl (by kernel_rfl) ?y30 ?z30
    case y30 => intro W hW; obtain ⟨d0, d1, d2, d3⟩ := HBv.out _ (show Below _ _ _ from hW); replace hW := Lib.hid hW; go_simp; try rfl
    case z30 =>
    simp only [Act.put, List.setIfInBounds_toArray, List.set_cons_succ, List.set_cons_zero, List.getElem_toArray, List.getElem_cons_zero, List.getElem_cons_succ]
    refine hl_one rfl (by kernel_rfl) (fun K hK => ?_)
    go_simp
    go_at_call 9
    have hq := sameR_true o4.t o4.r o4.n (.slice a18 o4.l.length c18) (.slice a19 o4.l.length c19) o4.l _ (HQt.out _ hB.out) (HQv.out _ hB.out) hlno4.out
    unfold hval at hq
    refine hq.mono ?_
    clear hq
    rintro e y2 ⟨rfl, q⟩
    replace hB := Lib.hid (hB.out.trans (q.mono hB.out.size))
    clear q
    refine hK.out _ _ hB.out ?_
    clear hK K
    try simp only [Act.put, List.setIfInBounds_toArray, List.set_cons_succ, List.set_cons_zero, List.getElem_toArray, List.getElem_cons_zero, List.getElem_cons_succ]
    refine hl_take ?v31 rfl (by kernel_rfl) ?y31 ?z31
    case y31 => intro W hW; skip; replace hW := Lib.hid hW; go_simp; try rfl
    case z31 =>
    simp only [Act.put, List.setIfInBounds_toArray, List.set_cons_succ, List.set_cons_zero, List.getElem_toArray, List.getElem_cons_zero, List.getElem_cons_succ]
    refine hl_take ?v32 rfl (by kernel_rfl) ?y32 ?z32
    case y32 => intro W hW; skip; replace hW := Lib.hid hW; go_simp; try rfl
    case z32 =>
    simp only [Act.put, List.setIfInBounds_toArray, List.set_cons_succ, List.set_cons_zero, List.getElem_toArray, List.getElem_cons_zero, List.getElem_cons_succ]
    refine hl_take ?v33 rfl (by kernel_rfl) ?y33 ?z33
    case y33 => intro W hW; skip; replace hW := Lib.hid hW; go_simp; try rfl
    case z33 =>
    simp only [Act.put, List.setIfInBounds_toArray, List.set_cons_succ, List.set_cons_zero, List.getElem_toArray, List.getElem_cons_zero, List.getElem_cons_succ]
    refine hl_take ?v34 rfl (by kernel_rfl) ?y34 ?z34
    case y34 => intro W hW; skip; replace hW := Lib.hid hW; go_simp; try rfl
    case z34 =>
    simp only [Act.put, List.setIfInBounds_toArray, List.set_cons_succ, List.set_cons_zero, List.getElem_toArray, List.getElem_cons_zero, List.getElem_cons_succ]
    refine hl_take ?v35 rfl (by kernel_rfl) ?y35 ?z35
    case y35 => intro W hW; skip; replace hW := Lib.hid hW; go_simp; try rfl
    case z35 =>
    simp only [Act.put, List.setIfInBounds_toArray, List.set_cons_succ, List.set_cons_zero, List.getElem_toArray, List.getElem_cons_zero, List.getElem_cons_succ]
    refine hl_take ?v36 rfl (by kernel_rfl) ?y36 ?z36
    case y36 => intro W hW; skip; replace hW := Lib.hid hW; go_simp; try rfl
    case z36 =>
    simp only [Act.put, List.setIfInBounds_toArray, List.set_cons_succ, List.set_cons_zero, List.getElem_toArray, List.getElem_cons_zero, List.getElem_cons_succ]
    refine hl_take ?v37 rfl (by kernel_rfl) ?y37 ?z37
    case y37 => intro W hW; skip; replace hW := Lib.hid hW; go_simp; try rfl
    case z37 =>
    simp only [Act.put, List.setIfInBounds_toArray, List.set_cons_succ, List.set_cons_zero, List.getElem_toArray, List.getElem_cons_zero, List.getElem_cons_succ]
    refine hl_take ?v38 rfl (by kernel_rfl) ?y38 ?z38
    case y38 => intro W hW; obtain ⟨d0, d1, d2, d3⟩ := HBx.out _ (show Below _ _ _ from hW); replace hW := Lib.hid hW; go_simp; try rfl
    case z38 =>
    simp only [Act.put, List.setIfInBounds_toArray, List.set_cons_succ, List.set_cons_zero, List.getElem_toArray, List.getElem_cons_zero, List.getElem_cons_succ]
    refine hl_take ?v39 rfl (by kernel_rfl) ?y39 ?z39
    case y39 => intro W hW; obtain ⟨d0, d1, d2, d3⟩ := HBz.out _ (show Below _ _ _ from hW); replace hW := Lib.hid hW; go_simp; try rfl
    case z39 =>
    simp only [Act.put, List.setIfInBounds_toArray, List.set_cons_succ, List.set_cons_zero, List.getElem_toArray, List.getElem_cons_zero, List.getElem_cons_succ]
    refine hl_one rfl (by kernel_rfl) (fun K hK => ?_)
    go_simp
    go_at_call 9
    have hq := sameR_true o5.t o5.r o5.n (.slice a21 o5.l.length c21) (.slice a22 o5.l.length c22) o5.l _ (HQx.out _ hB.out) (HQz.out _ hB.out) hlno5.out
    unfold hval at hq
    refine hq.mono ?_
    clear hq
    rintro e y3 ⟨rfl, q⟩
    replace hB := Lib.hid (hB.out.trans (q.mono hB.out.size))
    clear q
    refine hK.out _ _ hB.out ?_
    clear hK K
    try simp only [Act.put, List.setIfInBounds_toArray, List.set_cons_succ, List.set_cons_zero, List.getElem_toArray, List.getElem_cons_zero, List.getElem_cons_succ]
    refine hl_take ?v40 rfl (by kernel_rfl) ?y40 ?z40
    case y40 => intro W hW; skip; replace hW := Lib.hid hW; go_simp; try rfl
    case z40 =>
    simp only [Act.put, List.setIfInBounds_toArray, List.set_cons_succ, List.set_cons_zero, List.getElem_toArray, List.getElem_cons_zero, List.getElem_cons_succ]
    refine hl_take ?v41 rfl (by kernel_rfl) ?y41 ?z41
    case y41 => intro W hW; skip; replace hW := Lib.hid hW; go_simp; try rfl
    case z41 =>
    simp only [Act.put, List.setIfInBounds_toArray, List.set_cons_succ, List.set_cons_zero, List.getElem_toArray, List.getElem_cons_zero, List.getElem_cons_succ]
    refine hl_take ?v42 rfl (by kernel_rfl) ?y42 ?z42
    case y42 => intro W hW; skip; replace hW := Lib.hid hW; go_simp; try rfl
    case z42 =>
    simp only [Act.put, List.setIfInBounds_toArray, List.set_cons_succ, List.set_cons_zero, List.getElem_toArray, List.getElem_cons_zero, List.getElem_cons_succ]
    refine hl_take ?v43 rfl (by kernel_rfl) ?y43 ?z43
    case y43 => intro W hW; skip; replace hW := Lib.hid hW; go_simp; try rfl
    case z43 =>
    simp only [Act.put, List.setIfInBounds_toArray, List.set_cons_succ, List.set_cons_zero, List.getElem_toArray, List.getElem_cons_zero, List.getElem_cons_succ]
    refine hl_take ?v44 rfl (by kernel_rfl) ?y44 ?z44
    case y44 => intro W hW; skip; replace hW := Lib.hid hW; go_simp; try rfl
    case z44 =>
    simp only [Act.put, List.setIfInBounds_toArray, List.set_cons_succ, List.set_cons_zero, List.getElem_toArray, List.getElem_cons_zero, List.getElem_cons_succ]
    refine hl_take ?v45 rfl (by kernel_rfl) ?y45 ?z45
    case y45 => intro W hW; skip; replace hW := Lib.hid hW; go_simp; try rfl
    case z45 =>
    simp only [Act.put, List.setIfInBounds_toArray, List.set_cons_succ, List.set_cons_zero, List.getElem_toArray, List.getElem_cons_zero, List.getElem_cons_succ]
    refine hl_take ?v46 rfl (by kernel_rfl) ?y46 ?z46
    case y46 => intro W hW; skip; replace hW := Lib.hid hW; go_simp; try rfl
    case z46 =>
    simp only [Act.put, List.setIfInBounds_toArray, List.set_cons_succ, List.set_cons_zero, List.getElem_toArray, List.getElem_cons_zero, List.getElem_cons_succ]
    refine hl_take ?v47 rfl (by kernel_rfl) ?y47 ?z47
    case y47 => intro W hW; obtain ⟨d0, d1, d2, d3, d4⟩ := HBbb.out _ (show Below _ _ _ from hW); replace hW := Lib.hid hW; go_simp; try rfl
    case z47 =>
    simp only [Act.put, List.setIfInBounds_toArray, List.set_cons_succ, List.set_cons_zero, List.getElem_toArray, List.getElem_cons_zero, List.getElem_cons_succ]
    refine hl_take ?v48 rfl (by kernel_rfl) ?y48 ?z48
    case y48 => intro W hW; obtain ⟨d0, d1, d2, d3, d4⟩ := HBcc.out _ (show Below _ _ _ from hW); replace hW := Lib.hid hW; go_simp; try rfl
    case z48 =>
    simp only [Act.put, List.setIfInBounds_toArray, List.set_cons_succ, List.set_cons_zero, List.getElem_toArray, List.getElem_cons_zero, List.getElem_cons_succ]
    refine hl_take ?v49 rfl (by kernel_rfl) ?y49 ?z49
    case y49 => intro W hW; skip; replace hW := Lib.hid hW; go_simp; try rfl
    case z49 =>
    simp only [Act.put, List.setIfInBounds_toArray, List.set_cons_succ, List.set_cons_zero, List.getElem_toArray, List.getElem_cons_zero, List.getElem_cons_succ]
    refine hl_take ?v50 rfl (by kernel_rfl) ?y50 ?z50
    case y50 => intro W hW; skip; replace hW := Lib.hid hW; go_simp; try rfl
    case z50 =>
    simp only [Act.put, List.setIfInBounds_toArray, List.set_cons_succ, List.set_cons_zero, List.getElem_toArray, List.getElem_cons_zero, List.getElem_cons_succ]
    refine hl_take ?v51 rfl (by kernel_rfl) ?y51 ?z51
    case y51 => intro W hW; skip; replace hW := Lib.hid hW; go_simp; try rfl
    case z51 =>
    simp only [Act.put, List.setIfInBounds_toArray, List.set_cons_succ, List.set_cons_zero, List.getElem_toArray, List.getElem_cons_zero, List.getElem_cons_succ]
    refine hl_take ?v52 rfl (by kernel_rfl) ?y52 ?z52
    case y52 => intro W hW; skip; replace hW := Lib.hid hW; go_simp; try rfl
    case z52 =>
    simp only [Act.put, List.setIfInBounds_toArray, List.set_cons_succ, List.set_cons_zero, List.getElem_toArray, List.getElem_cons_zero, List.getElem_cons_succ]
    refine hl_take ?v53 rfl (by kernel_rfl) ?y53 ?z53
    case y53 => intro W hW; skip; replace hW := Lib.hid hW; go_simp; try rfl
    case z53 =>
    simp only [Act.put, List.setIfInBounds_toArray, List.set_cons_succ, List.set_cons_zero, List.getElem_toArray, List.getElem_cons_zero, List.getElem_cons_succ]
    refine hl_take ?v54 rfl (by kernel_rfl) ?y54 ?z54
    case y54 => intro W hW; skip; replace hW := Lib.hid hW; go_simp; try rfl
    case z54 =>
    simp only [Act.put, List.setIfInBounds_toArray, List.set_cons_succ, List.set_cons_zero, List.getElem_toArray, List.getElem_cons_zero, List.getElem_cons_succ]
    refine hl_take ?v55 rfl (by kernel_rfl) ?y55 ?z55
    case y55 => intro W hW; skip; replace hW := Lib.hid hW; go_simp; try rfl
    case z55 =>
    simp only [Act.put, List.setIfInBounds_toArray, List.set_cons_succ, List.set_cons_zero, List.getElem_toArray, List.getElem_cons_zero, List.getElem_cons_succ]
    refine hl_take ?v56 rfl (by kernel_rfl) ?y56 ?z56
    case y56 => intro W hW; skip; replace hW := Lib.hid hW; go_simp; try rfl
    case z56 =>
    simp only [Act.put, List.setIfInBounds_toArray, List.set_cons_succ, List.set_cons_zero, List.getElem_toArray, List.getElem_cons_zero, List.getElem_cons_succ]
    refine hl_take ?v57 rfl (by kernel_rfl) ?y57 ?z57
    case y57 => intro W hW; obtain ⟨d0, d1, d2, d3⟩ := HBH.out _ (show Below _ _ _ from hW); replace hW := Lib.hid hW; go_simp; try rfl
    case z57 =>
    simp only [Act.put, List.setIfInBounds_toArray, List.set_cons_succ, List.set_cons_zero, List.getElem_toArray, List.getElem_cons_zero, List.getElem_cons_succ]
    refine hl_take ?v58 rfl (by kernel_rfl) ?y58 ?z58
    case y58 => intro W hW; skip; replace hW := Lib.hid hW; go_simp; try rfl
    case z58 =>
    simp only [Act.put, List.setIfInBounds_toArray, List.set_cons_succ, List.set_cons_zero, List.getElem_toArray, List.getElem_cons_zero, List.getElem_cons_succ]
    refine hl_take ?v59 rfl (by kernel_rfl) ?y59 ?z59
    case y59 => intro W hW; obtain ⟨d0, d1, d2, d3⟩ := HBH.out _ (show Below _ _ _ from hW); replace hW := Lib.hid hW; go_simp; try rfl
    case z59 =>
    simp only [Act.put, List.setIfInBounds_toArray, List.set_cons_succ, List.set_cons_zero, List.getElem_toArray, List.getElem_cons_zero, List.getElem_cons_succ]
    refine hl_take ?v60 rfl (by kernel_rfl) ?y60 ?z60
    case y60 => intro W hW; skip; replace hW := Lib.hid hW; go_simp; try rfl
    case z60 =>
    simp only [Act.put, List.setIfInBounds_toArray, List.set_cons_succ, List.set_cons_zero, List.getElem_toArray, List.getElem_cons_zero, List.getElem_cons_succ]
    refine hl_one rfl (by kernel_rfl) (fun K hK => ?_)
    go_simp
    go_at_call 23
    have hq := mode_any t r n (.slice a l.length c) l txn _ (HRH.out _ (hgd.out.trans (hB.out.mono hgd.out.size))) hl.out
    rw [hmv.out] at hq
    refine hq.mono ?_
    clear hq
    rintro e y4 ⟨rfl, q⟩
    replace hB := Lib.hid (hB.out.trans (q.mono hB.out.size))
    clear q
    refine hK.out _ _ hB.out ?_
    clear hK K
    try simp only [Act.put, List.setIfInBounds_toArray, List.set_cons_succ, List.set_cons_zero, List.getElem_toArray, List.getElem_cons_zero, List.getElem_cons_succ]
    refine hl_one rfl (by kernel_rfl) (fun K hK => ?_)
    go_simp
    go_at_call 24
    have hq := modeR_any t r n (.slice a l.length c) l txn _ (HRH.out _ (hgd.out.trans (hB.out.mono hgd.out.size))) hl.out
    rw [hmv.out] at hq
    refine hq.mono ?_
    clear hq
    rintro e y5 ⟨rfl, q⟩
    replace hB := Lib.hid (hB.out.trans (q.mono hB.out.size))
    clear q
    refine hK.out _ _ hB.out ?_
    clear hK K
    try simp only [Act.put, List.setIfInBounds_toArray, List.set_cons_succ, List.set_cons_zero, List.getElem_toArray, List.getElem_cons_zero, List.getElem_cons_succ]
    refine hl_take ?v61 rfl (by kernel_rfl) ?y61 ?z61
    case y61 => intro W hW; skip; replace hW := Lib.hid hW; go_simp; try rfl
    case z61 =>
    simp only [Act.put, List.setIfInBounds_toArray, List.set_cons_succ, List.set_cons_zero, List.getElem_toArray, List.getElem_cons_zero, List.getElem_cons_succ]
    refine hl_take ?v62 rfl (by kernel_rfl) ?y62 ?z62
    case y62 => intro W hW; skip; replace hW := Lib.hid hW; go_simp; try rfl
    case z62 =>
    simp only [Act.put, List.setIfInBounds_toArray, List.set_cons_succ, List.set_cons_zero, List.getElem_toArray, List.getElem_cons_zero, List.getElem_cons_succ]
    refine hl_take ?v63 rfl (by kernel_rfl) ?y63 ?z63
    case y63 => intro W hW; skip; replace hW := Lib.hid hW; go_simp; try rfl
    case z63 =>
    simp only [Act.put, List.setIfInBounds_toArray, List.set_cons_succ, List.set_cons_zero, List.getElem_toArray, List.getElem_cons_zero, List.getElem_cons_succ]
    refine hl_take ?v64 rfl (by kernel_rfl) ?y64 ?z64
    case y64 => intro W hW; obtain ⟨d0, d1, d2, d3⟩ := HBH.out _ (show Below _ _ _ from hW); replace hW := Lib.hid hW; go_simp; try rfl
    case z64 =>
    simp only [Act.put, List.setIfInBounds_toArray, List.set_cons_succ, List.set_cons_zero, List.getElem_toArray, List.getElem_cons_zero, List.getElem_cons_succ]
    refine hl_take ?v65 rfl (by kernel_rfl) ?y65 ?z65
    case y65 => intro W hW; obtain ⟨d0, d1, d2, d3⟩ := HBH.out _ (show Below _ _ _ from hW); replace hW := Lib.hid hW; go_simp; try rfl
    case z65 =>
    simp only [Act.put, List.setIfInBounds_toArray, List.set_cons_succ, List.set_cons_zero, List.getElem_toArray, List.getElem_cons_zero, List.getElem_cons_succ]
    refine hl_one rfl (by kernel_rfl) (fun K hK => ?_)
    go_simp
    go_at_call 25
    have hq := group_any t r n (.slice a l.length c) l _ (HRH.out _ (hgd.out.trans (hB.out.mono hgd.out.size))) hl.out
    rw [hgv.out] at hq
    refine hq.mono ?_
    clear hq
    rintro e y6 ⟨rfl, q⟩
    replace hB := Lib.hid (hB.out.trans (q.mono hB.out.size))
    clear q
    refine hK.out _ _ hB.out ?_
    clear hK K
    try simp only [Act.put, List.setIfInBounds_toArray, List.set_cons_succ, List.set_cons_zero, List.getElem_toArray, List.getElem_cons_zero, List.getElem_cons_succ]
    refine hl_one rfl (by kernel_rfl) (fun K hK => ?_)
    go_simp
    go_at_call 26
    have hq := groupR_any t r n (.slice a l.length c) l _ (HRH.out _ (hgd.out.trans (hB.out.mono hgd.out.size))) hl.out
    rw [hgv.out] at hq
    refine hq.mono ?_
    clear hq
    rintro e y7 ⟨rfl, q⟩
    replace hB := Lib.hid (hB.out.trans (q.mono hB.out.size))
    clear q
    refine hK.out _ _ hB.out ?_
    clear hK K
    try simp only [Act.put, List.setIfInBounds_toArray, List.set_cons_succ, List.set_cons_zero, List.getElem_toArray, List.getElem_cons_zero, List.getElem_cons_succ]
    refine hl_take ?v66 rfl (by kernel_rfl) ?y66 ?z66
    case y66 => intro W hW; skip; replace hW := Lib.hid hW; go_simp; try rfl
    case z66 =>
    simp only [Act.put, List.setIfInBounds_toArray, List.set_cons_succ, List.set_cons_zero, List.getElem_toArray, List.getElem_cons_zero, List.getElem_cons_succ]
    refine hl_take ?v67 rfl (by kernel_rfl) ?y67 ?z67
    case y67 => intro W hW; skip; replace hW := Lib.hid hW; go_simp; try rfl
    case z67 =>
    simp only [Act.put, List.setIfInBounds_toArray, List.set_cons_succ, List.set_cons_zero, List.getElem_toArray, List.getElem_cons_zero, List.getElem_cons_succ]
    refine hl_take ?v68 rfl (by kernel_rfl) ?y68 ?z68
    case y68 => intro W hW; skip; replace hW := Lib.hid hW; go_simp; try rfl
    case z68 =>
    simp only [Act.put, List.setIfInBounds_toArray, List.set_cons_succ, List.set_cons_zero, List.getElem_toArray, List.getElem_cons_zero, List.getElem_cons_succ]
    refine hl_take ?v69 rfl (by kernel_rfl) ?y69 ?z69
    case y69 => intro W hW; obtain ⟨d0, d1, d2, d3⟩ := HBH.out _ (show Below _ _ _ from hW); replace hW := Lib.hid hW; go_simp; try rfl
    case z69 =>
    simp only [Act.put, List.setIfInBounds_toArray, List.set_cons_succ, List.set_cons_zero, List.getElem_toArray, List.getElem_cons_zero, List.getElem_cons_succ]
    refine hl_take ?v70 rfl (by kernel_rfl) ?y70 ?z70
    case y70 => intro W hW; skip; replace hW := Lib.hid hW; go_simp; try rfl
    case z70 =>
    simp only [Act.put, List.setIfInBounds_toArray, List.set_cons_succ, List.set_cons_zero, List.getElem_toArray, List.getElem_cons_zero, List.getElem_cons_succ]
    refine hl_take ?v71 rfl (by kernel_rfl) ?y71 ?z71
    case y71 => intro W hW; obtain ⟨d0, d1, d2, d3⟩ := HBH.out _ (show Below _ _ _ from hW); replace hW := Lib.hid hW; go_simp; try rfl
    case z71 =>
    simp only [Act.put, List.setIfInBounds_toArray, List.set_cons_succ, List.set_cons_zero, List.getElem_toArray, List.getElem_cons_zero, List.getElem_cons_succ]
    refine hl_take ?v72 rfl (by kernel_rfl) ?y72 ?z72
    case y72 => intro W hW; skip; replace hW := Lib.hid hW; go_simp; try rfl
    case z72 =>
    simp only [Act.put, List.setIfInBounds_toArray, List.set_cons_succ, List.set_cons_zero, List.getElem_toArray, List.getElem_cons_zero, List.getElem_cons_succ]
    refine hl_one rfl (by kernel_rfl) (fun K hK => ?_)
    go_simp
    go_at_call 28
    have hq := blockersT_any t r n (.slice a l.length c) l id _ (HRH.out _ (hgd.out.trans (hB.out.mono hgd.out.size))) hl.out
    rw [hbv.out] at hq
    refine hq.mono ?_
    clear hq
    rintro e y8 ⟨ba, bc, rfl, q⟩
    have r1 := Lib.hid q.vec_ri
    replace hB := Lib.hid (hB.out.trans (q.tail.gold.mono hB.out.size))
    clear q
    refine hK.out _ _ hB.out ?_
    clear hK K
    try simp only [Act.put, List.setIfInBounds_toArray, List.set_cons_succ, List.set_cons_zero, List.getElem_toArray, List.getElem_cons_zero, List.getElem_cons_succ]
    refine hl_one rfl (by kernel_rfl) (fun K hK => ?_)
    go_simp
    go_at_call 29
    have hq := blkR_any t r n (.slice a l.length c) l id _ (HRH.out _ (hgd.out.trans (hB.out.mono hgd.out.size))) hl.out hD.out
    rw [hbv.out] at hq
    refine hq.mono ?_
    clear hq
    rintro e y9 ⟨ea, ec, rfl, q⟩
    have r2 := Lib.hid q.vec_ri
    replace r1 := Lib.hid (r1.out.below q.tail.gold)
    replace hB := Lib.hid (hB.out.trans (q.tail.gold.mono hB.out.size))
    clear q
    refine hK.out _ _ hB.out ?_
    clear hK K
    try simp only [Act.put, List.setIfInBounds_toArray, List.set_cons_succ, List.set_cons_zero, List.getElem_toArray, List.getElem_cons_zero, List.getElem_cons_succ]
    refine hl_one rfl (by kernel_rfl) (fun K hK => ?_)
    go_simp
    go_at_call 27
    refine (same_true _ _ bv _ hbl.out r1.out r2.out).mono ?_
    rintro e _ ⟨rfl, m9, rfl⟩
    replace hB := Lib.hid (show Below wd.heap.size wd (World.drewN _ m9) from ⟨hB.out.os, hB.out.tape, hB.out.output, hB.out.size, hB.out.block⟩)
    refine hK.out _ _ hB.out ?_
    clear hK K
    try simp only [Act.put, List.setIfInBounds_toArray, List.set_cons_succ, List.set_cons_zero, List.getElem_toArray, List.getElem_cons_zero, List.getElem_cons_succ]
    refine hl_take ?v73 rfl (by kernel_rfl) ?y73 ?z73
    case y73 => intro W hW; skip; replace hW := Lib.hid hW; go_simp; try rfl
    case z73 =>
    simp only [Act.put, List.setIfInBounds_toArray, List.set_cons_succ, List.set_cons_zero, List.getElem_toArray, List.getElem_cons_zero, List.getElem_cons_succ]
    refine hl_take ?v74 rfl (by kernel_rfl) ?y74 ?z74
    case y74 => intro W hW; skip; replace hW := Lib.hid hW; go_simp; try rfl
    case z74 =>
    simp only [Act.put, List.setIfInBounds_toArray, List.set_cons_succ, List.set_cons_zero, List.getElem_toArray, List.getElem_cons_zero, List.getElem_cons_succ]
    refine hl_done ?_
    clear hwd
    go_wp2_with fail
    go_ret
    exact ⟨rfl, (hgd.out.trans (hB.out.mono hgd.out.size))⟩
end Go.Proofs.YtmacpjnkmkaloaaGreat
