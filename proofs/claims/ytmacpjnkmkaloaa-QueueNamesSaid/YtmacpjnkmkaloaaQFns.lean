/-
  The contracts of the queue's predicates and look-ups. No condition beside requests that can be read.
-/
import Derived.Test.YtmacpjnkmkaloaaQView
import Derived.Test.YtmacpjnkmkaloaaMode
import Derived.Test.YtmacpjnkmkaloaaReg
import Derived.Deep.RegionHeld3
import Derived.Deep.LoopGhost
import Derived.Deep.RegionWith
import Derived.Deep.DeepCutAuto
import Derived.Shelf.SlicesE.IndexFunc
namespace Go.Proofs.Ytmacpjnkmkaloaa
open Go.RowKit

/-- The closures. -/
theorem first1 (w : World) : PredQ 75 #[] (fun r => r.mode == 0) w := fun W r hb => by
  have H := Lib.hid (fun w => holds_any r w)
  obtain ⟨id, txn, mode, want, since⟩ := r
  unfold Rq.val at *
  show Calls Try.prog 75 #[.agg #[.int .i64 id, .int .i64 txn, .int .i64 mode, .int .i64 want, .int .i64 since]] W _
  go_enter Try.func75, Try.ntmps75
  go_wp2_with fail
  refine (H.out _).mono ?_
  rintro e w1 ⟨rfl, b1⟩
  replace b1 := Lib.hid b1
  go_wp2_with fail
  go_ret
  exact ⟨by simp [bne], belA _ b1.out⟩
theorem place1 (id0 : Int) (B : Nat) (w : World) (hB : B < w.heap.size) (hc : w.cell? ⟨B, 0, none⟩ = some (.int .i64 id0)) : PredQ 76 #[.pointer (some ⟨B, 0, none⟩)] (fun r => r.id == id0) w := fun W r hb => by
  have c := (hb.cell (p := ⟨B, 0, none⟩) hB).trans hc
  have hs := hb.size
  have hl := Nat.lt_of_lt_of_le hB hs
  obtain ⟨id, txn, mode, want, since⟩ := r
  show Calls Try.prog 76 #[.agg #[.int .i64 id, .int .i64 txn, .int .i64 mode, .int .i64 want, .int .i64 since], .pointer (some ⟨B, 0, none⟩)] W _
  clear hb hc
  go_enter Try.func76, Try.ntmps76
  go_wp2
  go_ret
  exact ⟨rfl, (Below.refl _ _).alloc (Nat.le_refl _) _⟩
theorem without1 (id0 : Int) (B : Nat) (w : World) (hB : B < w.heap.size) (hc : w.cell? ⟨B, 0, none⟩ = some (.int .i64 id0)) : PredQ 78 #[.pointer (some ⟨B, 0, none⟩)] (fun r => r.id == id0) w := fun W r hb => by
  have c := (hb.cell (p := ⟨B, 0, none⟩) hB).trans hc
  have hs := hb.size
  have hl := Nat.lt_of_lt_of_le hB hs
  obtain ⟨id, txn, mode, want, since⟩ := r
  show Calls Try.prog 78 #[.agg #[.int .i64 id, .int .i64 txn, .int .i64 mode, .int .i64 want, .int .i64 since], .pointer (some ⟨B, 0, none⟩)] W _
  clear hb hc
  go_enter Try.func78, Try.ntmps78
  go_wp2
  go_ret
  exact ⟨rfl, (Below.refl _ _).alloc (Nat.le_refl _) _⟩
theorem mode1 (t0 : Int) (B : Nat) (w : World) (hB : B < w.heap.size) (hc : w.cell? ⟨B, 0, none⟩ = some (.int .i64 t0)) : PredQ 64 #[.pointer (some ⟨B, 0, none⟩)] (fun r => r.txn == t0) w := fun W r hb => by
  have c := (hb.cell (p := ⟨B, 0, none⟩) hB).trans hc
  have hs := hb.size
  have hl := Nat.lt_of_lt_of_le hB hs
  obtain ⟨id, txn, mode, want, since⟩ := r
  show Calls Try.prog 64 #[.agg #[.int .i64 id, .int .i64 txn, .int .i64 mode, .int .i64 want, .int .i64 since], .pointer (some ⟨B, 0, none⟩)] W _
  clear hb hc
  go_enter Try.func64, Try.ntmps64
  go_wp2
  go_ret
  exact ⟨rfl, (Below.refl _ _).alloc (Nat.le_refl _) _⟩
theorem ask1 (id0 t0 : Int) (B C : Nat) (w : World) (hB : B < w.heap.size) (hc : w.cell? ⟨B, 0, none⟩ = some (.int .i64 id0)) (hC : C < w.heap.size) (hd : w.cell? ⟨C, 0, none⟩ = some (.int .i64 t0)) :
    PredQ 67 #[.pointer (some ⟨B, 0, none⟩), .pointer (some ⟨C, 0, none⟩)] (fun r => r.id == id0 || r.txn == t0) w := fun W r hb => by
  have c := (hb.cell (p := ⟨B, 0, none⟩) hB).trans hc
  have d := (hb.cell (p := ⟨C, 0, none⟩) hC).trans hd
  have hs := hb.size
  have hl := Nat.lt_of_lt_of_le hB hs
  have hl' := Nat.lt_of_lt_of_le hC hs
  obtain ⟨id, txn, mode, want, since⟩ := r
  show Calls Try.prog 67 #[.agg #[.int .i64 id, .int .i64 txn, .int .i64 mode, .int .i64 want, .int .i64 since], .pointer (some ⟨B, 0, none⟩), .pointer (some ⟨C, 0, none⟩)] W _
  clear hb hc hd
  cases h1 : id == id0 with
  | true =>
    go_enter Try.func67, Try.ntmps67
    go_wp2
    go_ret
    exact ⟨by simp_all, (Below.refl _ _).alloc (Nat.le_refl _) _⟩
  | false =>
    go_enter Try.func67, Try.ntmps67
    go_wp2
    go_ret
    exact ⟨by simp_all, (Below.refl _ _).alloc (Nat.le_refl _) _⟩
def fitsP (r o : Rq) : Bool := o.id != r.id && (o.mode != 0 && !comB o.mode r.want)
theorem fits1 (r0 : Rq) (B : Nat) (w : World) (hB : B < w.heap.size) (hc0 : w.cell? ⟨B, 0, none⟩ = some (.int .i64 r0.id)) (hc3 : w.cell? ⟨B, 3, none⟩ = some (.int .i64 r0.want)) :
    PredQ 73 #[.pointer (some ⟨B, 0, none⟩)] (fitsP r0) w := fun W r hb => by
  have c := (hb.cell (p := ⟨B, 0, none⟩) hB).trans hc0
  have d := (hb.cell (p := ⟨B, 3, none⟩) hB).trans hc3
  have hs := hb.size
  have hl := Nat.lt_of_lt_of_le hB hs
  have H := Lib.hid (fun w => holds_any r w)
  have M := Lib.hid (fun w => compat_any r.mode r0.want w)
  unfold fitsP
  generalize r0.id = id0 at *
  generalize r0.want = want0 at *
  obtain ⟨id, txn, mode, want, since⟩ := r
  unfold Rq.val at *
  simp only at M ⊢
  show Calls Try.prog 73 #[.agg #[.int .i64 id, .int .i64 txn, .int .i64 mode, .int .i64 want, .int .i64 since], .pointer (some ⟨B, 0, none⟩)] W _
  clear hb hc0 hc3
  cases h1 : id != id0 with
  | false =>
    go_enter Try.func73, Try.ntmps73
    go_wp2
    go_ret
    exact ⟨by simp, (Below.refl _ _).alloc (Nat.le_refl _) _⟩
  | true =>
    cases h2 : mode != 0 with
    | false =>
      simp only [h2] at H
      go_enter Try.func73, Try.ntmps73
      go_wp2_with fail
      refine (H.out _).mono ?_
      rintro e w1 ⟨rfl, b1⟩
      replace b1 := Lib.hid b1
      go_wp2_with fail
      go_ret
      exact ⟨by simp, belA _ b1.out⟩
    | true =>
      simp only [h2] at H
      go_enter Try.func73, Try.ntmps73
      go_wp2_with fail
      refine (H.out _).mono ?_
      rintro e w1 ⟨rfl, b1⟩
      obtain ⟨c0, c1, c2, c3, c4⟩ := cellsA b1 _ _ _ _ _ rfl
      have d' := (belA _ b1).cell (p := ⟨B, 3, none⟩) (by show B < _; omega)
      rw [d] at d'
      replace b1 := Lib.hid b1
      go_wp2_with fail
      refine (M.out _).mono ?_
      rintro e w2 ⟨rfl, b2⟩
      have fin := Lib.hid (belT (belA _ b1.out) b2)
      clear b2 b1 c0 c1 c2 c3 c4 d'
      go_wp2_with fail
      go_ret
      exact ⟨by simp, fin.out⟩
theorem eg_fits : ∀ args w, (callFunc 73 args).run Try.prog w = .ok (.enter 73 args) w := enters_of Try.func73 (by kernel_rfl) rfl
theorem eg_first : ∀ args w, (callFunc 75 args).run Try.prog w = .ok (.enter 75 args) w := enters_of Try.func75 (by kernel_rfl) rfl
theorem eg_place : ∀ args w, (callFunc 76 args).run Try.prog w = .ok (.enter 76 args) w := enters_of Try.func76 (by kernel_rfl) rfl
theorem eg_without : ∀ args w, (callFunc 78 args).run Try.prog w = .ok (.enter 78 args) w := enters_of Try.func78 (by kernel_rfl) rfl
theorem eg_mode : ∀ args w, (callFunc 64 args).run Try.prog w = .ok (.enter 64 args) w := enters_of Try.func64 (by kernel_rfl) rfl
theorem eg_ask : ∀ args w, (callFunc 67 args).run Try.prog w = .ok (.enter 67 args) w := enters_of Try.func67 (by kernel_rfl) rfl

theorem two_boxes (w : World) (b0 b1 : Array Value) (t0 t1 : TypeId) : Below w.heap.size w ((w.alloc (.cells b0 t0)).alloc (.cells b1 t1)) := ((Below.refl _ _).alloc (Nat.le_refl _) _).alloc (by simp) _
theorem snd_box (w : World) (b0 b1 : Array Value) (t0 t1 : TypeId) (i : Nat) : ((w.alloc (.cells b0 t0)).alloc (.cells b1 t1)).cell? ⟨w.heap.size + 1, i, none⟩ = b1[i]? := by
  have := (Blk.new (w.alloc (.cells b0 t0)) t1 b1).cell i
  rw [World.size_alloc] at this
  exact this
theorem fits_any (t r n : Int) (v : Value) (l : List Rq) (q : Rq) (w : World) (hv : RQ w v l) (hl : l.length ≤ 1000) :
    Calls Try.prog 42 #[hval t r v n, q.val] w fun e w' => e = .returned (.bool !(l.any (fitsP q))) ∧ Below w.heap.size w w' := by
  have H := Lib.hid (fun b0 => contains_any v l 73 #[.pointer (some ⟨w.heap.size + 1, 0, none⟩)] (fitsP q) ((w.alloc (.cells b0 69)).alloc (.cells q.cells.toArray 48)) (hv.below (two_boxes _ _ _ _ _)) hl
    (fits1 q (w.heap.size + 1) _ (by simp) (snd_box _ _ _ _ _ 0) (snd_box _ _ _ _ _ 3)) eg_fits)
  have b0 := Lib.hid (fun c0 c1 => two_boxes w c0 c1 69 48)
  obtain ⟨a, c, rfl, _⟩ := hv
  generalize l.any (fitsP q) = x at *
  obtain ⟨id, txn, mode, want, since⟩ := q
  unfold Rq.cells at H
  simp only at H
  have eg := eg_fits
  unfold hval Rq.val
  simp only
  go_enter Try.func42, Try.ntmps42
  go_wp2_with fail
  refine (H.out _).mono ?_
  rintro e w1 ⟨rfl, b1⟩
  have fin := Lib.hid (belT (b0.out _ _) b1)
  clear b1
  go_wp2_with fail
  go_ret
  exact ⟨rfl, fin.out⟩
theorem place_any (t r n : Int) (v : Value) (l : List Rq) (id : Int) (w : World) (hv : RQ w v l) (hl : l.length ≤ 1000) :
    Calls Try.prog 48 #[hval t r v n, .int .i64 id] w fun e w' => e = .returned (.int .i64 (idxF (fun q => q.id == id) l 0)) ∧ Below w.heap.size w w' := by
  have H := Lib.hid (fun b0 => index_any v l 76 #[.pointer (some ⟨w.heap.size + 1, 0, none⟩)] (fun q => q.id == id) ((w.alloc (.cells b0 69)).alloc (.cells #[.int .i64 id] 3)) (hv.below (two_boxes _ _ _ _ _)) hl
    (place1 id (w.heap.size + 1) _ (by simp) (snd_box _ _ _ _ _ 0)) eg_place)
  have b0 := Lib.hid (fun c0 c1 => two_boxes w c0 c1 69 3)
  obtain ⟨a, c, rfl, _⟩ := hv
  generalize idxF (fun q => q.id == id) l 0 = x at *
  have eg := eg_place
  unfold hval
  go_enter Try.func48, Try.ntmps48
  go_wp2_with fail
  refine (H.out _).mono ?_
  rintro e w1 ⟨rfl, b1⟩
  have fin := Lib.hid (belT (b0.out _ _) b1)
  clear b1
  go_wp2_with fail
  go_ret
  exact ⟨rfl, fin.out⟩

/-- Which one of the first k upgrades first. -/
def bestK (l : List Rq) : Nat → Int
  | 0 => -1
  | k+1 => if upB (l.getD k default) && (decide (bestK l k < 0) || decide ((l.getD k default).since < (l.getD (bestK l k).toNat default).since)) then k else bestK l k
theorem bestK_bd (l : List Rq) : ∀ k, -1 ≤ bestK l k ∧ bestK l k < k
  | 0 => by simp [bestK]
  | k+1 => by
    have := bestK_bd l k
    unfold bestK
    split <;> omega
/-- Which one is granted first, if it can be; -1. -/
def firstI (l : List Rq) : Int := if bestK l l.length < 0 then idxF (fun r => r.mode == 0) l 0 else bestK l l.length
set_option maxHeartbeats 2000000 in
theorem first_any (t r n : Int) (v : Value) (l : List Rq) (w : World) (hv : RQ w v l) (hl : l.length ≤ 1000) :
    Calls Try.prog 43 #[hval t r v n] w fun e w' => e = .returned (.int .i64 (firstI l)) ∧ Below w.heap.size w w' := by
  have h0 : ∀ b0, Sep (w.alloc (.cells b0 69)) [blk w.heap.size 69 b0, old w] := fun b0 => (Sep.start w).alloc b0 69
  have H := Lib.hid (fun W (hb : Below w.heap.size w W) => index_any v l 75 #[] (fun r => r.mode == 0) W (hv.below hb) hl (first1 W) eg_first)
  have eg := eg_first
  have HU := Lib.hid (fun q w => upgrades_any q w)
  replace h0 := Lib.hid h0
  have hv' := Lib.hid hv
  obtain ⟨a, c, rfl, hlc, _, hr⟩ := hv
  replace hr := Lib.hid hr
  unfold hval
  go_enter Try.func43, Try.ntmps43
  go_wp2_with fail
  have hS := Lib.hid (h0.out #[.int .i64 t, .int .i64 r, .slice a l.length c, .int .i64 n])
  clear h0
  generalize hn : l.length = m at *
  replace hn := Lib.hid hn
  go_loopg [3, 10] m (fun g s3 i wr => ∃ k : Nat, k ≤ m ∧ g = m - k ∧ i = .int .i64 k ∧ s3 = .int .i64 (bestK l k) ∧ Hid (Sep wr [blk w.heap.size 69 #[.int .i64 t, .int .i64 r, .slice a m c, .int .i64 n], old w]))
  case atStart => exact ⟨0, Nat.zero_le _, rfl, rfl, rfl, hS⟩
  case round =>
    clear hS
    obtain ⟨k, hk, hg, rfl, rfl, hS⟩ := hrel
    by_cases hlt : k < m
    · obtain ⟨b, off, rfl, hbl, hz⟩ := hr.out (by have := hn.out; omega)
      obtain ⟨z0, z1, z2, z3, z4⟩ := hz k (by have := hn.out; omega)
      have kk : ∀ o, wr.cell? ⟨b, o, none⟩ = w.cell? ⟨b, o, none⟩ := fun o => hS.out.to1.gold.cell (p := ⟨b, o, none⟩) hbl
      rw [← kk] at z0 z1 z2 z3 z4
      obtain ⟨x1, _, _, x2, _⟩ := hS.out.b4
      have E := Lib.hid (show bestK l (k + 1) = if upB (l.getD k default) && (decide (bestK l k < 0) || decide ((l.getD k default).since < (l.getD (bestK l k).toNat default).since)) then (k : Int) else bestK l k from rfl)
      have hbd := bestK_bd l k
      have hzz := Lib.hid hz
      clear kk hz hr
      generalize l.getD k default = q at *
      generalize bestK l k = best at *
      have HQ := Lib.hid (fun w => HU.out q w)
      have hS2 := Lib.hid (hS.out.alloc q.cells.toArray 48)
      obtain ⟨id, txn, mode, want, since⟩ := q
      simp only [Rq.val] at HQ
      simp only [Rq.cells] at hS2
      obtain ⟨_, p0, p1, p2, p3, p4, _⟩ := hS2.out.b5
      obtain ⟨_, _, _, p5, _⟩ := hS2.out.to1.b4
      cases hu : upB ⟨id, txn, mode, want, since⟩ with
      | false =>
        have E2 := Lib.hid (show bestK l (k + 1) = best by rw [E.out, hu]; rfl)
        rw [hu] at HQ
        clear E
        · go_wp2_with fail
          refine wp_region_any (by kernel_rfl) ?_
          change wpAny _ _ _ _ _ _ _ (World.drew _)
          refine wpAny_ready (rs := [0]) (by kernel_rfl) (by simp) ?_
          refine AllReady.cons rfl (fun K hK => ?_) AllReady.nil
          go_simp
          refine hK _ _ ?_
          clear hK K
          refine wpAny_ready (rs := [1]) (by kernel_rfl) (by simp) ?_
          refine AllReady.cons rfl (fun K hK => ?_) AllReady.nil
          go_simp
          go_wp2_with (go_at_call 69; refine (HQ.out _).mono ?_; rintro e w1 ⟨rfl, b1⟩; have hS3 := Lib.hid ((show Sep _ [blk wr.heap.size 48 #[.int .i64 id, .int .i64 txn, .int .i64 mode, .int .i64 want, .int .i64 since], blk w.heap.size 69 #[.int .i64 t, .int .i64 r, .slice (some ⟨b, off, none⟩) m c, .int .i64 n], old w] from by first | exact hS2.out | exact hS2.out.drew).below b1); clear b1)
          refine reg_take 2 (.bool false) rfl (by kernel_rfl) (by kernel_rfl) (by kernel_rfl) (fun _ _ _ _ _ h => h) (by kernel_rfl) (fun w => by go_simp; try with_reducible rfl) ?_
          simp only [Act.put, List.setIfInBounds_toArray, List.set_cons_succ, List.set_cons_zero, List.getElem_toArray, List.getElem_cons_zero, List.getElem_cons_succ]
          refine reg_skip 3 rfl (by kernel_rfl) (by kernel_rfl) (by kernel_rfl) (fun _ _ _ _ _ h => h) (by kernel_rfl) ?_
          simp only [Act.put, List.setIfInBounds_toArray, List.set_cons_succ, List.set_cons_zero, List.getElem_toArray, List.getElem_cons_zero, List.getElem_cons_succ]
          refine reg_skip 4 rfl (by kernel_rfl) (by kernel_rfl) (by kernel_rfl) (fun _ _ _ _ _ h => h) (by kernel_rfl) ?_
          simp only [Act.put, List.setIfInBounds_toArray, List.set_cons_succ, List.set_cons_zero, List.getElem_toArray, List.getElem_cons_zero, List.getElem_cons_succ]
          refine reg_skip 5 rfl (by kernel_rfl) (by kernel_rfl) (by kernel_rfl) (fun _ _ _ _ _ h => h) (by kernel_rfl) ?_
          simp only [Act.put, List.setIfInBounds_toArray, List.set_cons_succ, List.set_cons_zero, List.getElem_toArray, List.getElem_cons_zero, List.getElem_cons_succ]
          refine reg_skip 6 rfl (by kernel_rfl) (by kernel_rfl) (by kernel_rfl) (fun _ _ _ _ _ h => h) (by kernel_rfl) ?_
          simp only [Act.put, List.setIfInBounds_toArray, List.set_cons_succ, List.set_cons_zero, List.getElem_toArray, List.getElem_cons_zero, List.getElem_cons_succ]
          refine reg_skip 7 rfl (by kernel_rfl) (by kernel_rfl) (by kernel_rfl) (fun _ _ _ _ _ h => h) (by kernel_rfl) ?_
          simp only [Act.put, List.setIfInBounds_toArray, List.set_cons_succ, List.set_cons_zero, List.getElem_toArray, List.getElem_cons_zero, List.getElem_cons_succ]
          refine reg_skip 8 rfl (by kernel_rfl) (by kernel_rfl) (by kernel_rfl) (fun _ _ _ _ _ h => h) (by kernel_rfl) ?_
          simp only [Act.put, List.setIfInBounds_toArray, List.set_cons_succ, List.set_cons_zero, List.getElem_toArray, List.getElem_cons_zero, List.getElem_cons_succ]
          refine reg_skip 9 rfl (by kernel_rfl) (by kernel_rfl) (by kernel_rfl) (fun _ _ _ _ _ h => h) (by kernel_rfl) ?_
          simp only [Act.put, List.setIfInBounds_toArray, List.set_cons_succ, List.set_cons_zero, List.getElem_toArray, List.getElem_cons_zero, List.getElem_cons_succ]
          refine reg_skip 10 rfl (by kernel_rfl) (by kernel_rfl) (by kernel_rfl) (fun _ _ _ _ _ h => h) (by kernel_rfl) ?_
          simp only [Act.put, List.setIfInBounds_toArray, List.set_cons_succ, List.set_cons_zero, List.getElem_toArray, List.getElem_cons_zero, List.getElem_cons_succ]
          refine reg_skip 11 rfl (by kernel_rfl) (by kernel_rfl) (by kernel_rfl) (fun _ _ _ _ _ h => h) (by kernel_rfl) ?_
          simp only [Act.put, List.setIfInBounds_toArray, List.set_cons_succ, List.set_cons_zero, List.getElem_toArray, List.getElem_cons_zero, List.getElem_cons_succ]
          refine reg_skip 12 rfl (by kernel_rfl) (by kernel_rfl) (by kernel_rfl) (fun _ _ _ _ _ h => h) (by kernel_rfl) ?_
          simp only [Act.put, List.setIfInBounds_toArray, List.set_cons_succ, List.set_cons_zero, List.getElem_toArray, List.getElem_cons_zero, List.getElem_cons_succ]
          refine reg_skip 13 rfl (by kernel_rfl) (by kernel_rfl) (by kernel_rfl) (fun _ _ _ _ _ h => h) (by kernel_rfl) ?_
          simp only [Act.put, List.setIfInBounds_toArray, List.set_cons_succ, List.set_cons_zero, List.getElem_toArray, List.getElem_cons_zero, List.getElem_cons_succ]
          refine reg_skip 14 rfl (by kernel_rfl) (by kernel_rfl) (by kernel_rfl) (fun _ _ _ _ _ h => h) (by kernel_rfl) ?_
          simp only [Act.put, List.setIfInBounds_toArray, List.set_cons_succ, List.set_cons_zero, List.getElem_toArray, List.getElem_cons_zero, List.getElem_cons_succ]
          refine reg_skip 15 rfl (by kernel_rfl) (by kernel_rfl) (by kernel_rfl) (fun _ _ _ _ _ h => h) (by kernel_rfl) ?_
          simp only [Act.put, List.setIfInBounds_toArray, List.set_cons_succ, List.set_cons_zero, List.getElem_toArray, List.getElem_cons_zero, List.getElem_cons_succ]
          refine reg_skip 16 rfl (by kernel_rfl) (by kernel_rfl) (by kernel_rfl) (fun _ _ _ _ _ h => h) (by kernel_rfl) ?_
          simp only [Act.put, List.setIfInBounds_toArray, List.set_cons_succ, List.set_cons_zero, List.getElem_toArray, List.getElem_cons_zero, List.getElem_cons_succ]
          refine reg_take 17 (.bool false) rfl (by kernel_rfl) (by kernel_rfl) (by kernel_rfl) (fun _ _ _ _ _ h => h) (by kernel_rfl) (fun w => by go_simp; try with_reducible rfl) ?_
          simp only [Act.put, List.setIfInBounds_toArray, List.set_cons_succ, List.set_cons_zero, List.getElem_toArray, List.getElem_cons_zero, List.getElem_cons_succ]
          refine wpAny_done (by kernel_rfl) ?_ _
          go_wp2_with fail
          go_roundg (m - (k + 1))
          case measure => omega
          case rel => exact ⟨k + 1, by omega, rfl, by go_num, by rw [E2.out], hS3.out.tail⟩
      | true =>
        rw [hu] at HQ
        by_cases hb0 : best < 0
        · have E2 := Lib.hid (show bestK l (k + 1) = (k : Int) by rw [E.out, hu, decide_eq_true hb0]; rfl)
          have d0 : decide (best < 0) = true := by simpa using hb0
          clear E hb0
          go_wp2_with fail
          refine wp_region_any (by kernel_rfl) ?_
          change wpAny _ _ _ _ _ _ _ (World.drew _)
          refine wpAny_ready (rs := [0]) (by kernel_rfl) (by simp) ?_
          refine AllReady.cons rfl (fun K hK => ?_) AllReady.nil
          go_simp
          refine hK _ _ ?_
          clear hK K
          refine wpAny_ready (rs := [1]) (by kernel_rfl) (by simp) ?_
          refine AllReady.cons rfl (fun K hK => ?_) AllReady.nil
          go_simp
          go_wp2_with (go_at_call 69; refine (HQ.out _).mono ?_; rintro e w1 ⟨rfl, b1⟩; have hS3 := Lib.hid ((show Sep _ [blk wr.heap.size 48 #[.int .i64 id, .int .i64 txn, .int .i64 mode, .int .i64 want, .int .i64 since], blk w.heap.size 69 #[.int .i64 t, .int .i64 r, .slice (some ⟨b, off, none⟩) m c, .int .i64 n], old w] from by first | exact hS2.out | exact hS2.out.drew).below b1); clear b1)
          refine reg_take 2 (.bool true) rfl (by kernel_rfl) (by kernel_rfl) (by kernel_rfl) (fun _ _ _ _ _ h => h) (by kernel_rfl) (fun w => by go_simp; try with_reducible rfl) ?_
          simp only [Act.put, List.setIfInBounds_toArray, List.set_cons_succ, List.set_cons_zero, List.getElem_toArray, List.getElem_cons_zero, List.getElem_cons_succ]
          refine reg_take 3 (.int .i64 best) rfl (by kernel_rfl) (by kernel_rfl) (by kernel_rfl) (fun _ _ _ _ _ h => h) (by kernel_rfl) (fun w => by go_simp; try with_reducible rfl) ?_
          simp only [Act.put, List.setIfInBounds_toArray, List.set_cons_succ, List.set_cons_zero, List.getElem_toArray, List.getElem_cons_zero, List.getElem_cons_succ]
          refine reg_take 4 (.bool true) rfl (by kernel_rfl) (by kernel_rfl) (by kernel_rfl) (fun _ _ _ _ _ h => h) (by kernel_rfl) (fun w => by go_simp; try with_reducible rfl) ?_
          simp only [Act.put, List.setIfInBounds_toArray, List.set_cons_succ, List.set_cons_zero, List.getElem_toArray, List.getElem_cons_zero, List.getElem_cons_succ]
          refine reg_take 5 (.bool true) rfl (by kernel_rfl) (by kernel_rfl) (by kernel_rfl) (fun _ _ _ _ _ h => h) (by kernel_rfl) (fun w => by go_simp; try with_reducible rfl) ?_
          simp only [Act.put, List.setIfInBounds_toArray, List.set_cons_succ, List.set_cons_zero, List.getElem_toArray, List.getElem_cons_zero, List.getElem_cons_succ]
          refine reg_skip 6 rfl (by kernel_rfl) (by kernel_rfl) (by kernel_rfl) (fun _ _ _ _ _ h => h) (by kernel_rfl) ?_
          simp only [Act.put, List.setIfInBounds_toArray, List.set_cons_succ, List.set_cons_zero, List.getElem_toArray, List.getElem_cons_zero, List.getElem_cons_succ]
          refine reg_skip 7 rfl (by kernel_rfl) (by kernel_rfl) (by kernel_rfl) (fun _ _ _ _ _ h => h) (by kernel_rfl) ?_
          simp only [Act.put, List.setIfInBounds_toArray, List.set_cons_succ, List.set_cons_zero, List.getElem_toArray, List.getElem_cons_zero, List.getElem_cons_succ]
          refine reg_skip 8 rfl (by kernel_rfl) (by kernel_rfl) (by kernel_rfl) (fun _ _ _ _ _ h => h) (by kernel_rfl) ?_
          simp only [Act.put, List.setIfInBounds_toArray, List.set_cons_succ, List.set_cons_zero, List.getElem_toArray, List.getElem_cons_zero, List.getElem_cons_succ]
          refine reg_skip 9 rfl (by kernel_rfl) (by kernel_rfl) (by kernel_rfl) (fun _ _ _ _ _ h => h) (by kernel_rfl) ?_
          simp only [Act.put, List.setIfInBounds_toArray, List.set_cons_succ, List.set_cons_zero, List.getElem_toArray, List.getElem_cons_zero, List.getElem_cons_succ]
          refine reg_skip 10 rfl (by kernel_rfl) (by kernel_rfl) (by kernel_rfl) (fun _ _ _ _ _ h => h) (by kernel_rfl) ?_
          simp only [Act.put, List.setIfInBounds_toArray, List.set_cons_succ, List.set_cons_zero, List.getElem_toArray, List.getElem_cons_zero, List.getElem_cons_succ]
          refine reg_skip 11 rfl (by kernel_rfl) (by kernel_rfl) (by kernel_rfl) (fun _ _ _ _ _ h => h) (by kernel_rfl) ?_
          simp only [Act.put, List.setIfInBounds_toArray, List.set_cons_succ, List.set_cons_zero, List.getElem_toArray, List.getElem_cons_zero, List.getElem_cons_succ]
          refine reg_skip 12 rfl (by kernel_rfl) (by kernel_rfl) (by kernel_rfl) (fun _ _ _ _ _ h => h) (by kernel_rfl) ?_
          simp only [Act.put, List.setIfInBounds_toArray, List.set_cons_succ, List.set_cons_zero, List.getElem_toArray, List.getElem_cons_zero, List.getElem_cons_succ]
          refine reg_skip 13 rfl (by kernel_rfl) (by kernel_rfl) (by kernel_rfl) (fun _ _ _ _ _ h => h) (by kernel_rfl) ?_
          simp only [Act.put, List.setIfInBounds_toArray, List.set_cons_succ, List.set_cons_zero, List.getElem_toArray, List.getElem_cons_zero, List.getElem_cons_succ]
          refine reg_skip 14 rfl (by kernel_rfl) (by kernel_rfl) (by kernel_rfl) (fun _ _ _ _ _ h => h) (by kernel_rfl) ?_
          simp only [Act.put, List.setIfInBounds_toArray, List.set_cons_succ, List.set_cons_zero, List.getElem_toArray, List.getElem_cons_zero, List.getElem_cons_succ]
          refine reg_skip 15 rfl (by kernel_rfl) (by kernel_rfl) (by kernel_rfl) (fun _ _ _ _ _ h => h) (by kernel_rfl) ?_
          simp only [Act.put, List.setIfInBounds_toArray, List.set_cons_succ, List.set_cons_zero, List.getElem_toArray, List.getElem_cons_zero, List.getElem_cons_succ]
          refine reg_take 16 (.bool true) rfl (by kernel_rfl) (by kernel_rfl) (by kernel_rfl) (fun _ _ _ _ _ h => h) (by kernel_rfl) (fun w => by go_simp; try with_reducible rfl) ?_
          simp only [Act.put, List.setIfInBounds_toArray, List.set_cons_succ, List.set_cons_zero, List.getElem_toArray, List.getElem_cons_zero, List.getElem_cons_succ]
          refine reg_take 17 (.bool true) rfl (by kernel_rfl) (by kernel_rfl) (by kernel_rfl) (fun _ _ _ _ _ h => h) (by kernel_rfl) (fun w => by go_simp; try with_reducible rfl) ?_
          simp only [Act.put, List.setIfInBounds_toArray, List.set_cons_succ, List.set_cons_zero, List.getElem_toArray, List.getElem_cons_zero, List.getElem_cons_succ]
          refine wpAny_done (by kernel_rfl) ?_ _
          go_wp2_with fail
          go_roundg (m - (k + 1))
          case measure => omega
          case rel => exact ⟨k + 1, by omega, rfl, by go_num, by rw [E2.out], hS3.out.tail⟩
        · obtain ⟨bq, rfl⟩ := Int.eq_ofNat_of_zero_le (show 0 ≤ best by omega)
          have hzb := (hzz.out bq (by have := hn.out; omega)).2.2.2.2
          have zb0 := (hS2.out.to2.gold.cell (p := ⟨b, off + bq * 5 + 4, none⟩) hbl).trans hzb
          rw [Int.toNat_natCast] at E
          have E2 := Lib.hid (show bestK l (k + 1) = if decide (since < (l.getD bq default).since) then (k : Int) else bq by rw [E.out, hu, decide_eq_false hb0]; rfl)
          have d0 : decide ((bq : Int) < 0) = false := by simp
          have i1 : (0 : Int) ≤ (bq : Int) := by omega
          have i2 : (bq : Int) < (m : Int) := by omega
          clear E hb0
          generalize (l.getD bq default).since = sb at *
          by_cases hc : since < sb
          · have d1 : decide (since < sb) = true := by simpa using hc
            have E3 := Lib.hid (show bestK l (k + 1) = (k : Int) by rw [E2.out, if_pos d1])
            clear hc E2
            go_wp2_with fail
            go_region_held3 (fun w' => w'.cell? ⟨wr.heap.size, 0, none⟩ = some (.int .i64 id) ∧ w'.cell? ⟨wr.heap.size, 1, none⟩ = some (.int .i64 txn) ∧ w'.cell? ⟨wr.heap.size, 2, none⟩ = some (.int .i64 mode) ∧ w'.cell? ⟨wr.heap.size, 3, none⟩ = some (.int .i64 want) ∧ w'.cell? ⟨wr.heap.size, 4, none⟩ = some (.int .i64 since) ∧ w'.cell? ⟨w.heap.size, 2, none⟩ = some (.slice (some ⟨b, off, none⟩) m c) ∧ w'.cell? ⟨b, off + bq * 5 + 4, none⟩ = some (.int .i64 sb)) (exact ⟨by assumption, by assumption, by assumption, by assumption, by assumption, by assumption, by assumption⟩)
              (first | (go_at_call 69; refine (HQ.out _).mono ?_; rintro e w1 ⟨rfl, b1⟩; have hS3 := Lib.hid ((show Sep _ [blk wr.heap.size 48 #[.int .i64 id, .int .i64 txn, .int .i64 mode, .int .i64 want, .int .i64 since], blk w.heap.size 69 #[.int .i64 t, .int .i64 r, .slice (some ⟨b, off, none⟩) m c, .int .i64 n], old w] from by first | exact hS2.out | exact hS2.out.drew).below b1); obtain ⟨_, r0, r1, r2, r3, r4, _⟩ := hS3.out.b5; obtain ⟨_, _, _, v2, _⟩ := hS3.out.to1.b4; have zb := (hS3.out.to2.gold.cell (p := ⟨b, off + bq * 5 + 4, none⟩) hbl).trans hzb; clear b1))
            go_wp2_with fail
            go_roundg (m - (k + 1))
            case measure => omega
            case rel => exact ⟨k + 1, by omega, rfl, by go_num, by rw [E3.out], hS3.out.tail⟩
          · have d1 : decide (since < sb) = false := by simpa using hc
            have E3 := Lib.hid (show bestK l (k + 1) = (bq : Int) by rw [E2.out, if_neg (by rw [d1]; decide)])
            clear hc E2
            go_wp2_with fail
            go_region_held3 (fun w' => w'.cell? ⟨wr.heap.size, 0, none⟩ = some (.int .i64 id) ∧ w'.cell? ⟨wr.heap.size, 1, none⟩ = some (.int .i64 txn) ∧ w'.cell? ⟨wr.heap.size, 2, none⟩ = some (.int .i64 mode) ∧ w'.cell? ⟨wr.heap.size, 3, none⟩ = some (.int .i64 want) ∧ w'.cell? ⟨wr.heap.size, 4, none⟩ = some (.int .i64 since) ∧ w'.cell? ⟨w.heap.size, 2, none⟩ = some (.slice (some ⟨b, off, none⟩) m c) ∧ w'.cell? ⟨b, off + bq * 5 + 4, none⟩ = some (.int .i64 sb)) (exact ⟨by assumption, by assumption, by assumption, by assumption, by assumption, by assumption, by assumption⟩)
              (first | (go_at_call 69; refine (HQ.out _).mono ?_; rintro e w1 ⟨rfl, b1⟩; have hS3 := Lib.hid ((show Sep _ [blk wr.heap.size 48 #[.int .i64 id, .int .i64 txn, .int .i64 mode, .int .i64 want, .int .i64 since], blk w.heap.size 69 #[.int .i64 t, .int .i64 r, .slice (some ⟨b, off, none⟩) m c, .int .i64 n], old w] from by first | exact hS2.out | exact hS2.out.drew).below b1); obtain ⟨_, r0, r1, r2, r3, r4, _⟩ := hS3.out.b5; obtain ⟨_, _, _, v2, _⟩ := hS3.out.to1.b4; have zb := (hS3.out.to2.gold.cell (p := ⟨b, off + bq * 5 + 4, none⟩) hbl).trans hzb; clear b1))
            go_wp2_with fail
            go_roundg (m - (k + 1))
            case measure => omega
            case rel => exact ⟨k + 1, by omega, rfl, by go_num, by rw [E3.out], hS3.out.tail⟩
    · obtain rfl : k = m := by omega
      have F := Lib.hid (show firstI l = if bestK l k < 0 then idxF (fun r => r.mode == 0) l 0 else bestK l k by unfold firstI; rw [hn.out])
      obtain ⟨x1, _, _, x2, _⟩ := hS.out.b4
      have bel := Lib.hid hS.out.tail.gold
      clear hS
      generalize bestK l k = best at *
      have HI := Lib.hid (H.out wr bel.out)
      generalize idxF (fun r => r.mode == 0) l 0 = ix at *
      by_cases hb0 : best < 0
      · have E := Lib.hid (show firstI l = ix by rw [F.out, if_pos hb0])
        have d0 : decide (best < 0) = true := by simpa using hb0
        clear hb0 F
        go_wp2_with fail
        refine HI.out.mono ?_
        rintro e w1 ⟨rfl, b1⟩
        replace bel := Lib.hid (bel.out.trans (b1.mono bel.out.size))
        clear b1
        go_wp2_with fail
        go_ret
        exact ⟨by rw [E.out]; rfl, bel.out⟩
      · have E := Lib.hid (show firstI l = best by rw [F.out, if_neg hb0])
        have d0 : decide (best < 0) = false := by simpa using hb0
        clear hb0 F
        go_wp2_with fail
        go_ret
        exact ⟨by rw [E.out]; rfl, bel.out⟩
end Go.Proofs.Ytmacpjnkmkaloaa
