/-
  Contracts and plain laws that the walk leans on, part 5. No condition.
-/
import Derived.Test.YtcnkmhfcgkbhbaaZHd4
import Derived.Laws.StructEq
import Derived.Deep.RegionLaw
namespace Go.Proofs.Ytcnkmhfcgkbhbaa
open Go.RowKit
theorem fresh_row (w : World) : Sep (w.alloc (.cells #[] 39)) [vec 39 5 (.slice (some ⟨w.heap.size, 0, none⟩) 0 0) 0 [], old w] :=
  (Sep.start w).vec_new (World.ownsRow_made w #[] 0 (Nat.le_refl _) (Nat.zero_le _) rfl) ((Below.refl _ _).alloc (Nat.le_refl _) _)
theorem copied_any (t r n : Int) (v : Value) (l : List Rq) (w : World) (hv : RQ w v l) (hl : l.length ≤ 1000) :
    Calls Try.prog 27 #[hval t r v n] w fun e w' => ∃ a c, e = .returned (hval t r (.slice a l.length c) n) ∧ Sep w' [vq (.slice a l.length c) l, old w] := by
  have h0 : ∀ b1 b2, Sep ((w.alloc (.cells b1 29)).alloc (.cells b2 29)) [blk (w.heap.size + 1) 29 b2, blk w.heap.size 29 b1, old w] := fun b1 b2 => by
    have := ((Sep.start w).alloc b1 29).alloc b2 29
    rw [World.size_alloc] at this
    exact this
  have hS0 := hv.src
  have h1 := Lib.hid (qcells_one l)
  obtain ⟨i0, hi, hz0, hz1, hz2⟩ := info_parts info_req
  obtain ⟨a, c, rfl, _⟩ := hv
  have hT0 := h0 #[.int .i64 t, .int .i64 r, .slice a l.length c, .int .i64 n] #[.int .i64 0, .int .i64 0, .slice none 0 0, .int .i64 0]
  have hE := (fresh_row ((w.alloc (.cells #[.int .i64 t, .int .i64 r, .slice a l.length c, .int .i64 n] 29)).alloc (.cells #[.int .i64 0, .int .i64 0, .slice none 0 0, .int .i64 0] 29))).graft hT0
  rw [World.size_alloc, World.size_alloc] at hE
  have hS2 := Lib.hid (hS0.below (two_boxes w #[.int .i64 t, .int .i64 r, .slice a l.length c, .int .i64 n] #[.int .i64 0, .int .i64 0, .slice none 0 0, .int .i64 0] 29 29 |>.alloc (by simp; omega) (.cells #[] 39)))
  replace hE := Lib.hid hE
  clear h0 hT0 hS0
  unfold hval
  generalize hn : l.length = m at *
  replace hn := Lib.hid hn
  go_enter Try.func27, Try.ntmps27
  go_wp2_with (at_builtin; refine wpList_append_sep hE.out rfl _ _ 27 rfl i0 _ 40 Try.underlying27 hi hz0 hz1 hz2 rfl (by decide) rfl m (qcells l) hS2.out h1.out ?c3 ?c4 ?_)
  case c3 => simp only [maxLen]; omega
  case c4 => omega
  intro a' c' w1 hS1
  have hT : Sep w1 [vq (.slice a' m c') l, blk (w.heap.size + 1) 29 #[.int .i64 0, .int .i64 0, .slice none 0 0, .int .i64 0], blk w.heap.size 29 #[.int .i64 t, .int .i64 r, .slice a m c, .int .i64 n], old w] := by
    unfold vq
    rw [hn.out]
    simpa using hS1
  have hS := trivial
  clear hS1 hE hS2
  obtain ⟨z1, d0, d1, d2, d3, g0, g1, g2, g3⟩ := hT.to1.b4
  obtain ⟨z2, c0, c1, c2, c3, _, _, f2, _⟩ := hT.to2.b4
  replace hT := Lib.hid hT
  clear hS
  go_wp2_with fail
  refine bodyPost_ret (v := .agg #[.int .i64 t, .int .i64 r, .slice a' m c', .int .i64 n]) (by simp [results, Try.results27, go_sem, *]) rfl ⟨_, _, rfl, ?_⟩
  exact ((((((hT.out.to2.set 2 _).to2.set 0 _).set 1 _).set 2 _).set 3 _)).tail.tail
/-- No two requests have one number. -/
def IdsD (l : List Rq) : Prop := ∀ i j, i < l.length → j < l.length → (l.getD i default).id = (l.getD j default).id → i = j
theorem idsD_grant (l : List Rq) (i : Nat) (h : IdsD l) : IdsD (grant l i) := by
  have key : ∀ k, ((grant l i).getD k default).id = (l.getD k default).id := by
    intro k
    unfold grant
    by_cases e : i = k
    · subst e
      by_cases hi : i < l.length
      · simp [List.getD, hi]
      · rw [List.set_eq_of_length_le (by omega)]
    · simp [List.getD, List.getElem?_set, e]
  intro a b ha hb hab
  rw [key, key] at hab
  exact h a b (by rwa [grant_len] at ha) (by rwa [grant_len] at hb) hab
theorem take_snocQ (l : List Rq) (k : Nat) (h : k < l.length) : l.take (k + 1) = l.take k ++ [l.getD k default] := by
  rw [List.take_succ_eq_append_getElem h]; simp [List.getD, h]
theorem fits_eqK (l : List Rq) (i : Nat) (hi : i < l.length) (hd : IdsD l) : ∀ k, k ≤ l.length → fitsK l (l.getD i default).want i k = !((l.take k).any (fitsP (l.getD i default)))
  | 0, _ => by simp [fitsK]
  | k+1, hk => by
    rw [fitsK, fits_eqK l i hi hd k (by omega), take_snocQ l k (by omega), List.any_append]
    have e : decide ((k : Int) ≠ (i : Int)) = ((l.getD k default).id != (l.getD i default).id) := by
      rw [Bool.eq_iff_iff]
      simp only [decide_eq_true_eq, bne_iff_ne, ne_eq]
      constructor
      · intro h1 h2
        exact h1 (by have := hd k i (by omega) hi h2; omega)
      · intro h1 h2
        exact h1 (by have : k = i := by omega
                     rw [this])
    rw [e]
    simp only [List.any_cons, List.any_nil, Bool.or_false, fitsP, Bool.not_or]
theorem fits_eq (l : List Rq) (i : Nat) (hi : i < l.length) (hd : IdsD l) : fitsK l (l.getD i default).want i l.length = !(l.any (fitsP (l.getD i default))) := by
  have := fits_eqK l i hi hd l.length (Nat.le_refl _)
  rwa [List.take_length] at this
set_option maxHeartbeats 4000000 in
theorem scanR_any (t r n : Int) (v : Value) (l : List Rq) (w : World) (hv : RQ w v l) (hl : l.length ≤ 1000) (hw : Wants l) (hD : IdsD l) :
    Calls Try.prog 10 #[hval t r v n] w fun e w' => ∃ a c b d, e = .returned (.tuple #[hval t r (.slice a (scanN (opens l) l []).1.length c) n, .slice b (scanN (opens l) l []).2.length d]) ∧
      Sep w' [vq (.slice a (scanN (opens l) l []).1.length c) (scanN (opens l) l []).1, vec 3 1 (.slice b (scanN (opens l) l []).2.length d) (scanN (opens l) l []).2.length ((scanN (opens l) l []).2.map (Value.int .i64)), old w] := by
  have h0 : ∀ b1 b2, Sep ((w.alloc (.cells b1 29)).alloc (.cells b2 29)) [blk (w.heap.size + 1) 29 b2, blk w.heap.size 29 b1, old w] := fun b1 b2 => by
    have := ((Sep.start w).alloc b1 29).alloc b2 29
    rw [World.size_alloc] at this
    exact this
  have H := Lib.hid (fun b1 b2 => copied_any t r n v l ((w.alloc (.cells b1 29)).alloc (.cells b2 29)) (hv.below (two_boxes _ _ _ _ _)) hl)
  replace h0 := Lib.hid h0
  replace hw := Lib.hid hw
  replace hD := Lib.hid hD
  obtain ⟨a, c, rfl, _⟩ := hv
  obtain ⟨i0, hi, hz0, hz1, hz2⟩ := info_parts info_int
  unfold hval at *
  go_enter Try.func10, Try.ntmps10
  go_wp2_with fail
  refine (H.out _ _).mono ?_
  rintro e w1 ⟨a1, c1, rfl, hS⟩
  have hT := Lib.hid (((hS.graft (h0.out _ _)).alloc #[.int .i64 t, .int .i64 r, .slice a1 l.length c1, .int .i64 n] 29).vec_nil 3 1)
  obtain ⟨y1, d0, d1, d2, d3, g0, g1, g2, g3⟩ := hT.out.to3.b4
  clear hS H h0
  go_wp2_with fail
  have hT2 : Hid (Sep (w1.alloc (.cells #[.int .i64 t, .int .i64 r, .slice a1 l.length c1, .int .i64 n] 29)) [vec 3 1 (.slice none 0 0) 0 [], blk w1.heap.size 29 #[.int .i64 t, .int .i64 r, .slice a1 l.length c1, .int .i64 n], vq (.slice a1 l.length c1) l, blk (w.heap.size + 1) 29 #[.int .i64 0, .int .i64 0, .slice none 0 0, .int .i64 0], blk w.heap.size 29 #[.int .i64 t, .int .i64 r, .slice a l.length c, .int .i64 n], old w]) := hT
  clear hT y1 d0 d1 d2 d3 g0 g1 g2 g3
  generalize hm : l.length = m at *
  replace hm := Lib.hid hm
  generalize w1.alloc (.cells #[.int .i64 t, .int .i64 r, .slice a1 m c1, .int .i64 n] 29) = W0 at *
  generalize w1.heap.size = V at *
  go_loopg [5] (opens l) (fun g s5 wr => ∃ (cur : List Rq) (ids : List Int) (sv : Value), sv = s5 ∧ Hid (scanN (opens l) l [] = scanN g cur ids) ∧ Hid (opens cur = g) ∧ Hid (Wants cur) ∧ Hid (IdsD cur) ∧ Hid (cur.length = m) ∧ ids.length + g ≤ 1000 ∧ Hid (Sep wr [vec 3 1 sv ids.length (ids.map (Value.int .i64)), blk V 29 #[.int .i64 t, .int .i64 r, .slice a1 m c1, .int .i64 n], vq (.slice a1 m c1) cur, blk (w.heap.size + 1) 29 #[.int .i64 0, .int .i64 0, .slice none 0 0, .int .i64 0], blk w.heap.size 29 #[.int .i64 t, .int .i64 r, .slice a m c, .int .i64 n], old w]))
  case atStart => exact ⟨l, [], _, rfl, rfl, rfl, hw, hD, hm, by have := opens_le l; have := hm.out; simp; omega, Lib.hid (by simpa using hT2.out)⟩
  case round =>
    clear hT2 hw hm hD
    obtain ⟨cur, ids, sv, rfl, hE, ho, hw, hD, hcl, hlen, hS⟩ := hrel
    have hQ : RQ wr (.slice a1 m c1) cur := hS.out.to2.vq_rq
    have HF := Lib.hid (upgrading_any t r n (.slice a1 m c1) cur wr hQ (by rw [hcl.out]; exact hl))
    obtain ⟨sa, sc, rfl⟩ := own_slice hS.out.gvec
    obtain ⟨y1, d0, d1, d2, d3, g0, g1, g2, g3⟩ := hS.out.to1.b4
    have hspec := Lib.hid (firstI_spec cur)
    have hsc := Lib.hid (show ∀ f, scanN (f + 1) cur ids = if firstI cur < 0 then (cur, ids) else if cur.any (fitsP (cur.getD (firstI cur).toNat default)) then (cur, ids) else scanN f (grant cur (firstI cur).toNat) (ids ++ [(cur.getD (firstI cur).toNat default).id]) from fun f => rfl)
    unfold hval at HF
    go_wp2_with fail
    refine HF.out.mono ?_
    rintro e w2 ⟨rfl, b2⟩
    replace hS := Lib.hid (hS.out.below b2)
    clear b2 HF y1 d0 d1 d2 d3 g0 g1 g2 g3
    have hFI := Lib.hid (show firstI cur = if bestK cur cur.length < 0 then idxF (fun r => r.mode == 0) cur 0 else bestK cur cur.length from rfl)
    obtain ⟨y1, d0, d1, d2, d3, g0, g1, g2, g3⟩ := hS.out.to1.b4
    by_cases hb : bestK cur cur.length < 0
    · have e1 := Lib.hid (show firstI cur = idxF (fun r => r.mode == 0) cur 0 by rw [hFI.out, if_pos hb])
      have db : decide (bestK cur cur.length < 0) = true := by simpa using hb
      have HW := Lib.hid (waiting_any t r n (.slice a1 m c1) cur w2 hS.out.to2.vq_rq (by rw [hcl.out]; exact hl))
      unfold hval at HW
      clear hb hFI
      generalize bestK cur cur.length = best at *
      go_wp2_with fail
      refine HW.out.mono ?_
      rintro e w2b ⟨rfl, b2⟩
      replace hS := Lib.hid (hS.out.below b2)
      rw [← e1.out]
      clear b2 HW y1 d0 d1 d2 d3 g0 g1 g2 g3 e1
      generalize w2b = w2 at *
      clear db
      obtain ⟨y1, d0, d1, d2, d3, g0, g1, g2, g3⟩ := hS.out.to1.b4
      obtain ⟨y2, e0, e1, e2, e3, f0, f1, f2, f3⟩ := hS.out.to3.b4
      by_cases hneg : firstI cur < 0
      · have ES := Lib.hid (show scanN (opens l) l [] = (cur, ids) by
          rw [hE.out]
          cases gk with
          | zero => rfl
          | succ f => rw [hsc.out, if_pos hneg])
        have d : decide (firstI cur < 0) = true := by simpa using hneg
        clear hsc hspec hneg hE
        generalize firstI cur = fi at *
        go_wp2_with fail
        refine wp_region_any (by kernel_rfl) ?_
        change wpAny _ _ _ _ _ _ _ (World.drew _)
        refine reg_take 0 (.int .i64 fi) rfl (by kernel_rfl) (by kernel_rfl) (by kernel_rfl) (fun _ _ _ _ _ h => h) (by kernel_rfl) (fun w => by go_simp; try with_reducible rfl) ?_
        simp only [Act.put, List.setIfInBounds_toArray, List.set_cons_succ, List.set_cons_zero, List.getElem_toArray, List.getElem_cons_zero, List.getElem_cons_succ]
        refine reg_take 1 (.bool true) rfl (by kernel_rfl) (by kernel_rfl) (by kernel_rfl) (fun _ _ _ _ _ h => h) (by kernel_rfl) (fun w => by go_simp; try with_reducible rfl) ?_
        simp only [Act.put, List.setIfInBounds_toArray, List.set_cons_succ, List.set_cons_zero, List.getElem_toArray, List.getElem_cons_zero, List.getElem_cons_succ]
        refine reg_take 2 (.bool true) rfl (by kernel_rfl) (by kernel_rfl) (by kernel_rfl) (fun _ _ _ _ _ h => h) (by kernel_rfl) (fun w => by go_simp; try with_reducible rfl) ?_
        simp only [Act.put, List.setIfInBounds_toArray, List.set_cons_succ, List.set_cons_zero, List.getElem_toArray, List.getElem_cons_zero, List.getElem_cons_succ]
        refine reg_skip 3 rfl (by kernel_rfl) (by kernel_rfl) (by kernel_rfl) (fun _ _ _ _ _ h => h) (by kernel_rfl) ?_
        simp only [Act.put, List.setIfInBounds_toArray, List.set_cons_succ, List.set_cons_zero, List.getElem_toArray, List.getElem_cons_zero, List.getElem_cons_succ]
        refine reg_skip 4 rfl (by kernel_rfl) (by kernel_rfl) (by kernel_rfl) (fun _ _ _ _ _ h => h) (by kernel_rfl) ?_
        simp only [Act.put, List.setIfInBounds_toArray, List.set_cons_succ, List.set_cons_zero, List.getElem_toArray, List.getElem_cons_zero, List.getElem_cons_succ]
        refine reg_skip 5 rfl (by kernel_rfl) (by kernel_rfl) (by kernel_rfl) (fun _ _ _ _ _ h => h) (by kernel_rfl) ?_
        simp only [Act.put, List.setIfInBounds_toArray, List.set_cons_succ, List.set_cons_zero, List.getElem_toArray, List.getElem_cons_zero, List.getElem_cons_succ]
        refine reg_skip 6 rfl (by kernel_rfl) (by kernel_rfl) (by kernel_rfl) (fun _ _ _ _ _ h => h) (by kernel_rfl) ?_
        simp only [Act.put, List.setIfInBounds_toArray, List.set_cons_succ, List.set_cons_zero, List.getElem_toArray, List.getElem_cons_zero, List.getElem_cons_succ]
        refine reg_skip 7 rfl (by kernel_rfl) (by kernel_rfl) (by kernel_rfl) (fun _ _ _ _ _ h => h) (by kernel_rfl) ?_
        simp only [Act.put, List.setIfInBounds_toArray, List.set_cons_succ, List.set_cons_zero, List.getElem_toArray, List.getElem_cons_zero, List.getElem_cons_succ]
        refine reg_skip 8 rfl (by kernel_rfl) (by kernel_rfl) (by kernel_rfl) (fun _ _ _ _ _ h => h) (by kernel_rfl) ?_
        simp only [Act.put, List.setIfInBounds_toArray, List.set_cons_succ, List.set_cons_zero, List.getElem_toArray, List.getElem_cons_zero, List.getElem_cons_succ]
        refine reg_skip 9 rfl (by kernel_rfl) (by kernel_rfl) (by kernel_rfl) (fun _ _ _ _ _ h => h) (by kernel_rfl) ?_
        simp only [Act.put, List.setIfInBounds_toArray, List.set_cons_succ, List.set_cons_zero, List.getElem_toArray, List.getElem_cons_zero, List.getElem_cons_succ]
        refine reg_skip 10 rfl (by kernel_rfl) (by kernel_rfl) (by kernel_rfl) (fun _ _ _ _ _ h => h) (by kernel_rfl) ?_
        simp only [Act.put, List.setIfInBounds_toArray, List.set_cons_succ, List.set_cons_zero, List.getElem_toArray, List.getElem_cons_zero, List.getElem_cons_succ]
        refine reg_skip 11 rfl (by kernel_rfl) (by kernel_rfl) (by kernel_rfl) (fun _ _ _ _ _ h => h) (by kernel_rfl) ?_
        simp only [Act.put, List.setIfInBounds_toArray, List.set_cons_succ, List.set_cons_zero, List.getElem_toArray, List.getElem_cons_zero, List.getElem_cons_succ]
        refine reg_skip 12 rfl (by kernel_rfl) (by kernel_rfl) (by kernel_rfl) (fun _ _ _ _ _ h => h) (by kernel_rfl) ?_
        simp only [Act.put, List.setIfInBounds_toArray, List.set_cons_succ, List.set_cons_zero, List.getElem_toArray, List.getElem_cons_zero, List.getElem_cons_succ]
        refine reg_take 13 (.bool true) rfl (by kernel_rfl) (by kernel_rfl) (by kernel_rfl) (fun _ _ _ _ _ h => h) (by kernel_rfl) (fun w => by go_simp; try with_reducible rfl) ?_
        simp only [Act.put, List.setIfInBounds_toArray, List.set_cons_succ, List.set_cons_zero, List.getElem_toArray, List.getElem_cons_zero, List.getElem_cons_succ]
        refine wpAny_done (by kernel_rfl) ?_ _
        go_wp2_with fail
        refine bodyPost_ret (v := .tuple #[.agg #[.int .i64 t, .int .i64 r, .slice a1 m c1, .int .i64 n], .slice sa ids.length sc]) (by simp [results, Try.results10, go_sem, *]) rfl ?_
        refine ⟨a1, c1, sa, sc, ?_, ?_⟩
        · rw [ES.out, hcl.out]
        · rw [ES.out]
          simp only
          rw [hcl.out]
          have hZ := ((((hS.out.to3.set 0 (.int .i64 t)).set 1 (.int .i64 r)).set 2 (.slice a1 m c1)).set 3 (.int .i64 n)).tail
          first | exact hZ.to2.drop2.drop2 | exact hZ.to2.drop2.drop2.drew
      · obtain ⟨i, hi', hil, hop⟩ := hspec.out (by omega)
        rw [hi', Int.toNat_natCast] at hsc
        have d : decide ((i : Int) < 0) = false := by rw [decide_eq_false_iff_not]; omega
        rw [hi']
        have hil' : i < m := by have := hcl.out; omega
        have i1 : (0 : Int) ≤ (i : Int) := by omega
        have i2 : (i : Int) < (m : Int) := by omega
        obtain ⟨g, rfl, hgl, hmc, q0, q1, q2, q3, q4, hfz⟩ := hS.out.to2.vq_at hcl.out hil'
        have hF := Lib.hid (fun W (hW : Sep W [vec 3 1 (.slice sa ids.length sc) ids.length (ids.map (Value.int .i64)), blk V 29 #[.int .i64 t, .int .i64 r, .slice (some ⟨g, 0, none⟩) m c1, .int .i64 n], vq (.slice (some ⟨g, 0, none⟩) m c1) cur, blk (w.heap.size + 1) 29 #[.int .i64 0, .int .i64 0, .slice none 0 0, .int .i64 0], blk w.heap.size 29 #[.int .i64 t, .int .i64 r, .slice a m c, .int .i64 n], old w]) => fitsR_any t r n (.slice (some ⟨g, 0, none⟩) m c1) cur (cur.getD i default).want i W hW.to2.vq_rq (by rw [hcl.out]; exact hl))
        rw [fits_eq cur i hil hD.out] at hF
        unfold hval at hF
        have z2 := hfz (i * 5 + 2)
        have z4 := hfz (i * 5 + 4)
        have hgr := Lib.hid (qcells_grant cur i hil)
        have hog := Lib.hid (opens_grant cur i hil hop)
        have hwg := Lib.hid (wants_grant cur i hw.out hil hop)
        have hwi := Lib.hid (hw.out (cur.getD i default) (by simp [List.getD, hil]) hop)
        clear hfz hspec hop hil
        generalize hq : cur.getD i default = q at *
        replace hq := Lib.hid hq
        obtain ⟨id, txn, mode, want, since⟩ := q
        simp only at q0 q1 q2 q3 q4 hF
        go_wp2_with fail
        go_region_held3 (fun w' => w'.cell? ⟨V, 0, none⟩ = some (.int .i64 t) ∧ w'.cell? ⟨V, 1, none⟩ = some (.int .i64 r) ∧ w'.cell? ⟨V, 2, none⟩ = some (.slice (some ⟨g, 0, none⟩) m c1) ∧ w'.cell? ⟨V, 3, none⟩ = some (.int .i64 n) ∧ w'.cell? ⟨g, i * 5 + 3, none⟩ = some (.int .i64 want)) (exact ⟨by assumption, by assumption, by assumption, by assumption, by assumption⟩) ((go_at_call 30; refine (hF.out _ (by first | exact hS.out | exact hS.out.drew)).mono ?_; rintro e w3 ⟨rfl, b3⟩; have hS3 := Lib.hid ((show Sep _ [vec 3 1 (.slice sa ids.length sc) ids.length (ids.map (Value.int .i64)), blk V 29 #[.int .i64 t, .int .i64 r, .slice (some ⟨g, 0, none⟩) m c1, .int .i64 n], vq (.slice (some ⟨g, 0, none⟩) m c1) cur, blk (w.heap.size + 1) 29 #[.int .i64 0, .int .i64 0, .slice none 0 0, .int .i64 0], blk w.heap.size 29 #[.int .i64 t, .int .i64 r, .slice a m c, .int .i64 n], old w] from by first | exact hS.out | exact hS.out.drew).below b3); obtain ⟨_, k0, k1, k2, k3, _⟩ := hS3.out.to1.b4; obtain ⟨_, hk, _, _, _, _, _, k4, _⟩ := hS3.out.to2.vq_at hcl.out hil'; injection hk with hk; injection hk with hk; subst hk; rw [hq.out] at k4; simp only at k4; clear b3))
        replace hS := hS3
        clear hS3 hF q0 q1 q2 q3 q4 z2 z4 y1 d0 d1 d2 d3 g0 g1 g2 g3 y2 e0 e1 e2 e3 f0 f1 f2 f3 k0 k1 k2 k3 k4
        obtain ⟨y1, d0, d1, d2, d3, g0, g1, g2, g3⟩ := hS.out.to1.b4
        obtain ⟨y2, e0, e1, e2, e3, f0, f1, f2, f3⟩ := hS.out.to3.b4
        obtain ⟨g', hg', hgl', _, q0, q1, q2, q3, q4, hfz⟩ := hS.out.to2.vq_at hcl.out hil'
        injection hg' with hg'
        injection hg' with hg'
        subst hg'
        rw [hq.out] at q0 q1 q2 q3 q4
        have z2 := hfz (i * 5 + 2)
        have z4 := hfz (i * 5 + 4)
        have n1 := hS.out.to1.to2.vq_ne hcl.out
        have n2 := Ne.symm n1
        clear hfz
        simp only at q0 q1 q2 q3 q4
        cases hany : cur.any (fitsP ⟨id, txn, mode, want, since⟩) with
        | true =>
          have ES := Lib.hid (show scanN (opens l) l [] = (cur, ids) by
            rw [hE.out]
            cases gk with
            | zero => rfl
            | succ f => rw [hsc.out, if_neg (by omega), if_pos hany])
          clear hsc hE hgr hog hwg hwi hany
          have hS := hS
          go_wp2_with fail
          refine bodyPost_ret (v := .tuple #[.agg #[.int .i64 t, .int .i64 r, .slice (some ⟨g, 0, none⟩) m c1, .int .i64 n], .slice sa ids.length sc]) (by simp [results, Try.results10, go_sem, *]) rfl ?_
          refine ⟨(some ⟨g, 0, none⟩), c1, sa, sc, ?_, ?_⟩
          · rw [ES.out, hcl.out]
          · rw [ES.out]
            simp only
            rw [hcl.out]
            have hZ := ((((hS.out.to3.set 0 (.int .i64 t)).set 1 (.int .i64 r)).set 2 (.slice (some ⟨g, 0, none⟩) m c1)).set 3 (.int .i64 n)).tail
            first | exact hZ.to2.drop2.drop2 | exact hZ.to2.drop2.drop2.drew
        | false =>
          obtain ⟨f, rfl⟩ : ∃ f, gk = f + 1 := ⟨gk - 1, by have := hog.out hwi.out; have := ho.out; omega⟩
          have ES := Lib.hid (show scanN (opens l) l [] = scanN f (grant cur i) (ids ++ [id]) by rw [hE.out, hsc.out, if_neg (by omega), if_neg (by rw [hany]; decide)])
          have hfo := Lib.hid (show opens (grant cur i) = f by have := hog.out hwi.out; have := ho.out; omega)
          clear hsc hE hany
          go_wp2_with fail
          go_region
          have hS4 := hS.out.to2.vq_grant hcl.out hil'
          rw [hq.out] at hS4
          simp only at hS4
          replace hS4 := hS4.drew
          have hcl4 : Hid ((grant cur i).length = m) := by rw [grant_len]; exact hcl.out
          clear y1 d0 d1 d2 d3 g0 g1 g2 g3 y2 e0 e1 e2 e3 f0 f1 f2 f3 q0 q1 q2 q3 q4 z2 z4
          obtain ⟨y1, d0, d1, d2, d3, g0, g1, g2, g3⟩ := hS4.to2.b4
          obtain ⟨g', hg', hgl', _, q0, q1, q2, q3, q4, _⟩ := hS4.vq_at hcl4.out hil'
          injection hg' with hg'
          injection hg' with hg'
          subst hg'
          have hgi := Lib.hid (show (grant cur i).getD i default = ⟨id, txn, want, want, 0⟩ by simp only [grant, hq.out]; simp [List.getD, hcl.out, hil'])
          rw [hgi.out] at q0
          simp only at q0
          replace hS4 := Lib.hid hS4
          generalize World.drew _ = w4 at *
          clear q1 q2 q3 q4

          go_wp2_with (at_builtin; refine wpList_append_sep (hS4.out.to1.allocG _) rfl _ _ 30 rfl i0 (.int .i64 0) 8 Try.underlying30 hi hz0 hz1 hz2 rfl (by decide) rfl 1 [.int .i64 id] (SrcA.one _ _ _ _) ?c2 ?c3 ?c4 ?_)
          case c2 => simp [Value.oneCell']
          case c3 => simp only [maxLen]; omega
          case c4 => omega
          intro aa ca w5 hS5
          replace hS5 := Lib.hid hS5
          clear hS4
          go_wp2_with fail
          go_roundg f
          case measure => omega
          case rel => exact ⟨grant cur i, ids ++ [id], _, rfl, ES, hfo, hwg, Lib.hid (idsD_grant cur i hD.out), hcl4, by simp; omega, Lib.hid (by have h := hS5.out.to2.to1; simpa using h)⟩
    · have e1 := Lib.hid (show firstI cur = bestK cur cur.length by rw [hFI.out, if_neg hb])
      have db : decide (bestK cur cur.length < 0) = false := by simpa using hb
      have hnn := Lib.hid (show ¬ firstI cur < 0 by rw [e1.out]; exact hb)
      rw [← e1.out]
      clear hb hFI y1 d0 d1 d2 d3 g0 g1 g2 g3 e1
      clear db
      obtain ⟨y1, d0, d1, d2, d3, g0, g1, g2, g3⟩ := hS.out.to1.b4
      obtain ⟨y2, e0, e1, e2, e3, f0, f1, f2, f3⟩ := hS.out.to3.b4
      by_cases hneg : firstI cur < 0
      · exact absurd hneg hnn.out
      · obtain ⟨i, hi', hil, hop⟩ := hspec.out (by omega)
        rw [hi', Int.toNat_natCast] at hsc
        have d : decide ((i : Int) < 0) = false := by rw [decide_eq_false_iff_not]; omega
        rw [hi']
        have hil' : i < m := by have := hcl.out; omega
        have i1 : (0 : Int) ≤ (i : Int) := by omega
        have i2 : (i : Int) < (m : Int) := by omega
        obtain ⟨g, rfl, hgl, hmc, q0, q1, q2, q3, q4, hfz⟩ := hS.out.to2.vq_at hcl.out hil'
        have hF := Lib.hid (fun W (hW : Sep W [vec 3 1 (.slice sa ids.length sc) ids.length (ids.map (Value.int .i64)), blk V 29 #[.int .i64 t, .int .i64 r, .slice (some ⟨g, 0, none⟩) m c1, .int .i64 n], vq (.slice (some ⟨g, 0, none⟩) m c1) cur, blk (w.heap.size + 1) 29 #[.int .i64 0, .int .i64 0, .slice none 0 0, .int .i64 0], blk w.heap.size 29 #[.int .i64 t, .int .i64 r, .slice a m c, .int .i64 n], old w]) => fitsR_any t r n (.slice (some ⟨g, 0, none⟩) m c1) cur (cur.getD i default).want i W hW.to2.vq_rq (by rw [hcl.out]; exact hl))
        rw [fits_eq cur i hil hD.out] at hF
        unfold hval at hF
        have z2 := hfz (i * 5 + 2)
        have z4 := hfz (i * 5 + 4)
        have hgr := Lib.hid (qcells_grant cur i hil)
        have hog := Lib.hid (opens_grant cur i hil hop)
        have hwg := Lib.hid (wants_grant cur i hw.out hil hop)
        have hwi := Lib.hid (hw.out (cur.getD i default) (by simp [List.getD, hil]) hop)
        clear hfz hspec hop hil
        generalize hq : cur.getD i default = q at *
        replace hq := Lib.hid hq
        obtain ⟨id, txn, mode, want, since⟩ := q
        simp only at q0 q1 q2 q3 q4 hF
        go_wp2_with fail
        go_region_held3 (fun w' => w'.cell? ⟨V, 0, none⟩ = some (.int .i64 t) ∧ w'.cell? ⟨V, 1, none⟩ = some (.int .i64 r) ∧ w'.cell? ⟨V, 2, none⟩ = some (.slice (some ⟨g, 0, none⟩) m c1) ∧ w'.cell? ⟨V, 3, none⟩ = some (.int .i64 n) ∧ w'.cell? ⟨g, i * 5 + 3, none⟩ = some (.int .i64 want)) (exact ⟨by assumption, by assumption, by assumption, by assumption, by assumption⟩) ((go_at_call 30; refine (hF.out _ (by first | exact hS.out | exact hS.out.drew)).mono ?_; rintro e w3 ⟨rfl, b3⟩; have hS3 := Lib.hid ((show Sep _ [vec 3 1 (.slice sa ids.length sc) ids.length (ids.map (Value.int .i64)), blk V 29 #[.int .i64 t, .int .i64 r, .slice (some ⟨g, 0, none⟩) m c1, .int .i64 n], vq (.slice (some ⟨g, 0, none⟩) m c1) cur, blk (w.heap.size + 1) 29 #[.int .i64 0, .int .i64 0, .slice none 0 0, .int .i64 0], blk w.heap.size 29 #[.int .i64 t, .int .i64 r, .slice a m c, .int .i64 n], old w] from by first | exact hS.out | exact hS.out.drew).below b3); obtain ⟨_, k0, k1, k2, k3, _⟩ := hS3.out.to1.b4; obtain ⟨_, hk, _, _, _, _, _, k4, _⟩ := hS3.out.to2.vq_at hcl.out hil'; injection hk with hk; injection hk with hk; subst hk; rw [hq.out] at k4; simp only at k4; clear b3))
        replace hS := hS3
        clear hS3 hF q0 q1 q2 q3 q4 z2 z4 y1 d0 d1 d2 d3 g0 g1 g2 g3 y2 e0 e1 e2 e3 f0 f1 f2 f3 k0 k1 k2 k3 k4
        obtain ⟨y1, d0, d1, d2, d3, g0, g1, g2, g3⟩ := hS.out.to1.b4
        obtain ⟨y2, e0, e1, e2, e3, f0, f1, f2, f3⟩ := hS.out.to3.b4
        obtain ⟨g', hg', hgl', _, q0, q1, q2, q3, q4, hfz⟩ := hS.out.to2.vq_at hcl.out hil'
        injection hg' with hg'
        injection hg' with hg'
        subst hg'
        rw [hq.out] at q0 q1 q2 q3 q4
        have z2 := hfz (i * 5 + 2)
        have z4 := hfz (i * 5 + 4)
        have n1 := hS.out.to1.to2.vq_ne hcl.out
        have n2 := Ne.symm n1
        clear hfz
        simp only at q0 q1 q2 q3 q4
        cases hany : cur.any (fitsP ⟨id, txn, mode, want, since⟩) with
        | true =>
          have ES := Lib.hid (show scanN (opens l) l [] = (cur, ids) by
            rw [hE.out]
            cases gk with
            | zero => rfl
            | succ f => rw [hsc.out, if_neg (by omega), if_pos hany])
          clear hsc hE hgr hog hwg hwi hany
          have hS := hS
          go_wp2_with fail
          refine bodyPost_ret (v := .tuple #[.agg #[.int .i64 t, .int .i64 r, .slice (some ⟨g, 0, none⟩) m c1, .int .i64 n], .slice sa ids.length sc]) (by simp [results, Try.results10, go_sem, *]) rfl ?_
          refine ⟨(some ⟨g, 0, none⟩), c1, sa, sc, ?_, ?_⟩
          · rw [ES.out, hcl.out]
          · rw [ES.out]
            simp only
            rw [hcl.out]
            have hZ := ((((hS.out.to3.set 0 (.int .i64 t)).set 1 (.int .i64 r)).set 2 (.slice (some ⟨g, 0, none⟩) m c1)).set 3 (.int .i64 n)).tail
            first | exact hZ.to2.drop2.drop2 | exact hZ.to2.drop2.drop2.drew
        | false =>
          obtain ⟨f, rfl⟩ : ∃ f, gk = f + 1 := ⟨gk - 1, by have := hog.out hwi.out; have := ho.out; omega⟩
          have ES := Lib.hid (show scanN (opens l) l [] = scanN f (grant cur i) (ids ++ [id]) by rw [hE.out, hsc.out, if_neg (by omega), if_neg (by rw [hany]; decide)])
          have hfo := Lib.hid (show opens (grant cur i) = f by have := hog.out hwi.out; have := ho.out; omega)
          clear hsc hE hany
          go_wp2_with fail
          go_region
          have hS4 := hS.out.to2.vq_grant hcl.out hil'
          rw [hq.out] at hS4
          simp only at hS4
          replace hS4 := hS4.drew
          have hcl4 : Hid ((grant cur i).length = m) := by rw [grant_len]; exact hcl.out
          clear y1 d0 d1 d2 d3 g0 g1 g2 g3 y2 e0 e1 e2 e3 f0 f1 f2 f3 q0 q1 q2 q3 q4 z2 z4
          obtain ⟨y1, d0, d1, d2, d3, g0, g1, g2, g3⟩ := hS4.to2.b4
          obtain ⟨g', hg', hgl', _, q0, q1, q2, q3, q4, _⟩ := hS4.vq_at hcl4.out hil'
          injection hg' with hg'
          injection hg' with hg'
          subst hg'
          have hgi := Lib.hid (show (grant cur i).getD i default = ⟨id, txn, want, want, 0⟩ by simp only [grant, hq.out]; simp [List.getD, hcl.out, hil'])
          rw [hgi.out] at q0
          simp only at q0
          replace hS4 := Lib.hid hS4
          generalize World.drew _ = w4 at *
          clear q1 q2 q3 q4

          go_wp2_with (at_builtin; refine wpList_append_sep (hS4.out.to1.allocG _) rfl _ _ 30 rfl i0 (.int .i64 0) 8 Try.underlying30 hi hz0 hz1 hz2 rfl (by decide) rfl 1 [.int .i64 id] (SrcA.one _ _ _ _) ?c2 ?c3 ?c4 ?_)
          case c2 => simp [Value.oneCell']
          case c3 => simp only [maxLen]; omega
          case c4 => omega
          intro aa ca w5 hS5
          replace hS5 := Lib.hid hS5
          clear hS4
          go_wp2_with fail
          go_roundg f
          case measure => omega
          case rel => exact ⟨grant cur i, ids ++ [id], _, rfl, ES, hfo, hwg, Lib.hid (idsD_grant cur i hD.out), hcl4, by simp; omega, Lib.hid (by have h := hS5.out.to2.to1; simpa using h)⟩
end Go.Proofs.Ytcnkmhfcgkbhbaa
namespace Go.Proofs.Ytcnkmhfcgkbhbaa
open Go.RowKit
theorem boxes2 (w : World) (t0 t1 : TypeId) (b1 b2 : Array Value) : Sep ((w.alloc (.cells b1 t0)).alloc (.cells b2 t1)) [blk (w.heap.size + 1) t1 b2, blk w.heap.size t0 b1, old w] := by
  have := ((Sep.start w).alloc b1 t0).alloc b2 t1
  rw [World.size_alloc] at this
  exact this
end Go.Proofs.Ytcnkmhfcgkbhbaa
