/-
  Contracts and plain laws that the walk leans on, part 13. No condition.
-/
import Derived.Test.YtmacpjnkmkaloaaGreatZQc12
namespace Go.Proofs.YtmacpjnkmkaloaaGreat
set_option linter.unusedSimpArgs false
set_option linter.unusedVariables false
set_option linter.unnecessarySimpa false
open Go.RowKit
theorem fits_eqKW (l : List Rq) (i : Nat) (mo : Int) (hi : i < l.length) (hd : IdsD l) : ∀ k, k ≤ l.length → fitsK l mo i k = !((l.take k).any (fitsP { l.getD i default with want := mo }))
  | 0, _ => by simp [fitsK]
  | k+1, hk => by
    rw [fitsK, fits_eqKW l i mo hi hd k (by omega), take_snocQ l k (by omega), List.any_append]
    have e : decide ((k : Int) ≠ (i : Int)) = ((l.getD k default).id != (l.getD i default).id) := by
      rw [Bool.eq_iff_iff]
      simp only [decide_eq_true_eq, bne_iff_ne, ne_eq]
      constructor
      · intro h1 h2
        exact h1 (by have := hd k i (by omega) hi h2; omega)
      · intro h1 h2
        exact h1 (by have : k = i := by omega
                     rw [this])
    rw [e]
    simp only [List.any_cons, List.any_nil, Bool.or_false, fitsP, Bool.not_or]
theorem fits_eqW (l : List Rq) (i : Nat) (mo : Int) (hi : i < l.length) (hd : IdsD l) : fitsK l mo i l.length = !(l.any (fitsP { l.getD i default with want := mo })) := by
  have := fits_eqKW l i mo hi hd l.length (Nat.le_refl _)
  rwa [List.take_length] at this
theorem idxF_true {α : Type} [Inhabited α] (p : α → Bool) : ∀ (l : List α) (k i : Nat), idxF p l k = ((k + i : Nat) : Int) → i < l.length → p (l.getD i default) = true
  | [], k, i, _, hi => absurd hi (by simp)
  | x :: l, k, i, h, hi => by
    unfold idxF at h
    split at h
    · rename_i hp
      have : i = 0 := by omega
      subst this
      simpa [List.getD] using hp
    · rename_i hp
      cases i with
      | zero =>
        exfalso
        have : ∀ (l : List α) (k : Nat), idxF p l k = -1 ∨ (k : Int) ≤ idxF p l k := by
          intro l
          induction l with
          | nil => intro k; left; rfl
          | cons y r ih =>
            intro k
            unfold idxF
            split
            · right; omega
            · rcases ih (k + 1) with h | h
              · exact .inl h
              · right; omega
        have := this l (k + 1)
        omega
      | succ i =>
        have := idxF_true p l (k + 1) i (by rw [h]; congr 1; omega) (by simpa using hi)
        simpa [List.getD] using this
theorem plc_id {l : List Rq} {id0 : Int} {i : Nat} (h : plc l id0 = i) (hi : i < l.length) : (l.getD i default).id = id0 := by
  have := idxF_true (fun q : Rq => q.id == id0) l 0 i (by rw [Nat.zero_add]; exact h) hi
  simpa using this
theorem hand_free {l : List Rq} {id0 t0 : Int} {i : Nat} (hD : IdsD l) (h : plc l id0 = i) (hi : i < l.length) (hc : l.any (handP id0 t0) = false) : ∀ j, j < l.length → j ≠ i → ((l.getD j default).txn == t0) = false := by
  intro j hj hne
  have h1 := List.any_eq_false.1 hc _ (getD_mem l j hj)
  have h2 : (l.getD j default).id ≠ id0 := fun e => hne (hD j i hj hi (by rw [e, plc_id h hi]))
  have h3 : handP id0 t0 (l.getD j default) = ((l.getD j default).txn == t0) := by unfold handP; rw [show ((l.getD j default).id != id0) = true from bne_iff_ne.2 h2, Bool.true_and]
  rw [h3] at h1
  exact (Bool.not_eq_true _).mp h1
theorem hand_held {l : List Rq} {id0 t0 : Int} {i : Nat} (h : plc l id0 = i) (hi : i < l.length) (hc : l.any (handP id0 t0) = true) : ∃ j, j < l.length ∧ j ≠ i ∧ ((l.getD j default).txn == t0) = true := by
  obtain ⟨q, hq, h2⟩ := List.any_eq_true.1 hc
  obtain ⟨j, hj, rfl⟩ := mem_getD hq
  simp only [handP, Bool.and_eq_true, bne_iff_ne, ne_eq] at h2
  exact ⟨j, hj, fun e => h2.1 (by rw [e, plc_id h hi]), h2.2⟩
theorem best_no {l : List Rq} (h : l.any upB = false) : bestK l l.length < 0 := by
  rcases Int.lt_or_le (bestK l l.length) 0 with h1 | h1
  · exact h1
  · have h2 := bestK_up l l.length (Nat.le_refl _) h1
    have h3 := (bestK_bd l l.length).2
    have := List.any_eq_false.1 h _ (getD_mem l (bestK l l.length).toNat (by omega))
    exact absurd h2 this
theorem best_yes {l : List Rq} (h : l.any upB = true) : ¬ bestK l l.length < 0 := by
  intro h1
  obtain ⟨q, hq, h2⟩ := List.any_eq_true.1 h
  obtain ⟨j, hj, rfl⟩ := mem_getD hq
  rw [bestK_none l l.length h1 j hj] at h2
  cases h2
set_option maxHeartbeats 4000000 in
set_option maxRecDepth 100000 in
theorem upR_arg (t r n : Int) (v : Value) (l : List Rq) (id0 mo : Int) (w : World) (hv : RQ w v l) (hl : l.length ≤ 1000) (ha : askedB mo = false) :
    Calls Tryz.prog 14 #[hval t r v n, .int .i64 id0, .int .i64 mo] w fun e w' => e = .returned (.tuple #[zhd, .bool false, .int .i64 2]) ∧ Below w.heap.size w w' := by
  have hB := Lib.hid (boxes2 w 26 26 #[.int .i64 t, .int .i64 r, v, .int .i64 n] #[.int .i64 0, .int .i64 0, .slice none 0 0, .int .i64 0])
  have HA := Lib.hid (fun W => askedR_any mo W)
  rw [ha] at HA
  obtain ⟨a, c, rfl, _⟩ := hv
  unfold hval at *
  clear ha
  go_enter Tryz.func14, Tryz.ntmps14
  go_wp2_with fail
  refine (HA.out _).mono ?_
  rintro e w1 ⟨rfl, rfl⟩
  obtain ⟨_, e0, e1, e2, e3, f0, f1, f2, f3⟩ := hB.out.b4
  go_wp2_with fail
  refine bodyPost_ret (v := .tuple #[.agg #[.int .i64 0, .int .i64 0, .slice none 0 0, .int .i64 0], .bool false, .int .i64 2]) (by simp [results, Tryz.results14, go_sem, *]) rfl ⟨rfl, ?_⟩
  first | exact hB.out.tail.tail.gold | exact ((((hB.out.set 0 (.int .i64 0)).set 1 (.int .i64 0)).set 2 (.slice none 0 0)).set 3 (.int .i64 0)).tail.tail.gold
set_option maxHeartbeats 4000000 in
set_option maxRecDepth 100000 in
theorem upR_none (t r n : Int) (v : Value) (l : List Rq) (id0 mo : Int) (w : World) (hv : RQ w v l) (hl : l.length ≤ 1000) (ha : askedB mo = true) (hi : plc l id0 = -1) :
    Calls Tryz.prog 14 #[hval t r v n, .int .i64 id0, .int .i64 mo] w fun e w' => e = .returned (.tuple #[zhd, .bool false, .int .i64 5]) ∧ Below w.heap.size w w' := by
  have hB := Lib.hid (boxes2 w 26 26 #[.int .i64 t, .int .i64 r, v, .int .i64 n] #[.int .i64 0, .int .i64 0, .slice none 0 0, .int .i64 0])
  have hb2 := two_boxes w #[.int .i64 t, .int .i64 r, v, .int .i64 n] #[.int .i64 0, .int .i64 0, .slice none 0 0, .int .i64 0] 26 26
  have HAT := Lib.hid (at_any t r n v l id0 _ (hv.below hb2) hl)
  rw [show idxF (fun q => q.id == id0) l 0 = -1 from hi] at HAT
  have HA := Lib.hid (fun W => askedR_any mo W)
  rw [ha] at HA
  clear hb2 hi ha
  obtain ⟨a, c, rfl, _⟩ := hv
  unfold hval at *
  go_enter Tryz.func14, Tryz.ntmps14
  go_wp2_with fail
  refine (HA.out _).mono ?_
  rintro e w1 ⟨rfl, rfl⟩
  go_wp2_with fail
  refine HAT.out.mono ?_
  rintro e w2 ⟨rfl, q⟩
  replace hB := Lib.hid (hB.out.below q)
  obtain ⟨_, e0, e1, e2, e3, f0, f1, f2, f3⟩ := hB.out.b4
  obtain ⟨_, k0, k1, k2, k3, _⟩ := hB.out.to1.b4
  clear q HAT
  go_wp2_with fail
  refine bodyPost_ret (v := .tuple #[.agg #[.int .i64 0, .int .i64 0, .slice none 0 0, .int .i64 0], .bool false, .int .i64 5]) (by simp [results, Tryz.results14, go_sem, *]) rfl ⟨rfl, ?_⟩
  exact ((((hB.out.set 0 (.int .i64 0)).set 1 (.int .i64 0)).set 2 (.slice none 0 0)).set 3 (.int .i64 0)).tail.tail.gold
set_option maxHeartbeats 4000000 in
set_option maxRecDepth 100000 in
theorem handR_none (t r n : Int) (v : Value) (l : List Rq) (id0 t0 : Int) (w : World) (hv : RQ w v l) (hl : l.length ≤ 1000) (hi : plc l id0 = -1) :
    Calls Tryz.prog 20 #[hval t r v n, .int .i64 id0, .int .i64 t0] w fun e w' => e = .returned (.tuple #[zhd, .int .i64 5]) ∧ Below w.heap.size w w' := by
  have hB := Lib.hid (boxes2 w 26 26 #[.int .i64 t, .int .i64 r, v, .int .i64 n] #[.int .i64 0, .int .i64 0, .slice none 0 0, .int .i64 0])
  have hb2 := two_boxes w #[.int .i64 t, .int .i64 r, v, .int .i64 n] #[.int .i64 0, .int .i64 0, .slice none 0 0, .int .i64 0] 26 26
  have HAT := Lib.hid (at_any t r n v l id0 _ (hv.below hb2) hl)
  rw [show idxF (fun q => q.id == id0) l 0 = -1 from hi] at HAT
  clear hb2 hi
  obtain ⟨a, c, rfl, _⟩ := hv
  unfold hval at *
  go_enter Tryz.func20, Tryz.ntmps20
  go_wp2_with fail
  refine HAT.out.mono ?_
  rintro e w2 ⟨rfl, q⟩
  replace hB := Lib.hid (hB.out.below q)
  obtain ⟨_, e0, e1, e2, e3, f0, f1, f2, f3⟩ := hB.out.b4
  obtain ⟨_, k0, k1, k2, k3, _⟩ := hB.out.to1.b4
  clear q HAT
  go_wp2_with fail
  refine bodyPost_ret (v := .tuple #[.agg #[.int .i64 0, .int .i64 0, .slice none 0 0, .int .i64 0], .int .i64 5]) (by simp [results, Tryz.results20, go_sem, *]) rfl ⟨rfl, ?_⟩
  exact ((((hB.out.set 0 (.int .i64 0)).set 1 (.int .i64 0)).set 2 (.slice none 0 0)).set 3 (.int .i64 0)).tail.tail.gold
set_option maxHeartbeats 4000000 in
set_option maxRecDepth 100000 in
theorem upR_state (t r n : Int) (v : Value) (l : List Rq) (id0 mo : Int) (w : World) (hv : RQ w v l) (hl : l.length ≤ 1000) (ha : askedB mo = true) (i : Nat) (hi : plc l id0 = i) (hil : i < l.length) (hs : decide (0 < (l.getD i default).since) = true) :
    Calls Tryz.prog 14 #[hval t r v n, .int .i64 id0, .int .i64 mo] w fun e w' => e = .returned (.tuple #[zhd, .bool false, .int .i64 7]) ∧ Below w.heap.size w w' := by
  have hB := Lib.hid (boxes2 w 26 26 #[.int .i64 t, .int .i64 r, v, .int .i64 n] #[.int .i64 0, .int .i64 0, .slice none 0 0, .int .i64 0])
  have hb2 := two_boxes w #[.int .i64 t, .int .i64 r, v, .int .i64 n] #[.int .i64 0, .int .i64 0, .slice none 0 0, .int .i64 0] 26 26
  have HAT := Lib.hid (at_any t r n v l id0 _ (hv.below hb2) hl)
  rw [show idxF (fun q => q.id == id0) l 0 = i from hi] at HAT
  have HA := Lib.hid (fun W => askedR_any mo W)
  rw [ha] at HA
  clear ha
  have HW := Lib.hid (fun W => waitsR_any (l.getD i default) W)
  rw [hs] at HW
  have HX := Lib.hid (fun W (hb : Below w.heap.size w W) => copied_any t r n v l W (hv.below hb) hl)
  have d : decide ((i : Int) < 0) = false := by rw [decide_eq_false_iff_not]; omega
  clear hb2 hi hs
  have hv2 := Lib.hid hv
  obtain ⟨a, c, rfl, hlc, _, hr⟩ := hv
  obtain ⟨b, off, rfl, hbl, hz⟩ := hr (by omega)
  obtain ⟨z0, z1, z2, z3, z4⟩ := hz i hil
  have hz' := Lib.hid (hz i hil)
  clear hr hz HX
  generalize hq : l.getD i default = q at *
  replace hq := Lib.hid hq
  have i1 : (0 : Int) ≤ (i : Int) := by omega
  have i2 : (i : Int) < (l.length : Int) := by omega
  obtain ⟨id, txn, mode, want, since⟩ := q
  unfold hval at *
  simp only [Rq.val] at HW z0 z1 z2 z3 z4
  generalize hlm : l.length = m at *
  replace hlm := Lib.hid hlm
  go_enter Tryz.func14, Tryz.ntmps14
  go_wp2_with fail
  refine (HA.out _).mono ?_
  rintro e w0 ⟨rfl, rfl⟩
  clear HA
  go_wp2_with fail
  refine HAT.out.mono ?_
  rintro e w1 ⟨rfl, q⟩
  replace hB := Lib.hid (hB.out.below q)
  obtain ⟨_, e0, e1, e2, e3, f0, f1, f2, f3⟩ := hB.out.b4
  obtain ⟨_, k0, k1, k2, k3, _⟩ := hB.out.to1.b4
  rw [← hB.out.tail.tail.gold.cell (by exact hbl)] at z0 z1 z2 z3 z4
  clear q HAT
  go_wp2_with fail
  refine (HW.out _).mono ?_
  rintro e w2 ⟨rfl, q⟩
  replace hB := Lib.hid (hB.out.below q)
  clear q HW e0 e1 e2 e3 f0 f1 f2 f3 k0 k1 k2 k3
  obtain ⟨_, e0, e1, e2, e3, f0, f1, f2, f3⟩ := hB.out.b4
  obtain ⟨_, k0, k1, k2, k3, _⟩ := hB.out.to1.b4
  go_wp2_with fail
  refine bodyPost_ret (v := .tuple #[.agg #[.int .i64 0, .int .i64 0, .slice none 0 0, .int .i64 0], .bool false, .int .i64 7]) (by simp [results, Tryz.results14, go_sem, *]) rfl ⟨rfl, ?_⟩
  exact ((((hB.out.set 0 (.int .i64 0)).set 1 (.int .i64 0)).set 2 (.slice none 0 0)).set 3 (.int .i64 0)).tail.tail.gold
theorem vq_late {w w0 : World} {g m c : Nat} {l : List Rq} {rs : List Res} (h : Sep w (vq (.slice (some ⟨g, 0, none⟩) m c) l :: old w0 :: rs)) : w0.heap.size ≤ g := by
  obtain ⟨A, h1, _, B, h2, h3, _⟩ := h.out
  rcases Nat.lt_or_ge g w0.heap.size with hlt | hge
  · exact absurd (Or.inr ((h1.1 g).2 rfl)) (h3 g ((h2.1 g).2 hlt))
  · exact hge
set_option maxHeartbeats 4000000 in
set_option maxRecDepth 100000 in
theorem upR_same (t r n : Int) (v : Value) (l : List Rq) (id0 mo : Int) (w : World) (hv : RQ w v l) (hl : l.length ≤ 1000) (ha : askedB mo = true) (i : Nat) (hi : plc l id0 = i) (hil : i < l.length) (hs : decide (0 < (l.getD i default).since) = false) (hD : IdsD l) (hu : supV (l.getD i default).mode mo = (l.getD i default).mode) :
    Calls Tryz.prog 14 #[hval t r v n, .int .i64 id0, .int .i64 mo] w fun e w' => ∃ a c, e = .returned (.tuple #[hval t r (.slice a l.length c) n, .bool true, .int .i64 0]) ∧ Sep w' [vq (.slice a l.length c) (l.set i { upQ (l.getD i default) mo with mode := supV (l.getD i default).mode mo }), old w] := by
  obtain ⟨R, hR⟩ : ∃ R, (l.set i { upQ (l.getD i default) mo with mode := supV (l.getD i default).mode mo }) = R := ⟨_, rfl⟩
  rw [hR]
  replace hR := Lib.hid hR
  have hB := Lib.hid (boxes2 w 26 26 #[.int .i64 t, .int .i64 r, v, .int .i64 n] #[.int .i64 0, .int .i64 0, .slice none 0 0, .int .i64 0])
  have hb2 := two_boxes w #[.int .i64 t, .int .i64 r, v, .int .i64 n] #[.int .i64 0, .int .i64 0, .slice none 0 0, .int .i64 0] 26 26
  have HAT := Lib.hid (at_any t r n v l id0 _ (hv.below hb2) hl)
  rw [show idxF (fun q => q.id == id0) l 0 = i from hi] at HAT
  have HA := Lib.hid (fun W => askedR_any mo W)
  rw [ha] at HA
  clear ha
  have HW := Lib.hid (fun W => waitsR_any (l.getD i default) W)
  rw [hs] at HW
  have HX := Lib.hid (fun W (hb : Below w.heap.size w W) => copied_any t r n v l W (hv.below hb) hl)
  have d : decide ((i : Int) < 0) = false := by rw [decide_eq_false_iff_not]; omega
  clear hb2 hi hs
  have hv2 := Lib.hid hv
  obtain ⟨a, c, rfl, hlc, _, hr⟩ := hv
  obtain ⟨b, off, rfl, hbl, hz⟩ := hr (by omega)
  obtain ⟨z0, z1, z2, z3, z4⟩ := hz i hil
  have hz' := Lib.hid (hz i hil)
  have HS := Lib.hid (fun W => supR_any (l.getD i default).mode mo W)
  have HF := Lib.hid (fun W (hb : Below w.heap.size w W) => fitsR_any t r n (.slice (some ⟨b, off, none⟩) l.length c) l (supV (l.getD i default).mode mo) i W (hv2.out.below hb) hl)
  have HU := Lib.hid (fun W (hb : Below w.heap.size w W) => upgrading_any t r n (.slice (some ⟨b, off, none⟩) l.length c) l W (hv2.out.below hb) hl)
  have hfe := fits_eqW l i (supV (l.getD i default).mode mo) hil hD
  clear hr hz hfe hD hv2
  simp only [upQ] at hR
  generalize hq : l.getD i default = q at *
  replace hq := Lib.hid hq
  have i1 : (0 : Int) ≤ (i : Int) := by omega
  have i2 : (i : Int) < (l.length : Int) := by omega
  obtain ⟨id, txn, mode, want, since⟩ := q
  unfold hval at *
  simp only [Rq.val] at HW z0 z1 z2 z3 z4
  generalize hlm : l.length = m at *
  replace hlm := Lib.hid hlm
  simp only at HS HF hu hR
  generalize supV mode mo = want2 at *
  replace hR := Lib.hid hR.out
  subst hu
  go_enter Tryz.func14, Tryz.ntmps14
  go_wp2_with fail
  refine (HA.out _).mono ?_
  rintro e w0 ⟨rfl, rfl⟩
  clear HA
  go_wp2_with fail
  refine HAT.out.mono ?_
  rintro e w1 ⟨rfl, q⟩
  replace hB := Lib.hid (hB.out.below q)
  obtain ⟨_, e0, e1, e2, e3, f0, f1, f2, f3⟩ := hB.out.b4
  obtain ⟨_, k0, k1, k2, k3, _⟩ := hB.out.to1.b4
  rw [← hB.out.tail.tail.gold.cell (by exact hbl)] at z0 z1 z2 z3 z4
  clear q HAT
  go_wp2_with fail
  refine (HW.out _).mono ?_
  rintro e w2 ⟨rfl, q⟩
  replace hB := Lib.hid (hB.out.below q)
  clear q HW e0 e1 e2 e3 f0 f1 f2 f3 k0 k1 k2 k3
  obtain ⟨_, e0, e1, e2, e3, f0, f1, f2, f3⟩ := hB.out.b4
  obtain ⟨_, k0, k1, k2, k3, _⟩ := hB.out.to1.b4
  clear z0 z1 z2 z3 z4
  go_wp2_with fail
  refine (HX.out _ hB.out.tail.tail.gold).mono ?_
  rintro e w3 ⟨a', c', rfl, hS⟩
  have hT := (hS.graft hB.out).alloc #[.int .i64 t, .int .i64 r, .slice a' l.length c', .int .i64 n] 26
  clear HX hS e0 e1 e2 e3 f0 f1 f2 f3 k0 k1 k2 k3 hB
  rw [hlm.out] at hT
  try rw [hlm.out]
  generalize hO : w3.heap.size = O at *
  obtain ⟨g, rfl, _⟩ := hT.to1.vq_at hlm.out hil
  replace hT := Lib.hid hT
  have hgd := hT.out.tail.tail.tail.tail.gold
  obtain ⟨_, k0, k1, k2, k3, _⟩ := (hT.out.bring 3 rfl).b4
  obtain ⟨_, e0, e1, e2, e3, f0, f1, f2, f3⟩ := (hT.out.bring 2 rfl).b4
  obtain ⟨_, d0, d1, d2, d3, g0, g1, g2, g3⟩ := hT.out.b4
  obtain ⟨gg, hgg, hgl, hmc, q0, q1, q2, q3, q4, hfz⟩ := hT.out.to1.vq_at hlm.out hil
  injection hgg with hgg
  injection hgg with hgg
  subst hgg
  have zf1 := hfz (i * 5 + 1)
  have zf2 := hfz (i * 5 + 2)
  have zf3 := hfz (i * 5 + 3)
  have zf4 := hfz (i * 5 + 4)
  rw [hq.out] at q0 q1 q2 q3 q4
  simp only at q0 q1 q2 q3 q4
  obtain ⟨z0, z1, z2, z3, z4⟩ := hz'.out
  rw [← hgd.cell (by exact hbl)] at z0 z1 z2 z3 z4
  have n1 := hT.out.to1.vq_ne hlm.out
  have n2 := Ne.symm n1
  have n3 := hT.out.tail.vq_ne hlm.out
  have n4 := Ne.symm n3
  have n5 := hT.out.to1.tail.blk_ne
  have n6 := Ne.symm n5
  have n7 : b ≠ g := by have h2 := vq_late ((hT.out.bring 4 rfl).bring 2 rfl); omega
  have n8 := Ne.symm n7
  have n9 := ((hT.out.bring 3 rfl).bring 2 rfl).vq_ne hlm.out
  have n10 := Ne.symm n9
  clear hfz hgd
  go_wp2_with fail
  refine (HS.out _).mono ?_
  rintro e w4 ⟨rfl, q⟩
  replace hT := Lib.hid (hT.out.below q)
  clear q HS
  clear hgl hmc k0 k1 k2 k3 e0 e1 e2 e3 f0 f1 f2 f3 d0 d1 d2 d3 g0 g1 g2 g3 q0 q1 q2 q3 q4 zf1 zf2 zf3 zf4 z0 z1 z2 z3 z4 n1 n2 n3 n4 n5 n6 n7 n8 n9 n10
  have hgd := hT.out.tail.tail.tail.tail.gold
  obtain ⟨_, k0, k1, k2, k3, _⟩ := (hT.out.bring 3 rfl).b4
  obtain ⟨_, e0, e1, e2, e3, f0, f1, f2, f3⟩ := (hT.out.bring 2 rfl).b4
  obtain ⟨_, d0, d1, d2, d3, g0, g1, g2, g3⟩ := hT.out.b4
  obtain ⟨gg, hgg, hgl, hmc, q0, q1, q2, q3, q4, hfz⟩ := hT.out.to1.vq_at hlm.out hil
  injection hgg with hgg
  injection hgg with hgg
  subst hgg
  have zf1 := hfz (i * 5 + 1)
  have zf2 := hfz (i * 5 + 2)
  have zf3 := hfz (i * 5 + 3)
  have zf4 := hfz (i * 5 + 4)
  rw [hq.out] at q0 q1 q2 q3 q4
  simp only at q0 q1 q2 q3 q4
  obtain ⟨z0, z1, z2, z3, z4⟩ := hz'.out
  rw [← hgd.cell (by exact hbl)] at z0 z1 z2 z3 z4
  have n1 := hT.out.to1.vq_ne hlm.out
  have n2 := Ne.symm n1
  have n3 := hT.out.tail.vq_ne hlm.out
  have n4 := Ne.symm n3
  have n5 := hT.out.to1.tail.blk_ne
  have n6 := Ne.symm n5
  have n7 : b ≠ g := by have h2 := vq_late ((hT.out.bring 4 rfl).bring 2 rfl); omega
  have n8 := Ne.symm n7
  have n9 := ((hT.out.bring 3 rfl).bring 2 rfl).vq_ne hlm.out
  have n10 := Ne.symm n9
  clear hfz hgd
  have hT2 := hT.out.to1.vq_setF (i := i) (f := 3) hlm.out hil (by decide) (.int .i64 want2) ⟨id, txn, want2, want2, since⟩ (by rw [hq.out]; rfl)
  replace hT := Lib.hid hT2.to1
  clear hT2
  have hlm1 := Lib.hid (show (l.set i ⟨id, txn, want2, want2, since⟩).length = m by rw [List.length_set]; exact hlm.out)
  have hT3 := hT.out.to1.vq_setF (i := i) (f := 2) hlm1.out hil (by decide) (.int .i64 want2) ⟨id, txn, want2, want2, since⟩ (by rw [show (l.set i ⟨id, txn, want2, want2, since⟩).getD i default = ⟨id, txn, want2, want2, since⟩ by rw [getD_set _ _ _ _ (by rw [hlm.out]; exact hil), if_pos rfl]]; rfl)
  rw [List.set_set] at hT3
  have hR2 := hR.out
  have hZ := ((((hT3.bring 2 rfl).set 0 (.int .i64 t)).set 1 (.int .i64 r)).set 2 (.slice (some ⟨g, 0, none⟩) m c')).set 3 (.int .i64 n)
  rw [show l.set i ⟨id, txn, want2, want2, since⟩ = R from hR2] at hZ
  replace hZ := Lib.hid hZ
  clear hT3 hT hR2 hR
  go_wp2_with fail
  refine bodyPost_ret (v := .tuple #[.agg #[.int .i64 t, .int .i64 r, .slice (some ⟨g, 0, none⟩) m c', .int .i64 n], .bool true, .int .i64 0]) (by simp [results, Tryz.results14, go_sem, *]) rfl ⟨_, c', by first | rfl | rw [hlm.out], ?_⟩
  try rw [hlm.out]
  exact (hZ.out.bring 1 rfl).drop1.drop1.drop1
set_option maxHeartbeats 4000000 in
set_option maxRecDepth 100000 in
theorem upR_grant (t r n : Int) (v : Value) (l : List Rq) (id0 mo : Int) (w : World) (hv : RQ w v l) (hl : l.length ≤ 1000) (ha : askedB mo = true) (i : Nat) (hi : plc l id0 = i) (hil : i < l.length) (hs : decide (0 < (l.getD i default).since) = false) (hD : IdsD l) (hu : supV (l.getD i default).mode mo ≠ (l.getD i default).mode) (hf : l.any (fitsP (upQ (l.getD i default) mo)) = false) (hup : l.any upB = false) :
    Calls Tryz.prog 14 #[hval t r v n, .int .i64 id0, .int .i64 mo] w fun e w' => ∃ a c, e = .returned (.tuple #[hval t r (.slice a l.length c) n, .bool true, .int .i64 0]) ∧ Sep w' [vq (.slice a l.length c) (l.set i { upQ (l.getD i default) mo with mode := supV (l.getD i default).mode mo }), old w] := by
  obtain ⟨R, hR⟩ : ∃ R, (l.set i { upQ (l.getD i default) mo with mode := supV (l.getD i default).mode mo }) = R := ⟨_, rfl⟩
  rw [hR]
  replace hR := Lib.hid hR
  have hB := Lib.hid (boxes2 w 26 26 #[.int .i64 t, .int .i64 r, v, .int .i64 n] #[.int .i64 0, .int .i64 0, .slice none 0 0, .int .i64 0])
  have hb2 := two_boxes w #[.int .i64 t, .int .i64 r, v, .int .i64 n] #[.int .i64 0, .int .i64 0, .slice none 0 0, .int .i64 0] 26 26
  have HAT := Lib.hid (at_any t r n v l id0 _ (hv.below hb2) hl)
  rw [show idxF (fun q => q.id == id0) l 0 = i from hi] at HAT
  have HA := Lib.hid (fun W => askedR_any mo W)
  rw [ha] at HA
  clear ha
  have HW := Lib.hid (fun W => waitsR_any (l.getD i default) W)
  rw [hs] at HW
  have HX := Lib.hid (fun W (hb : Below w.heap.size w W) => copied_any t r n v l W (hv.below hb) hl)
  have d : decide ((i : Int) < 0) = false := by rw [decide_eq_false_iff_not]; omega
  clear hb2 hi hs
  have hv2 := Lib.hid hv
  obtain ⟨a, c, rfl, hlc, _, hr⟩ := hv
  obtain ⟨b, off, rfl, hbl, hz⟩ := hr (by omega)
  obtain ⟨z0, z1, z2, z3, z4⟩ := hz i hil
  have hz' := Lib.hid (hz i hil)
  have HS := Lib.hid (fun W => supR_any (l.getD i default).mode mo W)
  have HF := Lib.hid (fun W (hb : Below w.heap.size w W) => fitsR_any t r n (.slice (some ⟨b, off, none⟩) l.length c) l (supV (l.getD i default).mode mo) i W (hv2.out.below hb) hl)
  have HU := Lib.hid (fun W (hb : Below w.heap.size w W) => upgrading_any t r n (.slice (some ⟨b, off, none⟩) l.length c) l W (hv2.out.below hb) hl)
  have hfe := fits_eqW l i (supV (l.getD i default).mode mo) hil hD
  rw [show ({ l.getD i default with want := supV (l.getD i default).mode mo } : Rq) = upQ (l.getD i default) mo from rfl, hf] at hfe
  rw [hfe] at HF
  clear hf
  have hbk := decide_eq_true (best_no hup)
  clear hup
  clear hr hz hfe hD hv2
  simp only [upQ] at hR
  generalize hq : l.getD i default = q at *
  replace hq := Lib.hid hq
  have i1 : (0 : Int) ≤ (i : Int) := by omega
  have i2 : (i : Int) < (l.length : Int) := by omega
  obtain ⟨id, txn, mode, want, since⟩ := q
  unfold hval at *
  simp only [Rq.val] at HW z0 z1 z2 z3 z4
  generalize hlm : l.length = m at *
  replace hlm := Lib.hid hlm
  simp only at HS HF hu hR
  generalize supV mode mo = want2 at *
  replace hR := Lib.hid hR.out
  have du : decide (want2 = mode) = false := decide_eq_false hu
  replace hu := Lib.hid hu
  go_enter Tryz.func14, Tryz.ntmps14
  go_wp2_with fail
  refine (HA.out _).mono ?_
  rintro e w0 ⟨rfl, rfl⟩
  clear HA
  go_wp2_with fail
  refine HAT.out.mono ?_
  rintro e w1 ⟨rfl, q⟩
  replace hB := Lib.hid (hB.out.below q)
  obtain ⟨_, e0, e1, e2, e3, f0, f1, f2, f3⟩ := hB.out.b4
  obtain ⟨_, k0, k1, k2, k3, _⟩ := hB.out.to1.b4
  rw [← hB.out.tail.tail.gold.cell (by exact hbl)] at z0 z1 z2 z3 z4
  clear q HAT
  go_wp2_with fail
  refine (HW.out _).mono ?_
  rintro e w2 ⟨rfl, q⟩
  replace hB := Lib.hid (hB.out.below q)
  clear q HW e0 e1 e2 e3 f0 f1 f2 f3 k0 k1 k2 k3
  obtain ⟨_, e0, e1, e2, e3, f0, f1, f2, f3⟩ := hB.out.b4
  obtain ⟨_, k0, k1, k2, k3, _⟩ := hB.out.to1.b4
  clear z0 z1 z2 z3 z4
  go_wp2_with fail
  refine (HX.out _ hB.out.tail.tail.gold).mono ?_
  rintro e w3 ⟨a', c', rfl, hS⟩
  have hT := (hS.graft hB.out).alloc #[.int .i64 t, .int .i64 r, .slice a' l.length c', .int .i64 n] 26
  clear HX hS e0 e1 e2 e3 f0 f1 f2 f3 k0 k1 k2 k3 hB
  rw [hlm.out] at hT
  try rw [hlm.out]
  generalize hO : w3.heap.size = O at *
  obtain ⟨g, rfl, _⟩ := hT.to1.vq_at hlm.out hil
  replace hT := Lib.hid hT
  have hgd := hT.out.tail.tail.tail.tail.gold
  obtain ⟨_, k0, k1, k2, k3, _⟩ := (hT.out.bring 3 rfl).b4
  obtain ⟨_, e0, e1, e2, e3, f0, f1, f2, f3⟩ := (hT.out.bring 2 rfl).b4
  obtain ⟨_, d0, d1, d2, d3, g0, g1, g2, g3⟩ := hT.out.b4
  obtain ⟨gg, hgg, hgl, hmc, q0, q1, q2, q3, q4, hfz⟩ := hT.out.to1.vq_at hlm.out hil
  injection hgg with hgg
  injection hgg with hgg
  subst hgg
  have zf1 := hfz (i * 5 + 1)
  have zf2 := hfz (i * 5 + 2)
  have zf3 := hfz (i * 5 + 3)
  have zf4 := hfz (i * 5 + 4)
  rw [hq.out] at q0 q1 q2 q3 q4
  simp only at q0 q1 q2 q3 q4
  obtain ⟨z0, z1, z2, z3, z4⟩ := hz'.out
  rw [← hgd.cell (by exact hbl)] at z0 z1 z2 z3 z4
  have n1 := hT.out.to1.vq_ne hlm.out
  have n2 := Ne.symm n1
  have n3 := hT.out.tail.vq_ne hlm.out
  have n4 := Ne.symm n3
  have n5 := hT.out.to1.tail.blk_ne
  have n6 := Ne.symm n5
  have n7 : b ≠ g := by have h2 := vq_late ((hT.out.bring 4 rfl).bring 2 rfl); omega
  have n8 := Ne.symm n7
  have n9 := ((hT.out.bring 3 rfl).bring 2 rfl).vq_ne hlm.out
  have n10 := Ne.symm n9
  clear hfz hgd
  go_wp2_with fail
  refine (HS.out _).mono ?_
  rintro e w4 ⟨rfl, q⟩
  replace hT := Lib.hid (hT.out.below q)
  clear q HS
  clear hgl hmc k0 k1 k2 k3 e0 e1 e2 e3 f0 f1 f2 f3 d0 d1 d2 d3 g0 g1 g2 g3 q0 q1 q2 q3 q4 zf1 zf2 zf3 zf4 z0 z1 z2 z3 z4 n1 n2 n3 n4 n5 n6 n7 n8 n9 n10
  have hgd := hT.out.tail.tail.tail.tail.gold
  obtain ⟨_, k0, k1, k2, k3, _⟩ := (hT.out.bring 3 rfl).b4
  obtain ⟨_, e0, e1, e2, e3, f0, f1, f2, f3⟩ := (hT.out.bring 2 rfl).b4
  obtain ⟨_, d0, d1, d2, d3, g0, g1, g2, g3⟩ := hT.out.b4
  obtain ⟨gg, hgg, hgl, hmc, q0, q1, q2, q3, q4, hfz⟩ := hT.out.to1.vq_at hlm.out hil
  injection hgg with hgg
  injection hgg with hgg
  subst hgg
  have zf1 := hfz (i * 5 + 1)
  have zf2 := hfz (i * 5 + 2)
  have zf3 := hfz (i * 5 + 3)
  have zf4 := hfz (i * 5 + 4)
  rw [hq.out] at q0 q1 q2 q3 q4
  simp only at q0 q1 q2 q3 q4
  obtain ⟨z0, z1, z2, z3, z4⟩ := hz'.out
  rw [← hgd.cell (by exact hbl)] at z0 z1 z2 z3 z4
  have n1 := hT.out.to1.vq_ne hlm.out
  have n2 := Ne.symm n1
  have n3 := hT.out.tail.vq_ne hlm.out
  have n4 := Ne.symm n3
  have n5 := hT.out.to1.tail.blk_ne
  have n6 := Ne.symm n5
  have n7 : b ≠ g := by have h2 := vq_late ((hT.out.bring 4 rfl).bring 2 rfl); omega
  have n8 := Ne.symm n7
  have n9 := ((hT.out.bring 3 rfl).bring 2 rfl).vq_ne hlm.out
  have n10 := Ne.symm n9
  clear hfz hgd
  have hT2 := hT.out.to1.vq_setF (i := i) (f := 3) hlm.out hil (by decide) (.int .i64 want2) ⟨id, txn, mode, want2, since⟩ (by rw [hq.out]; rfl)
  replace hT2 := Lib.hid hT2.to1
  go_wp2_with fail
  refine (HF.out _ hT2.out.tail.tail.tail.tail.gold).mono ?_
  clear hT
  rintro e w5 ⟨rfl, q⟩
  have hT := Lib.hid (hT2.out.below q)
  clear q HF hT2
  clear hgl hmc k0 k1 k2 k3 e0 e1 e2 e3 f0 f1 f2 f3 d0 d1 d2 d3 g0 g1 g2 g3 q0 q1 q2 q3 q4 zf1 zf2 zf3 zf4 z0 z1 z2 z3 z4 n1 n2 n3 n4 n5 n6 n7 n8 n9 n10
  have hgd := hT.out.tail.tail.tail.tail.gold
  obtain ⟨_, k0, k1, k2, k3, _⟩ := (hT.out.bring 3 rfl).b4
  obtain ⟨_, e0, e1, e2, e3, f0, f1, f2, f3⟩ := (hT.out.bring 2 rfl).b4
  obtain ⟨_, d0, d1, d2, d3, g0, g1, g2, g3⟩ := hT.out.b4
  obtain ⟨gg, hgg, hgl, hmc, q0, q1, q2, q3, q4, hfz⟩ := hT.out.to1.vq_at (show (l.set i ⟨id, txn, mode, want2, since⟩).length = m by rw [List.length_set]; exact hlm.out) hil
  injection hgg with hgg
  injection hgg with hgg
  subst hgg
  have zf1 := hfz (i * 5 + 1)
  have zf2 := hfz (i * 5 + 2)
  have zf3 := hfz (i * 5 + 3)
  have zf4 := hfz (i * 5 + 4)
  rw [show (l.set i ⟨id, txn, mode, want2, since⟩).getD i default = ⟨id, txn, mode, want2, since⟩ by rw [getD_set _ _ _ _ (by rw [hlm.out]; exact hil), if_pos rfl]] at q0 q1 q2 q3 q4
  simp only at q0 q1 q2 q3 q4
  obtain ⟨z0, z1, z2, z3, z4⟩ := hz'.out
  rw [← hgd.cell (by exact hbl)] at z0 z1 z2 z3 z4
  have n1 := hT.out.to1.vq_ne (show (l.set i ⟨id, txn, mode, want2, since⟩).length = m by rw [List.length_set]; exact hlm.out)
  have n2 := Ne.symm n1
  have n3 := hT.out.tail.vq_ne (show (l.set i ⟨id, txn, mode, want2, since⟩).length = m by rw [List.length_set]; exact hlm.out)
  have n4 := Ne.symm n3
  have n5 := hT.out.to1.tail.blk_ne
  have n6 := Ne.symm n5
  have n7 : b ≠ g := by have h2 := vq_late ((hT.out.bring 4 rfl).bring 2 rfl); omega
  have n8 := Ne.symm n7
  have n9 := ((hT.out.bring 3 rfl).bring 2 rfl).vq_ne (show (l.set i ⟨id, txn, mode, want2, since⟩).length = m by rw [List.length_set]; exact hlm.out)
  have n10 := Ne.symm n9
  clear hfz hgd
  go_wp2_with fail
  refine (HU.out _ hT.out.tail.tail.tail.tail.gold).mono ?_
  rintro e w6 ⟨rfl, q⟩
  replace hT := Lib.hid (hT.out.below q)
  clear q HU
  clear hgl hmc k0 k1 k2 k3 e0 e1 e2 e3 f0 f1 f2 f3 d0 d1 d2 d3 g0 g1 g2 g3 q0 q1 q2 q3 q4 zf1 zf2 zf3 zf4 z0 z1 z2 z3 z4 n1 n2 n3 n4 n5 n6 n7 n8 n9 n10
  have hgd := hT.out.tail.tail.tail.tail.gold
  obtain ⟨_, k0, k1, k2, k3, _⟩ := (hT.out.bring 3 rfl).b4
  obtain ⟨_, e0, e1, e2, e3, f0, f1, f2, f3⟩ := (hT.out.bring 2 rfl).b4
  obtain ⟨_, d0, d1, d2, d3, g0, g1, g2, g3⟩ := hT.out.b4
  obtain ⟨gg, hgg, hgl, hmc, q0, q1, q2, q3, q4, hfz⟩ := hT.out.to1.vq_at (show (l.set i ⟨id, txn, mode, want2, since⟩).length = m by rw [List.length_set]; exact hlm.out) hil
  injection hgg with hgg
  injection hgg with hgg
  subst hgg
  have zf1 := hfz (i * 5 + 1)
  have zf2 := hfz (i * 5 + 2)
  have zf3 := hfz (i * 5 + 3)
  have zf4 := hfz (i * 5 + 4)
  rw [show (l.set i ⟨id, txn, mode, want2, since⟩).getD i default = ⟨id, txn, mode, want2, since⟩ by rw [getD_set _ _ _ _ (by rw [hlm.out]; exact hil), if_pos rfl]] at q0 q1 q2 q3 q4
  simp only at q0 q1 q2 q3 q4
  obtain ⟨z0, z1, z2, z3, z4⟩ := hz'.out
  rw [← hgd.cell (by exact hbl)] at z0 z1 z2 z3 z4
  have n1 := hT.out.to1.vq_ne (show (l.set i ⟨id, txn, mode, want2, since⟩).length = m by rw [List.length_set]; exact hlm.out)
  have n2 := Ne.symm n1
  have n3 := hT.out.tail.vq_ne (show (l.set i ⟨id, txn, mode, want2, since⟩).length = m by rw [List.length_set]; exact hlm.out)
  have n4 := Ne.symm n3
  have n5 := hT.out.to1.tail.blk_ne
  have n6 := Ne.symm n5
  have n7 : b ≠ g := by have h2 := vq_late ((hT.out.bring 4 rfl).bring 2 rfl); omega
  have n8 := Ne.symm n7
  have n9 := ((hT.out.bring 3 rfl).bring 2 rfl).vq_ne (show (l.set i ⟨id, txn, mode, want2, since⟩).length = m by rw [List.length_set]; exact hlm.out)
  have n10 := Ne.symm n9
  clear hfz hgd
  have hT3 := hT.out.to1.vq_setF (i := i) (f := 2) (show (l.set i ⟨id, txn, mode, want2, since⟩).length = m by rw [List.length_set]; exact hlm.out) hil (by decide) (.int .i64 want2) ⟨id, txn, want2, want2, since⟩ (by rw [show (l.set i ⟨id, txn, mode, want2, since⟩).getD i default = ⟨id, txn, mode, want2, since⟩ by rw [getD_set _ _ _ _ (by rw [hlm.out]; exact hil), if_pos rfl]]; rfl)
  rw [List.set_set] at hT3
  have hR2 := hR.out
  have hZ := ((((hT3.bring 2 rfl).set 0 (.int .i64 t)).set 1 (.int .i64 r)).set 2 (.slice (some ⟨g, 0, none⟩) m c')).set 3 (.int .i64 n)
  rw [show l.set i ⟨id, txn, want2, want2, since⟩ = R from hR2] at hZ
  replace hZ := Lib.hid hZ
  clear hT3 hT hR2 hR
  go_wp2_with fail
  refine bodyPost_ret (v := .tuple #[.agg #[.int .i64 t, .int .i64 r, .slice (some ⟨g, 0, none⟩) m c', .int .i64 n], .bool true, .int .i64 0]) (by simp [results, Tryz.results14, go_sem, *]) rfl ⟨_, c', by first | rfl | rw [hlm.out], ?_⟩
  try rw [hlm.out]
  exact (hZ.out.bring 1 rfl).drop1.drop1.drop1
set_option maxHeartbeats 4000000 in
set_option maxRecDepth 100000 in
theorem upR_wait1 (t r n : Int) (v : Value) (l : List Rq) (id0 mo : Int) (w : World) (hv : RQ w v l) (hl : l.length ≤ 1000) (ha : askedB mo = true) (i : Nat) (hi : plc l id0 = i) (hil : i < l.length) (hs : decide (0 < (l.getD i default).since) = false) (hD : IdsD l) (hu : supV (l.getD i default).mode mo ≠ (l.getD i default).mode) (hf : l.any (fitsP (upQ (l.getD i default) mo)) = true) (hn0 : 0 ≤ n) (hn1 : n ≤ 4611686018427387904) :
    Calls Tryz.prog 14 #[hval t r v n, .int .i64 id0, .int .i64 mo] w fun e w' => ∃ a c, e = .returned (.tuple #[hval t r (.slice a l.length c) (n + 1), .bool false, .int .i64 0]) ∧ Sep w' [vq (.slice a l.length c) (l.set i { upQ (l.getD i default) mo with since := n + 1 }), old w] := by
  obtain ⟨R, hR⟩ : ∃ R, (l.set i { upQ (l.getD i default) mo with since := n + 1 }) = R := ⟨_, rfl⟩
  rw [hR]
  replace hR := Lib.hid hR
  have hB := Lib.hid (boxes2 w 26 26 #[.int .i64 t, .int .i64 r, v, .int .i64 n] #[.int .i64 0, .int .i64 0, .slice none 0 0, .int .i64 0])
  have hb2 := two_boxes w #[.int .i64 t, .int .i64 r, v, .int .i64 n] #[.int .i64 0, .int .i64 0, .slice none 0 0, .int .i64 0] 26 26
  have HAT := Lib.hid (at_any t r n v l id0 _ (hv.below hb2) hl)
  rw [show idxF (fun q => q.id == id0) l 0 = i from hi] at HAT
  have HA := Lib.hid (fun W => askedR_any mo W)
  rw [ha] at HA
  clear ha
  have HW := Lib.hid (fun W => waitsR_any (l.getD i default) W)
  rw [hs] at HW
  have HX := Lib.hid (fun W (hb : Below w.heap.size w W) => copied_any t r n v l W (hv.below hb) hl)
  have d : decide ((i : Int) < 0) = false := by rw [decide_eq_false_iff_not]; omega
  clear hb2 hi hs
  have hv2 := Lib.hid hv
  obtain ⟨a, c, rfl, hlc, _, hr⟩ := hv
  obtain ⟨b, off, rfl, hbl, hz⟩ := hr (by omega)
  obtain ⟨z0, z1, z2, z3, z4⟩ := hz i hil
  have hz' := Lib.hid (hz i hil)
  have HS := Lib.hid (fun W => supR_any (l.getD i default).mode mo W)
  have HF := Lib.hid (fun W (hb : Below w.heap.size w W) => fitsR_any t r n (.slice (some ⟨b, off, none⟩) l.length c) l (supV (l.getD i default).mode mo) i W (hv2.out.below hb) hl)
  have HU := Lib.hid (fun W (hb : Below w.heap.size w W) => upgrading_any t r n (.slice (some ⟨b, off, none⟩) l.length c) l W (hv2.out.below hb) hl)
  have hfe := fits_eqW l i (supV (l.getD i default).mode mo) hil hD
  rw [show ({ l.getD i default with want := supV (l.getD i default).mode mo } : Rq) = upQ (l.getD i default) mo from rfl, hf] at hfe
  rw [hfe] at HF
  clear hf
  clear hr hz hfe hD hv2
  simp only [upQ] at hR
  generalize hq : l.getD i default = q at *
  replace hq := Lib.hid hq
  have i1 : (0 : Int) ≤ (i : Int) := by omega
  have i2 : (i : Int) < (l.length : Int) := by omega
  obtain ⟨id, txn, mode, want, since⟩ := q
  unfold hval at *
  simp only [Rq.val] at HW z0 z1 z2 z3 z4
  generalize hlm : l.length = m at *
  replace hlm := Lib.hid hlm
  simp only at HS HF hu hR
  generalize supV mode mo = want2 at *
  replace hR := Lib.hid hR.out
  have du : decide (want2 = mode) = false := decide_eq_false hu
  replace hu := Lib.hid hu
  go_enter Tryz.func14, Tryz.ntmps14
  go_wp2_with fail
  refine (HA.out _).mono ?_
  rintro e w0 ⟨rfl, rfl⟩
  clear HA
  go_wp2_with fail
  refine HAT.out.mono ?_
  rintro e w1 ⟨rfl, q⟩
  replace hB := Lib.hid (hB.out.below q)
  obtain ⟨_, e0, e1, e2, e3, f0, f1, f2, f3⟩ := hB.out.b4
  obtain ⟨_, k0, k1, k2, k3, _⟩ := hB.out.to1.b4
  rw [← hB.out.tail.tail.gold.cell (by exact hbl)] at z0 z1 z2 z3 z4
  clear q HAT
  go_wp2_with fail
  refine (HW.out _).mono ?_
  rintro e w2 ⟨rfl, q⟩
  replace hB := Lib.hid (hB.out.below q)
  clear q HW e0 e1 e2 e3 f0 f1 f2 f3 k0 k1 k2 k3
  obtain ⟨_, e0, e1, e2, e3, f0, f1, f2, f3⟩ := hB.out.b4
  obtain ⟨_, k0, k1, k2, k3, _⟩ := hB.out.to1.b4
  clear z0 z1 z2 z3 z4
  go_wp2_with fail
  refine (HX.out _ hB.out.tail.tail.gold).mono ?_
  rintro e w3 ⟨a', c', rfl, hS⟩
  have hT := (hS.graft hB.out).alloc #[.int .i64 t, .int .i64 r, .slice a' l.length c', .int .i64 n] 26
  clear HX hS e0 e1 e2 e3 f0 f1 f2 f3 k0 k1 k2 k3 hB
  rw [hlm.out] at hT
  try rw [hlm.out]
  generalize hO : w3.heap.size = O at *
  obtain ⟨g, rfl, _⟩ := hT.to1.vq_at hlm.out hil
  replace hT := Lib.hid hT
  have hgd := hT.out.tail.tail.tail.tail.gold
  obtain ⟨_, k0, k1, k2, k3, _⟩ := (hT.out.bring 3 rfl).b4
  obtain ⟨_, e0, e1, e2, e3, f0, f1, f2, f3⟩ := (hT.out.bring 2 rfl).b4
  obtain ⟨_, d0, d1, d2, d3, g0, g1, g2, g3⟩ := hT.out.b4
  obtain ⟨gg, hgg, hgl, hmc, q0, q1, q2, q3, q4, hfz⟩ := hT.out.to1.vq_at hlm.out hil
  injection hgg with hgg
  injection hgg with hgg
  subst hgg
  have zf1 := hfz (i * 5 + 1)
  have zf2 := hfz (i * 5 + 2)
  have zf3 := hfz (i * 5 + 3)
  have zf4 := hfz (i * 5 + 4)
  rw [hq.out] at q0 q1 q2 q3 q4
  simp only at q0 q1 q2 q3 q4
  obtain ⟨z0, z1, z2, z3, z4⟩ := hz'.out
  rw [← hgd.cell (by exact hbl)] at z0 z1 z2 z3 z4
  have n1 := hT.out.to1.vq_ne hlm.out
  have n2 := Ne.symm n1
  have n3 := hT.out.tail.vq_ne hlm.out
  have n4 := Ne.symm n3
  have n5 := hT.out.to1.tail.blk_ne
  have n6 := Ne.symm n5
  have n7 : b ≠ g := by have h2 := vq_late ((hT.out.bring 4 rfl).bring 2 rfl); omega
  have n8 := Ne.symm n7
  have n9 := ((hT.out.bring 3 rfl).bring 2 rfl).vq_ne hlm.out
  have n10 := Ne.symm n9
  clear hfz hgd
  go_wp2_with fail
  refine (HS.out _).mono ?_
  rintro e w4 ⟨rfl, q⟩
  replace hT := Lib.hid (hT.out.below q)
  clear q HS
  clear hgl hmc k0 k1 k2 k3 e0 e1 e2 e3 f0 f1 f2 f3 d0 d1 d2 d3 g0 g1 g2 g3 q0 q1 q2 q3 q4 zf1 zf2 zf3 zf4 z0 z1 z2 z3 z4 n1 n2 n3 n4 n5 n6 n7 n8 n9 n10
  have hgd := hT.out.tail.tail.tail.tail.gold
  obtain ⟨_, k0, k1, k2, k3, _⟩ := (hT.out.bring 3 rfl).b4
  obtain ⟨_, e0, e1, e2, e3, f0, f1, f2, f3⟩ := (hT.out.bring 2 rfl).b4
  obtain ⟨_, d0, d1, d2, d3, g0, g1, g2, g3⟩ := hT.out.b4
  obtain ⟨gg, hgg, hgl, hmc, q0, q1, q2, q3, q4, hfz⟩ := hT.out.to1.vq_at hlm.out hil
  injection hgg with hgg
  injection hgg with hgg
  subst hgg
  have zf1 := hfz (i * 5 + 1)
  have zf2 := hfz (i * 5 + 2)
  have zf3 := hfz (i * 5 + 3)
  have zf4 := hfz (i * 5 + 4)
  rw [hq.out] at q0 q1 q2 q3 q4
  simp only at q0 q1 q2 q3 q4
  obtain ⟨z0, z1, z2, z3, z4⟩ := hz'.out
  rw [← hgd.cell (by exact hbl)] at z0 z1 z2 z3 z4
  have n1 := hT.out.to1.vq_ne hlm.out
  have n2 := Ne.symm n1
  have n3 := hT.out.tail.vq_ne hlm.out
  have n4 := Ne.symm n3
  have n5 := hT.out.to1.tail.blk_ne
  have n6 := Ne.symm n5
  have n7 : b ≠ g := by have h2 := vq_late ((hT.out.bring 4 rfl).bring 2 rfl); omega
  have n8 := Ne.symm n7
  have n9 := ((hT.out.bring 3 rfl).bring 2 rfl).vq_ne hlm.out
  have n10 := Ne.symm n9
  clear hfz hgd
  have hT2 := hT.out.to1.vq_setF (i := i) (f := 3) hlm.out hil (by decide) (.int .i64 want2) ⟨id, txn, mode, want2, since⟩ (by rw [hq.out]; rfl)
  replace hT2 := Lib.hid hT2.to1
  go_wp2_with fail
  refine (HF.out _ hT2.out.tail.tail.tail.tail.gold).mono ?_
  clear hT
  rintro e w5 ⟨rfl, q⟩
  have hT := Lib.hid (hT2.out.below q)
  clear q HF hT2
  clear hgl hmc k0 k1 k2 k3 e0 e1 e2 e3 f0 f1 f2 f3 d0 d1 d2 d3 g0 g1 g2 g3 q0 q1 q2 q3 q4 zf1 zf2 zf3 zf4 z0 z1 z2 z3 z4 n1 n2 n3 n4 n5 n6 n7 n8 n9 n10
  have hgd := hT.out.tail.tail.tail.tail.gold
  obtain ⟨_, k0, k1, k2, k3, _⟩ := (hT.out.bring 3 rfl).b4
  obtain ⟨_, e0, e1, e2, e3, f0, f1, f2, f3⟩ := (hT.out.bring 2 rfl).b4
  obtain ⟨_, d0, d1, d2, d3, g0, g1, g2, g3⟩ := hT.out.b4
  obtain ⟨gg, hgg, hgl, hmc, q0, q1, q2, q3, q4, hfz⟩ := hT.out.to1.vq_at (show (l.set i ⟨id, txn, mode, want2, since⟩).length = m by rw [List.length_set]; exact hlm.out) hil
  injection hgg with hgg
  injection hgg with hgg
  subst hgg
  have zf1 := hfz (i * 5 + 1)
  have zf2 := hfz (i * 5 + 2)
  have zf3 := hfz (i * 5 + 3)
  have zf4 := hfz (i * 5 + 4)
  rw [show (l.set i ⟨id, txn, mode, want2, since⟩).getD i default = ⟨id, txn, mode, want2, since⟩ by rw [getD_set _ _ _ _ (by rw [hlm.out]; exact hil), if_pos rfl]] at q0 q1 q2 q3 q4
  simp only at q0 q1 q2 q3 q4
  obtain ⟨z0, z1, z2, z3, z4⟩ := hz'.out
  rw [← hgd.cell (by exact hbl)] at z0 z1 z2 z3 z4
  have n1 := hT.out.to1.vq_ne (show (l.set i ⟨id, txn, mode, want2, since⟩).length = m by rw [List.length_set]; exact hlm.out)
  have n2 := Ne.symm n1
  have n3 := hT.out.tail.vq_ne (show (l.set i ⟨id, txn, mode, want2, since⟩).length = m by rw [List.length_set]; exact hlm.out)
  have n4 := Ne.symm n3
  have n5 := hT.out.to1.tail.blk_ne
  have n6 := Ne.symm n5
  have n7 : b ≠ g := by have h2 := vq_late ((hT.out.bring 4 rfl).bring 2 rfl); omega
  have n8 := Ne.symm n7
  have n9 := ((hT.out.bring 3 rfl).bring 2 rfl).vq_ne (show (l.set i ⟨id, txn, mode, want2, since⟩).length = m by rw [List.length_set]; exact hlm.out)
  have n10 := Ne.symm n9
  clear hfz hgd
  have hT2 := hT.out.set 3 (.int .i64 (n + 1))
  have hT3 := hT2.to1.vq_setF (i := i) (f := 4) (show (l.set i ⟨id, txn, mode, want2, since⟩).length = m by rw [List.length_set]; exact hlm.out) hil (by decide) (.int .i64 (n + 1)) ⟨id, txn, mode, want2, n + 1⟩ (by rw [show (l.set i ⟨id, txn, mode, want2, since⟩).getD i default = ⟨id, txn, mode, want2, since⟩ by rw [getD_set _ _ _ _ (by rw [hlm.out]; exact hil), if_pos rfl]]; rfl)
  rw [List.set_set] at hT3
  have hR2 := hR.out
  have hZ := ((((hT3.bring 2 rfl).set 0 (.int .i64 t)).set 1 (.int .i64 r)).set 2 (.slice (some ⟨g, 0, none⟩) m c')).set 3 (.int .i64 (n + 1))
  rw [show l.set i ⟨id, txn, mode, want2, n + 1⟩ = R from hR2] at hZ
  replace hZ := Lib.hid hZ
  clear hT3 hT hR2 hR hT2
  go_wp2_with fail
  refine bodyPost_ret (v := .tuple #[.agg #[.int .i64 t, .int .i64 r, .slice (some ⟨g, 0, none⟩) m c', .int .i64 (n + 1)], .bool false, .int .i64 0]) (by simp [results, Tryz.results14, go_sem, *]) rfl ⟨_, c', by first | rfl | rw [hlm.out], ?_⟩
  try rw [hlm.out]
  exact (hZ.out.bring 1 rfl).drop1.drop1.drop1
set_option maxHeartbeats 4000000 in
set_option maxRecDepth 100000 in
theorem upR_wait2 (t r n : Int) (v : Value) (l : List Rq) (id0 mo : Int) (w : World) (hv : RQ w v l) (hl : l.length ≤ 1000) (ha : askedB mo = true) (i : Nat) (hi : plc l id0 = i) (hil : i < l.length) (hs : decide (0 < (l.getD i default).since) = false) (hD : IdsD l) (hu : supV (l.getD i default).mode mo ≠ (l.getD i default).mode) (hf : l.any (fitsP (upQ (l.getD i default) mo)) = false) (hup : l.any upB = true) (hn0 : 0 ≤ n) (hn1 : n ≤ 4611686018427387904) :
    Calls Tryz.prog 14 #[hval t r v n, .int .i64 id0, .int .i64 mo] w fun e w' => ∃ a c, e = .returned (.tuple #[hval t r (.slice a l.length c) (n + 1), .bool false, .int .i64 0]) ∧ Sep w' [vq (.slice a l.length c) (l.set i { upQ (l.getD i default) mo with since := n + 1 }), old w] := by
  obtain ⟨R, hR⟩ : ∃ R, (l.set i { upQ (l.getD i default) mo with since := n + 1 }) = R := ⟨_, rfl⟩
  rw [hR]
  replace hR := Lib.hid hR
  have hB := Lib.hid (boxes2 w 26 26 #[.int .i64 t, .int .i64 r, v, .int .i64 n] #[.int .i64 0, .int .i64 0, .slice none 0 0, .int .i64 0])
  have hb2 := two_boxes w #[.int .i64 t, .int .i64 r, v, .int .i64 n] #[.int .i64 0, .int .i64 0, .slice none 0 0, .int .i64 0] 26 26
  have HAT := Lib.hid (at_any t r n v l id0 _ (hv.below hb2) hl)
  rw [show idxF (fun q => q.id == id0) l 0 = i from hi] at HAT
  have HA := Lib.hid (fun W => askedR_any mo W)
  rw [ha] at HA
  clear ha
  have HW := Lib.hid (fun W => waitsR_any (l.getD i default) W)
  rw [hs] at HW
  have HX := Lib.hid (fun W (hb : Below w.heap.size w W) => copied_any t r n v l W (hv.below hb) hl)
  have d : decide ((i : Int) < 0) = false := by rw [decide_eq_false_iff_not]; omega
  clear hb2 hi hs
  have hv2 := Lib.hid hv
  obtain ⟨a, c, rfl, hlc, _, hr⟩ := hv
  obtain ⟨b, off, rfl, hbl, hz⟩ := hr (by omega)
  obtain ⟨z0, z1, z2, z3, z4⟩ := hz i hil
  have hz' := Lib.hid (hz i hil)
  have HS := Lib.hid (fun W => supR_any (l.getD i default).mode mo W)
  have HF := Lib.hid (fun W (hb : Below w.heap.size w W) => fitsR_any t r n (.slice (some ⟨b, off, none⟩) l.length c) l (supV (l.getD i default).mode mo) i W (hv2.out.below hb) hl)
  have HU := Lib.hid (fun W (hb : Below w.heap.size w W) => upgrading_any t r n (.slice (some ⟨b, off, none⟩) l.length c) l W (hv2.out.below hb) hl)
  have hfe := fits_eqW l i (supV (l.getD i default).mode mo) hil hD
  rw [show ({ l.getD i default with want := supV (l.getD i default).mode mo } : Rq) = upQ (l.getD i default) mo from rfl, hf] at hfe
  rw [hfe] at HF
  clear hf
  have hbk := decide_eq_false (best_yes hup)
  clear hup
  clear hr hz hfe hD hv2
  simp only [upQ] at hR
  generalize hq : l.getD i default = q at *
  replace hq := Lib.hid hq
  have i1 : (0 : Int) ≤ (i : Int) := by omega
  have i2 : (i : Int) < (l.length : Int) := by omega
  obtain ⟨id, txn, mode, want, since⟩ := q
  unfold hval at *
  simp only [Rq.val] at HW z0 z1 z2 z3 z4
  generalize hlm : l.length = m at *
  replace hlm := Lib.hid hlm
  simp only at HS HF hu hR
  generalize supV mode mo = want2 at *
  replace hR := Lib.hid hR.out
  have du : decide (want2 = mode) = false := decide_eq_false hu
  replace hu := Lib.hid hu
  go_enter Tryz.func14, Tryz.ntmps14
  go_wp2_with fail
  refine (HA.out _).mono ?_
  rintro e w0 ⟨rfl, rfl⟩
  clear HA
  go_wp2_with fail
  refine HAT.out.mono ?_
  rintro e w1 ⟨rfl, q⟩
  replace hB := Lib.hid (hB.out.below q)
  obtain ⟨_, e0, e1, e2, e3, f0, f1, f2, f3⟩ := hB.out.b4
  obtain ⟨_, k0, k1, k2, k3, _⟩ := hB.out.to1.b4
  rw [← hB.out.tail.tail.gold.cell (by exact hbl)] at z0 z1 z2 z3 z4
  clear q HAT
  go_wp2_with fail
  refine (HW.out _).mono ?_
  rintro e w2 ⟨rfl, q⟩
  replace hB := Lib.hid (hB.out.below q)
  clear q HW e0 e1 e2 e3 f0 f1 f2 f3 k0 k1 k2 k3
  obtain ⟨_, e0, e1, e2, e3, f0, f1, f2, f3⟩ := hB.out.b4
  obtain ⟨_, k0, k1, k2, k3, _⟩ := hB.out.to1.b4
  clear z0 z1 z2 z3 z4
  go_wp2_with fail
  refine (HX.out _ hB.out.tail.tail.gold).mono ?_
  rintro e w3 ⟨a', c', rfl, hS⟩
  have hT := (hS.graft hB.out).alloc #[.int .i64 t, .int .i64 r, .slice a' l.length c', .int .i64 n] 26
  clear HX hS e0 e1 e2 e3 f0 f1 f2 f3 k0 k1 k2 k3 hB
  rw [hlm.out] at hT
  try rw [hlm.out]
  generalize hO : w3.heap.size = O at *
  obtain ⟨g, rfl, _⟩ := hT.to1.vq_at hlm.out hil
  replace hT := Lib.hid hT
  have hgd := hT.out.tail.tail.tail.tail.gold
  obtain ⟨_, k0, k1, k2, k3, _⟩ := (hT.out.bring 3 rfl).b4
  obtain ⟨_, e0, e1, e2, e3, f0, f1, f2, f3⟩ := (hT.out.bring 2 rfl).b4
  obtain ⟨_, d0, d1, d2, d3, g0, g1, g2, g3⟩ := hT.out.b4
  obtain ⟨gg, hgg, hgl, hmc, q0, q1, q2, q3, q4, hfz⟩ := hT.out.to1.vq_at hlm.out hil
  injection hgg with hgg
  injection hgg with hgg
  subst hgg
  have zf1 := hfz (i * 5 + 1)
  have zf2 := hfz (i * 5 + 2)
  have zf3 := hfz (i * 5 + 3)
  have zf4 := hfz (i * 5 + 4)
  rw [hq.out] at q0 q1 q2 q3 q4
  simp only at q0 q1 q2 q3 q4
  obtain ⟨z0, z1, z2, z3, z4⟩ := hz'.out
  rw [← hgd.cell (by exact hbl)] at z0 z1 z2 z3 z4
  have n1 := hT.out.to1.vq_ne hlm.out
  have n2 := Ne.symm n1
  have n3 := hT.out.tail.vq_ne hlm.out
  have n4 := Ne.symm n3
  have n5 := hT.out.to1.tail.blk_ne
  have n6 := Ne.symm n5
  have n7 : b ≠ g := by have h2 := vq_late ((hT.out.bring 4 rfl).bring 2 rfl); omega
  have n8 := Ne.symm n7
  have n9 := ((hT.out.bring 3 rfl).bring 2 rfl).vq_ne hlm.out
  have n10 := Ne.symm n9
  clear hfz hgd
  go_wp2_with fail
  refine (HS.out _).mono ?_
  rintro e w4 ⟨rfl, q⟩
  replace hT := Lib.hid (hT.out.below q)
  clear q HS
  clear hgl hmc k0 k1 k2 k3 e0 e1 e2 e3 f0 f1 f2 f3 d0 d1 d2 d3 g0 g1 g2 g3 q0 q1 q2 q3 q4 zf1 zf2 zf3 zf4 z0 z1 z2 z3 z4 n1 n2 n3 n4 n5 n6 n7 n8 n9 n10
  have hgd := hT.out.tail.tail.tail.tail.gold
  obtain ⟨_, k0, k1, k2, k3, _⟩ := (hT.out.bring 3 rfl).b4
  obtain ⟨_, e0, e1, e2, e3, f0, f1, f2, f3⟩ := (hT.out.bring 2 rfl).b4
  obtain ⟨_, d0, d1, d2, d3, g0, g1, g2, g3⟩ := hT.out.b4
  obtain ⟨gg, hgg, hgl, hmc, q0, q1, q2, q3, q4, hfz⟩ := hT.out.to1.vq_at hlm.out hil
  injection hgg with hgg
  injection hgg with hgg
  subst hgg
  have zf1 := hfz (i * 5 + 1)
  have zf2 := hfz (i * 5 + 2)
  have zf3 := hfz (i * 5 + 3)
  have zf4 := hfz (i * 5 + 4)
  rw [hq.out] at q0 q1 q2 q3 q4
  simp only at q0 q1 q2 q3 q4
  obtain ⟨z0, z1, z2, z3, z4⟩ := hz'.out
  rw [← hgd.cell (by exact hbl)] at z0 z1 z2 z3 z4
  have n1 := hT.out.to1.vq_ne hlm.out
  have n2 := Ne.symm n1
  have n3 := hT.out.tail.vq_ne hlm.out
  have n4 := Ne.symm n3
  have n5 := hT.out.to1.tail.blk_ne
  have n6 := Ne.symm n5
  have n7 : b ≠ g := by have h2 := vq_late ((hT.out.bring 4 rfl).bring 2 rfl); omega
  have n8 := Ne.symm n7
  have n9 := ((hT.out.bring 3 rfl).bring 2 rfl).vq_ne hlm.out
  have n10 := Ne.symm n9
  clear hfz hgd
  have hT2 := hT.out.to1.vq_setF (i := i) (f := 3) hlm.out hil (by decide) (.int .i64 want2) ⟨id, txn, mode, want2, since⟩ (by rw [hq.out]; rfl)
  replace hT2 := Lib.hid hT2.to1
  go_wp2_with fail
  refine (HF.out _ hT2.out.tail.tail.tail.tail.gold).mono ?_
  clear hT
  rintro e w5 ⟨rfl, q⟩
  have hT := Lib.hid (hT2.out.below q)
  clear q HF hT2
  clear hgl hmc k0 k1 k2 k3 e0 e1 e2 e3 f0 f1 f2 f3 d0 d1 d2 d3 g0 g1 g2 g3 q0 q1 q2 q3 q4 zf1 zf2 zf3 zf4 z0 z1 z2 z3 z4 n1 n2 n3 n4 n5 n6 n7 n8 n9 n10
  have hgd := hT.out.tail.tail.tail.tail.gold
  obtain ⟨_, k0, k1, k2, k3, _⟩ := (hT.out.bring 3 rfl).b4
  obtain ⟨_, e0, e1, e2, e3, f0, f1, f2, f3⟩ := (hT.out.bring 2 rfl).b4
  obtain ⟨_, d0, d1, d2, d3, g0, g1, g2, g3⟩ := hT.out.b4
  obtain ⟨gg, hgg, hgl, hmc, q0, q1, q2, q3, q4, hfz⟩ := hT.out.to1.vq_at (show (l.set i ⟨id, txn, mode, want2, since⟩).length = m by rw [List.length_set]; exact hlm.out) hil
  injection hgg with hgg
  injection hgg with hgg
  subst hgg
  have zf1 := hfz (i * 5 + 1)
  have zf2 := hfz (i * 5 + 2)
  have zf3 := hfz (i * 5 + 3)
  have zf4 := hfz (i * 5 + 4)
  rw [show (l.set i ⟨id, txn, mode, want2, since⟩).getD i default = ⟨id, txn, mode, want2, since⟩ by rw [getD_set _ _ _ _ (by rw [hlm.out]; exact hil), if_pos rfl]] at q0 q1 q2 q3 q4
  simp only at q0 q1 q2 q3 q4
  obtain ⟨z0, z1, z2, z3, z4⟩ := hz'.out
  rw [← hgd.cell (by exact hbl)] at z0 z1 z2 z3 z4
  have n1 := hT.out.to1.vq_ne (show (l.set i ⟨id, txn, mode, want2, since⟩).length = m by rw [List.length_set]; exact hlm.out)
  have n2 := Ne.symm n1
  have n3 := hT.out.tail.vq_ne (show (l.set i ⟨id, txn, mode, want2, since⟩).length = m by rw [List.length_set]; exact hlm.out)
  have n4 := Ne.symm n3
  have n5 := hT.out.to1.tail.blk_ne
  have n6 := Ne.symm n5
  have n7 : b ≠ g := by have h2 := vq_late ((hT.out.bring 4 rfl).bring 2 rfl); omega
  have n8 := Ne.symm n7
  have n9 := ((hT.out.bring 3 rfl).bring 2 rfl).vq_ne (show (l.set i ⟨id, txn, mode, want2, since⟩).length = m by rw [List.length_set]; exact hlm.out)
  have n10 := Ne.symm n9
  clear hfz hgd
  go_wp2_with fail
  refine (HU.out _ hT.out.tail.tail.tail.tail.gold).mono ?_
  rintro e w6 ⟨rfl, q⟩
  replace hT := Lib.hid (hT.out.below q)
  clear q HU
  clear hgl hmc k0 k1 k2 k3 e0 e1 e2 e3 f0 f1 f2 f3 d0 d1 d2 d3 g0 g1 g2 g3 q0 q1 q2 q3 q4 zf1 zf2 zf3 zf4 z0 z1 z2 z3 z4 n1 n2 n3 n4 n5 n6 n7 n8 n9 n10
  have hgd := hT.out.tail.tail.tail.tail.gold
  obtain ⟨_, k0, k1, k2, k3, _⟩ := (hT.out.bring 3 rfl).b4
  obtain ⟨_, e0, e1, e2, e3, f0, f1, f2, f3⟩ := (hT.out.bring 2 rfl).b4
  obtain ⟨_, d0, d1, d2, d3, g0, g1, g2, g3⟩ := hT.out.b4
  obtain ⟨gg, hgg, hgl, hmc, q0, q1, q2, q3, q4, hfz⟩ := hT.out.to1.vq_at (show (l.set i ⟨id, txn, mode, want2, since⟩).length = m by rw [List.length_set]; exact hlm.out) hil
  injection hgg with hgg
  injection hgg with hgg
  subst hgg
  have zf1 := hfz (i * 5 + 1)
  have zf2 := hfz (i * 5 + 2)
  have zf3 := hfz (i * 5 + 3)
  have zf4 := hfz (i * 5 + 4)
  rw [show (l.set i ⟨id, txn, mode, want2, since⟩).getD i default = ⟨id, txn, mode, want2, since⟩ by rw [getD_set _ _ _ _ (by rw [hlm.out]; exact hil), if_pos rfl]] at q0 q1 q2 q3 q4
  simp only at q0 q1 q2 q3 q4
  obtain ⟨z0, z1, z2, z3, z4⟩ := hz'.out
  rw [← hgd.cell (by exact hbl)] at z0 z1 z2 z3 z4
  have n1 := hT.out.to1.vq_ne (show (l.set i ⟨id, txn, mode, want2, since⟩).length = m by rw [List.length_set]; exact hlm.out)
  have n2 := Ne.symm n1
  have n3 := hT.out.tail.vq_ne (show (l.set i ⟨id, txn, mode, want2, since⟩).length = m by rw [List.length_set]; exact hlm.out)
  have n4 := Ne.symm n3
  have n5 := hT.out.to1.tail.blk_ne
  have n6 := Ne.symm n5
  have n7 : b ≠ g := by have h2 := vq_late ((hT.out.bring 4 rfl).bring 2 rfl); omega
  have n8 := Ne.symm n7
  have n9 := ((hT.out.bring 3 rfl).bring 2 rfl).vq_ne (show (l.set i ⟨id, txn, mode, want2, since⟩).length = m by rw [List.length_set]; exact hlm.out)
  have n10 := Ne.symm n9
  clear hfz hgd
  have hT2 := hT.out.set 3 (.int .i64 (n + 1))
  have hT3 := hT2.to1.vq_setF (i := i) (f := 4) (show (l.set i ⟨id, txn, mode, want2, since⟩).length = m by rw [List.length_set]; exact hlm.out) hil (by decide) (.int .i64 (n + 1)) ⟨id, txn, mode, want2, n + 1⟩ (by rw [show (l.set i ⟨id, txn, mode, want2, since⟩).getD i default = ⟨id, txn, mode, want2, since⟩ by rw [getD_set _ _ _ _ (by rw [hlm.out]; exact hil), if_pos rfl]]; rfl)
  rw [List.set_set] at hT3
  have hR2 := hR.out
  have hZ := ((((hT3.bring 2 rfl).set 0 (.int .i64 t)).set 1 (.int .i64 r)).set 2 (.slice (some ⟨g, 0, none⟩) m c')).set 3 (.int .i64 (n + 1))
  rw [show l.set i ⟨id, txn, mode, want2, n + 1⟩ = R from hR2] at hZ
  replace hZ := Lib.hid hZ
  clear hT3 hT hR2 hR hT2
  go_wp2_with fail
  refine bodyPost_ret (v := .tuple #[.agg #[.int .i64 t, .int .i64 r, .slice (some ⟨g, 0, none⟩) m c', .int .i64 (n + 1)], .bool false, .int .i64 0]) (by simp [results, Tryz.results14, go_sem, *]) rfl ⟨_, c', by first | rfl | rw [hlm.out], ?_⟩
  try rw [hlm.out]
  exact (hZ.out.bring 1 rfl).drop1.drop1.drop1
set_option maxHeartbeats 4000000 in
set_option maxRecDepth 100000 in
theorem handR_twice (t r n : Int) (v : Value) (l : List Rq) (id0 t0 : Int) (w : World) (hv : RQ w v l) (hl : l.length ≤ 1000) (i : Nat) (hi : plc l id0 = i) (hil : i < l.length) (hc : l.any (handP id0 t0) = true) :
    Calls Tryz.prog 20 #[hval t r v n, .int .i64 id0, .int .i64 t0] w fun e w' => e = .returned (.tuple #[zhd, .int .i64 4]) ∧ Below w.heap.size w w' := by
  have hh := Lib.hid (hand_held hi hil hc)
  clear hc
  have hB := Lib.hid (boxes2 w 26 26 #[.int .i64 t, .int .i64 r, v, .int .i64 n] #[.int .i64 0, .int .i64 0, .slice none 0 0, .int .i64 0])
  have hb2 := two_boxes w #[.int .i64 t, .int .i64 r, v, .int .i64 n] #[.int .i64 0, .int .i64 0, .slice none 0 0, .int .i64 0] 26 26
  have HAT := Lib.hid (at_any t r n v l id0 _ (hv.below hb2) hl)
  rw [show idxF (fun q => q.id == id0) l 0 = i from hi] at HAT
  have d : decide ((i : Int) < 0) = false := by rw [decide_eq_false_iff_not]; omega
  clear hb2 hi
  obtain ⟨a, c, rfl, hlc, _, hr⟩ := hv
  unfold hval at *
  generalize hlm : l.length = m at *
  replace hlm := Lib.hid hlm
  replace hr := Lib.hid hr
  go_enter Tryz.func20, Tryz.ntmps20
  go_wp2_with fail
  refine HAT.out.mono ?_
  rintro e w1 ⟨rfl, q⟩
  replace hB := Lib.hid (hB.out.below q)
  clear q HAT
  go_wp2_with fail
  go_loopg [9] m (fun g x wr => ∃ k : Nat, k ≤ m ∧ g = m - k ∧ x = .int .i64 k ∧ Hid (∀ j, j < k → j ≠ i → ((l.getD j default).txn == t0) = false) ∧ Hid (Sep wr [blk (w.heap.size + 1) 26 #[.int .i64 0, .int .i64 0, .slice none 0 0, .int .i64 0], blk w.heap.size 26 #[.int .i64 t, .int .i64 r, .slice a m c, .int .i64 n], old w]))
  case atStart => exact ⟨0, Nat.zero_le _, rfl, rfl, Lib.hid (fun j hj => absurd hj (by omega)), hB⟩
  case round =>
    clear hB
    obtain ⟨k, hk, hg, rfl, he, hB⟩ := hrel
    obtain ⟨_, e0, e1, e2, e3, f0, f1, f2, f3⟩ := hB.out.b4
    obtain ⟨_, k0, k1, k2, k3, _⟩ := hB.out.to1.b4
    by_cases hlt : k < m
    · obtain ⟨b', off', rfl, hbl', hzk⟩ := hr.out (by omega)
      have y1 := (hzk k hlt).2.1
      rw [← hB.out.tail.tail.gold.cell (by exact hbl')] at y1
      have hek := Lib.hid (fun (h : k ≠ i → ((l.getD k default).txn == t0) = false) => show ∀ j, j < k + 1 → j ≠ i → ((l.getD j default).txn == t0) = false from fun j hj hji => by
        rcases Nat.lt_succ_iff_lt_or_eq.1 hj with h1 | rfl
        · exact he.out j h1 hji
        · exact h hji)
      have hhk := Lib.hid (show k ≠ i → True from fun _ => trivial)
      have j1 : (0 : Int) ≤ (k : Int) := by omega
      have j2 : (k : Int) < (m : Int) := by omega
      clear hzk
      by_cases hki : k = i
      · have hek2 := Lib.hid (hek.out (fun h => absurd hki h))
        clear hek hhk he
        generalize l.getD k default = qk at *
        subst hki
        go_wp2_with fail
        go_roundg (m - (k + 1))
        case measure => omega
        case rel => exact ⟨k + 1, by omega, rfl, by go_num, hek2, hB⟩
      · have dk : ¬ ((k : Int) = (i : Int)) := by omega
        cases hq2 : (l.getD k default).txn == t0 with
        | false =>
          have hek2 := Lib.hid (hek.out (fun _ => hq2))
          clear hek hhk he
          generalize l.getD k default = qk at *
          go_wp2_with fail
          go_roundg (m - (k + 1))
          case measure => omega
          case rel => exact ⟨k + 1, by omega, rfl, by go_num, hek2, hB⟩
        | true =>
          clear hek hhk he
          generalize l.getD k default = qk at *
          go_wp2_with fail
          refine bodyPost_ret (v := .tuple #[.agg #[.int .i64 0, .int .i64 0, .slice none 0 0, .int .i64 0], .int .i64 4]) (by simp [results, Tryz.results20, go_sem, *]) rfl ⟨rfl, ?_⟩
          exact ((((hB.out.set 0 (.int .i64 0)).set 1 (.int .i64 0)).set 2 (.slice none 0 0)).set 3 (.int .i64 0)).tail.tail.gold
    · exfalso
      obtain ⟨j, hj, hji, hjt⟩ := hh.out
      rw [he.out j (by first | omega | (have := hlm.out; omega)) hji] at hjt
      cases hjt
set_option maxHeartbeats 4000000 in
set_option maxRecDepth 100000 in
theorem handR_state (t r n : Int) (v : Value) (l : List Rq) (id0 t0 : Int) (w : World) (hv : RQ w v l) (hl : l.length ≤ 1000) (i : Nat) (hi : plc l id0 = i) (hil : i < l.length) (hD : IdsD l) (hc : l.any (handP id0 t0) = false) (hs : decide (0 < (l.getD i default).since) = true) :
    Calls Tryz.prog 20 #[hval t r v n, .int .i64 id0, .int .i64 t0] w fun e w' => e = .returned (.tuple #[zhd, .int .i64 7]) ∧ Below w.heap.size w w' := by
  have hh := Lib.hid (hand_free hD hi hil hc)
  clear hc hD
  have hB := Lib.hid (boxes2 w 26 26 #[.int .i64 t, .int .i64 r, v, .int .i64 n] #[.int .i64 0, .int .i64 0, .slice none 0 0, .int .i64 0])
  have hb2 := two_boxes w #[.int .i64 t, .int .i64 r, v, .int .i64 n] #[.int .i64 0, .int .i64 0, .slice none 0 0, .int .i64 0] 26 26
  have HAT := Lib.hid (at_any t r n v l id0 _ (hv.below hb2) hl)
  rw [show idxF (fun q => q.id == id0) l 0 = i from hi] at HAT
  have HW := Lib.hid (fun W => waitsR_any (l.getD i default) W)
  rw [hs] at HW
  have HX := Lib.hid (fun W (hb : Below w.heap.size w W) => copied_any t r n v l W (hv.below hb) hl)
  have d : decide ((i : Int) < 0) = false := by rw [decide_eq_false_iff_not]; omega
  clear hb2 hi hs
  have hv2 := Lib.hid hv
  obtain ⟨a, c, rfl, hlc, _, hr⟩ := hv
  obtain ⟨b, off, rfl, hbl, hz⟩ := hr (by omega)
  obtain ⟨z0, z1, z2, z3, z4⟩ := hz i hil
  have hz' := Lib.hid (hz i hil)
  replace hr := Lib.hid hr
  clear hz
  obtain ⟨q, hq⟩ : ∃ q, l.getD i default = q := ⟨_, rfl⟩
  rw [hq] at HW z0 z1 z2 z3 z4 hz'
  replace hq := Lib.hid hq
  have i1 : (0 : Int) ≤ (i : Int) := by omega
  have i2 : (i : Int) < (l.length : Int) := by omega
  obtain ⟨id, txn, mode, want, since⟩ := q
  unfold hval at *
  simp only [Rq.val] at HW z0 z1 z2 z3 z4
  generalize hlm : l.length = m at *
  replace hlm := Lib.hid hlm
  go_enter Tryz.func20, Tryz.ntmps20
  go_wp2_with fail
  refine HAT.out.mono ?_
  rintro e w1 ⟨rfl, q⟩
  replace hB := Lib.hid (hB.out.below q)
  clear q HAT
  go_wp2_with fail
  go_loopg [9] m (fun g x wr => ∃ k : Nat, k ≤ m ∧ g = m - k ∧ x = .int .i64 k ∧ Hid (∀ j, j < k → j ≠ i → ((l.getD j default).txn == t0) = false) ∧ Hid (Sep wr [blk (w.heap.size + 1) 26 #[.int .i64 0, .int .i64 0, .slice none 0 0, .int .i64 0], blk w.heap.size 26 #[.int .i64 t, .int .i64 r, .slice (some ⟨b, off, none⟩) m c, .int .i64 n], old w]))
  case atStart => exact ⟨0, Nat.zero_le _, rfl, rfl, Lib.hid (fun j hj => absurd hj (by omega)), hB⟩
  case round =>
    clear hB
    obtain ⟨k, hk, hg, rfl, he, hB⟩ := hrel
    obtain ⟨_, e0, e1, e2, e3, f0, f1, f2, f3⟩ := hB.out.b4
    obtain ⟨_, k0, k1, k2, k3, _⟩ := hB.out.to1.b4
    by_cases hlt : k < m
    · obtain ⟨b', off', hbo, hbl', hzk⟩ := hr.out (by omega)
      injection hbo with hbo
      injection hbo with hb1 hb2 _
      subst hb1 hb2
      have y1 := (hzk k hlt).2.1
      rw [← hB.out.tail.tail.gold.cell (by exact hbl')] at y1
      have hek := Lib.hid (fun (h : k ≠ i → ((l.getD k default).txn == t0) = false) => show ∀ j, j < k + 1 → j ≠ i → ((l.getD j default).txn == t0) = false from fun j hj hji => by
        rcases Nat.lt_succ_iff_lt_or_eq.1 hj with h1 | rfl
        · exact he.out j h1 hji
        · exact h hji)
      have hhk := Lib.hid (show k ≠ i → ((l.getD k default).txn == t0) = false from fun h => hh.out k (by first | exact hlt | (rw [hlm.out]; exact hlt)) h)
      have j1 : (0 : Int) ≤ (k : Int) := by omega
      have j2 : (k : Int) < (m : Int) := by omega
      clear hzk
      by_cases hki : k = i
      · have hek2 := Lib.hid (hek.out (fun h => absurd hki h))
        have dk : ((k : Int) = (i : Int)) := by omega
        clear hek hhk he
        generalize l.getD k default = qk at *
        rw [← dk]
        go_wp2_with fail
        go_roundg (m - (k + 1))
        case measure => omega
        case rel => exact ⟨k + 1, by omega, rfl, by first | go_num | (rw [dk]; go_num), hek2, hB⟩
      · have dk : ¬ ((k : Int) = (i : Int)) := by omega
        have hq2 := hhk.out hki
        have hek2 := Lib.hid (hek.out (fun _ => hq2))
        clear hek hhk he
        generalize l.getD k default = qk at *
        go_wp2_with fail
        go_roundg (m - (k + 1))
        case measure => omega
        case rel => exact ⟨k + 1, by omega, rfl, by go_num, hek2, hB⟩
    · obtain rfl : k = m := by omega
      clear he hh
      rw [← hB.out.tail.tail.gold.cell (by exact hbl)] at z0 z1 z2 z3 z4
      go_wp2_with fail
      refine (HW.out _).mono ?_
      rintro e w2 ⟨rfl, q⟩
      replace hB := Lib.hid (hB.out.below q)
      clear q HW e0 e1 e2 e3 f0 f1 f2 f3 k0 k1 k2 k3
      obtain ⟨_, e0, e1, e2, e3, f0, f1, f2, f3⟩ := hB.out.b4
      obtain ⟨_, k0, k1, k2, k3, _⟩ := hB.out.to1.b4
      go_wp2_with fail
      refine bodyPost_ret (v := .tuple #[.agg #[.int .i64 0, .int .i64 0, .slice none 0 0, .int .i64 0], .int .i64 7]) (by simp [results, Tryz.results20, go_sem, *]) rfl ⟨rfl, ?_⟩
      exact ((((hB.out.set 0 (.int .i64 0)).set 1 (.int .i64 0)).set 2 (.slice none 0 0)).set 3 (.int .i64 0)).tail.tail.gold
set_option maxHeartbeats 4000000 in
set_option maxRecDepth 100000 in
theorem handR_ok (t r n : Int) (v : Value) (l : List Rq) (id0 t0 : Int) (w : World) (hv : RQ w v l) (hl : l.length ≤ 1000) (i : Nat) (hi : plc l id0 = i) (hil : i < l.length) (hD : IdsD l) (hc : l.any (handP id0 t0) = false) (hs : decide (0 < (l.getD i default).since) = false) :
    Calls Tryz.prog 20 #[hval t r v n, .int .i64 id0, .int .i64 t0] w fun e w' => ∃ a c, e = .returned (.tuple #[hval t r (.slice a l.length c) n, .int .i64 0]) ∧ Sep w' [vq (.slice a l.length c) (l.set i { l.getD i default with txn := t0 }), old w] := by
  obtain ⟨R, hR⟩ : ∃ R, (l.set i { l.getD i default with txn := t0 }) = R := ⟨_, rfl⟩
  rw [hR]
  replace hR := Lib.hid hR
  have hh := Lib.hid (hand_free hD hi hil hc)
  clear hc hD
  have hB := Lib.hid (boxes2 w 26 26 #[.int .i64 t, .int .i64 r, v, .int .i64 n] #[.int .i64 0, .int .i64 0, .slice none 0 0, .int .i64 0])
  have hb2 := two_boxes w #[.int .i64 t, .int .i64 r, v, .int .i64 n] #[.int .i64 0, .int .i64 0, .slice none 0 0, .int .i64 0] 26 26
  have HAT := Lib.hid (at_any t r n v l id0 _ (hv.below hb2) hl)
  rw [show idxF (fun q => q.id == id0) l 0 = i from hi] at HAT
  have HW := Lib.hid (fun W => waitsR_any (l.getD i default) W)
  rw [hs] at HW
  have HX := Lib.hid (fun W (hb : Below w.heap.size w W) => copied_any t r n v l W (hv.below hb) hl)
  have d : decide ((i : Int) < 0) = false := by rw [decide_eq_false_iff_not]; omega
  clear hb2 hi hs
  have hv2 := Lib.hid hv
  obtain ⟨a, c, rfl, hlc, _, hr⟩ := hv
  obtain ⟨b, off, rfl, hbl, hz⟩ := hr (by omega)
  obtain ⟨z0, z1, z2, z3, z4⟩ := hz i hil
  have hz' := Lib.hid (hz i hil)
  replace hr := Lib.hid hr
  clear hz
  obtain ⟨q, hq⟩ : ∃ q, l.getD i default = q := ⟨_, rfl⟩
  rw [hq] at HW z0 z1 z2 z3 z4 hz'
  simp only [hq] at hR
  replace hq := Lib.hid hq
  have i1 : (0 : Int) ≤ (i : Int) := by omega
  have i2 : (i : Int) < (l.length : Int) := by omega
  obtain ⟨id, txn, mode, want, since⟩ := q
  unfold hval at *
  simp only [Rq.val] at HW z0 z1 z2 z3 z4
  generalize hlm : l.length = m at *
  replace hlm := Lib.hid hlm
  go_enter Tryz.func20, Tryz.ntmps20
  go_wp2_with fail
  refine HAT.out.mono ?_
  rintro e w1 ⟨rfl, q⟩
  replace hB := Lib.hid (hB.out.below q)
  clear q HAT
  go_wp2_with fail
  go_loopg [9] m (fun g x wr => ∃ k : Nat, k ≤ m ∧ g = m - k ∧ x = .int .i64 k ∧ Hid (∀ j, j < k → j ≠ i → ((l.getD j default).txn == t0) = false) ∧ Hid (Sep wr [blk (w.heap.size + 1) 26 #[.int .i64 0, .int .i64 0, .slice none 0 0, .int .i64 0], blk w.heap.size 26 #[.int .i64 t, .int .i64 r, .slice (some ⟨b, off, none⟩) m c, .int .i64 n], old w]))
  case atStart => exact ⟨0, Nat.zero_le _, rfl, rfl, Lib.hid (fun j hj => absurd hj (by omega)), hB⟩
  case round =>
    clear hB
    obtain ⟨k, hk, hg, rfl, he, hB⟩ := hrel
    obtain ⟨_, e0, e1, e2, e3, f0, f1, f2, f3⟩ := hB.out.b4
    obtain ⟨_, k0, k1, k2, k3, _⟩ := hB.out.to1.b4
    by_cases hlt : k < m
    · obtain ⟨b', off', hbo, hbl', hzk⟩ := hr.out (by omega)
      injection hbo with hbo
      injection hbo with hb1 hb2 _
      subst hb1 hb2
      have y1 := (hzk k hlt).2.1
      rw [← hB.out.tail.tail.gold.cell (by exact hbl')] at y1
      have hek := Lib.hid (fun (h : k ≠ i → ((l.getD k default).txn == t0) = false) => show ∀ j, j < k + 1 → j ≠ i → ((l.getD j default).txn == t0) = false from fun j hj hji => by
        rcases Nat.lt_succ_iff_lt_or_eq.1 hj with h1 | rfl
        · exact he.out j h1 hji
        · exact h hji)
      have hhk := Lib.hid (show k ≠ i → ((l.getD k default).txn == t0) = false from fun h => hh.out k (by first | exact hlt | (rw [hlm.out]; exact hlt)) h)
      have j1 : (0 : Int) ≤ (k : Int) := by omega
      have j2 : (k : Int) < (m : Int) := by omega
      clear hzk
      by_cases hki : k = i
      · have hek2 := Lib.hid (hek.out (fun h => absurd hki h))
        have dk : ((k : Int) = (i : Int)) := by omega
        clear hek hhk he
        generalize l.getD k default = qk at *
        rw [← dk]
        go_wp2_with fail
        go_roundg (m - (k + 1))
        case measure => omega
        case rel => exact ⟨k + 1, by omega, rfl, by first | go_num | (rw [dk]; go_num), hek2, hB⟩
      · have dk : ¬ ((k : Int) = (i : Int)) := by omega
        have hq2 := hhk.out hki
        have hek2 := Lib.hid (hek.out (fun _ => hq2))
        clear hek hhk he
        generalize l.getD k default = qk at *
        go_wp2_with fail
        go_roundg (m - (k + 1))
        case measure => omega
        case rel => exact ⟨k + 1, by omega, rfl, by go_num, hek2, hB⟩
    · obtain rfl : k = m := by omega
      clear he hh
      rw [← hB.out.tail.tail.gold.cell (by exact hbl)] at z0 z1 z2 z3 z4
      go_wp2_with fail
      refine (HW.out _).mono ?_
      rintro e w2 ⟨rfl, q⟩
      replace hB := Lib.hid (hB.out.below q)
      clear q HW e0 e1 e2 e3 f0 f1 f2 f3 k0 k1 k2 k3
      obtain ⟨_, e0, e1, e2, e3, f0, f1, f2, f3⟩ := hB.out.b4
      obtain ⟨_, k0, k1, k2, k3, _⟩ := hB.out.to1.b4
      clear z0 z1 z2 z3 z4
      go_wp2_with fail
      refine (HX.out _ hB.out.tail.tail.gold).mono ?_
      rintro e w3 ⟨a', c', rfl, hS⟩
      have hT := (hS.graft hB.out).alloc #[.int .i64 t, .int .i64 r, .slice a' l.length c', .int .i64 n] 26
      clear HX hS e0 e1 e2 e3 f0 f1 f2 f3 k0 k1 k2 k3 hB
      rw [hlm.out] at hT
      try rw [hlm.out]
      generalize hO : w3.heap.size = O at *
      obtain ⟨g, rfl, _⟩ := hT.to1.vq_at hlm.out (by first | exact hil | (have := hlm.out; omega))
      replace hT := Lib.hid hT
      have hgd := hT.out.tail.tail.tail.tail.gold
      obtain ⟨_, k0, k1, k2, k3, _⟩ := (hT.out.bring 3 rfl).b4
      obtain ⟨_, e0, e1, e2, e3, f0, f1, f2, f3⟩ := (hT.out.bring 2 rfl).b4
      obtain ⟨_, d0, d1, d2, d3, g0, g1, g2, g3⟩ := hT.out.b4
      obtain ⟨gg, hgg, hgl, hmc, q0, q1, q2, q3, q4, hfz⟩ := hT.out.to1.vq_at hlm.out (by first | exact hil | (have := hlm.out; omega))
      injection hgg with hgg
      injection hgg with hgg
      subst hgg
      have zf1 := hfz (i * 5 + 1)
      have zf2 := hfz (i * 5 + 2)
      have zf3 := hfz (i * 5 + 3)
      have zf4 := hfz (i * 5 + 4)
      rw [hq.out] at q0 q1 q2 q3 q4
      simp only at q0 q1 q2 q3 q4
      obtain ⟨z0, z1, z2, z3, z4⟩ := hz'.out
      rw [← hgd.cell (by exact hbl)] at z0 z1 z2 z3 z4
      have n1 := hT.out.to1.vq_ne hlm.out
      have n2 := Ne.symm n1
      have n3 := hT.out.tail.vq_ne hlm.out
      have n4 := Ne.symm n3
      have n5 := hT.out.to1.tail.blk_ne
      have n6 := Ne.symm n5
      have n7 : b ≠ g := by have h2 := vq_late ((hT.out.bring 4 rfl).bring 2 rfl); omega
      have n8 := Ne.symm n7
      have n9 := ((hT.out.bring 3 rfl).bring 2 rfl).vq_ne hlm.out
      have n10 := Ne.symm n9
      clear hfz hgd
      have hT3 := hT.out.to1.vq_setF (i := i) (f := 1) hlm.out (by first | exact hil | (have := hlm.out; omega)) (by decide) (.int .i64 t0) ⟨id, t0, mode, want, since⟩ (by rw [hq.out]; rfl)
      have hR2 := hR.out
      have hZ := ((((hT3.bring 2 rfl).set 0 (.int .i64 t)).set 1 (.int .i64 r)).set 2 (.slice (some ⟨g, 0, none⟩) k c')).set 3 (.int .i64 n)
      rw [show l.set i ⟨id, t0, mode, want, since⟩ = R from hR2] at hZ
      replace hZ := Lib.hid hZ
      clear hT3 hT hR2 hR
      go_wp2_with fail
      refine bodyPost_ret (v := .tuple #[.agg #[.int .i64 t, .int .i64 r, .slice (some ⟨g, 0, none⟩) k c', .int .i64 n], .int .i64 0]) (by simp [results, Tryz.results20, go_sem, *]) rfl ⟨_, c', by first | rfl | rw [hlm.out], ?_⟩
      try rw [hlm.out]
      exact (hZ.out.bring 1 rfl).drop1.drop1.drop1
end Go.Proofs.YtmacpjnkmkaloaaGreat
