/-
  The walk of StoreNames, the chapter's example. No condition.
-/
import Derived.Test.YtbpeajcfabjphaaSNil
namespace Go.Proofs.Ytbpeajcfabjphaa
open Go.RowKit
abbrev E3 : Ent := [((1, 0), 3), ((0, 2), 2), ((0, 1), 1)]
abbrev E2 : Ent := [((1, 0), 3), ((0, 1), 1)]
abbrev L3 : Ent := [((0, 1), 1), ((0, 2), 2), ((1, 0), 3)]
abbrev L2 : Ent := [((0, 1), 1), ((1, 0), 3)]
theorem leN_dec (a b : Int × Int) : leN a b ↔ leB a b = true := by simp [leN, leB]
theorem srt3 : srtE E3 = L3 := by
  refine (srtE_uniq (by unfold NodupL; decide) (by decide) ?_).symm
  simp [leN]
theorem srt2 : srtE E2 = L2 := by
  refine (srtE_uniq (by unfold NodupL; decide) (by decide) ?_).symm
  simp [leN]
theorem tab0 : (tabL 0 E3).length = 2 := by
  unfold tabL
  rw [srt3]
  decide
theorem tab5 : (tabL 5 E3).length = 0 := by
  unfold tabL
  rw [srt3]
  decide
set_option maxHeartbeats 8000000 in
set_option maxRecDepth 100000 in
theorem snames_walk (w : World) : Calls Try.prog 5 #[] w fun e w' => e = .returned (.bool true) ∧ Below w.heap.size w w' := by
  have t0 := tab0
  have t5 := tab5
  have l3 : (srtE E3).length = 3 := by rw [srt3]; rfl
  have l2 : (srtE E2).length = 2 := by rw [srt2]; rfl
  have d1 : decide (srtE E3 = srtE E2) = false := by rw [srt3, srt2]; decide
  have d2 : decide (srtE E3 = srtE E3) = true := decide_eq_true rfl
  have HS0 := Lib.hid (fun p W rs h => scan_x p E3 0 W rs h (by simp))
  have HS5 := Lib.hid (fun p W rs h => scan_x p E3 5 W rs h (by simp))
  have HA := Lib.hid (fun p W rs h => all_x p E3 W rs h (by simp))
  have HL3 := Lib.hid (fun p W rs h => len_x p E3 W rs h (by simp))
  have HL2 := Lib.hid (fun p W rs h => len_x p E2 W rs h (by simp))
  have HQ1 := Lib.hid (fun p p' W rs h => same_x p p' E3 E2 W rs h (by simp) (by simp))
  have HQ2 := Lib.hid (fun p p' W rs h => same_x p p' E3 E3 W rs h (by simp) (by simp))
  rw [t0] at HS0
  rw [t5] at HS5
  rw [l3] at HA HL3
  rw [srt3] at HA
  rw [l2] at HL2
  rw [d1] at HQ1
  rw [d2] at HQ2
  clear t0 t5 l3 l2 d1 d2
  go_enter Try.func5, Try.ntmps5
  go_wp2_with fail
  refine (lives_any _).mono ?_
  rintro e w0 ⟨rfl, b0⟩
  replace b0 := Lib.hid b0
  go_wp2_with fail
  refine (new_x _).mono ?_
  rintro e w1 ⟨p, rfl, q⟩
  replace hB := Lib.hid q
  clear q
  go_wp2_with fail
  refine (kT_any 0 _).mono ?_
  rintro e w2 ⟨rfl, q⟩
  replace hB := Lib.hid (hB.out.below q)
  clear q
  go_wp2_with fail
  refine (put_no p [] 0 (-1) 1 _ _ hB.out (by decide)).mono ?_
  rintro e w3 ⟨rfl, q⟩
  rw [show was0 = .agg #[.int .i64 0, .int .i64 0, .int .i64 0, .bool false] from rfl]
  replace hB := Lib.hid (q.alloc #[.int .i64 0, .int .i64 0, .int .i64 0, .bool false] 31).to1
  clear q
  go_wp2_with fail
  refine (kDB_any _).mono ?_
  rintro e w4 ⟨rfl, q⟩
  replace hB := Lib.hid (hB.out.below q)
  clear q
  go_wp2_with fail
  refine (del_no p [] (-1) (-1) _ _ hB.out (by decide)).mono ?_
  rintro e w5 ⟨rfl, q⟩
  rw [show was0 = .agg #[.int .i64 0, .int .i64 0, .int .i64 0, .bool false] from rfl]
  replace hB := Lib.hid (q.alloc #[.int .i64 0, .int .i64 0, .int .i64 0, .bool false] 31).to1
  clear q
  go_wp2_with fail
  refine (kR_any 1 0 _).mono ?_
  rintro e w6 ⟨rfl, q⟩
  replace hB := Lib.hid (hB.out.below q)
  clear q
  go_wp2_with fail
  refine (put_yes p [] 1 0 3 _ _ hB.out (by decide)).mono ?_
  rintro e w7 ⟨rfl, q⟩
  replace hB := Lib.hid (show Sep _ (stX p [((1, 0), 3)] :: _) from q)
  clear q
  go_wp2_with fail
  refine (kR_any 0 2 _).mono ?_
  rintro e w8 ⟨rfl, q⟩
  replace hB := Lib.hid (hB.out.below q)
  clear q
  go_wp2_with fail
  refine (put_yes p [((1, 0), 3)] 0 2 2 _ _ hB.out (by decide)).mono ?_
  rintro e w9 ⟨rfl, q⟩
  replace hB := Lib.hid (show Sep _ (stX p [((1, 0), 3), ((0, 2), 2)] :: _) from q)
  clear q
  go_wp2_with fail
  refine (kR_any 0 1 _).mono ?_
  rintro e w10 ⟨rfl, q⟩
  replace hB := Lib.hid (hB.out.below q)
  clear q
  go_wp2_with fail
  refine (put_yes p [((1, 0), 3), ((0, 2), 2)] 0 1 1 _ _ hB.out (by decide)).mono ?_
  rintro e w11 ⟨rfl, q⟩
  replace hB := Lib.hid (show Sep _ (stX p E3 :: _) from q)
  clear q
  go_wp2_with fail
  refine (clone_x p E3 _ _ hB.out).mono ?_
  rintro e w12 ⟨p2, rfl, q⟩
  replace hB := Lib.hid q
  clear q
  go_wp2_with fail
  refine (kR_any 0 2 _).mono ?_
  rintro e w13 ⟨rfl, q⟩
  replace hB := Lib.hid (hB.out.below q)
  clear q
  go_wp2_with fail
  refine (del_yes p2 E3 0 2 _ _ hB.out (by decide)).mono ?_
  rintro e w14 ⟨rfl, q⟩
  replace hB := Lib.hid (show Sep _ (stX p E3 :: stX p2 E2 :: _) from (show Sep _ (stX p2 E2 :: stX p E3 :: _) from q).to1)
  clear q
  go_wp2_with fail
  refine (kR_any 0 2 _).mono ?_
  rintro e w15 ⟨rfl, q⟩
  replace hB := Lib.hid (hB.out.below q)
  clear q
  have HG := Lib.hid (fun W rs h => get_x p E3 0 2 W rs h)
  rw [show (getL E3 (0, 2)).getD 0 = 2 from rfl, show hasL E3 (0, 2) = true from rfl] at HG
  go_wp2_with fail
  refine (HG.out _ _ hB.out).mono ?_
  rintro e w16 ⟨rfl, q⟩
  replace hB := Lib.hid q.to1
  clear q HG
  go_wp2_with fail
  refine (kR_any 0 2 _).mono ?_
  rintro e w17 ⟨rfl, q⟩
  replace hB := Lib.hid (hB.out.below q)
  clear q
  have HG := Lib.hid (fun W rs h => get_x p2 E2 0 2 W rs h)
  rw [show (getL E2 (0, 2)).getD 0 = 0 from rfl, show hasL E2 (0, 2) = false from rfl] at HG
  go_wp2_with fail
  refine (HG.out _ _ hB.out).mono ?_
  rintro e w18 ⟨rfl, q⟩
  replace hB := Lib.hid q.to1
  clear q HG
  go_wp2_with fail
  refine (HA.out _ _ _ hB.out).mono ?_
  rintro e w19 ⟨la, lc, rfl, q⟩
  obtain ⟨lb, lo, rfl, _, _⟩ := cells_row (l := L3) q.vec_rl rfl (by decide)
  replace hB := Lib.hid q.to1
  clear q
  go_wp2_with fail
  refine (kR_any 0 0 _).mono ?_
  rintro e w20 ⟨rfl, q⟩
  replace hB := Lib.hid (hB.out.below q)
  clear q
  go_wp2_with fail
  refine (put_nil 0 0 1 _ _ hB.out).mono ?_
  rintro e w21 ⟨rfl, q⟩
  rw [show was0 = .agg #[.int .i64 0, .int .i64 0, .int .i64 0, .bool false] from rfl]
  replace hB := Lib.hid (q.alloc #[.int .i64 0, .int .i64 0, .int .i64 0, .bool false] 31).to1
  clear q
  go_wp2_with fail
  refine (kR_any 0 0 _).mono ?_
  rintro e w22 ⟨rfl, q⟩
  replace hB := Lib.hid (hB.out.below q)
  clear q
  go_wp2_with fail
  refine (sget_nil 0 0 _).mono ?_
  rintro e w23 ⟨rfl, q⟩
  replace hB := Lib.hid (hB.out.below q)
  clear q
  have cr := (cells_row (l := L3) (hB.out.bring 2 rfl).vec_rl rfl (by decide))
  obtain ⟨xb, xo, hx, _, cr⟩ := cr
  obtain ⟨rfl, rfl⟩ : lb = xb ∧ lo = xo := by
    injection hx with hx
    injection hx with h1 h2
    exact ⟨h1, h2⟩
  have c1 := cr 0 _ rfl 2 _ rfl
  have c2 := cr 2 _ rfl 2 _ rfl
  simp only [Nat.zero_mul, Nat.add_zero, Nat.zero_add] at c1 c2
  clear cr hx
  go_wp2_with fail
  refine (HS0.out _ _ _ hB.out).mono ?_
  rintro e w24 ⟨va, vc, rfl, q⟩
  replace hB := Lib.hid q.tail
  clear q c1 c2
  go_wp2_with fail
  refine (HS5.out _ _ _ hB.out).mono ?_
  rintro e w25 ⟨va, vc, rfl, q⟩
  replace hB := Lib.hid q.tail
  clear q
  go_wp2_with fail
  refine (HL3.out _ _ _ hB.out).mono ?_
  rintro e w26 ⟨rfl, q⟩
  replace hB := Lib.hid (q.bring 3 rfl)
  clear q
  go_wp2_with fail
  refine (HL2.out _ _ _ hB.out).mono ?_
  rintro e w27 ⟨rfl, q⟩
  replace hB := Lib.hid q.to1
  clear q
  go_wp2_with fail
  refine (HQ1.out _ _ _ _ hB.out).mono ?_
  rintro e w28 ⟨rfl, q⟩
  replace hB := Lib.hid q
  clear q
  go_wp2_with fail
  refine (clone_x p E3 _ _ hB.out).mono ?_
  rintro e w29 ⟨p3, rfl, q⟩
  replace hB := Lib.hid q.to1
  clear q
  go_wp2_with fail
  refine (HQ2.out _ _ _ _ hB.out).mono ?_
  rintro e w30 ⟨rfl, q⟩
  replace hB := Lib.hid q
  clear q
  go_wp2_with fail
  refine (new_x _).mono ?_
  rintro e w31 ⟨p4, rfl, q⟩
  replace hB := Lib.hid (q.graft hB.out)
  clear q
  go_wp2_with fail
  refine (same_nil _ _ _ hB.out).mono ?_
  rintro e w32 ⟨rfl, q⟩
  replace hB := Lib.hid q
  clear q
  go_wp2_with fail
  refine (len_nil _).mono ?_
  rintro e w33 ⟨rfl, rfl⟩
  go_wp2_with fail
  refine (clone_nil _).mono ?_
  rintro e w34 ⟨rfl, rfl⟩
  go_wp2_with fail
  refine (all_nil _).mono ?_
  rintro e w35 ⟨rfl, rfl⟩
  go_wp2_with fail
  go_ret
  have hb := (hB.out.bring 8 rfl).gold
  exact ⟨rfl, b0.out.trans (hb.mono b0.out.size)⟩
end Go.Proofs.Ytbpeajcfabjphaa
