/-
  UndoNames, walked. No condition.
-/
import Derived.Test.YtidbidalalajbaaUnL
namespace Go.Proofs.Ytidbidalalajbaa
open Go.RowKit
theorem rl_blk {w : World} {g : Nat} {t : TypeId} {x : Wa} {rs : List Res} (h : Sep w (blk g t #[.int .i64 x.t, .int .i64 x.r, .int .i64 x.v, .bool x.there] :: rs)) : RL w (.slice (some ⟨g, 0, none⟩) 1 1) 4 1 (wacells [x]) := by
  refine ⟨rfl, _, _, rfl, Nat.le_refl _, (fun h => by cases h), fun _ => ⟨g, 0, rfl, h.gblk.lt, fun j u hj => ?_⟩⟩
  have h1 := h.gblk.cell j
  rw [Nat.zero_add, h1, ← hj]
  simp [wacells, Wa.cells]
set_option maxHeartbeats 8000000 in
set_option maxRecDepth 100000 in
theorem names_any (w : World) : Calls Try.prog 3 #[] w fun e w' => e = .returned (.bool true) ∧ Below w.heap.size w w' := by
  go_enter Try.func3, Try.ntmps3
  go_wp2_with fail
  refine (lives_any _).mono ?_
  rintro e w0 ⟨rfl, b0⟩
  replace b0 := Lib.hid b0
  go_wp2_with fail
  refine (snew_any _).mono ?_
  rintro e w1 ⟨p, m, rfl, s1⟩
  replace s1 := Lib.hid s1
  go_wp2_with fail
  refine (lnew_any _).mono ?_
  rintro e w2 ⟨q, rfl, s2⟩
  have S := Lib.hid (show Sep w2 (sto p m [] (lg q none 0 [] [old w0])) from (s2.graft2 s1.out).flip)
  clear s1 s2
  go_wp2_with fail
  refine (kR_any 0 1 _).mono ?_
  rintro e w3 ⟨rfl, b⟩
  replace S := Lib.hid (show Sep _ (sto p m [] (lg q none 0 [] [blk w3.heap.size 28 #[.int .i64 0, .int .i64 1], old w0])) from ((S.out.below b).alloc #[.int .i64 0, .int .i64 1] 28).late)
  clear b
  obtain ⟨_, n0, n1, _⟩ := (S.out.bring 4 rfl).b2
  have HP := Lib.hid (put_good p m [] 0 1 6 _ _ S.out rec01)
  rw [put0, was00] at HP
  go_wp2_with fail
  refine HP.out.mono ?_
  clear n0 n1 HP S
  rintro e w5 ⟨rfl, S⟩
  replace S := Lib.hid (show Sep _ (lg q none 0 [] (sto p m (EV 6) [blk w5.heap.size 31 #[.int .i64 0, .int .i64 1, .int .i64 0, .bool false], blk w3.heap.size 28 #[.int .i64 0, .int .i64 1], old w0])) from (S.alloc #[.int .i64 0, .int .i64 1, .int .i64 0, .bool false] 31).late.flip)
  obtain ⟨_, a0, a1, a2, a3, _⟩ := (S.out.bring 4 rfl).b4
  have HP := Lib.hid (note_good q 0 none [] ⟨0, 1, 0, false⟩ _ _ S.out rec01 (by simp))
  simp only [Wa.val, List.nil_append] at HP
  go_wp2_with fail
  refine HP.out.mono ?_
  clear a0 a1 a2 a3 HP S
  rintro e w6 ⟨sa, sc, rfl, S⟩
  replace S := Lib.hid S
  go_wp2_with fail
  refine (kT_any 0 _).mono ?_
  rintro e w7 ⟨rfl, b⟩
  replace S := Lib.hid (S.out.below b)
  clear b
  have HP := Lib.hid (note_bad q ⟨0, -1, 0, false⟩ w7 (by decide))
  simp only [Wa.val] at HP
  go_wp2_with fail
  refine HP.out.mono ?_
  clear HP
  rintro e w8 ⟨rfl, b⟩
  replace S := Lib.hid (S.out.below b)
  clear b
  have HP := Lib.hid (list_any q sc sa [⟨0, 1, 0, false⟩] _ _ S.out (by simp))
  simp only [List.length_cons, List.length_nil] at HP
  go_wp2_with fail
  refine HP.out.mono ?_
  clear HP S
  rintro e w9 ⟨la, lc, rfl, S⟩
  replace S := Lib.hid (show Sep w9 (sto p m (EV 6) (lg q sa sc [⟨0, 1, 0, false⟩] [vec 31 4 (.slice la 1 lc) 1 (wacells [⟨0, 1, 0, false⟩]), blk w5.heap.size 31 #[.int .i64 0, .int .i64 1, .int .i64 0, .bool false], blk w3.heap.size 28 #[.int .i64 0, .int .i64 1], old w0])) from S.late.flip)
  go_wp2_with fail
  refine (back_sto_nil _ _).mono ?_
  rintro e w10 ⟨rfl, b⟩
  replace S := Lib.hid (S.out.below b)
  clear b
  have HB := Lib.hid (back_any p m q sc sa (EV 6) [⟨0, 1, 0, false⟩] _ _ S.out (by simp))
  have hu : ([⟨0, 1, 0, false⟩] : List Wa).reverse.foldl undo1 (EV 6) = [] := by decide
  rw [hu] at HB
  simp only [List.length_cons, List.length_nil] at HB
  clear hu
  go_wp2_with fail
  refine HB.out.mono ?_
  clear HB S
  rintro e w11 ⟨rfl, S⟩
  replace S := Lib.hid S
  obtain ⟨_, n0, n1, _⟩ := (S.out.bring 6 rfl).b2
  have HG := Lib.hid (get_any p m [] 0 1 _ _ S.out)
  rw [show (getL ([] : Ent) (0, 1)).getD 0 = 0 from rfl, show hasL ([] : Ent) (0, 1) = false from rfl] at HG
  go_wp2_with fail
  refine HG.out.mono ?_
  clear HG S n0 n1
  rintro e w12 ⟨rfl, S⟩
  replace S := Lib.hid (show Sep w12 (lg q none 0 [] (sto p m [] [vec 31 4 (.slice la 1 lc) 1 (wacells [⟨0, 1, 0, false⟩]), blk w5.heap.size 31 #[.int .i64 0, .int .i64 1, .int .i64 0, .bool false], blk w3.heap.size 28 #[.int .i64 0, .int .i64 1], old w0])) from S.flip)
  obtain ⟨_, a0, a1, a2, a3, _⟩ := (S.out.bring 5 rfl).b4
  have HP := Lib.hid (note_good q 0 none [] ⟨0, 1, 0, false⟩ _ _ S.out rec01 (by simp))
  simp only [Wa.val, List.nil_append] at HP
  go_wp2_with fail
  refine HP.out.mono ?_
  clear a0 a1 a2 a3 HP S
  rintro e w13 ⟨sa2, sc2, rfl, S⟩
  replace S := Lib.hid S
  have HP := Lib.hid (clear_any q sc2 sa2 [⟨0, 1, 0, false⟩] _ _ S.out (by simp))
  simp only [List.length_cons, List.length_nil] at HP
  go_wp2_with fail
  refine HP.out.mono ?_
  clear HP S
  rintro e w14 ⟨rfl, S⟩
  replace S := Lib.hid S
  go_wp2_with fail
  refine (back_nil _ _).mono ?_
  rintro e w15 ⟨rfl, b⟩
  obtain ⟨_, n0, n1, _⟩ := ((S.out.below b).bring 6 rfl).b2
  replace S := Lib.hid ((S.out.below b).alloc #[.int .i64 0, .int .i64 1, .int .i64 0, .bool false] 31)
  have S0 := Lib.hid S.out.tail
  clear b
  have HS := Lib.hid (same_was (.slice la 1 lc) (.slice (some ⟨w15.heap.size, 0, none⟩) 1 1) [⟨0, 1, 0, false⟩] [⟨0, 1, 0, false⟩] _ (by simp) (S.out.bring 5 rfl).vec_rl (rl_blk (x := ⟨0, 1, 0, false⟩) S.out))
  rw [decide_eq_true rfl] at HS
  go_wp2_with fail
  refine HS.out.mono ?_
  clear HS n0 n1
  rintro e w16 ⟨rfl, b⟩
  replace S := Lib.hid (S0.out.below b)
  clear b S0
  have HP := Lib.hid (len_any q 0 none [] _ _ S.out (by simp))
  simp only [List.length_nil] at HP
  go_wp2_with fail
  refine HP.out.mono ?_
  clear HP S
  rintro e w17 ⟨rfl, S⟩
  replace S := Lib.hid S
  obtain ⟨_, a0, a1, a2, a3, _⟩ := (S.out.bring 5 rfl).b4
  have HP := Lib.hid (note_nil ⟨0, 1, 0, false⟩ w17)
  simp only [Wa.val] at HP
  go_wp2_with fail
  refine HP.out.mono ?_
  clear HP a0 a1 a2 a3
  rintro e w18 ⟨rfl, b⟩
  replace S := Lib.hid (S.out.below b)
  clear b
  go_wp2_with fail
  refine (len_nil _).mono ?_
  rintro e w19 ⟨rfl, rfl⟩
  go_wp2_with fail
  refine (clear_nil _).mono ?_
  rintro e w20 ⟨rfl, rfl⟩
  go_wp2_with fail
  refine (list_nil _).mono ?_
  rintro e w21 ⟨rfl, rfl⟩
  go_wp2_with fail
  go_ret
  have hb := (S.out.bring 7 rfl).gold
  exact ⟨rfl, b0.out.trans (hb.mono b0.out.size)⟩
end Go.Proofs.Ytidbidalalajbaa
