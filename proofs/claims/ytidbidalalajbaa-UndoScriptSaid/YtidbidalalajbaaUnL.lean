/-
  Undo: the chapter's example, walked. No condition.
-/
import Derived.Test.YtidbidalalajbaaUn
namespace Go.Proofs.Ytidbidalalajbaa
open Go.RowKit
section
variable {w w' : World} {a b c d n : Res} {rs : List Res}
theorem Sep.late (h : Sep w (n :: a :: b :: c :: d :: rs)) : Sep w (a :: b :: c :: d :: n :: rs) := (((h.bring 4 rfl).bring 4 rfl).bring 4 rfl).bring 4 rfl
theorem Sep.flip (h : Sep w (a :: b :: c :: d :: rs)) : Sep w (c :: d :: a :: b :: rs) := (h.bring 3 rfl).bring 3 rfl
theorem Sep.graft2 (h : Sep w' [a, b, old w]) (k : Sep w rs) : Sep w' (a :: b :: rs) := Sep.gstar.1 ((Sep.gstar.2 h).graft k)
end
abbrev EV (v : Int) : Ent := [((0, 1), v)]
theorem put0 (v : Int) : putL ([] : Ent) (0, 1) v = EV v := rfl
theorem put1 (u v : Int) : putL (EV u) (0, 1) v = EV v := rfl
theorem was1 (u : Int) : wasV 0 1 (EV u) = .agg #[.int .i64 0, .int .i64 1, .int .i64 u, .bool true] := rfl
theorem was00 : wasV 0 1 [] = .agg #[.int .i64 0, .int .i64 1, .int .i64 0, .bool false] := rfl
set_option maxHeartbeats 4000000 in
set_option maxRecDepth 100000 in
theorem lives_any (w : World) : Calls Try.prog 7 #[] w fun e w' => e = .returned (.bool true) ∧ Below w.heap.size w w' := by
  go_enter Try.func7, Try.ntmps7
  go_wp2_with fail
  refine (snew_any _).mono ?_
  rintro e w1 ⟨p, m, rfl, s1⟩
  replace s1 := Lib.hid s1
  go_wp2_with fail
  refine (lnew_any _).mono ?_
  rintro e w2 ⟨q, rfl, s2⟩
  have S := Lib.hid (show Sep w2 (sto p m [] (lg q none 0 [] [old w])) from (s2.graft2 s1.out).flip)
  clear s1 s2
  go_wp2_with fail
  refine (kR_any 0 1 _).mono ?_
  rintro e w3 ⟨rfl, b⟩
  replace S := Lib.hid (show Sep _ (sto p m [] (lg q none 0 [] [blk w3.heap.size 28 #[.int .i64 0, .int .i64 1], old w])) from ((S.out.below b).alloc #[.int .i64 0, .int .i64 1] 28).late)
  clear b
  obtain ⟨_, n0, n1, _⟩ := (S.out.bring 4 rfl).b2
  have HP := Lib.hid (put_good p m [] 0 1 5 _ _ S.out rec01)
  rw [put0] at HP
  go_wp2_with fail
  refine HP.out.mono ?_
  clear n0 n1 HP S
  rintro e w4 ⟨rfl, S⟩
  replace S := Lib.hid S
  obtain ⟨_, n0, n1, _⟩ := (S.out.bring 4 rfl).b2
  have HP := Lib.hid (put_good p m (EV 5) 0 1 6 _ _ S.out rec01)
  rw [put1, was1] at HP
  go_wp2_with fail
  refine HP.out.mono ?_
  clear n0 n1 HP S
  rintro e w5 ⟨rfl, S⟩
  replace S := Lib.hid (show Sep _ (lg q none 0 [] (sto p m (EV 6) [blk w5.heap.size 31 #[.int .i64 0, .int .i64 1, .int .i64 5, .bool true], blk w3.heap.size 28 #[.int .i64 0, .int .i64 1], old w])) from (S.alloc #[.int .i64 0, .int .i64 1, .int .i64 5, .bool true] 31).late.flip)
  obtain ⟨_, a0, a1, a2, a3, _⟩ := (S.out.bring 4 rfl).b4
  have HP := Lib.hid (note_good q 0 none [] ⟨0, 1, 5, true⟩ _ _ S.out rec01 (by simp))
  simp only [Wa.val, List.nil_append] at HP
  go_wp2_with fail
  refine HP.out.mono ?_
  clear a0 a1 a2 a3 HP S
  rintro e w6 ⟨sa, sc, rfl, S⟩
  replace S := Lib.hid (show Sep _ (sto p m (EV 6) (lg q sa sc [⟨0, 1, 5, true⟩] [blk w5.heap.size 31 #[.int .i64 0, .int .i64 1, .int .i64 5, .bool true], blk w3.heap.size 28 #[.int .i64 0, .int .i64 1], old w])) from S.flip)
  obtain ⟨_, n0, n1, _⟩ := (S.out.bring 5 rfl).b2
  have HP := Lib.hid (put_good p m (EV 6) 0 1 7 _ _ S.out rec01)
  rw [put1, was1] at HP
  go_wp2_with fail
  refine HP.out.mono ?_
  clear n0 n1 HP S
  rintro e w7 ⟨rfl, S⟩
  replace S := Lib.hid (show Sep _ (lg q sa sc [⟨0, 1, 5, true⟩] (sto p m (EV 7) [blk w7.heap.size 31 #[.int .i64 0, .int .i64 1, .int .i64 6, .bool true], blk w5.heap.size 31 #[.int .i64 0, .int .i64 1, .int .i64 5, .bool true], blk w3.heap.size 28 #[.int .i64 0, .int .i64 1], old w])) from (S.alloc #[.int .i64 0, .int .i64 1, .int .i64 6, .bool true] 31).late.flip)
  obtain ⟨_, a0, a1, a2, a3, _⟩ := (S.out.bring 4 rfl).b4
  have HP := Lib.hid (note_good q sc sa [⟨0, 1, 5, true⟩] ⟨0, 1, 6, true⟩ _ _ S.out rec01 (by simp))
  simp only [Wa.val, List.cons_append, List.nil_append] at HP
  go_wp2_with fail
  refine HP.out.mono ?_
  clear a0 a1 a2 a3 HP S
  rintro e w8 ⟨sa2, sc2, rfl, S⟩
  replace S := Lib.hid (show Sep _ (sto p m (EV 7) (lg q sa2 sc2 [⟨0, 1, 5, true⟩, ⟨0, 1, 6, true⟩] [blk w7.heap.size 31 #[.int .i64 0, .int .i64 1, .int .i64 6, .bool true], blk w5.heap.size 31 #[.int .i64 0, .int .i64 1, .int .i64 5, .bool true], blk w3.heap.size 28 #[.int .i64 0, .int .i64 1], old w])) from S.flip)
  have HB := Lib.hid (back_any p m q sc2 sa2 (EV 7) [⟨0, 1, 5, true⟩, ⟨0, 1, 6, true⟩] _ _ S.out (by simp))
  have hu : ([⟨0, 1, 5, true⟩, ⟨0, 1, 6, true⟩] : List Wa).reverse.foldl undo1 (EV 7) = EV 5 := by decide
  rw [hu] at HB
  simp only [List.length_cons, List.length_nil] at HB
  clear hu
  go_wp2_with fail
  refine HB.out.mono ?_
  clear HB S
  rintro e w9 ⟨rfl, S⟩
  replace S := Lib.hid S
  obtain ⟨_, n0, n1, _⟩ := (S.out.bring 6 rfl).b2
  have HG := Lib.hid (get_any p m (EV 5) 0 1 _ _ S.out)
  rw [show (getL (EV 5) (0, 1)).getD 0 = 5 from rfl, show hasL (EV 5) (0, 1) = true from rfl] at HG
  go_wp2_with fail
  refine HG.out.mono ?_
  clear HG S n0 n1
  rintro e w10 ⟨rfl, S⟩
  replace S := Lib.hid S
  go_wp2_with fail
  go_ret
  exact ⟨rfl, (S.out.bring 7 rfl).gold⟩
end Go.Proofs.Ytidbidalalajbaa
