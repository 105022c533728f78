/-
  The walk of PoolNames. No condition.
-/
import Derived.Test.YtbfkkghbkpbhlaaPlNil
import Derived.Test.YtbfkkghbkpbhlaaPlLives
import Derived.Test.YtbfkkghbkpbhlaaPlLentB
import Derived.Test.YtbfkkghbkpbhlaaSame
namespace Go.Proofs.Ytbfkkghbkpbhlaa
open Go.RowKit
theorem ri_at {w : World} {g : Nat} {x : Int} {t : TypeId} {rs : List Res} (h : Sep w (blk g t #[.int .i64 x] :: rs)) : RI w (.slice (some ⟨g, 0, none⟩) 1 1) [x] :=
  ⟨_, 1, rfl, fun _ => ⟨g, 0, rfl, h.b1.1, fun j hj => by
    obtain rfl : j = 0 := by simpa using hj
    exact h.b1.2.1⟩⟩
theorem has_v (p : Nat) (lent : List Bool) (id : Int) (b : Bool) (w : World) (rs : List Res) (hS : Sep w (poolR p lent :: rs)) (h : (decide (0 ≤ id) && (decide (id < lent.length) && lent.getD id.toNat false)) = b) : Calls Try.prog 15 #[.pointer (some ⟨p, 0, none⟩), .int .i64 id] w fun e w' => e = .returned (.bool b) ∧ w' = w := by
  subst h
  exact has_any p lent id w rs hS
set_option maxHeartbeats 4000000 in
set_option maxRecDepth 100000 in
theorem names_walk (w : World) : Calls Try.prog 4 #[] w fun e w' => e = .returned (.bool true) ∧ Below w.heap.size w w' := by
  go_enter Try.func4, Try.ntmps4
  go_wp2_with fail
  refine (lives_any _).mono ?_
  rintro e w1 ⟨rfl, q⟩
  have hS := Lib.hid ((Sep.start w).below q)
  clear q
  have N1 := Lib.hid (fun W => new_bad (-1) (by omega) W)
  have N2 := Lib.hid (fun W => new_bad 129 (by omega) W)
  have N3 := Lib.hid (fun W => new_any 0 (by omega) W)
  have N4 := Lib.hid (fun W => new_any 2 (by omega) W)
  go_wp2_with fail
  refine (N1.out _).mono ?_
  rintro e w2 ⟨rfl, rfl⟩
  go_wp2_with fail
  refine (N2.out _).mono ?_
  rintro e w3 ⟨rfl, rfl⟩
  go_wp2_with fail
  refine (N3.out _).mono ?_
  rintro e w4 ⟨p0, rfl, q⟩
  replace hS := Lib.hid (show Sep _ (poolR p0 [] :: _) from q.graft hS.out)
  clear q N1 N2 N3
  have H := Lib.hid (take_full p0 [] _ _ hS.out rfl)
  go_wp2_with fail
  refine H.out.mono ?_
  rintro e w5 ⟨rfl, rfl⟩
  clear H
  go_wp2_with fail
  refine (N4.out _).mono ?_
  rintro e w6 ⟨p, rfl, q⟩
  replace hS := Lib.hid (show Sep _ (poolR p [false, false] :: _) from q.graft hS.out)
  clear q N4
  have H := Lib.hid (take_at p [false, false] 0 _ _ hS.out (by decide) (by decide) (by decide))
  clear hS
  go_wp2_with fail
  refine H.out.mono ?_
  rintro e wk ⟨rfl, q⟩
  have hS := Lib.hid (show Sep _ (poolR p [true, false] :: _) from q)
  clear H q
  have H := Lib.hid (take_at p [true, false] 1 _ _ hS.out (by decide) (by decide) (by decide))
  clear hS
  go_wp2_with fail
  refine H.out.mono ?_
  rintro e wk ⟨rfl, q⟩
  have hS := Lib.hid (show Sep _ (poolR p [true, true] :: _) from q)
  clear H q
  have H := Lib.hid (take_full p [true, true] _ _ hS.out rfl)
  go_wp2_with fail
  refine H.out.mono ?_
  rintro e wk ⟨rfl, rfl⟩
  clear H
  have H := Lib.hid (give_yes p [true, true] 1 _ _ hS.out (by decide) (by decide) (by decide))
  clear hS
  go_wp2_with fail
  refine H.out.mono ?_
  rintro e wk ⟨rfl, q⟩
  have hS := Lib.hid (show Sep _ (poolR p [true, false] :: _) from q)
  clear H q
  have H := Lib.hid (give_no p [true, false] 1 _ _ hS.out (by decide))
  go_wp2_with fail
  refine H.out.mono ?_
  rintro e wk ⟨rfl, rfl⟩
  clear H
  have H := Lib.hid (lent_any p [true, false] _ _ hS.out (by decide))
  rw [show lentU [true, false] [true, false].length = [0] from rfl] at H
  go_wp2_with fail
  refine H.out.mono ?_
  rintro e wl ⟨v, rfl, hI, q⟩
  obtain ⟨va, vc, rfl, _⟩ := id hI
  replace hS := Lib.hid (hS.out.below q)
  replace hI := Lib.hid hI
  clear H q
  go_wp2_with fail
  refine (take_nil _).mono ?_
  rintro e wk ⟨rfl, rfl⟩
  have H := Lib.hid (give_no p [true, false] (-1) _ _ hS.out (by decide))
  go_wp2_with fail
  refine H.out.mono ?_
  rintro e wk ⟨rfl, rfl⟩
  clear H
  have H := Lib.hid (has_v p [true, false] 0 true _ _ hS.out (by decide))
  go_wp2_with fail
  refine H.out.mono ?_
  rintro e wk ⟨rfl, rfl⟩
  clear H
  have H := Lib.hid (has_v p [true, false] 1 false _ _ hS.out (by decide))
  go_wp2_with fail
  refine H.out.mono ?_
  rintro e wk ⟨rfl, rfl⟩
  clear H
  have H := Lib.hid (has_v p [true, false] 2 false _ _ hS.out (by decide))
  go_wp2_with fail
  refine H.out.mono ?_
  rintro e wk ⟨rfl, rfl⟩
  clear H
  have H := Lib.hid (live_any p [true, false] _ _ hS.out (by decide))
  rw [show [true, false].count true = 1 from rfl] at H
  go_wp2_with fail
  refine H.out.mono ?_
  rintro e wk ⟨rfl, mm, rfl⟩
  replace hS := Lib.hid (hS.out.drewN mm)
  replace hI := Lib.hid (hI.out.below ((Sep.start _).drewN mm).gold)
  clear H
  have H := Lib.hid (most_any p [true, false] _ _ hS.out)
  go_wp2_with fail
  refine H.out.mono ?_
  rintro e wk ⟨rfl, rfl⟩
  clear H
  have hS2 := Lib.hid (hS.out.alloc #[.int .i64 0] 3)
  have hI2 := Lib.hid (hI.out.below ((Sep.start _).allocG (.cells #[.int .i64 0] 3)).gold)
  have H := Lib.hid (same_true _ _ [0] _ (by simp) hI2.out (ri_at hS2.out))
  clear hS hI hI2
  go_wp2_with fail
  refine H.out.mono ?_
  rintro e wk ⟨rfl, mk, rfl⟩
  have hS := Lib.hid (hS2.out.drewN mk)
  clear H hS2
  go_wp2_with fail
  refine (give_nil 0 _).mono ?_
  rintro e wk ⟨rfl, rfl⟩
  go_wp2_with fail
  refine (has_nil 0 _).mono ?_
  rintro e wk ⟨rfl, rfl⟩
  go_wp2_with fail
  refine (live_nil _).mono ?_
  rintro e wk ⟨rfl, rfl⟩
  go_wp2_with fail
  refine (most_nil _).mono ?_
  rintro e wk ⟨rfl, rfl⟩
  go_wp2_with fail
  go_ret
  exact ⟨rfl, hS.out.tail.tail.tail.gold⟩
end Go.Proofs.Ytbfkkghbkpbhlaa
